/- Texts joined: DigV, DigW, RefA, RefB, RefC, RefD, WirA, WshA, WshB. -/
import Derived.Test.YtliklcmddmpdfaaGreatDoorPTC
import Derived.Test.YtliklcmddmpdfaaGreatDoorPTB
import Derived.Test.YtliklcmddmpdfaaGreatDoorPTA
set_option linter.unusedVariables false
set_option linter.unusedSimpArgs false
set_option maxRecDepth 4000
set_option maxHeartbeats 4000000
namespace Go.Proofs.YtliklcmddmpdfaaGreatDoor
open Go.RowKit Go.PW _root_.Go.Proofs.Tryz
def joinH (x:By × Bool) (o:By):By:=sha (1::(if x.2 then x.1++o else o++x.1))
theorem xi {α:Type} (f:By × Bool→α→α) (l:List (By × Bool)) (r:α):(backs l.length l.length).foldl (λo k=>f (l.getD k ([],false)) o) r=l.foldr f r:=by
 rw[im (λo x=>f x o) ([],false) _ _ _ (Ay _),Bz,List.drop_zero,List.foldl_reverse]
theorem mU {p:List By} (h:0<p.length):p=p.take (p.length- 1)++[p.getD (p.length- 1) []]:=by
 conv=>lhs; rw[←List.take_length (l:=p),show p.length=p.length- 1+1 from by omega,cH [] om]
theorem qQ {n i:Nat} {s:By} {p:List By} (h:2≤n) (hp:0<p.length) (hi:i<lft n):valueH sha n i s p=(joinH (p.getD (p.length- 1) [],false) (valueH sha (lft n) i s (p.take (p.length- 1))).1,(valueH sha (lft n) i s (p.take (p.length- 1))).2):=by
 conv=>lhs; rw[mU hp,fp sha h,Am hi]
 rfl
theorem qG {n i:Nat} {s:By} {p:List By} (h:2≤n) (hp:0<p.length) (hi:lft n≤i):valueH sha n i s p=(joinH (p.getD (p.length- 1) [],true) (valueH sha (n- lft n) (i- lft n) s (p.take (p.length- 1))).1,(valueH sha (n- lft n) (i- lft n) s (p.take (p.length- 1))).2):=by
 conv=>lhs; rw[mU hp,fp sha h,Ai om]
 rfl
theorem iF {root:By} {n i:Int} {s:By} {p:List By} (h:¬(0≤i∧i<n∧(p.all λx=>decide (x.length=32))=true)):cO sha root n i s p=false:=by
 cases hv:cO sha root n i s p with
 | false=>rfl
 | true=>
  unfold cO at hv
  simp only[zT,zZ] at hv
  exact absurd ⟨hv.1.1.1.1,hv.1.1.1.2,hv.1.1.2⟩ h
theorem vn {root:By} {n i cn ci:Nat} {s:By} {p cp:List By} {way:List (By × Bool)} (hval:valueH sha n i s p=(way.foldr joinH (valueH sha cn ci s cp).1,(valueH sha cn ci s cp).2)) (hc:cp.length=0) (h2:2≤cn):cO sha root n i s p=false:=by
 obtain rfl:cp=[]:=AC hc
 rw[rB sha h2] at hval
 unfold cO
 rw[AL,AL,hval]
 simp
theorem sX {root:By} {n i cn ci:Nat} {s:By} {p cp:List By} {way:List (By × Bool)} (hval:valueH sha n i s p=(way.foldr joinH (valueH sha cn ci s cp).1,(valueH sha cn ci s cp).2)) (h1:i<n) (hall:(p.all λx=>decide (x.length=32))=true) (h2:cn≤1):cO sha root n i s p=(decide (cp.length=0)&&decide (way.foldr joinH (leafH sha s)=root)):=by
 rw[kP sha h2] at hval
 unfold cO
 rw[AL,AL,hval,hall]
 have:cp.isEmpty=decide (cp.length=0):=by cases cp<;>simp
 simp[this,h1]
theorem all32 {p:List By} (h:(p.all λx=>decide (x.length=32))=true):∀x∈p,x.length=32:=by
 intro x hx; simpa using Aj.1 h x hx
theorem wO (lv:Value) (xs:List By) (w0:World) (hlv:SlAt w0 lv 1 (xs.map λs=>[sv s])) (h0:xs.length=0):
  Ret Tryz.prog 159 #[lv] w0 λv w=>v=.tuple #[sv [],.slice none 0 0,.bool false]∧Ext No w0 w:=by
 refine BG func159 O ntmps159 (lb O) λa Y U=>?_
 refine aa λ_ G1=>nv Y<|zO O<|zO O<|zO O<|λa Y=>G1<|ah λ_ G2=>?_
 refine aa λ_ G3=>nv Y<|zN O<|zM ((aK (sT:=44) (U.arg hlv) O O (runUnderlying44 _)).asi (m':=(xs.length:Int)) sm)<|zM (v_eq O O)<|λa Y=>G3<|az Y O (λhc1=>?_) (λhc1=>?_)
 ·refine aa λ_ G4=>nv Y<|zO O<|zO O<|zO O<|λa Y=>G4<|aq ?_
  refine am Y results159 (ae O (ae O (ae O ag))) ?_
  exact⟨by rfl,U.ext⟩
 omega
theorem mX (root s:By) (n i:Int) (lv:Value) (ls:List By) (w0:World) (hlv:SlAt w0 lv 1 (ls.map λs=>[sv s])) (hln:ls.length≤1000) (hs:s.length≤40000000) (hn:n≤9223372036854775807) (hk0:(blk 0 (kOf.map wv) 258).ok w0):
  Ret Tryz.prog 114 #[sv root,jv n,jv i,sv s,lv] w0 λv w=>v=.bool (cO sha root n i s ls)∧Ext No w0 w:=by
 refine aC func114 O ntmps114 (lb O) λa Y=>?_
 replace U:St (·=0) w0 [blk 0 (kOf.map wv) 258] w0:=St.one hk0
 refine aa λ_ G1=>wla (Y.p5 0 1 2 3 4 O) O λa Y=>G1<|ah λ_ G2=>?_
 refine aa λ_ G3=>nv Y<|zN O<|zM (v_lt O O)<|zN O<|λa Y=>?_
 rcases Decidable.em (i<0) with hb1|hb1
 ·rw[zU hb1] at Y
  refine nv Y<|zQ<|zQ<|zQ<|zM (ay O O)<|zN O<|zQ<|zQ<|zQ<|zM (ay O O)<|λa Y=>G3 ?_
  replace Y:=Y.p7 0 1 2 3 4 10 30 O
  refine aM Y O ?_
  refine aa λ_ G4=>wla Y O λa Y=>G4<|aq ?_
  refine am Y results114 (ae O ag) ?_
  exact⟨by simp only[retv]; rw[iF C1],U.ext.const hk0 (U.g 0 O)⟩
 rw[zW hb1] at Y
 refine nv Y<|zP (au O)<|zP (au O)<|zP (v_ge O O)<|zM (al O O)<|zN O<|λa Y=>?_
 rcases Decidable.em (n≤i) with hb2|hb2
 ·rw[zU hb2] at Y
  refine nv Y<|zQ<|zQ<|zQ<|zM (ay O O)<|λa Y=>G3 ?_
  replace Y:=Y.p7 0 1 2 3 4 10 30 O
  refine aM Y O ?_
  refine aa λ_ G5=>wla Y O λa Y=>G5<|aq ?_
  refine am Y results114 (ae O ag) ?_
  exact⟨by simp only[retv]; rw[iF C1],U.ext.const hk0 (U.g 0 O)⟩
 rw[zW hb2] at Y
 refine wly Y (au O) λa Y=>aF Y U call158 O (zi lv ls _ (hlv.grow (U.ext.const hk0 (U.g 0 O)))) λa w1 Y U=>nv Y<|zP (bB O)<|zM (al O O)<|λa Y=>G3 ?_
 replace Y:=Y.p7 0 1 2 3 4 10 30 O
 refine bF Y O (λhc3=>?_) (λhc3=>?_)
 ·try simp only[qz] at hc3
  have hall:=hc3
  refine aa λ_ G6=>wla Y O λa Y=>G6<|aq ?_
  refine am Y results114 (ae O ag) ?_
  exact⟨by simp only[retv]; rw[iF C1],U.ext.const hk0 (U.g 0 O)⟩
 try simp only[qz] at hc3
 have hall:=hc3
 refine ar<|G2<|aa λ_ G7=>wla Y O λa Y=>G7<|ah λ_ G8=>?_
 refine aw ?_
 obtain⟨nn,rfl⟩:=Int.eq_ofNat_of_zero_le (show 0≤n by omega)
 obtain⟨ii,rfl⟩:=Int.eq_ofNat_of_zero_le (show 0≤i by omega)
 have hl32:=all32 hall
 replace U:St (·=0) w0 [own (.slice none 0 0) 220 2 (([]:List (By × Bool)).map λx:By × Bool=>[sv x.1,.bool x.2]),blk 0 (kOf.map wv) 258] w1:=U.nil_own
 refine aZ (λm a w=>∃(cn:Nat) (ci:Nat) (pz:Value) (cp:List By) (way:List (By × Bool)) (u:Value),m=cp.length∧(SlAt w0 pz 1 (cp.map λs=>[sv s]))∧(ci<cn)∧(cn≤9223372036854775807)∧(way.length+cp.length≤1000)∧(∀x∈cp,x.length=32)∧(∀x∈way,x.1.length=32)∧(valueH sha nn ii s ls=(way.foldr joinH (valueH sha cn ci s cp).1,(valueH sha cn ci s cp).2))∧Fr 79 [(0,sv root),(3,sv s),(1,jv (cn:Int)),(2,jv (ci:Int)),(4,pz),(11,u)] [] a∧St (·=0) w0 [own u 220 2 (way.map λx:By × Bool=>[sv x.1,.bool x.2]),blk 0 (kOf.map wv) 258] w) _ ⟨nn,ii,lv,ls,[],.slice none 0 0,O,hlv,om,om,Cm,hl32,sm,O,Y.pick [0,3,1,2,4,11],U.select [0,1] de⟩ ?_
 rintro _ a w2 ⟨cn,ci,pz,cp,way,u,rfl,hpv,hc1,hc2,hc3,hcp,hway,hval,Y,U⟩
 refine ah λ_ G9=>aa λ_ G10=>nv Y<|zN O<|zM (v_gt O O)<|λa Y=>G10<|az Y O (λhc4=>?_) (λhc4=>?_)
 ·refine ar<|G9<|aw<|aa λ_ G11=>wlm Y O λa Y=>?_
  rcases Decidable.em (cp.length=0) with hb5|hb5
  ·refine ax Y U call159 O (wO pz cp _ (hpv.grow (U.ext.const hk0 (U.g 1 O))) om) λa w3 Y U=>nv Y<|zN O<|zM (ak O O)<|zM (ak O O)<|zM (ak O O)<|zO O<|zO O<|zO O<|λa Y=>G11 ?_
   refine ah λ_ G12=>aa λ_ G13=>nv (Y.p9 0 3 1 2 4 11 12 13 14 O)<|zN O<|zM ((bB O).asb (b':=true) O)<|λa Y=>G13<|aM Y O ?_
   refine aa λ_ G14=>wla Y O λa Y=>G14<|aq ?_
   refine am Y results114 (ae O ag) ?_
   exact⟨by simp only[retv]; rw[vn hval om om],U.ext.const hk0 (U.g 1 O)⟩
  have hlt:=eW (n:=cn) om
  have hlp:=ea cn
  have hx32:(cp.getD (cp.length- 1) []).length=32:=hcp _ (bC om)
  refine ax Y U call159 O (yj pz cp _ (hpv.grow (U.ext.const hk0 (U.g 1 O))) om) λa w4 Y U=>nv Y<|zN O<|zM (ak O O)<|zM (ak O O)<|zM (ak O O)<|zO O<|zO O<|zO O<|λa Y=>G11 ?_
  refine ah λ_ G15=>aa λ_ G16=>nv (Y.p9 0 3 1 2 4 11 12 13 14 O)<|zN O<|zM ((bB O).asb (b':=false) O)<|λa Y=>G16<|aG Y O ?_
  refine ar<|G15<|aa λ_ G17=>nv Y<|zN O<|zO O<|λa Y=>G17<|aa λ_ G18=>?_
  refine wlm Y O λa Y=>ax Y U call126 O (sU cn _ om om) λa w5 Y U=>wla Y O λa Y=>G18 ?_
  refine aa λ_ G19=>nv (Y.p8 0 3 1 2 11 12 4 15 O)<|zN O<|zN O<|zN O<|zN O<|zM (v_ge O O)<|zM (aV (v:=.agg #[sv (cp.getD (cp.length- 1) []),.bool (decide ((lft cn:Int)≤(ci:Int)))]) O kr)<|λa Y=>aD (E:=220) (sz:=2) O [[sv (cp.getD (cp.length- 1) []),.bool (decide ((lft cn:Int)≤(ci:Int)))]] kr sm O de de Y U λa w6 Y U=>?_
  refine aY (i:=1) (sT:=216) (inf:=Tryz.t220) (z:=.agg #[.string (⟨#[]⟩),.bool false]) (b:=0) (off:=0) (m:=0) (c:=0) O O O (U.ow 0 O) sm underlying216 O O O O de BS Dk Dk de Y U λa w7 s6 Y U _=>wla Y O λa Y=>G19 ?_
  replace Y:=Y.p7 0 3 1 2 4 15 11 O
  replace U:=U.k2 6 O
  refine aa λ_ G20=>nv Y<|zN O<|zN O<|zM (v_ge O O)<|λa Y=>G20<|az Y O (λhc7=>?_) (λhc7=>?_)
  ·refine aj<|nv Y<|zN O<|zN O<|zM ((bJ O O ⟨om,om⟩).asi (m':=((cn- lft cn:Nat):Int)) om)<|zN O<|zN O<|zM ((bJ O O ⟨om,om⟩).asi (m':=((ci- lft cn:Nat):Int)) om)<|zO O<|zO O<|λa Y=>ab ?_
   rw[show (way.map λx:By × Bool=>[sv x.1,.bool x.2])++([[sv (cp.getD (cp.length- 1) []),.bool (decide ((lft cn:Int)≤(ci:Int)))]])=((way++[(cp.getD (cp.length- 1) [],true)]).map λx:By × Bool=>[sv x.1,.bool x.2]) from by rw[zU om]; simp] at U
   have hm1:(cp.take (cp.length- 1)).length<cp.length:=by rw[zV]; omega
   refine⟨_,?_,(cn- lft cn),(ci- lft cn),(cut pz 1 0 (cp.length- 1) (slCap pz)),(cp.take (cp.length- 1)),(way++[(cp.getD (cp.length- 1) [],true)]),s6,O,hpv.cut0 (h:=cp.length- 1) om,om,om,(by rw[zS,zV,List.length_singleton]; omega),(λx h=>hcp x (AF h)),Dq,(by rw[hval,qG om om om]; simp),Y.pick [0,3,1,2,4,11],U.select [0,1] de⟩
   omega
  refine aj<|nv Y<|zN O<|zO O<|λa Y=>ab ?_
  rw[show (way.map λx:By × Bool=>[sv x.1,.bool x.2])++([[sv (cp.getD (cp.length- 1) []),.bool (decide ((lft cn:Int)≤(ci:Int)))]])=((way++[(cp.getD (cp.length- 1) [],false)]).map λx:By × Bool=>[sv x.1,.bool x.2]) from by rw[zW om]; simp] at U
  have hm1:(cp.take (cp.length- 1)).length<cp.length:=by rw[zV]; omega
  refine⟨_,?_,(lft cn),ci,(cut pz 1 0 (cp.length- 1) (slCap pz)),(cp.take (cp.length- 1)),(way++[(cp.getD (cp.length- 1) [],false)]),s6,O,hpv.cut0 (h:=cp.length- 1) om,om,om,(by rw[zS,zV,List.length_singleton]; omega),(λx h=>hcp x (AF h)),Dq,(by rw[hval,qQ om om om]; simp),Y.pick [0,3,1,2,4,11],U.select [0,1] de⟩
  omega
 refine aP<|G8<|aa λ_ G21=>wlm Y O λa Y=>ax Y U call139 O (ky s _ om (U.g 1 O)) λa w8 Y U=>aE Y U (zeroValue9 _) [.string (⟨#[]⟩)] O λa w9 Y U=>aB 0 Y U [sv (leafH sha s)] O (sizeOf9 _) λa w10 Y U=>G21 ?_
 refine ah λ_ G22=>aa λ_ G23=>wlm (Y.p4 0 4 11 16 O) O λa Y=>bf Y U call160 O (vM u _ _ (U.ow 1 O)) λa w11 x8 hp Y U=>?_
 revert x8 hp Y U; rintro z1 hp Y U
 clear hp
 replace U:=U.n4 O
 refine G23<|aw ?_
 have hy32:∀k,k<way.length→(way.getD k ([],false)).1.length=32:=λk hk=>hway _ (bC hk)
 replace U:=U.n4 O
 replace U:=U.s4 [3,1,0,2] de rfl
 replace Y:=Y.p6 0 4 11 16 64 65 O
 refine dS (M:=(·=0)) (w0:=w0) (encs:=(encD way)) (Hi:=[blk z1 [u] 216,own u 220 2 (way.map λx:By × Bool=>[sv x.1,.bool x.2])]) (Hc:=[blk 0 (kOf.map wv) 258,blk w8.hz [sv (([]:List Nat).foldl (λo k=>joinH (way.getD k ([],false)) o) (leafH sha s))] 9]) (λpre H=>((pre.foldl (λo k=>joinH (way.getD k ([],false)) o) (leafH sha s)).length=32)∧H=[blk 0 (kOf.map wv) 258,blk w8.hz [sv (pre.foldl (λo k=>joinH (way.getD k ([],false)) o) (leafH sha s))] 9]) (λ_ _ _=>False) (λpre xs H a=>∃(bA0:Nat),Fr 79 [(0,sv root),(4,pz),(11,u),(16,pq w8.hz),(64,u),(65,.func (.func 189) #[] #[pq z1]),(18,pq bA0)] [] a∧((pre.foldl (λo k=>joinH (way.getD k ([],false)) o) (leafH sha s)).length=32)∧H=[blk bA0 [sv ((way.getD xs ([],false)).1),.bool ((way.getD xs ([],false)).2)] 220,blk 0 (kOf.map wv) 258,blk w8.hz [sv (pre.foldl (λo k=>joinH (way.getD k ([],false)) o) (leafH sha s))] 9]) O call189 Y U (r8 u way z1 om) de (λ_=>O) ⟨gE dw s,O⟩ ?_ ?_ ?_ ?_
 ·clear Y U
  rintro lp pre xs _ a w12 hnx ⟨hf32,rfl⟩ Y U
  generalize (join [blk 0 (kOf.map wv) 258,blk w8.hz [sv (pre.foldl (λo k=>joinH (way.getD k ([],false)) o) (leafH sha s))] 9]).foot=M1 at U⊢
  refine aj<|aE (Y.p8 67 66 0 4 11 16 64 65 O) U (zeroValue220 _) [.string (⟨#[]⟩),.bool false] O λa w13 Y U=>aB 0 Y U [sv ((way.getD xs ([],false)).1),.bool ((way.getD xs ([],false)).2)] O (sizeOf220 _) λa w14 Y U=>ab ?_
  exact⟨_,⟨w12.hz,Y.pick [0,4,11,16,64,65,18],hf32,O⟩,U⟩
 ·rintro lp pre xs _ a w15 hnx ⟨bA0,Y,hf32,rfl⟩ hout hrec hnl U
  clear hrec hnl
  generalize (join [blk bA0 [sv ((way.getD xs ([],false)).1),.bool ((way.getD xs ([],false)).2)] 220,blk 0 (kOf.map wv) 258,blk w8.hz [sv (pre.foldl (λo k=>joinH (way.getD k ([],false)) o) (leafH sha s))] 9]).foot=M1 at U hout⊢
  refine aw<|aj<|nv Y<|zM (ap (U.g 0 O) O (isAgg220 _) (sizeOf220 _))<|zM (ld U 2 O O (isAgg9 _) O)<|λa Y=>ax Y U call161 O (vd ((way.getD xs ([],false)).1) ((way.getD xs ([],false)).2) (pre.foldl (λo k=>joinH (way.getD k ([],false)) o) (leafH sha s)) _ (by have:=hy32 xs (by have h:=hnx; unfold NxB at h; omega); omega) C6 (U.g 1 O)) λa w16 Y U=>?_
  refine aB 2 Y U [sv (joinH ((way.getD xs ([],false)).1,(way.getD xs ([],false)).2) (pre.foldl (λo k=>joinH (way.getD k ([],false)) o) (leafH sha s)))] O (sizeOf9 _) λa w17 Y U=>ab ?_
  rw[show joinH ((way.getD xs ([],false)).1,(way.getD xs ([],false)).2) (pre.foldl (λo k=>joinH (way.getD k ([],false)) o) (leafH sha s))=(pre++[xs]).foldl (λo k=>joinH (way.getD k ([],false)) o) (leafH sha s) from by rw[List.foldl_append]; rfl] at U
  exact⟨_,⟨(by rw[List.foldl_append]; exact dw _),O⟩,U.select [1,2] de⟩
 ·rintro D pre _ _ a w18 ⟨rfl,rfl⟩ ⟨hf32,rfl⟩ U Y
  replace Y:=Y.p6 0 4 11 16 64 65 O
  replace U:=U.n5 O
  refine G22<|aa λ_ G24=>nv Y<|zN O<|zM ((aK (sT:=44) (hpv.grow (U.ext.const hk0 (U.g 1 O))) O O (runUnderlying44 _)).asi (m':=(cp.length:Int)) sm)<|zM (v_eq O O)<|zN O<|λa Y=>?_
  rcases Decidable.em ((cp.length:Int)=0) with hb9|hb9
  ·rw[zU hb9] at Y
   refine nv Y<|zP (ld U 2 O O (isAgg9 _) O)<|zP (au O)<|zP (zd O O)<|zM (ay O O)<|zO O<|λa Y=>G24 ?_
   replace Y:=Y.p1 10 O
   replace U:=U.k3 19 O
   refine aq ?_
   have hD:=U.g 0 rfl
   replace U:=U.unmark (i:=0) (o':=.deferred none) O
   replace U:=U.n2 O
   refine cF Y hD results114 (ae O ag) ?_
   exact⟨by simp only[retv]; rw[xi,sX hval om hall om,zU (show cp.length=0 by omega),A8],U.ext.const hk0 (U.g 0 O)⟩
  rw[zW hb9] at Y
  refine nv Y<|zQ<|zQ<|zQ<|zM (al O O)<|zO O<|λa Y=>G24 ?_
  replace Y:=Y.p1 10 O
  replace U:=U.k3 19 O
  refine aq ?_
  have hD:=U.g 0 rfl
  replace U:=U.unmark (i:=0) (o':=.deferred none) O
  replace U:=U.n2 O
  refine cF Y hD results114 (ae O ag) ?_
  exact⟨by simp only[retv]; rw[sX hval om hall om,zW (show ¬cp.length=0 by omega),Br],U.ext.const hk0 (U.g 0 O)⟩
 ·rintro D c pre _ _ a w19 _ h
  exact h.elim
def fstH (x:By × Bool) (o:By):By:=if x.2 then joinH x o else o
section
variable {old root:By} {p:List By} (hall:(p.all λx=>decide (x.length=32))=true) (ho:old.length=32) (hr:root.length=32)
include hall ho hr
variable {m n cm cn:Nat} {cp:List By} {wh:Bool} {way:List (By × Bool)} (hm:1≤m) (hmn:m<n) (hval:bothH sha old m n p true=(way.foldr fstH (bothH sha old cm cn cp wh).1,way.foldr joinH (bothH sha old cm cn cp wh).2.1,(bothH sha old cm cn cp wh).2.2))
include hm hmn hval
end
end Go.Proofs.YtliklcmddmpdfaaGreatDoor
namespace Go.Proofs.YtliklcmddmpdfaaGreatDoor
open Go.RowKit Go.PW _root_.Go.Proofs.Tryz
theorem oQ (w0:World):
  Ret Tryz.prog 181 #[] w0 (MemR w0 (λv:Value=>v) (λv=>[own v 206 1 ((kOf).map λx=>[wv x])]) (λ_=>True)):=by
 refine aC func181 O ntmps181 (lb O) λa Y=>?_
 replace Y:Fr 2 [] [] a:=Y
 replace U:St No w0 [] w0:=St.init w0
 refine aa λ_ G1=>wla Y O λa Y=>G1<|aa λ_ G2=>?_
 refine aD (E:=206) (sz:=1) O [[wv (1116352408#32)],[wv (1899447441#32)],[wv (3049323471#32)],[wv (3921009573#32)],[wv (961987163#32)],[wv (1508970993#32)],[wv (2453635748#32)],[wv (2870763221#32)],[wv (3624381080#32)],[wv (310598401#32)],[wv (607225278#32)],[wv (1426881987#32)],[wv (1925078388#32)],[wv (2162078206#32)],[wv (2614888103#32)],[wv (3248222580#32)],[wv (3835390401#32)],[wv (4022224774#32)],[wv (264347078#32)],[wv (604807628#32)],[wv (770255983#32)],[wv (1249150122#32)],[wv (1555081692#32)],[wv (1996064986#32)],[wv (2554220882#32)],[wv (2821834349#32)],[wv (2952996808#32)],[wv (3210313671#32)],[wv (3336571891#32)],[wv (3584528711#32)],[wv (113926993#32)],[wv (338241895#32)],[wv (666307205#32)],[wv (773529912#32)],[wv (1294757372#32)],[wv (1396182291#32)],[wv (1695183700#32)],[wv (1986661051#32)],[wv (2177026350#32)],[wv (2456956037#32)],[wv (2730485921#32)],[wv (2820302411#32)],[wv (3259730800#32)],[wv (3345764771#32)],[wv (3516065817#32)],[wv (3600352804#32)],[wv (4094571909#32)],[wv (275423344#32)],[wv (430227734#32)],[wv (506948616#32)],[wv (659060556#32)],[wv (883997877#32)],[wv (958139571#32)],[wv (1322822218#32)],[wv (1537002063#32)],[wv (1747873779#32)],[wv (1955562222#32)],[wv (2024104815#32)],[wv (2227730452#32)],[wv (2361852424#32)],[wv (2428436474#32)],[wv (2756734187#32)],[wv (3204031479#32)],[wv (3329325298#32)]] kr sm O de de Y U λa w1 Y U=>?_
 refine wla Y O λa Y=>G2<|aq ?_
 refine am Y results181 (ae O ag) ?_
 exact⟨(.slice (some ⟨w0.hz,0,none⟩) 64 64),O,trivial,U.ext,St.out (E:=[own (.slice (some ⟨w0.hz,0,none⟩) 64 64) 206 1 ((kOf).map λx=>[wv x])]) (H:=[]) U⟩
theorem gT {α:Type} {l:List α} {i k:Nat} (d:α) (h:i<k):(l.take k).getD i d=l.getD i d:=by
 rw[z6,List.getElem?_take_of_lt h,←z6]
theorem qx (s:By) (w0:World) (hs:s.length≤100000000):
  Ret Tryz.prog 143 #[sv s] w0 (MemR w0 (λv:Value=>v) (λv=>[own v 5 1 ((padded s).map λb=>[yv b])]) (λ_=>True)):=by
 refine BG func143 O ntmps143 (lb O) λa Y U=>?_
 refine aa λ_ G1=>wla Y O λa Y=>G1<|aa λ_ G2=>?_
 refine wla Y O λa Y=>G2<|ah λ_ G3=>?_
 refine aa λ_ G4=>wla Y O λa Y=>G4<|aw ?_
 replace U:St No w0 [own (.slice none 0 0) 5 1 ((s.take 0).map λb=>[yv b])] w0:=U.nil_own
 refine aZ (λm a w=>∃(k:Nat) (v:Value),m=s.length- k∧(k≤s.length)∧Fr 43 [(0,sv s),(2,.slice none 0 0),(3,v),(4,jv (k:Int))] [] a∧St No w0 [own v 5 1 ((s.take k).map λb=>[yv b])] w) _ ⟨0,.slice none 0 0,O,Ah _,Y.pick [0,2,3,4],U.select [0] de⟩ ?_
 rintro _ a w1 ⟨k,v,rfl,hk,Y,U⟩
 refine ah λ_ G5=>aa λ_ G6=>nv Y<|zN O<|zN O<|zM (bp O O (runUnderlying9 _))<|zM (v_lt O O)<|λa Y=>G6<|az Y O (λhc1=>?_) (λhc1=>?_)
 ·refine ar<|G5<|ah λ_ G7=>aw<|aj<|nv Y<|zN O<|zN O<|zN O<|zM (gn (k:=k) O O (runUnderlying9 _) om om)<|λa Y=>aD (E:=5) (sz:=1) O [[yv (s.getD k 0)]] kr sm O de de Y U λa w2 Y U=>aY (i:=1) (sT:=60) (inf:=Tryz.t5) (z:=yv (0:UInt8)) (b:=0) (off:=0) (m:=0) (c:=0) O O O (U.ow 0 O) sm underlying60 O O O O de BS BR BR de Y U λa w3 s2 Y U _=>wla Y O λa Y=>ab<|G7 ?_
  replace U:=U.k1 2 O
  refine aj<|nv (Y.p4 0 2 4 3 O)<|zN O<|zM (aL O O ⟨om,om⟩)<|zO O<|λa Y=>ab ?_
  rw[show ((s.take k).map λb=>[yv b])++([[yv (s.getD k 0)]])=((s.take (k+1)).map λb=>[yv b]) from by rw[cH 0 om]; simp] at U
  refine⟨_,?_,k+1,s2,O,om,Y.pick [0,2,3,4],U.select [0] de⟩
  omega
 obtain rfl:k=s.length:=by omega
 rw[List.take_length] at U
 refine aP<|G3<|aa λ_ G8=>wlm Y O λa Y=>aD (E:=5) (sz:=1) O [[yv (128:UInt8)]] kr sm O de de Y U λa w4 Y U=>aY (i:=1) (sT:=60) (inf:=Tryz.t5) (z:=yv (0:UInt8)) (b:=0) (off:=0) (m:=0) (c:=0) O O O (U.ow 0 O) sm underlying60 O O O O de BS BR BR de Y U λa w5 s3 Y U _=>wla Y O λa Y=>G8 ?_
 replace Y:=Y.p3 0 2 3 O
 replace U:=U.k1 2 O
 refine ah λ_ G9=>aw ?_
 rw[show ((s).map λb=>[yv b])++([[yv (128:UInt8)]])=((sum1 s 0).map λb=>[yv b]) from by simp[sum1]] at U
 refine aZ (λm a w=>∃(z:Nat) (v:Value),m=64- z∧(z≤zeros s.length)∧Fr 43 [(0,sv s),(2,.slice none 0 0),(3,v)] [] a∧St No w0 [own v 5 1 ((sum1 s z).map λb=>[yv b])] w) _ ⟨0,s3,O,Ah _,Y.pick [0,2,3],U.select [0] de⟩ ?_
 rintro _ a w6 ⟨z,v,rfl,hz,Y,U⟩
 refine ah λ_ G10=>aa λ_ G11=>nv Y<|zN O<|zM ((aK (sT:=60) (U.ow 0 O) O O (runUnderlying60 _)).asi (m':=((s.length+1+z:Nat):Int)) (by rw[zR,qi]))<|zM (fx O O om om)<|zM (v_ne O O)<|λa Y=>G11<|cN Y O (λhc4=>?_) (λhc4=>?_)
 ·have hz2:z+1≤zeros s.length:=by unfold zeros at hz⊢; omega
  have hz3:zeros s.length<64:=by unfold zeros; omega
  refine ar<|G10<|aw<|aj<|wlm Y O λa Y=>aD (E:=5) (sz:=1) O [[yv (0:UInt8)]] kr sm O de de Y U λa w7 Y U=>aY (i:=1) (sT:=60) (inf:=Tryz.t5) (z:=yv (0:UInt8)) (b:=0) (off:=0) (m:=0) (c:=0) O O O (U.ow 0 O) sm underlying60 O O O O de BS BR BR de Y U λa w8 s5 Y U _=>wla Y O λa Y=>ab ?_
  rw[show ((sum1 s z).map λb=>[yv b])++([[yv (0:UInt8)]])=((sum1 s (z+1)).map λb=>[yv b]) from by simp[sum1,List.replicate_succ']] at U
  refine⟨_,?_,z+1,s5,O,hz2,Y.pick [0,2,3],U.select [1] de⟩
  omega
 obtain rfl:z=zeros s.length:=by unfold zeros at hz⊢; omega
 refine aP<|G9<|ah λ_ G12=>aa λ_ G13=>wla Y O λa Y=>G13<|aw ?_
 rw[show ((sum1 s (zeros s.length)).map λb=>[yv b])=((sum2 s 0).map λb=>[yv b]) from by simp[sum1,sum2]] at U
 rw[show (7:Int)=7- ((0:Nat):Int) from by omega] at Y
 refine aZ (λm a w=>∃(r:Nat) (v:Value),m=8- r∧(r≤8)∧Fr 43 [(0,sv s),(2,.slice none 0 0),(3,v),(5,jv (7- (r:Int)))] [] a∧St No w0 [own v 5 1 ((sum2 s r).map λb=>[yv b])] w) _ ⟨0,v,O,Ah _,Y.pick [0,2,3,5],U.select [0] de⟩ ?_
 rintro _ a w9 ⟨r,v,rfl,hr,Y,U⟩
 refine ah λ_ G14=>aa λ_ G15=>nv Y<|zN O<|zM (v_ge O O)<|λa Y=>G15<|az Y O (λhc6=>?_) (λhc6=>?_)
 ·refine ar<|G14<|ah λ_ G16=>aw<|aj<|nv Y<|zN O<|zN O<|zM (bp O O (runUnderlying9 _))<|zM ((ej O O ⟨om,om⟩).asi (m':=((8*s.length:Nat):Int)) om)<|zN O<|zM ((ej O O ⟨om,om⟩).asi (m':=((8*(7- r):Nat):Int)) om)<|zM (qO (m:=(8*s.length)) (n:=(8*(7- r))) O O om)<|zM (mV (n:=8*s.length / 2 ^ (8*(7- r))) O kr underlying5)<|λa Y=>aD (E:=5) (sz:=1) O [[yv (UInt8.ofNat (8*s.length / 2 ^ (8*(7- r))))]] kr sm O de de Y U λa w10 Y U=>?_
  refine aY (i:=1) (sT:=60) (inf:=Tryz.t5) (z:=yv (0:UInt8)) (b:=0) (off:=0) (m:=0) (c:=0) O O O (U.ow 0 O) sm underlying60 O O O O de BS BR BR de Y U λa w11 s7 Y U _=>wla Y O λa Y=>ab<|G16 ?_
  replace U:=U.k1 2 O
  refine aj<|nv (Y.p4 0 2 5 3 O)<|zN O<|zM (bJ O O ⟨om,om⟩)<|zO O<|λa Y=>ab ?_
  rw[show ((sum2 s r).map λb=>[yv b])++([[yv (UInt8.ofNat (8*s.length / 2 ^ (8*(7- r))))]])=((sum2 s (r+1)).map λb=>[yv b]) from by unfold sum2; rw[hT om]; simp] at U
  rw[show 7- (r:Int)- 1=7- ((r+1:Nat):Int) from by omega] at Y
  refine⟨_,?_,r+1,s7,O,om,Y.pick [0,2,3,5],U.select [0] de⟩
  omega
 obtain rfl:r=8:=by omega
 rw[show sum2 s 8=padded s from rfl] at U
 refine aP<|G12<|aa λ_ G17=>nv Y<|zN O<|zO O<|λa Y=>G17 ?_
 replace Y:=Y.p1 2 O
 refine aq<|am Y results143 (ae O ag) ?_
 exact⟨v,O,trivial,U.ext,St.out (E:=[own v 5 1 ((padded s).map λb=>[yv b])]) (H:=[]) U⟩
theorem eu (x:Wd) (n:Nat) (w0:World) (hn:0<n) (hn2:n<32):Ret Tryz.prog 180 #[wv x,jv (n:Int)] w0 λv w=>v=wv (ror x n)∧Ext No w0 w:=by
 have:=rU x n w0 hn hn2
 rw[show (x >>> n) ||| (x <<< (32- n))=ror x n from BitVec.or_comm _ _] at this
 exact this
theorem mix2 (x:Wd) (a b:Nat):mix x [a,b]=ror x a ^^^ ror x b:=by simp[mix]
theorem mix3 (x:Wd) (a b c:Nat):mix x [a,b,c]=ror x a ^^^ ror x b ^^^ ror x c:=by simp[mix]
theorem oR (bs:List UInt8) {j:Nat}:∀{i:Nat},j<i→(d:Nat)→(sch bs (i+d)).getD j 0#32=(sch bs i).getD j 0#32
 | i,h,0=>rfl
 | i,h,d+1=>by
  have e:sch bs (i+(d+1))=(sch bs (i+d)).set (i+d) (if i+d<16 then be bs (i+d) else nx (sch bs (i+d)) (i+d)):=rfl
  rw[e,z6,List.getElem?_set_ne om,←z6]
  exact oR bs h d
theorem vc (bs:List UInt8) {j:Nat} (h:j<64):(sch bs 64).getD j 0#32=if j<16 then be bs j else nx (sch bs j) j:=by
 have:=oR bs (j:=j) (i:=j+1) om (63- j)
 rw[show j+1+(63- j)=64 from by omega] at this
 rw[this,sch,z6,List.getElem?_set_self (by rw[aO]; omega)]; rfl
theorem ox (bs:List UInt8) {i j:Nat} (h:i<j) (hj:j≤64):(sch bs j).getD i 0#32=(sch bs 64).getD i 0#32:=by
 have:=oR bs h (64- j)
 rw[show j+(64- j)=64 from by omega] at this
 exact this.symm
theorem tL (bs:List UInt8) {k:Nat} (h:k<16):(sch bs 64).take (k+1)=(sch bs 64).take k++[be bs k]:=by
 rw[cH 0#32 (by rw[aO]; omega),vc bs om,Am h]
theorem tZ (bs:List UInt8) {j:Nat} (h:16≤j) (hj:j<64):(sch bs 64).take (j+1)=(sch bs 64).take j++[((((sch bs 64).take j).getD (j- 16) 0#32+(ror (((sch bs 64).take j).getD (j- 15) 0#32) 7 ^^^ ror (((sch bs 64).take j).getD (j- 15) 0#32) 18 ^^^ ((sch bs 64).take j).getD (j- 15) 0#32 >>> 3))+((sch bs 64).take j).getD (j- 7) 0#32)+(ror (((sch bs 64).take j).getD (j- 2) 0#32) 17 ^^^ ror (((sch bs 64).take j).getD (j- 2) 0#32) 19 ^^^ ((sch bs 64).take j).getD (j- 2) 0#32 >>> 10)]:=by
 rw[cH 0#32 (by rw[aO]; omega),vc bs om,Ai om,nx,mix2,mix2]
 rw[ox bs (i:=j- 16) (j:=j) om om,ox bs (i:=j- 15) (j:=j) om om,ox bs (i:=j- 7) (j:=j) om om,ox bs (i:=j- 2) (j:=j) om om]
 rw[gT _ om,gT _ om,gT _ om,gT _ om]
theorem wJ (x y:W8) {q:Nat} (h:q<8):(x.add y).l.take (q+1)=(x.add y).l.take q++[x.l.getD q 0#32+y.l.getD q 0#32]:=by
 rw[cH 0#32 (by exact h)]
 congr 2
 have:q=0∨q=1∨q=2∨q=3∨q=4∨q=5∨q=6∨q=7:=by omega
 rcases this with rfl|rfl|rfl|rfl|rfl|rfl|rfl|rfl<;>rfl
theorem uh (hvv bv:Value) (hv:W8) (bs:List UInt8) (w0:World) (hhv:SlAt w0 hvv 1 ((hv.l).map λx=>[wv x])) (hbv:SlAt w0 bv 1 (bs.map λb=>[yv b])) (hbl:bs.length=64):
  Ret Tryz.prog 144 #[hvv,bv] w0 (MemR w0 (λv:Value=>v) (λv=>[own v 206 1 (((block hv bs).l).map λx=>[wv x])]) (λ_=>True)):=by
 refine BF func144 O ntmps144 (lb O) λa Y U=>?_
 refine aa λ_ G1=>wla Y O λa Y=>G1<|aa λ_ G2=>?_
 refine wla Y O λa Y=>G2<|ah λ_ G3=>?_
 refine aa λ_ G4=>wla Y O λa Y=>G4<|aw ?_
 replace U:St No w0 [own (.slice none 0 0) 206 1 (((sch bs 64).take 0).map λx=>[wv x])] w0:=U.nil_own
 refine aZ (λm a w=>∃(k:Nat) (u:Value),m=16- k∧(k≤16)∧Fr 238 [(0,hvv),(1,bv),(4,.slice none 0 0),(5,u),(6,jv (k:Int))] [] a∧St No w0 [own u 206 1 (((sch bs 64).take k).map λx=>[wv x])] w) _ ⟨0,.slice none 0 0,O,Ah _,Y.pick [0,1,4,5,6],U.select [0] de⟩ ?_
 rintro _ a w1 ⟨k,u,rfl,hk,Y,U⟩
 refine ah λ_ G5=>aa λ_ G6=>nv Y<|zN O<|zM (v_lt O O)<|λa Y=>G6<|az Y O (λhc1=>?_) (λhc1=>?_)
 ·refine ar<|G5<|ah λ_ G7=>aw<|aH (aI λw2 hxz=>?_)
  replace U:=U.grow hxz
  refine aQ (k:=0) 35 [0,34] Y ?_
  replace Y:=Y.p6 0 1 4 5 6 19 O
  refine bn [34] (λi=>match i with|34=>pm (λb:Nat=>.slice (some ⟨b,0,none⟩) 1 1) (λb=>[own (.slice (some ⟨b,0,none⟩) 1 1) 206 1 [[wv (((((BitVec.ofNat 32 (bs.getD (4*k) 0).toNat) <<< 24) ||| ((BitVec.ofNat 32 (bs.getD (4*k+1) 0).toNat) <<< 16)) ||| ((BitVec.ofNat 32 (bs.getD (4*k+2) 0).toNat) <<< 8)) ||| (BitVec.ofNat 32 (bs.getD (4*k+3) 0).toNat))]]]) (λ_=>True)|_=>λ_ _=>False) 35 [[],[],[],[2],[1,3],[4],[5],[6],[],[],[9],[10],[8,11],[12],[13],[14],[7,15],[],[],[18],[19],[17,20],[21],[22],[23],[16,24],[],[],[27],[28],[26,29],[30],[31],[25,32],[33]] [u,bv,jv (k:Int),jv (4*(k:Int)),slAddr bv ((4*k)*1),yv (bs.getD (4*k) 0),wv (BitVec.ofNat 32 (bs.getD (4*k) 0).toNat),wv ((BitVec.ofNat 32 (bs.getD (4*k) 0).toNat) <<< 24),bv,jv (k:Int),jv (4*(k:Int)),jv ((4*(k:Int))+1),slAddr bv ((4*k+1)*1),yv (bs.getD (4*k+1) 0),wv (BitVec.ofNat 32 (bs.getD (4*k+1) 0).toNat),wv ((BitVec.ofNat 32 (bs.getD (4*k+1) 0).toNat) <<< 16),wv (((BitVec.ofNat 32 (bs.getD (4*k) 0).toNat) <<< 24) ||| ((BitVec.ofNat 32 (bs.getD (4*k+1) 0).toNat) <<< 16)),bv,jv (k:Int),jv (4*(k:Int)),jv ((4*(k:Int))+2),slAddr bv ((4*k+2)*1),yv (bs.getD (4*k+2) 0),wv (BitVec.ofNat 32 (bs.getD (4*k+2) 0).toNat),wv ((BitVec.ofNat 32 (bs.getD (4*k+2) 0).toNat) <<< 8),wv ((((BitVec.ofNat 32 (bs.getD (4*k) 0).toNat) <<< 24) ||| ((BitVec.ofNat 32 (bs.getD (4*k+1) 0).toNat) <<< 16)) ||| ((BitVec.ofNat 32 (bs.getD (4*k+2) 0).toNat) <<< 8)),bv,jv (k:Int),jv (4*(k:Int)),jv ((4*(k:Int))+3),slAddr bv ((4*k+3)*1),yv (bs.getD (4*k+3) 0),wv (BitVec.ofNat 32 (bs.getD (4*k+3) 0).toNat),wv (((((BitVec.ofNat 32 (bs.getD (4*k) 0).toNat) <<< 24) ||| ((BitVec.ofNat 32 (bs.getD (4*k+1) 0).toNat) <<< 16)) ||| ((BitVec.ofNat 32 (bs.getD (4*k+2) 0).toNat) <<< 8)) ||| (BitVec.ofNat 32 (bs.getD (4*k+3) 0).toNat)),undef] Y U ?_ ?_ ?_
  ·exact BO<|hqv (au rfl)<|hqv (au rfl)<|hqv (au rfl)<|hqv (ej rfl rfl ⟨om,om⟩)<|hqw (λU=>(ai (i:=4*(k:Int)) (sT:=60) (U.arg hbv) rfl rfl (runUnderlying60 _) (sizeOf5 _) om BP).as (v':=slAddr bv ((4*k)*1)) (by rw[show (4*(k:Int)).toNat=(4*k) from by omega]))<|hqw (λU=>aA (u:=yv (bs.getD (4*k) 0)) (i:=(4*k)) (j:=0) (U.arg hbv) BP rfl (isAgg5 _) (by simp[z6,z8 (show (4*k)<bs.length by omega)]))<|hqv (dX rfl kr underlying206)<|hqv (go (n:=24) rfl rfl)<|hqv (au rfl)<|hqv (au rfl)<|hqv (ej rfl rfl ⟨om,om⟩)<|hqv (aL rfl rfl ⟨om,om⟩)<|
    hqw (λU=>(ai (i:=(4*(k:Int))+1) (sT:=60) (U.arg hbv) rfl rfl (runUnderlying60 _) (sizeOf5 _) om BP).as (v':=slAddr bv ((4*k+1)*1)) (by rw[show ((4*(k:Int))+1).toNat=(4*k+1) from by omega]))<|hqw (λU=>aA (u:=yv (bs.getD (4*k+1) 0)) (i:=(4*k+1)) (j:=0) (U.arg hbv) BP rfl (isAgg5 _) (by simp[z6,z8 (show (4*k+1)<bs.length by omega)]))<|hqv (dX rfl kr underlying206)<|hqv (go (n:=16) rfl rfl)<|hqv (j5 rfl rfl)<|hqv (au rfl)<|hqv (au rfl)<|hqv (ej rfl rfl ⟨om,om⟩)<|hqv (aL rfl rfl ⟨om,om⟩)<|
    hqw (λU=>(ai (i:=(4*(k:Int))+2) (sT:=60) (U.arg hbv) rfl rfl (runUnderlying60 _) (sizeOf5 _) om BP).as (v':=slAddr bv ((4*k+2)*1)) (by rw[show ((4*(k:Int))+2).toNat=(4*k+2) from by omega]))<|hqw (λU=>aA (u:=yv (bs.getD (4*k+2) 0)) (i:=(4*k+2)) (j:=0) (U.arg hbv) BP rfl (isAgg5 _) (by simp[z6,z8 (show (4*k+2)<bs.length by omega)]))<|hqv (dX rfl kr underlying206)<|hqv (go (n:=8) rfl rfl)<|hqv (j5 rfl rfl)<|hqv (au rfl)<|hqv (au rfl)<|hqv (ej rfl rfl ⟨om,om⟩)<|hqv (aL rfl rfl ⟨om,om⟩)<|
    hqw (λU=>(ai (i:=(4*(k:Int))+3) (sT:=60) (U.arg hbv) rfl rfl (runUnderlying60 _) (sizeOf5 _) om BP).as (v':=slAddr bv ((4*k+3)*1)) (by rw[show ((4*(k:Int))+3).toNat=(4*k+3) from by omega]))<|hqw (λU=>aA (u:=yv (bs.getD (4*k+3) 0)) (i:=(4*k+3)) (j:=0) (U.arg hbv) BP rfl (isAgg5 _) (by simp[z6,z8 (show (4*k+3)<bs.length by omega)]))<|hqv (dX rfl kr underlying206)<|hqv (j5 rfl rfl)<|BM (λh=>absurd sm h)<|BN
  ·intro i hi
   simp only[zY,Ab,As] at hi
   subst hi
   ·intro w U
    exact bP (E:=206) (sz:=1) O [[wv (((((BitVec.ofNat 32 (bs.getD (4*k) 0).toNat) <<< 24) ||| ((BitVec.ofNat 32 (bs.getD (4*k+1) 0).toNat) <<< 16)) ||| ((BitVec.ofNat 32 (bs.getD (4*k+2) 0).toNat) <<< 8)) ||| (BitVec.ofNat 32 (bs.getD (4*k+3) 0).toNat))]] (λ_=>by kernel_rfl) sm O de
  clear Y U
  rintro _ _ ⟨b2,rfl, -,rfl⟩ a w3 Y U
  replace Y:=Y.p6 23 57 0 1 4 6 O
  replace U:=U.n2 O
  refine ab<|aJ (k:=35) 37 [36] ?_
  refine aY (i:=1) (sT:=207) (inf:=Tryz.t206) (z:=wv (0#32)) (b:=0) (off:=0) (m:=0) (c:=0) O O O (U.ow 0 O) sm underlying207 O O O O de BS B2 B2 de Y U λa w4 s3 Y U _=>wla Y O λa Y=>ab<|aR<|G7 ?_
  replace U:=U.k1 2 O
  refine aj<|nv (Y.p5 0 1 4 6 5 O)<|zN O<|zM (aL O O ⟨om,om⟩)<|zO O<|λa Y=>ab ?_
  rw[show (((sch bs 64).take k).map λx=>[wv x])++([[wv (((((BitVec.ofNat 32 (bs.getD (4*k) 0).toNat) <<< 24) ||| ((BitVec.ofNat 32 (bs.getD (4*k+1) 0).toNat) <<< 16)) ||| ((BitVec.ofNat 32 (bs.getD (4*k+2) 0).toNat) <<< 8)) ||| (BitVec.ofNat 32 (bs.getD (4*k+3) 0).toNat))]])=(((sch bs 64).take (k+1)).map λx=>[wv x]) from by rw[tL bs om]; simp[be]] at U
  refine⟨_,?_,k+1,s3,O,om,Y.pick [0,1,4,5,6],U.select [0] de⟩
  omega
 obtain rfl:k=16:=by omega
 refine aP<|G3<|ah λ_ G8=>aa λ_ G9=>wla Y O λa Y=>G9<|aw ?_
 refine aZ (λm a w=>∃(j:Nat) (u:Value),m=64- j∧(16≤j)∧(j≤64)∧Fr 238 [(0,hvv),(4,.slice none 0 0),(5,u),(7,jv (j:Int))] [] a∧St No w0 [own u 206 1 (((sch bs 64).take j).map λx=>[wv x])] w) _ ⟨16,u,O,om,om,Y.pick [0,4,5,7],U.select [0] de⟩ ?_
 rintro _ a w5 ⟨j,u,rfl,hj,hj2,Y,U⟩
 refine ah λ_ G10=>aa λ_ G11=>nv Y<|zN O<|zM (v_lt O O)<|λa Y=>G11<|az Y O (λhc4=>?_) (λhc4=>?_)
 ·refine ar<|G10<|ah λ_ G12=>aw<|ah λ_ G13=>aH (aI λw6 hxz=>?_)
  replace U:=U.grow hxz
  refine aQ (k:=0) 19 [12,18] Y ?_
  replace Y:=Y.p5 0 4 5 7 59 O
  refine bI 19 Y U<|pl_m O<|pl_m O<|pl_v (bJ O O ⟨om,om⟩)<|pl_w (λU=>(ai (i:=(j:Int)- 15) (sT:=207) (U.ow 0 O) O O (runUnderlying207 _) (sizeOf206 _) om BP).as (v':=slAddr u ((j- 15)*1)) CW)<|pl_w (λU=>aA (u:=wv (((sch bs 64).take j).getD (j- 15) 0#32)) (i:=(j- 15)) (j:=0) (U.ow 0 O) BP O (isAgg206 _) Cs) ?_
  refine pl_r (λU=>bD call180 O (eu (((sch bs 64).take j).getD (j- 15) 0#32) 7 _ de de))<|pl_m O<|pl_m O<|pl_v (bJ O O ⟨om,om⟩)<|pl_w (λU=>(ai (i:=(j:Int)- 15) (sT:=207) (U.ow 0 O) O O (runUnderlying207 _) (sizeOf206 _) om BP).as (v':=slAddr u ((j- 15)*1)) CW) ?_
  refine pl_w (λU=>aA (u:=wv (((sch bs 64).take j).getD (j- 15) 0#32)) (i:=(j- 15)) (j:=0) (U.ow 0 O) BP O (isAgg206 _) Cs)<|pl_r (λU=>bD call180 O (eu (((sch bs 64).take j).getD (j- 15) 0#32) 18 _ de de))<|pl_v (dM O O)<|pl_m O<|pl_m O<|pl_v (bJ O O ⟨om,om⟩) ?_
  refine pl_w (λU=>(ai (i:=(j:Int)- 15) (sT:=207) (U.ow 0 O) O O (runUnderlying207 _) (sizeOf206 _) om BP).as (v':=slAddr u ((j- 15)*1)) CW)<|pl_w (λU=>aA (u:=wv (((sch bs 64).take j).getD (j- 15) 0#32)) (i:=(j- 15)) (j:=0) (U.ow 0 O) BP O (isAgg206 _) Cs)<|pl_v (fB (n:=3) O O) λa w7 Y U=>?_
  replace Y:=Y.p6 0 4 5 7 75 81 O
  refine ab<|aJ (k:=19) 21 [20] ?_
  refine nv Y<|zM (dM O O)<|zO O<|λa Y=>ab<|aR<|G13<|ah λ_ G14=>aH (aI λw8 hxz=>?_)
  replace U:=U.grow hxz
  refine aQ (k:=0) 19 [12,18] Y ?_
  replace Y:=Y.p8 0 4 5 7 75 81 82 8 O
  refine bI 19 Y U<|pl_m O<|pl_m O<|pl_v (bJ O O ⟨om,om⟩)<|pl_w (λU=>(ai (i:=(j:Int)- 2) (sT:=207) (U.ow 0 O) O O (runUnderlying207 _) (sizeOf206 _) om BP).as (v':=slAddr u ((j- 2)*1)) CX)<|pl_w (λU=>aA (u:=wv (((sch bs 64).take j).getD (j- 2) 0#32)) (i:=(j- 2)) (j:=0) (U.ow 0 O) BP O (isAgg206 _) Cs) ?_
  refine pl_r (λU=>bD call180 O (eu (((sch bs 64).take j).getD (j- 2) 0#32) 17 _ de de))<|pl_m O<|pl_m O<|pl_v (bJ O O ⟨om,om⟩)<|pl_w (λU=>(ai (i:=(j:Int)- 2) (sT:=207) (U.ow 0 O) O O (runUnderlying207 _) (sizeOf206 _) om BP).as (v':=slAddr u ((j- 2)*1)) CX) ?_
  refine pl_w (λU=>aA (u:=wv (((sch bs 64).take j).getD (j- 2) 0#32)) (i:=(j- 2)) (j:=0) (U.ow 0 O) BP O (isAgg206 _) Cs)<|pl_r (λU=>bD call180 O (eu (((sch bs 64).take j).getD (j- 2) 0#32) 19 _ de de))<|pl_v (dM O O)<|pl_m O<|pl_m O<|pl_v (bJ O O ⟨om,om⟩) ?_
  refine pl_w (λU=>(ai (i:=(j:Int)- 2) (sT:=207) (U.ow 0 O) O O (runUnderlying207 _) (sizeOf206 _) om BP).as (v':=slAddr u ((j- 2)*1)) CX)<|pl_w (λU=>aA (u:=wv (((sch bs 64).take j).getD (j- 2) 0#32)) (i:=(j- 2)) (j:=0) (U.ow 0 O) BP O (isAgg206 _) Cs)<|pl_v (fB (n:=10) O O) λa w9 Y U=>?_
  replace Y:=Y.p7 0 4 5 7 8 95 101 O
  refine ab<|aJ (k:=19) 21 [20] ?_
  refine nv Y<|zM (dM O O)<|zO O<|λa Y=>ab<|aR<|G14<|aH (aI λw10 hxz=>?_)
  replace U:=U.grow hxz
  refine aQ (k:=0) 17 [0,16] Y ?_
  replace Y:=Y.p9 0 4 5 7 8 95 101 102 9 O
  refine bn [16] (λi=>match i with|16=>pm (λb:Nat=>.slice (some ⟨b,0,none⟩) 1 1) (λb=>[own (.slice (some ⟨b,0,none⟩) 1 1) 206 1 [[wv ((((((sch bs 64).take j).getD (j- 16) 0#32)+(((ror (((sch bs 64).take j).getD (j- 15) 0#32) 7) ^^^ (ror (((sch bs 64).take j).getD (j- 15) 0#32) 18)) ^^^ ((((sch bs 64).take j).getD (j- 15) 0#32) >>> 3)))+(((sch bs 64).take j).getD (j- 7) 0#32))+(((ror (((sch bs 64).take j).getD (j- 2) 0#32) 17) ^^^ (ror (((sch bs 64).take j).getD (j- 2) 0#32) 19)) ^^^ ((((sch bs 64).take j).getD (j- 2) 0#32) >>> 10)))]]]) (λ_=>True)|_=>λ_ _=>False) 17 [[],[],[],[2],[1,3],[4],[],[5,6],[],[],[9],[8,10],[11],[7,12],[],[13,14],[15]] [u,u,jv (j:Int),jv ((j:Int)- 16),slAddr u ((j- 16)*1),wv (((sch bs 64).take j).getD (j- 16) 0#32),wv (((ror (((sch bs 64).take j).getD (j- 15) 0#32) 7) ^^^ (ror (((sch bs 64).take j).getD (j- 15) 0#32) 18)) ^^^ ((((sch bs 64).take j).getD (j- 15) 0#32) >>> 3)),wv ((((sch bs 64).take j).getD (j- 16) 0#32)+(((ror (((sch bs 64).take j).getD (j- 15) 0#32) 7) ^^^ (ror (((sch bs 64).take j).getD (j- 15) 0#32) 18)) ^^^ ((((sch bs 64).take j).getD (j- 15) 0#32) >>> 3))),u,jv (j:Int),jv ((j:Int)- 7),slAddr u ((j- 7)*1),wv (((sch bs 64).take j).getD (j- 7) 0#32),wv (((((sch bs 64).take j).getD (j- 16) 0#32)+(((ror (((sch bs 64).take j).getD (j- 15) 0#32) 7) ^^^ (ror (((sch bs 64).take j).getD (j- 15) 0#32) 18)) ^^^ ((((sch bs 64).take j).getD (j- 15) 0#32) >>> 3)))+(((sch bs 64).take j).getD (j- 7) 0#32)),wv (((ror (((sch bs 64).take j).getD (j- 2) 0#32) 17) ^^^ (ror (((sch bs 64).take j).getD (j- 2) 0#32) 19)) ^^^ ((((sch bs 64).take j).getD (j- 2) 0#32) >>> 10)),wv ((((((sch bs 64).take j).getD (j- 16) 0#32)+(((ror (((sch bs 64).take j).getD (j- 15) 0#32) 7) ^^^ (ror (((sch bs 64).take j).getD (j- 15) 0#32) 18)) ^^^ ((((sch bs 64).take j).getD (j- 15) 0#32) >>> 3)))+(((sch bs 64).take j).getD (j- 7) 0#32))+(((ror (((sch bs 64).take j).getD (j- 2) 0#32) 17) ^^^ (ror (((sch bs 64).take j).getD (j- 2) 0#32) 19)) ^^^ ((((sch bs 64).take j).getD (j- 2) 0#32) >>> 10))),undef] Y U ?_ ?_ ?_
  ·exact BO<|hqv (au rfl)<|hqv (au rfl)<|hqv (au rfl)<|hqv (bJ rfl rfl ⟨om,om⟩)<|hqw (λU=>(ai (i:=(j:Int)- 16) (sT:=207) (U.ow 0 rfl) rfl rfl (runUnderlying207 _) (sizeOf206 _) om BP).as (v':=slAddr u ((j- 16)*1)) (by rw[show ((j:Int)- 16).toNat=(j- 16) from by omega]))<|hqw (λU=>aA (u:=wv (((sch bs 64).take j).getD (j- 16) 0#32)) (i:=(j- 16)) (j:=0) (U.ow 0 rfl) BP rfl (isAgg206 _) Cs)<|hqv (au rfl)<|hqv (cZ rfl rfl)<|hqv (au rfl)<|hqv (au rfl)<|hqv (bJ rfl rfl ⟨om,om⟩)<|
    hqw (λU=>(ai (i:=(j:Int)- 7) (sT:=207) (U.ow 0 rfl) rfl rfl (runUnderlying207 _) (sizeOf206 _) om BP).as (v':=slAddr u ((j- 7)*1)) (by rw[show ((j:Int)- 7).toNat=(j- 7) from by omega]))<|hqw (λU=>aA (u:=wv (((sch bs 64).take j).getD (j- 7) 0#32)) (i:=(j- 7)) (j:=0) (U.ow 0 rfl) BP rfl (isAgg206 _) Cs)<|hqv (cZ rfl rfl)<|hqv (au rfl)<|hqv (cZ rfl rfl)<|BM (λh=>absurd sm h)<|BN
  ·intro i hi
   simp only[zY,Ab,As] at hi
   subst hi
   ·intro w U
    exact bP (E:=206) (sz:=1) O [[wv ((((((sch bs 64).take j).getD (j- 16) 0#32)+(((ror (((sch bs 64).take j).getD (j- 15) 0#32) 7) ^^^ (ror (((sch bs 64).take j).getD (j- 15) 0#32) 18)) ^^^ ((((sch bs 64).take j).getD (j- 15) 0#32) >>> 3)))+(((sch bs 64).take j).getD (j- 7) 0#32))+(((ror (((sch bs 64).take j).getD (j- 2) 0#32) 17) ^^^ (ror (((sch bs 64).take j).getD (j- 2) 0#32) 19)) ^^^ ((((sch bs 64).take j).getD (j- 2) 0#32) >>> 10)))]] (λ_=>by kernel_rfl) sm O de
  clear Y U
  rintro _ _ ⟨b5,rfl, -,rfl⟩ a w11 Y U
  replace Y:=Y.p5 103 119 0 4 7 O
  replace U:=U.n2 O
  refine ab<|aJ (k:=17) 19 [18] ?_
  refine aY (i:=1) (sT:=207) (inf:=Tryz.t206) (z:=wv (0#32)) (b:=0) (off:=0) (m:=0) (c:=0) O O O (U.ow 0 O) sm underlying207 O O O O de BS B2 B2 de Y U λa w12 s6 Y U _=>wla Y O λa Y=>ab<|aR<|G12 ?_
  replace U:=U.k1 2 O
  refine aj<|nv (Y.p4 0 4 7 5 O)<|zN O<|zM (aL O O ⟨om,om⟩)<|zO O<|λa Y=>ab ?_
  rw[show (((sch bs 64).take j).map λx=>[wv x])++([[wv ((((((sch bs 64).take j).getD (j- 16) 0#32)+(((ror (((sch bs 64).take j).getD (j- 15) 0#32) 7) ^^^ (ror (((sch bs 64).take j).getD (j- 15) 0#32) 18)) ^^^ ((((sch bs 64).take j).getD (j- 15) 0#32) >>> 3)))+(((sch bs 64).take j).getD (j- 7) 0#32))+(((ror (((sch bs 64).take j).getD (j- 2) 0#32) 17) ^^^ (ror (((sch bs 64).take j).getD (j- 2) 0#32) 19)) ^^^ ((((sch bs 64).take j).getD (j- 2) 0#32) >>> 10)))]])=(((sch bs 64).take (j+1)).map λx=>[wv x]) from by rw[tZ bs om om]; simp] at U
  refine⟨_,?_,j+1,s6,O,om,om,Y.pick [0,4,5,7],U.select [0] de⟩
  omega
 obtain rfl:j=64:=by omega
 rw[AZ (by rw[aO]; omega)] at U
 refine aP<|G8<|aa λ_ G15=>bf Y U call181 O (oQ _) λa w13 x7 hp Y U=>?_
 revert x7 hp Y U; rintro kz hp Y U
 clear hp
 replace U:=U.n2 O
 refine wla Y O λa Y=>G15<|aa λ_ G16=>?_
 refine wla Y O λa Y=>G16<|aa λ_ G17=>?_
 refine nv Y<|zN O<|zN O<|λa Y=>?_
 replace U:St No w0 (own (.slice none 0 0) 206 1 []::[_,_]) w13:=U.nil_own
 refine fE (i:=0) (sT:=207) (inf:=Tryz.t206) (z:=wv (0#32)) O O O (U.arg hhv) underlying207 O O O O de BS B2 B2 de Y U λa w14 s8 Y U=>wla Y O λa Y=>G17 ?_
 refine ah λ_ G18=>aa λ_ G19=>wla (Y.p5 0 4 5 10 11 O) O λa Y=>G19<|aw ?_
 rw[show ([])++((hv.l).map λx=>[wv x])=((hv.l).map λx=>[wv x]) from by simp] at U
 refine aZ (λm a w=>∃(ix:Nat) (v:W8) (z:Value),m=64- ix∧(ix≤64)∧(rounds (sch bs 64) hv ix=v)∧Fr 238 [(0,hvv),(4,.slice none 0 0),(5,u),(10,kz),(11,z),(12,jv (ix:Int))] [] a∧St No w0 [own z 206 1 ((v.l).map λx=>[wv x]),own u 206 1 ((sch bs 64).map λx=>[wv x]),own kz 206 1 ((kOf).map λx=>[wv x])] w) _ ⟨0,hv,s8,O,Ah _,O,Y.pick [0,4,5,10,11,12],U.select [0,2,1] de⟩ ?_
 rintro _ a w15 ⟨ix,v,z,rfl,hi,hrv,Y,U⟩
 refine ah λ_ G20=>aa λ_ G21=>nv Y<|zN O<|zM (v_lt O O)<|λa Y=>G21<|az Y O (λhc9=>?_) (λhc9=>?_)
 ·refine ar<|G20<|ah λ_ G22=>aw<|aa λ_ G23=>nv Y<|zN O<|zM ((ai (i:=0) (sT:=207) (U.ow 0 O) O O (runUnderlying207 _) (sizeOf206 _) om B1).as (v':=slAddr z (0*1)) O)<|zM (aA (u:=wv v.a) (i:=0) (j:=0) (U.ow 0 O) B1 O (isAgg206 _) rfx)<|zO O<|λa Y=>G23<|aa λ_ G24=>?_
  refine nv Y<|zN O<|zM ((ai (i:=4) (sT:=207) (U.ow 0 O) O O (runUnderlying207 _) (sizeOf206 _) om B1).as (v':=slAddr z (4*1)) O)<|zM (aA (u:=wv v.e) (i:=4) (j:=0) (U.ow 0 O) B1 O (isAgg206 _) rfx)<|zO O<|λa Y=>G24 ?_
  replace Y:=Y.p8 0 4 5 10 11 12 13 14 O
  refine ah λ_ G25=>aH (aI λw16 hxz=>?_)
  replace U:=U.grow hxz
  refine aQ (k:=0) 34 [29,33] Y ?_
  replace Y:=Y.p8 0 4 5 10 11 12 13 14 O
  refine bI 34 Y U<|pl_m O<|pl_w (λU=>(ai (i:=7) (sT:=207) (U.ow 0 O) O O (runUnderlying207 _) (sizeOf206 _) om B1).as (v':=slAddr z (7*1)) O)<|pl_w (λU=>aA (u:=wv v.h) (i:=7) (j:=0) (U.ow 0 O) B1 O (isAgg206 _) rfx)<|pl_m O<|pl_r (λU=>bD call180 O (eu v.e 6 _ de de))<|pl_m O<|pl_r (λU=>bD call180 O (eu v.e 11 _ de de))<|pl_v (dM O O)<|pl_m O<|pl_r (λU=>bD call180 O (eu v.e 25 _ de de))<|pl_v (dM O O)<|pl_v (cZ O O)<|pl_m O<|pl_m O ?_
  refine pl_w (λU=>(ai (i:=5) (sT:=207) (U.ow 0 O) O O (runUnderlying207 _) (sizeOf206 _) om B1).as (v':=slAddr z (5*1)) O)<|pl_w (λU=>aA (u:=wv v.f) (i:=5) (j:=0) (U.ow 0 O) B1 O (isAgg206 _) rfx)<|pl_v (fC O O)<|pl_m O<|pl_v (wN O)<|pl_m O<|pl_w (λU=>(ai (i:=6) (sT:=207) (U.ow 0 O) O O (runUnderlying207 _) (sizeOf206 _) om B1).as (v':=slAddr z (6*1)) O)<|pl_w (λU=>aA (u:=wv v.g) (i:=6) (j:=0) (U.ow 0 O) B1 O (isAgg206 _) rfx)<|pl_v (fC O O)<|pl_v (dM O O) ?_
  refine pl_v (cZ O O)<|pl_m O<|pl_m O<|pl_w (λU=>(ai (i:=(ix:Int)) (sT:=207) (U.ow 2 O) O O (runUnderlying207 _) (sizeOf206 _) om BP).as (v':=slAddr kz (ix*1)) O)<|pl_w (λU=>aA (u:=wv ((kOf).getD ix 0#32)) (i:=ix) (j:=0) (U.ow 2 O) BP O (isAgg206 _) Cs)<|pl_v (cZ O O)<|pl_m O<|pl_m O ?_
  refine pl_w (λU=>(ai (i:=(ix:Int)) (sT:=207) (U.ow 1 O) O O (runUnderlying207 _) (sizeOf206 _) om BP).as (v':=slAddr u (ix*1)) O)<|pl_w (λU=>aA (u:=wv ((sch bs 64).getD ix 0#32)) (i:=ix) (j:=0) (U.ow 1 O) BP O (isAgg206 _) Cs) λa w17 Y U=>?_
  replace Y:=Y.p10 0 4 5 10 11 12 13 14 164 168 O
  refine ab<|aJ (k:=34) 36 [35] ?_
  refine nv Y<|zM (cZ O O)<|zO O<|λa Y=>ab<|aR<|G25<|ah λ_ G26=>aH (aI λw18 hxz=>?_)
  replace U:=U.grow hxz
  refine aQ (k:=0) 27 [7,26] Y ?_
  replace Y:=Y.p12 0 4 5 10 11 12 13 14 164 168 169 15 O
  refine bI 27 Y U<|pl_m O<|pl_r (λU=>bD call180 O (eu v.a 2 _ de de))<|pl_m O<|pl_r (λU=>bD call180 O (eu v.a 13 _ de de))<|pl_v (dM O O)<|pl_m O<|pl_r (λU=>bD call180 O (eu v.a 22 _ de de))<|pl_v (dM O O)<|pl_m O<|pl_m O<|pl_w (λU=>(ai (i:=1) (sT:=207) (U.ow 0 O) O O (runUnderlying207 _) (sizeOf206 _) om B1).as (v':=slAddr z (1*1)) O)<|pl_w (λU=>aA (u:=wv v.b) (i:=1) (j:=0) (U.ow 0 O) B1 O (isAgg206 _) rfx)<|pl_v (fC O O)<|pl_m O<|pl_m O ?_
  refine pl_w (λU=>(ai (i:=2) (sT:=207) (U.ow 0 O) O O (runUnderlying207 _) (sizeOf206 _) om B1).as (v':=slAddr z (2*1)) O)<|pl_w (λU=>aA (u:=wv v.c) (i:=2) (j:=0) (U.ow 0 O) B1 O (isAgg206 _) rfx)<|pl_v (fC O O)<|pl_v (dM O O)<|pl_m O<|pl_w (λU=>(ai (i:=1) (sT:=207) (U.ow 0 O) O O (runUnderlying207 _) (sizeOf206 _) om B1).as (v':=slAddr z (1*1)) O)<|pl_w (λU=>aA (u:=wv v.b) (i:=1) (j:=0) (U.ow 0 O) B1 O (isAgg206 _) rfx)<|pl_m O ?_
  refine pl_w (λU=>(ai (i:=2) (sT:=207) (U.ow 0 O) O O (runUnderlying207 _) (sizeOf206 _) om B1).as (v':=slAddr z (2*1)) O)<|pl_w (λU=>aA (u:=wv v.c) (i:=2) (j:=0) (U.ow 0 O) B1 O (isAgg206 _) rfx)<|pl_v (fC O O)<|pl_v (dM O O) λa w19 Y U=>?_
  replace Y:=Y.p11 0 4 5 10 11 12 13 14 15 177 196 O
  refine ab<|aJ (k:=27) 29 [28] ?_
  refine nv Y<|zM (cZ O O)<|zO O<|λa Y=>ab<|aR<|G26 ?_
  rw[show (((v.h+(((ror v.e 6) ^^^ (ror v.e 11)) ^^^ (ror v.e 25)))+((v.e &&& v.f) ^^^ ((~~~v.e) &&& v.g)))+((kOf).getD ix 0#32))+((sch bs 64).getD ix 0#32)=tOf v (kOf.getD ix 0#32) ((sch bs 64).getD ix 0#32) from by rw[tOf,mix3]] at Y
  rw[show (((ror v.a 2) ^^^ (ror v.a 13)) ^^^ (ror v.a 22))+(((v.a &&& v.b) ^^^ (v.a &&& v.c)) ^^^ (v.b &&& v.c))=uOf v from by rw[uOf,mix3]] at Y
  refine aH (aI λw20 hxz=>?_)
  replace U:=U.grow hxz
  refine aQ (k:=0) 22 [2,3,6,9,14,15,18,21] Y ?_
  replace Y:=Y.p13 0 4 5 10 11 12 13 14 15 177 196 197 16 O
  refine bI 22 Y U<|pl_m O<|pl_m O<|pl_v (cZ O O)<|pl_m O<|pl_m O<|pl_w (λU=>(ai (i:=1) (sT:=207) (U.ow 0 O) O O (runUnderlying207 _) (sizeOf206 _) om B1).as (v':=slAddr z (1*1)) O)<|pl_w (λU=>aA (u:=wv v.b) (i:=1) (j:=0) (U.ow 0 O) B1 O (isAgg206 _) rfx)<|pl_m O<|pl_w (λU=>(ai (i:=2) (sT:=207) (U.ow 0 O) O O (runUnderlying207 _) (sizeOf206 _) om B1).as (v':=slAddr z (2*1)) O)<|pl_w (λU=>aA (u:=wv v.c) (i:=2) (j:=0) (U.ow 0 O) B1 O (isAgg206 _) rfx)<|pl_m O ?_
  refine pl_w (λU=>(ai (i:=3) (sT:=207) (U.ow 0 O) O O (runUnderlying207 _) (sizeOf206 _) om B1).as (v':=slAddr z (3*1)) O)<|pl_w (λU=>aA (u:=wv v.d) (i:=3) (j:=0) (U.ow 0 O) B1 O (isAgg206 _) rfx)<|pl_m O<|pl_v (cZ O O)<|pl_m O<|pl_m O<|pl_w (λU=>(ai (i:=5) (sT:=207) (U.ow 0 O) O O (runUnderlying207 _) (sizeOf206 _) om B1).as (v':=slAddr z (5*1)) O)<|pl_w (λU=>aA (u:=wv v.f) (i:=5) (j:=0) (U.ow 0 O) B1 O (isAgg206 _) rfx)<|pl_m O ?_
  refine pl_w (λU=>(ai (i:=6) (sT:=207) (U.ow 0 O) O O (runUnderlying207 _) (sizeOf206 _) om B1).as (v':=slAddr z (6*1)) O)<|pl_w (λU=>aA (u:=wv v.g) (i:=6) (j:=0) (U.ow 0 O) B1 O (isAgg206 _) rfx) λa w21 Y U=>?_
  replace Y:=Y.p13 0 4 5 10 12 200 201 204 207 212 213 216 219 O
  refine ab<|aJ (k:=22) 24 [23] ?_
  refine aD (E:=206) (sz:=1) O [[wv ((tOf v (kOf.getD ix 0#32) ((sch bs 64).getD ix 0#32))+(uOf v))],[wv v.a],[wv v.b],[wv v.c],[wv (v.d+(tOf v (kOf.getD ix 0#32) ((sch bs 64).getD ix 0#32)))],[wv v.e],[wv v.f],[wv v.g]] kr sm O de de Y U λa w22 Y U=>wla Y O λa Y=>ab<|aR<|G22 ?_
  refine aj<|nv (Y.p6 0 4 5 10 12 11 O)<|zN O<|zM (aL O O ⟨om,om⟩)<|zO O<|λa Y=>ab ?_
  replace U:=U.n4 O
  refine⟨_,?_,ix+1,(rnd v (kOf.getD ix 0#32) ((sch bs 64).getD ix 0#32)),(.slice (some ⟨w21.hz,0,none⟩) 8 8),O,om,(by rw[rounds,hrv]),Y.pick [0,4,5,10,11,12],U.select [0,2,3] de⟩
  omega
 obtain rfl:ix=64:=by omega
 refine aP<|G18<|aa λ_ G27=>wla Y O λa Y=>G27<|ah λ_ G28=>?_
 refine aa λ_ G29=>wla Y O λa Y=>G29<|aw ?_
 replace U:St No w0 [own (.slice none 0 0) 206 1 (((hv.add v).l.take 0).map λx=>[wv x]),own z 206 1 ((v.l).map λx=>[wv x]),own u 206 1 ((sch bs 64).map λx=>[wv x]),own kz 206 1 ((kOf).map λx=>[wv x])] w15:=U.nil_own
 refine aZ (λm a w=>∃(q:Nat) (y:Value),m=8- q∧(q≤8)∧Fr 238 [(0,hvv),(4,.slice none 0 0),(11,z),(17,y),(18,jv (q:Int))] [] a∧St No w0 [own y 206 1 (((hv.add v).l.take q).map λx=>[wv x]),own z 206 1 ((v.l).map λx=>[wv x])] w) _ ⟨0,.slice none 0 0,O,Ah _,Y.pick [0,4,11,17,18],U.select [0,1] de⟩ ?_
 rintro _ a w23 ⟨q,y,rfl,hq,Y,U⟩
 refine ah λ_ G30=>aa λ_ G31=>nv Y<|zN O<|zM (v_lt O O)<|λa Y=>G31<|az Y O (λhc10=>?_) (λhc10=>?_)
 ·refine ar<|G30<|ah λ_ G32=>aw<|aH (aI λw24 hxz=>?_)
  replace U:=U.grow hxz
  refine aQ (k:=0) 11 [0,10] Y ?_
  replace Y:=Y.p6 0 4 11 17 18 221 O
  refine bn [10] (λi=>match i with|10=>pm (λb:Nat=>.slice (some ⟨b,0,none⟩) 1 1) (λb=>[own (.slice (some ⟨b,0,none⟩) 1 1) 206 1 [[wv ((hv.l.getD q 0#32)+(v.l.getD q 0#32))]]]) (λ_=>True)|_=>λ_ _=>False) 11 [[],[],[],[1,2],[3],[],[],[5,6],[7],[4,8],[9]] [y,hvv,jv (q:Int),slAddr hvv (q*1),wv (hv.l.getD q 0#32),z,jv (q:Int),slAddr z (q*1),wv (v.l.getD q 0#32),wv ((hv.l.getD q 0#32)+(v.l.getD q 0#32)),undef] Y U ?_ ?_ ?_
  ·exact BO<|hqv (au rfl)<|hqv (au rfl)<|hqv (au rfl)<|hqw (λU=>(ai (i:=(q:Int)) (sT:=207) (U.arg hhv) rfl rfl (runUnderlying207 _) (sizeOf206 _) om BP).as (v':=slAddr hvv (q*1)) rfl)<|hqw (λU=>aA (u:=wv (hv.l.getD q 0#32)) (i:=q) (j:=0) (U.arg hhv) BP rfl (isAgg206 _) Cs)<|hqv (au rfl)<|hqv (au rfl)<|hqw (λU=>(ai (i:=(q:Int)) (sT:=207) (U.ow 1 rfl) rfl rfl (runUnderlying207 _) (sizeOf206 _) om BP).as (v':=slAddr z (q*1)) rfl)<|
    hqw (λU=>aA (u:=wv (v.l.getD q 0#32)) (i:=q) (j:=0) (U.ow 1 rfl) BP rfl (isAgg206 _) Cs)<|hqv (cZ rfl rfl)<|BM (λh=>absurd sm h)<|BN
  ·intro i hi
   simp only[zY,Ab,As] at hi
   subst hi
   ·intro w U
    exact bP (E:=206) (sz:=1) O [[wv ((hv.l.getD q 0#32)+(v.l.getD q 0#32))]] (λ_=>by kernel_rfl) sm O de
  clear Y U
  rintro _ _ ⟨b11,rfl, -,rfl⟩ a w25 Y U
  replace Y:=Y.p6 225 235 0 4 11 18 O
  replace U:=U.n3 O
  refine ab<|aJ (k:=11) 13 [12] ?_
  refine aY (i:=1) (sT:=207) (inf:=Tryz.t206) (z:=wv (0#32)) (b:=0) (off:=0) (m:=0) (c:=0) O O O (U.ow 0 O) sm underlying207 O O O O de BS B2 B2 de Y U λa w26 s12 Y U _=>wla Y O λa Y=>ab<|aR<|G32 ?_
  replace U:=U.k2 6 O
  refine aj<|nv (Y.p5 0 4 11 18 17 O)<|zN O<|zM (aL O O ⟨om,om⟩)<|zO O<|λa Y=>ab ?_
  rw[show (((hv.add v).l.take q).map λx=>[wv x])++([[wv ((hv.l.getD q 0#32)+(v.l.getD q 0#32))]])=(((hv.add v).l.take (q+1)).map λx=>[wv x]) from by rw[wJ hv v om]; simp] at U
  refine⟨_,?_,q+1,s12,O,om,Y.pick [0,4,11,17,18],U.select [0,1] de⟩
  omega
 refine aP<|G28<|aa λ_ G33=>nv Y<|zN O<|zO O<|λa Y=>G33 ?_
 replace Y:=Y.p1 4 O
 refine aq<|am Y results144 (ae O ag) ?_
 obtain rfl:q=8:=by omega
 exact⟨y,O,trivial,U.ext,St.out (E:=[own y 206 1 (((block hv bs).l).map λx=>[wv x])]) (H:=[]) (by rw[block,hrv]; exact U.select [0] de)⟩
theorem wA (v:W8) {q:Nat} (h:q<8):v.out.take (4*(q+1))=v.out.take (4*q)++[UInt8.ofNat (v.l.getD q 0#32 >>> 24).toNat,UInt8.ofNat (v.l.getD q 0#32 >>> 16).toNat,UInt8.ofNat (v.l.getD q 0#32 >>> 8).toNat,UInt8.ofNat (v.l.getD q 0#32).toNat]:=by
 have:q=0∨q=1∨q=2∨q=3∨q=4∨q=5∨q=6∨q=7:=by omega
 rcases this with rfl|rfl|rfl|rfl|rfl|rfl|rfl|rfl<;>simp[W8.out,W8.l,sL]
theorem oF (s:By) (w0:World) (hs:s.length≤100000000):
  Ret Tryz.prog 96 #[sv s] w0 λv w=>v=sv (sha s)∧Ext No w0 w:=by
 have hpb:=ja s
 refine BG func96 O ntmps96 (lb O) λa Y U=>?_
 refine aa λ_ G1=>wla Y O λa Y=>G1<|aa λ_ G2=>?_
 refine aD (E:=206) (sz:=1) O [[wv (1779033703#32)],[wv (3144134277#32)],[wv (1013904242#32)],[wv (2773480762#32)],[wv (1359893119#32)],[wv (2600822924#32)],[wv (528734635#32)],[wv (1541459225#32)]] kr sm O de de Y U λa w1 Y U=>wla Y O λa Y=>G2<|aa λ_ G3=>?_
 refine wlm Y O λa Y=>bf Y U call143 O (qx s _ hs) λa w2 x1 hp Y U=>?_
 revert x1 hp Y U; rintro bz hp Y U
 clear hp
 replace U:=U.n2 O
 refine wla Y O λa Y=>G3<|ah λ_ G4=>?_
 refine aa λ_ G5=>wla Y O λa Y=>G5<|aw ?_
 replace U:=U.n2 O
 refine aZ (λm a w=>∃(q:Nat) (hz:Value),m=(padded s).length / 64- q∧(q≤(padded s).length / 64)∧Fr 56 [(2,sv ([])),(4,bz),(3,hz),(5,jv ((64*q:Nat):Int))] [] a∧St No w0 [own hz 206 1 (((blocks h0 (padded s) q).l).map λx=>[wv x]),own bz 5 1 ((padded s).map λb=>[yv b])] w) _ ⟨0,(.slice (some ⟨w0.hz,0,none⟩) 8 8),O,Ah _,Y.pick [2,4,3,5],U.select [1,0] de⟩ ?_
 rintro _ a w3 ⟨q,hz,rfl,hq,Y,U⟩
 refine ah λ_ G6=>aa λ_ G7=>nv Y<|zN O<|zN O<|zM ((aK (sT:=60) (U.ow 1 O) O O (runUnderlying60 _)).asi (m':=((padded s).length:Int)) B9)<|zM (v_lt O O)<|λa Y=>G7<|az Y O (λhc2=>?_) (λhc2=>?_)
 ·have hpl:=iG s
  refine ar<|G6<|ah λ_ G8=>aw<|aj<|nv Y<|zN O<|zN O<|zN O<|zN O<|zM (aL O O ⟨om,om⟩)<|zM (cd (l:=(64*q)) (h:=(64*q+64)) (U.ow 1 O) O O O underlying60 kr (.inr (by first|rfl|(rw[show (((64*q:Nat):Int):Int)=(((64*q):Nat):Int) from by omega]<;>rfl))) (.inr (by first|rfl|(rw[show (((64*q:Nat):Int)+64:Int)=(((64*q+64):Nat):Int) from by omega]<;>rfl))) om B5)<|λa Y=>bf Y U call144 O (uh hz (cut bz 1 (64*q) (64*q+64) (slCap bz)) (blocks h0 (padded s) q) (((padded s).drop (64*q)).take 64) _ (U.ow 0 O) (by have h:=((U.ow 1 O).cutm (l:=(64*q)) (h:=(64*q+64)) om (by first|omega|(simp; omega))); rwa [show 64*q+64- 64*q=64 from by omega] at h) Cm) λa w4 x4 hp Y U=>?_
  revert x4 hp Y U; rintro v3 hp Y U
  clear hp
  replace U:=U.n3 O
  refine wla Y O λa Y=>ab<|G8 ?_
  refine aj<|nv (Y.p4 2 4 5 3 O)<|zN O<|zM (aL O O ⟨om,om⟩)<|zO O<|λa Y=>ab ?_
  replace U:=U.n3 O
  rw[show ((64*q:Nat):Int)+64=((64*(q+1):Nat):Int) from by omega] at Y
  refine⟨_,?_,q+1,v3,O,om,Y.pick [2,4,3,5],U.select [0,2] de⟩
  omega
 have hpl:=iG s
 obtain rfl:q=(padded s).length / 64:=by omega
 refine aP<|G4<|aa λ_ G9=>wla Y O λa Y=>G9 ?_
 refine ah λ_ G10=>aa λ_ G11=>wla (Y.p3 2 3 6 O) O λa Y=>G11<|aw ?_
 replace U:St No w0 [own (.slice none 0 0) 5 1 (((blocks h0 (padded s) ((padded s).length / 64)).out.take (4*0)).map λb=>[yv b]),own hz 206 1 (((blocks h0 (padded s) ((padded s).length / 64)).l).map λx=>[wv x]),own bz 5 1 ((padded s).map λb=>[yv b])] w3:=U.nil_own
 refine aZ (λm a w=>∃(r:Nat) (oz:Value),m=8- r∧(r≤8)∧Fr 56 [(2,sv ([])),(3,hz),(6,oz),(7,jv (r:Int))] [] a∧St No w0 [own oz 5 1 (((blocks h0 (padded s) ((padded s).length / 64)).out.take (4*r)).map λb=>[yv b]),own hz 206 1 (((blocks h0 (padded s) ((padded s).length / 64)).l).map λx=>[wv x])] w) _ ⟨0,.slice none 0 0,O,Ah _,Y.pick [2,3,6,7],U.select [0,1] de⟩ ?_
 rintro _ a w5 ⟨r,oz,rfl,hr,Y,U⟩
 refine ah λ_ G12=>aa λ_ G13=>nv Y<|zN O<|zM (v_lt O O)<|λa Y=>G13<|az Y O (λhc5=>?_) (λhc5=>?_)
 ·refine ar<|G12<|ah λ_ G14=>aw<|aH (aI λw6 hxz=>?_)
  replace U:=U.grow hxz
  refine aQ (k:=0) 25 [0,24] Y ?_
  replace Y:=Y.p5 2 3 6 7 24 O
  refine bn [24] (λi=>match i with|24=>pm (λb:Nat=>.slice (some ⟨b,0,none⟩) 4 4) (λb=>[own (.slice (some ⟨b,0,none⟩) 4 4) 5 1 [[yv (UInt8.ofNat (((blocks h0 (padded s) ((padded s).length / 64)).l.getD r 0#32) >>> 24).toNat)],[yv (UInt8.ofNat (((blocks h0 (padded s) ((padded s).length / 64)).l.getD r 0#32) >>> 16).toNat)],[yv (UInt8.ofNat (((blocks h0 (padded s) ((padded s).length / 64)).l.getD r 0#32) >>> 8).toNat)],[yv (UInt8.ofNat ((blocks h0 (padded s) ((padded s).length / 64)).l.getD r 0#32).toNat)]]]) (λ_=>True)|_=>λ_ _=>False) 25 [[],[],[],[1,2],[3],[4],[5],[],[],[7,8],[9],[10],[11],[],[],[13,14],[15],[16],[17],[],[],[19,20],[21],[22],[6,12,18,23]] [oz,hz,jv (r:Int),slAddr hz (r*1),wv ((blocks h0 (padded s) ((padded s).length / 64)).l.getD r 0#32),wv (((blocks h0 (padded s) ((padded s).length / 64)).l.getD r 0#32) >>> 24),yv (UInt8.ofNat (((blocks h0 (padded s) ((padded s).length / 64)).l.getD r 0#32) >>> 24).toNat),hz,jv (r:Int),slAddr hz (r*1),wv ((blocks h0 (padded s) ((padded s).length / 64)).l.getD r 0#32),wv (((blocks h0 (padded s) ((padded s).length / 64)).l.getD r 0#32) >>> 16),yv (UInt8.ofNat (((blocks h0 (padded s) ((padded s).length / 64)).l.getD r 0#32) >>> 16).toNat),hz,jv (r:Int),slAddr hz (r*1),wv ((blocks h0 (padded s) ((padded s).length / 64)).l.getD r 0#32),wv (((blocks h0 (padded s) ((padded s).length / 64)).l.getD r 0#32) >>> 8),yv (UInt8.ofNat (((blocks h0 (padded s) ((padded s).length / 64)).l.getD r 0#32) >>> 8).toNat),hz,jv (r:Int),slAddr hz (r*1),wv ((blocks h0 (padded s) ((padded s).length / 64)).l.getD r 0#32),yv (UInt8.ofNat ((blocks h0 (padded s) ((padded s).length / 64)).l.getD r 0#32).toNat),undef] Y U ?_ ?_ ?_
  ·exact BO<|hqv (au rfl)<|hqv (au rfl)<|hqv (au rfl)<|hqw (λU=>(ai (i:=(r:Int)) (sT:=207) (U.ow 1 rfl) rfl rfl (runUnderlying207 _) (sizeOf206 _) om Cj).as (v':=slAddr hz (r*1)) rfl)<|hqw (λU=>aA (u:=wv ((blocks h0 (padded s) ((padded s).length / 64)).l.getD r 0#32)) (i:=r) (j:=0) (U.ow 1 rfl) Cj rfl (isAgg206 _) Cs)<|hqv (fB (n:=24) rfl rfl)<|hqv (fG rfl kr underlying5)<|hqv (au rfl)<|hqv (au rfl)<|hqw (λU=>(ai (i:=(r:Int)) (sT:=207) (U.ow 1 rfl) rfl rfl (runUnderlying207 _) (sizeOf206 _) om Cj).as (v':=slAddr hz (r*1)) rfl)<|
    hqw (λU=>aA (u:=wv ((blocks h0 (padded s) ((padded s).length / 64)).l.getD r 0#32)) (i:=r) (j:=0) (U.ow 1 rfl) Cj rfl (isAgg206 _) Cs)<|hqv (fB (n:=16) rfl rfl)<|hqv (fG rfl kr underlying5)<|hqv (au rfl)<|hqv (au rfl)<|hqw (λU=>(ai (i:=(r:Int)) (sT:=207) (U.ow 1 rfl) rfl rfl (runUnderlying207 _) (sizeOf206 _) om Cj).as (v':=slAddr hz (r*1)) rfl)<|hqw (λU=>aA (u:=wv ((blocks h0 (padded s) ((padded s).length / 64)).l.getD r 0#32)) (i:=r) (j:=0) (U.ow 1 rfl) Cj rfl (isAgg206 _) Cs)<|hqv (fB (n:=8) rfl rfl)<|hqv (fG rfl kr underlying5)<|hqv (au rfl)<|hqv (au rfl)<|
    hqw (λU=>(ai (i:=(r:Int)) (sT:=207) (U.ow 1 rfl) rfl rfl (runUnderlying207 _) (sizeOf206 _) om Cj).as (v':=slAddr hz (r*1)) rfl)<|hqw (λU=>aA (u:=wv ((blocks h0 (padded s) ((padded s).length / 64)).l.getD r 0#32)) (i:=r) (j:=0) (U.ow 1 rfl) Cj rfl (isAgg206 _) Cs)<|hqv (fG rfl kr underlying5)<|BM (λh=>absurd sm h)<|BN
  ·intro i hi
   simp only[zY,Ab,As] at hi
   subst hi
   ·intro w U
    exact bP (E:=5) (sz:=1) O [[yv (UInt8.ofNat (((blocks h0 (padded s) ((padded s).length / 64)).l.getD r 0#32) >>> 24).toNat)],[yv (UInt8.ofNat (((blocks h0 (padded s) ((padded s).length / 64)).l.getD r 0#32) >>> 16).toNat)],[yv (UInt8.ofNat (((blocks h0 (padded s) ((padded s).length / 64)).l.getD r 0#32) >>> 8).toNat)],[yv (UInt8.ofNat ((blocks h0 (padded s) ((padded s).length / 64)).l.getD r 0#32).toNat)]] (λ_=>by kernel_rfl) sm O de
  clear Y U
  rintro _ _ ⟨b6,rfl, -,rfl⟩ a w7 Y U
  replace Y:=Y.p5 28 52 2 3 7 O
  replace U:=U.n3 O
  refine ab<|aJ (k:=25) 27 [26] ?_
  refine aY (i:=1) (sT:=60) (inf:=Tryz.t5) (z:=yv (0:UInt8)) (b:=0) (off:=0) (m:=0) (c:=0) O O O (U.ow 0 O) sm underlying60 O O O O de BS Dd Dd de Y U λa w8 s7 Y U _=>wla Y O λa Y=>ab<|aR<|G14 ?_
  replace U:=U.k2 6 O
  refine aj<|nv (Y.p4 2 3 7 6 O)<|zN O<|zM (aL O O ⟨om,om⟩)<|zO O<|λa Y=>ab ?_
  rw[show (((blocks h0 (padded s) ((padded s).length / 64)).out.take (4*r)).map λb=>[yv b])++([[yv (UInt8.ofNat (((blocks h0 (padded s) ((padded s).length / 64)).l.getD r 0#32) >>> 24).toNat)],[yv (UInt8.ofNat (((blocks h0 (padded s) ((padded s).length / 64)).l.getD r 0#32) >>> 16).toNat)],[yv (UInt8.ofNat (((blocks h0 (padded s) ((padded s).length / 64)).l.getD r 0#32) >>> 8).toNat)],[yv (UInt8.ofNat ((blocks h0 (padded s) ((padded s).length / 64)).l.getD r 0#32).toNat)]])=(((blocks h0 (padded s) ((padded s).length / 64)).out.take (4*(r+1))).map λb=>[yv b]) from by rw[wA _ om]; simp] at U
  refine⟨_,?_,r+1,s7,O,om,Y.pick [2,3,6,7],U.select [0,1] de⟩
  omega
 obtain rfl:r=8:=by omega
 rw[show 4*8=32 from rfl,AZ (by rw[kE]; decide)] at U
 refine aP<|G10<|aa λ_ G15=>nv Y<|zN O<|zM (eY (U.ow 0 O) O underlying60 underlying5 underlying9)<|zO O<|λa Y=>G15 ?_
 replace Y:=Y.p1 2 O
 refine aq<|am Y results96 (ae O ag) ?_
 exact⟨by rfl,U.ext⟩
theorem lG (s:By) (w0:World) (hs:s.length≤40000000):
  Ret Tryz.prog 36 #[sv s] w0 λv w=>v=sv (leafH sha s)∧Ext No w0 w:=by
 refine BG func36 O ntmps36 (lb O) λa Y U=>?_
 refine aa λ_ G1=>wla Y O λa Y=>G1<|aa λ_ G2=>?_
 refine nv Y<|zN O<|zM (dI O O DI)<|λa Y=>ax Y U call96 O (oF (([0])++s) _ (by simp only[zS,z7,Aa]; omega)) λa w1 Y U=>wla Y O λa Y=>G2<|aq ?_
 refine am Y results36 (ae O ag) ?_
 exact⟨by rfl,U.ext⟩
theorem lK (s t:By) (w0:World) (hs:s.length≤40000000) (ht:t.length≤40000000):
  Ret Tryz.prog 175 #[sv s,sv t] w0 λv w=>v=sv (nodeH sha s t)∧Ext No w0 w:=by
 refine BF func175 O ntmps175 (lb O) λa Y U=>?_
 refine aa λ_ G1=>wla Y O λa Y=>G1<|aa λ_ G2=>?_
 refine nv Y<|zN O<|zM (dI O O DI)<|zN O<|zM (dI O O DI)<|λa Y=>ax Y U call96 O (oF ((([1])++s)++t) _ (by simp only[zS,z7,Aa]; omega)) λa w1 Y U=>wla Y O λa Y=>G2 ?_
 replace Y:=Y.p1 4 O
 refine aq<|am Y results175 (ae O ag) ?_
 exact⟨by rfl,U.ext⟩
theorem qC {l:List By} (h:l.length=1):rootH sha l=leafH sha (l.getD 0 []):=by
 match l,h with
 | [x],_=>rfl
theorem lf (L:Nat):
  ∀(lv:Value) (ls:List By) (w0:World),ls.length=L→SlAt w0 lv 1 (ls.map λs=>[sv s])→ls.length≤1000→(∀s∈ls,s.length≤40000000)→Ret Tryz.prog 155 #[lv] w0 λv w=>v=sv (rootH sha ls)∧Ext No w0 w:=by
 induction L using Nat.strongRecOn
 rename_i L ih
 intro lv ls w0 hL hlv hln hls
 have hnb:=hlv.le
 rw[zR] at hnb
 refine BG func155 O ntmps155 (lb O) λa Y U=>?_
 refine aa λ_ G1=>wla Y O λa Y=>G1<|ah λ_ G2=>?_
 refine aa λ_ G3=>nv Y<|zN O<|zM ((aK (sT:=44) (U.arg hlv) O O (runUnderlying44 _)).asi (m':=(ls.length:Int)) sm)<|zM (v_eq O O)<|λa Y=>G3<|az Y O (λhc1=>?_) (λhc1=>?_)
 ·refine aa λ_ G4=>ax Y U call96 O (oF [] _ sm) λa w1 Y U=>wla Y O λa Y=>G4<|aq ?_
  refine am Y results155 (ae O ag) ?_
  exact⟨by simp only[retv]; rw[show ls=[] from AC om]; rfl,U.ext⟩
 refine ar<|G2<|ah λ_ G5=>aa λ_ G6=>nv Y<|zN O<|zM ((aK (sT:=44) (U.arg hlv) O O (runUnderlying44 _)).asi (m':=(ls.length:Int)) sm)<|zM (v_eq O O)<|λa Y=>G6<|az Y O (λhc2=>?_) (λhc2=>?_)
 ·have hx:=hls _ (bC (d:=[]) (show 0<ls.length by omega))
  refine aa λ_ G7=>nv Y<|zN O<|zM ((ai (i:=0) (sT:=44) (U.arg hlv) O O (runUnderlying44 _) (sizeOf9 _) om BQ).as (v':=slAddr lv (0*1)) O)<|zM (aA (u:=sv (ls.getD 0 [])) (i:=0) (j:=0) (U.arg hlv) BQ O (isAgg9 _) (by simp[z6,z8 (show 0<ls.length by omega)]))<|λa Y=>?_
  refine ax Y U call36 O (lG (ls.getD 0 []) _ om) λa w2 Y U=>wla Y O λa Y=>G7 ?_
  replace Y:=Y.p2 0 2 O
  refine aq<|am Y results155 (ae O ag) ?_
  exact⟨by simp only[retv]; rw[qC om]; try rfl,U.ext⟩
 have hlt:=eW (n:=ls.length) om
 have hlp:=ea ls.length
 refine ar<|G5<|aa λ_ G8=>nv Y<|zN O<|zM ((aK (sT:=44) (U.arg hlv) O O (runUnderlying44 _)).asi (m':=(ls.length:Int)) sm)<|λa Y=>ax Y U call157 O (qq ls.length _ om om) λa w3 Y U=>wla Y O λa Y=>G8 ?_
 replace Y:=Y.p3 0 2 3 O
 refine ah λ_ G9=>aH (aI λw4 hxz=>?_)
 replace U:=U.grow hxz
 refine aQ (k:=0) 7 [3,6] Y ?_
 replace Y:=Y.p3 0 2 3 O
 refine bI 7 Y U<|pl_m O<|pl_m O<|pl_w (λU=>cd (l:=0) (h:=(lft ls.length)) (U.arg hlv) O O O underlying44 kr (.inl ⟨O,O⟩) (.inr Cd) (Ah _) B5)<|pl_r (λU=>bD call155 O (ih _ Ce (cut lv 1 0 (lft ls.length) (slCap lv)) (ls.take (lft ls.length)) _ O ((U.arg hlv).cut0 (h:=(lft ls.length)) BZ) Ce (λs h=>hls s (AF h))))<|pl_m O<|pl_m O ?_
 refine pl_w (λU=>cd (l:=(lft ls.length)) (h:=ls.length) (U.arg hlv) O O O underlying44 kr (.inr Cd) (.inl ⟨O,by simp⟩) om sm) λa w5 Y U=>?_
 replace Y:=Y.p2 21 24 O
 refine ab<|aJ (k:=7) 10 [9] ?_
 refine ax Y U call155 O (ih _ Ce (cut lv 1 (lft ls.length) ls.length (slCap lv)) (ls.drop (lft ls.length)) _ O ((U.arg hlv).cutd (l:=(lft ls.length)) BZ) Ce (λs h=>hls s (List.mem_of_mem_drop h))) λa w6 Y U=>ax Y U call175 O (lK (rootH sha (ls.take (lft ls.length))) (rootH sha (ls.drop (lft ls.length))) _ (by first|omega|(rw[eg dw]; decide)) (by first|omega|(rw[eg dw]; decide))) λa w7 Y U=>wla Y O λa Y=>ab<|aR<|G9<|aq<|am Y results155 (ae O ag) ?_
 exact⟨by simp only[retv]; rw[←gK sha om]; try rfl,U.ext⟩
theorem j3 {l:List By} {i:Nat} (h:l.length≤1000):(proofH sha l i).length≤10:=m7 _ l i 10 rfl om
theorem mw (L:Nat):
  ∀(lv:Value) (ls:List By) (i:Nat) (w0:World),ls.length=L→SlAt w0 lv 1 (ls.map λs=>[sv s])→i<ls.length→ls.length≤1000→(∀s∈ls,s.length≤40000000)→Ret Tryz.prog 112 #[lv,jv (i:Int)] w0 (MemR w0 (λv:Value=>.tuple #[v,jv 0]) (λv=>[own v 9 1 ((proofH sha ls i).map λs=>[sv s])]) (λ_=>True)):=by
 induction L using Nat.strongRecOn
 rename_i L ih
 intro lv ls i w0 hL hlv hi hln hls
 have hnb:=hlv.le
 rw[zR] at hnb
 refine BF func112 O ntmps112 (lb O) λa Y U=>?_
 refine aa λ_ G1=>nv Y<|zO O<|zO O<|λa Y=>G1<|ah λ_ G2=>?_
 refine aa λ_ G3=>nv Y<|zN O<|zM (v_lt O O)<|zN O<|λa Y=>?_
 rcases Decidable.em ((i:Int)<0) with hb1|hb1
 ·rw[zU hb1] at Y
  omega
 rw[zW hb1] at Y
 refine nv Y<|zP (au O)<|zP (au O)<|zP ((aK (sT:=44) (U.arg hlv) O O (runUnderlying44 _)).asi (m':=(ls.length:Int)) sm)<|zP (v_ge O O)<|zM (al O O)<|λa Y=>G3 ?_
 replace Y:=Y.p5 0 1 4 5 18 O
 refine az Y O (λhc2=>?_) (λhc2=>?_)
 ·omega
 refine ar<|G2<|ah λ_ G4=>aa λ_ G5=>nv Y<|zN O<|zM ((aK (sT:=44) (U.arg hlv) O O (runUnderlying44 _)).asi (m':=(ls.length:Int)) sm)<|zM (v_eq O O)<|λa Y=>G5<|az Y O (λhc3=>?_) (λhc3=>?_)
 ·refine aa λ_ G6=>nv Y<|zO O<|zO O<|λa Y=>G6<|aq ?_
  refine am Y results112 (ae O (ae O ag)) ?_
  have hW:=eS sha (l:=ls) (i:=i) om
  replace U:St No w0 [own (.slice none 0 0) 9 1 (([]:List By).map λs=>[sv s])] w0:=U.nil_own
  refine⟨.slice none 0 0,O,trivial,U.ext,St.out (E:=[own (.slice none 0 0) 9 1 ((proofH sha ls i).map λs=>[sv s])]) (H:=[]) ?_⟩
  rw[show ((proofH sha ls i).map λs=>[sv s])=(([]:List By).map λs=>[sv s]) from by first|(rw[hW]; done)|(rw[hW]; simp)]
  exact U.select [0] de
 have hlt:=eW (n:=ls.length) om
 have hlp:=ea ls.length
 refine ar<|G4<|aa λ_ G7=>nv Y<|zN O<|zM ((aK (sT:=44) (U.arg hlv) O O (runUnderlying44 _)).asi (m':=(ls.length:Int)) sm)<|λa Y=>ax Y U call157 O (qq ls.length _ om om) λa w1 Y U=>wla Y O λa Y=>G7 ?_
 replace Y:=Y.p5 0 1 4 5 6 O
 refine ah λ_ G8=>aa λ_ G9=>nv Y<|zN O<|zN O<|zM (v_lt O O)<|λa Y=>G9<|az Y O (λhc4=>?_) (λhc4=>?_)
 ·refine aa λ_ G10=>nv Y<|zN O<|zN O<|zM (cd (l:=0) (h:=(lft ls.length)) (U.arg hlv) O O O underlying44 kr (.inl ⟨O,O⟩) (.inr Cd) (Ah _) B5)<|zN O<|λa Y=>bf Y U call112 O (ih _ Ce (cut lv 1 0 (lft ls.length) (slCap lv)) (ls.take (lft ls.length)) i _ O ((U.arg hlv).cut0 (h:=(lft ls.length)) BZ) Ce Ce (λs h=>hls s (AF h))) λa w2 x6 hp Y U=>?_
  revert x6 hp Y U; rintro v5 hp Y U
  clear hp
  replace U:=U.n1 O
  have hpl:=j3 (l:=(ls.take (lft ls.length))) (i:=i) Ce
  refine nv Y<|zN O<|zM (ak O O)<|zM (ak O O)<|zO O<|zO O<|λa Y=>G10 ?_
  refine aa λ_ G11=>nv (Y.p6 0 1 4 5 6 7 O)<|zN O<|zN O<|zN O<|zM (cd (l:=(lft ls.length)) (h:=ls.length) (U.arg hlv) O O O underlying44 kr (.inr Cd) (.inl ⟨O,by simp⟩) om sm)<|λa Y=>ax Y U call155 O (lf _ (cut lv 1 (lft ls.length) ls.length (slCap lv)) (ls.drop (lft ls.length)) _ O ((U.arg hlv).cutd (l:=(lft ls.length)) BZ) Ce (λs h=>hls s (List.mem_of_mem_drop h))) λa w3 Y U=>aD (E:=9) (sz:=1) O [[sv (rootH sha (ls.drop (lft ls.length)))]] kr sm O de de Y U λa w4 Y U=>?_
  refine aY (i:=1) (sT:=44) (inf:=Tryz.t9) (z:=.string (⟨#[]⟩)) (b:=0) (off:=0) (m:=0) (c:=0) O O O (U.ow 0 O) sm underlying44 O O O O de BS B7 B7 de Y U λa w5 s7 Y U _=>nv Y<|zO O<|zO O<|λa Y=>G11 ?_
  replace Y:=Y.p5 0 1 6 4 5 O
  replace U:=U.k1 2 O
  refine aq<|am Y results112 (ae O (ae O ag)) ?_
  have hW:=(dU sha (l:=ls) (i:=i) om).trans (Am om)
  refine⟨s7,O,trivial,U.ext,St.out (E:=[own s7 9 1 ((proofH sha ls i).map λs=>[sv s])]) (H:=[]) ?_⟩
  rw[show ((proofH sha ls i).map λs=>[sv s])=((proofH sha ((ls.take (lft ls.length))) i).map λs=>[sv s])++([[sv (rootH sha (ls.drop (lft ls.length)))]]) from by first|(rw[hW]; done)|(rw[hW]; simp)]
  exact U.select [0] de
 refine ar<|G8<|aa λ_ G12=>nv Y<|zN O<|zN O<|zM (cd (l:=(lft ls.length)) (h:=ls.length) (U.arg hlv) O O O underlying44 kr (.inr Cd) (.inl ⟨O,by simp⟩) om sm)<|zN O<|zN O<|zM ((bJ O O ⟨om,om⟩).asi (m':=((i- lft ls.length:Nat):Int)) om)<|λa Y=>bf Y U call112 O (ih _ Ce (cut lv 1 (lft ls.length) ls.length (slCap lv)) (ls.drop (lft ls.length)) (i- lft ls.length) _ O ((U.arg hlv).cutd (l:=(lft ls.length)) BZ) Ce Ce (λs h=>hls s (List.mem_of_mem_drop h))) λa w6 x9 hp Y U=>?_
 revert x9 hp Y U; rintro v8 hp Y U
 clear hp
 replace U:=U.n1 O
 have hpl:=j3 (l:=(ls.drop (lft ls.length))) (i:=(i- lft ls.length)) Ce
 refine nv Y<|zN O<|zM (ak O O)<|zM (ak O O)<|zO O<|zO O<|λa Y=>G12 ?_
 refine aa λ_ G13=>nv (Y.p5 0 4 5 6 9 O)<|zN O<|zN O<|zN O<|zM (cd (l:=0) (h:=(lft ls.length)) (U.arg hlv) O O O underlying44 kr (.inl ⟨O,O⟩) (.inr Cd) (Ah _) B5)<|λa Y=>ax Y U call155 O (lf _ (cut lv 1 0 (lft ls.length) (slCap lv)) (ls.take (lft ls.length)) _ O ((U.arg hlv).cut0 (h:=(lft ls.length)) BZ) Ce (λs h=>hls s (AF h))) λa w7 Y U=>aD (E:=9) (sz:=1) O [[sv (rootH sha (ls.take (lft ls.length)))]] kr sm O de de Y U λa w8 Y U=>?_
 refine aY (i:=1) (sT:=44) (inf:=Tryz.t9) (z:=.string (⟨#[]⟩)) (b:=0) (off:=0) (m:=0) (c:=0) O O O (U.ow 0 O) sm underlying44 O O O O de BS B7 B7 de Y U λa w9 s10 Y U _=>nv Y<|zO O<|zO O<|λa Y=>G13 ?_
 replace Y:=Y.p2 4 5 O
 replace U:=U.k1 2 O
 refine aq<|am Y results112 (ae O (ae O ag)) ?_
 have hW:=(dU sha (l:=ls) (i:=i) om).trans (Ai om)
 refine⟨s10,O,trivial,U.ext,St.out (E:=[own s10 9 1 ((proofH sha ls i).map λs=>[sv s])]) (H:=[]) ?_⟩
 rw[show ((proofH sha ls i).map λs=>[sv s])=((proofH sha ((ls.drop (lft ls.length))) (i- lft ls.length)).map λs=>[sv s])++([[sv (rootH sha (ls.take (lft ls.length)))]]) from by first|(rw[hW]; done)|(rw[hW]; simp)]
 exact U.select [0] de
theorem vG {f z:Nat} (h:z<128 ^ (f+1)) (hz:128≤z):∃g,f=g+1:=by
 cases f with
 | zero=>exfalso; simp at h; omega
 | succ g=>exact⟨g,rfl⟩
theorem oO {f z:Nat} (h:z<128 ^ (f+1+1)):z / 128<128 ^ (f+1):=by
 rw[Nat.pow_succ] at h
 exact Nat.div_lt_of_lt_mul (by rw[Nat.mul_comm]; exact h)
theorem yL {f z:Nat} (h:128≤z):vb (f+1) z=UInt8.ofNat (z%128+128)::vb f (z / 128):=by rw[vb,Ai om]
theorem xQ {f z:Nat} (h:z<128):vb f z=[UInt8.ofNat z]:=by cases f<;>simp[vb,h]
theorem rg {n:Int} (h:small n):zz n<128 ^ (8+1):=by
 have:=vw h.1 h.2
 have e:(128:Nat) ^ (8+1)=9223372036854775808:=by decide
 rw[e]; exact this
theorem xh {n:Int} (h:small n):zz n<18446744073709551616:=by have:=vw h.1 h.2; omega
def gs:Nat→Nat→List (UInt8 × Bool)
 | 0,z=>[(UInt8.ofNat (z%128),true)]
 | f+1,z=>if z<128 then[(UInt8.ofNat (z%128),true)] else (UInt8.ofNat (z%128),false)::gs f (z / 128)
def enc1 (x:UInt8 × Bool):UInt8:=if x.2 then x.1 else x.1 ||| 128
def encG (x:UInt8 × Bool):List Value:=[yv x.1,.bool x.2]
def NxG (pre:List (UInt8 × Bool)) (x:UInt8 × Bool):Prop:=pre.length<9
theorem yD {f z:Nat} (h:¬z<128):gs (f+1) z=(UInt8.ofNat (z%128),false)::gs f (z / 128):=by rw[gs,Ai h]
theorem xM {f z:Nat} (h:z<128):gs f z=[(UInt8.ofNat (z%128),true)]:=by cases f<;>simp[gs,h]
theorem or128:∀k,k<128→UInt8.ofNat k ||| 128=UInt8.ofNat (k+128):=by decide
theorem y9:∀(f z:Nat),z<128 ^ (f+1)→(gs f z).map enc1=vb f z
 | 0,z,h=>by simp[gs,vb,enc1] at h⊢; rw[Nat.mod_eq_of_lt h]
 | f+1,z,h=>by
  unfold gs vb
  split
  ·rename_i h1
   simp[enc1,Nat.mod_eq_of_lt h1]
  ·rw[AP,y9 f _ (oO h),enc1]
   simp only[BA,if_false]
   rw[or128 _ (Nat.mod_lt _ de)]
def cu (n:Int):Nat:=(n%18446744073709551616).toNat
theorem v_zz {P:Program} {w:World} {L:List (Nat × Value)} {dst:Option Tmp} {T T' ty:TypeId} {pos:String} {af:Array Edge} {gd:Option (Nat × Bool)} {x y:Operand} {n:Int} (hs:small n)
  (hx:ev L x=some (.int .u64 ((cu n*2%18446744073709551616:Nat):Int))) (hy:ev L y=some (.int .u64 ((cu (if n<0 then-1 else 0):Nat):Int))):OpV P ⟨dst,.binOp .xor T x y T',ty,pos,af,gd⟩ L w (.int .u64 ((zz n:Nat):Int)):=by
 have h1:=hs.1
 have h2:=hs.2
 by_cases hn:n<0
 ·rw[Am hn] at hy
  have e:zz n=18446744073709551615- cu n*2%18446744073709551616:=by unfold zz cu; rw[Am hn]; omega
  rw[e]
  exact yN (Nat.mod_lt _ de) hx (by rw[hy]; rfl)
 ·rw[Ai hn] at hy
  have e:zz n=cu n*2%18446744073709551616:=by unfold zz cu; rw[Ai hn]; omega
  rw[e]
  exact yI (Nat.mod_lt _ de) hx (by rw[hy]; rfl)
theorem ud (n:Int) (w0:World) (hs:small n):
  Ret Tryz.prog 172 #[jv n] w0 λv w=>v=.int .u64 ((zz n:Nat):Int)∧Ext No w0 w:=by
 have hs1:=hs.1
 have hs2:=hs.2
 refine BG func172 O ntmps172 (lb O) λa Y U=>?_
 refine aa λ_ G1=>wla Y O λa Y=>G1<|ah λ_ G2=>?_
 refine aa λ_ G3=>nv Y<|zN O<|zM (v_lt O O)<|λa Y=>G3<|az Y O (λhc1=>?_) (λhc1=>?_)
 ·refine aa λ_ G4=>nv Y<|zN O<|zM (j2 O om om)<|zM ((eq O kr underlying190).asi (m':=(((-n).toNat:Nat):Int)) om)<|zM (uQ (m:=(-n).toNat) (n:=2) om O O)<|zM (vj (m:=((-n).toNat*2)) (n:=1) om om O O)<|zO O<|λa Y=>G4 ?_
  replace Y:=Y.p2 0 2 O
  refine aq<|am Y results172 (ae O ag) ?_
  refine⟨Ap (Value.int .u64) ?_,U.ext⟩
  unfold zz
  split<;>omega
 refine ar<|G2<|aa λ_ G5=>nv Y<|zN O<|zM ((eq O kr underlying190).asi (m':=(((n).toNat:Nat):Int)) om)<|zM (uQ (m:=(n).toNat) (n:=2) om O O)<|zO O<|λa Y=>G5 ?_
 replace Y:=Y.p1 2 O
 refine aq<|am Y results172 (ae O ag) ?_
 refine⟨Ap (Value.int .u64) ?_,U.ext⟩
 unfold zz
 split<;>omega
theorem dJ (n:Int) (w0:World) (hs:small n):
  Ret Tryz.prog 129 #[jv n] w0 λv w=>v=.tuple #[sv (putI n),jv 0]∧Ext No w0 w:=by
 refine BG func129 O ntmps129 (lb O) λa Y U=>?_
 refine aa λ_ G1=>nv Y<|zO O<|zO O<|λa Y=>G1<|ah λ_ G2=>?_
 refine aa λ_ G3=>nv Y<|zN O<|zM ((v_lt O O).asb (b':=false) (by rw[At]; have:=hs.1; omega))<|zN O<|zP (au O)<|zP ((v_gt O O).asb (b':=false) (by rw[At]; have:=hs.2; omega))<|zM (al O O)<|λa Y=>G3<|aG Y O ?_
 refine ar<|G2<|aa λ_ G4=>wlm Y O λa Y=>ax Y U call172 O (ud n _ hs) λa w1 Y U=>wla Y O λa Y=>G4 ?_
 refine aa λ_ G5=>wla (Y.p3 2 3 4 O) O λa Y=>G5<|ah λ_ G6=>?_
 refine aw ?_
 replace U:St No w0 [own (.slice none 0 0) 5 1 ((([]:By)).map λb=>[yv b])] w1:=U.nil_own
 refine aZ (λm a w=>∃(f:Nat) (z:Nat) (bs:By) (v:Value),m=f∧(bs++vb f z=putI n)∧(z<128 ^ (f+1))∧(bs.length+f=8)∧(z<18446744073709551616)∧Fr 31 [(2,sv ([])),(3,jv 0),(4,.int .u64 (z:Int)),(5,v)] [] a∧St No w0 [own v 5 1 ((bs).map λb=>[yv b])] w) _ ⟨8,zz n,[],.slice none 0 0,O,O,rg hs,O,xh hs,Y.pick [2,3,4,5],U⟩ ?_
 rintro _ a w2 ⟨f,z,bs,v,rfl,hb,hz,hl,hz6,Y,U⟩
 refine ah λ_ G7=>aa λ_ G8=>nv Y<|zN O<|zM (v_ge O O)<|λa Y=>G8<|az Y O (λhc1=>?_) (λhc1=>?_)
 ·obtain⟨g,rfl⟩:=vG hz om
  rw[yL om] at hb
  refine ar<|G7<|aw<|aa λ_ G9=>nv Y<|zN O<|zN O<|zM (ri (m:=z) (n:=128) om O O)<|zM (wa (m:=(z%128)) (n:=128) om O O)<|zM (jU (n:=((z%128)+128)) O kr underlying5)<|λa Y=>aD (E:=5) (sz:=1) O [[yv (UInt8.ofNat ((z%128)+128))]] kr sm O de de Y U λa w3 Y U=>aY (i:=1) (sT:=60) (inf:=Tryz.t5) (z:=yv (0:UInt8)) (b:=0) (off:=0) (m:=0) (c:=0) O O O (U.ow 0 O) sm underlying60 O O O O de BS CD CD de Y U λa w4 s2 Y U _=>?_
  rw[show ((bs).map λb=>[yv b])++([[yv (UInt8.ofNat ((z%128)+128))]])=((bs++[(UInt8.ofNat ((z%128)+128))]).map λb=>[yv b]) from by simp] at U
  refine wla Y O λa Y=>G9 ?_
  replace U:=U.k1 2 O
  refine aj<|nv (Y.p4 2 3 4 5 O)<|zN O<|zM (xa (m:=z) (n:=128) om om O O)<|zO O<|λa Y=>ab ?_
  refine⟨_,?_,g,z / 128,bs++[UInt8.ofNat (z%128+128)],s2,O,(by rw[Aw]; exact hb),(oO hz),(by rw[zS]; simp; omega),om,Y.pick [2,3,4,5],U⟩
  omega
 rw[xQ om] at hb
 refine aP<|G6<|aa λ_ G10=>nv Y<|zN O<|zN O<|zM (jU (n:=z) O kr underlying5)<|λa Y=>aD (E:=5) (sz:=1) O [[yv (UInt8.ofNat z)]] kr sm O de de Y U λa w5 Y U=>aY (i:=1) (sT:=60) (inf:=Tryz.t5) (z:=yv (0:UInt8)) (b:=0) (off:=0) (m:=0) (c:=0) O O O (U.ow 0 O) sm underlying60 O O O O de BS CD CD de Y U λa w6 s3 Y U _=>?_
 rw[show ((bs).map λb=>[yv b])++([[yv (UInt8.ofNat z)]])=((bs++[(UInt8.ofNat z)]).map λb=>[yv b]) from by simp] at U
 refine nv Y<|zM (eY (U.ow 1 O) O underlying60 underlying5 underlying9)<|zO O<|zO O<|λa Y=>G10 ?_
 replace Y:=Y.p2 2 3 O
 replace U:=U.k0 0 O
 refine aq<|am Y results129 (ae O (ae O ag)) ?_
 exact⟨by rw[←hb]; rfl,U.ext⟩
theorem uC (z:Nat) (w0:World):
  Ret Tryz.prog 115 #[.int .u64 (z:Int)] w0 (MemR w0 (λb:Nat=>.func (.func 162) #[] #[pq b]) (λb=>[blk b [.int .u64 (z:Int)] 190]) (λ_=>True)):=by
 refine BG func115 O ntmps115 (lb O) λa Y U=>?_
 refine aa λ_ G1=>aS Y U O [.int .u64 (z:Int)] O λa w1 Y U=>wla Y O λa Y=>G1<|aa λ_ G2=>?_
 refine nv Y<|zM (ck O O)<|zO O<|λa Y=>G2<|aq ?_
 refine am Y results115 (ae O ag) ?_
 exact⟨w0.hz,O,trivial,U.ext,St.out (H:=[]) U⟩
theorem qZ {M:Nat→Prop} {w0:World} (z0 lp bg:Nat) (J Jx:List (UInt8 × Bool)→Ent→Prop) (hY:Rounds Tryz.prog M w0 lp encG NxG J Jx) (e0:Ent) (ws:World) (hz0:z0<128 ^ (8+1)) (hz06:z0<18446744073709551616) (hJ:J [] e0) (U:St M w0 [e0,blk bg [.int .u64 (z0:Int)] 190] ws):
  Ret Tryz.prog 162 #[.func (.yield lp) #[] #[],pq bg] ws λ_ w=>∃e1 Hi1,St M w0 (e1::Hi1) w∧((∃xs,(xs=gs 8 z0∧∃z1:Nat,Hi1=[blk bg [.int .u64 (z1:Int)] 190])∧J xs e1)∨(∃pre,(∃z1:Nat,Hi1=[blk bg [.int .u64 (z1:Int)] 190])∧Jx pre e1)):=by
 refine aC func162 O ntmps162 (lb O) λa Y=>?_
 replace Y:=Y.p2 0 1 O
 skip
 refine aw<|aZ (λm a w=>∃(f:Nat) (z:Nat) (e:Ent) (dn:List (UInt8 × Bool)),m=f∧(dn++gs f z=gs 8 z0)∧(z<128 ^ (f+1))∧(dn.length+f=8)∧(z<18446744073709551616)∧(J dn e)∧Fr 18 [(0,.func (.yield lp) #[] #[]),(1,pq bg)] [] a∧St M w0 [e,blk bg [.int .u64 (z:Int)] 190] w) _ ⟨8,z0,e0,[],O,O,hz0,O,hz06,hJ,Y.pick [0,1],U⟩ ?_
 rintro _ a w1 ⟨f,z,e,dn,rfl,hg,hz,hl,hz6,hJ,Y,U⟩
 refine aw<|aa λ_ G1=>nv Y<|zM (ld U 1 O O (isAgg190 _) O)<|zM (v_lt O O)<|zO O<|λa Y=>G1<|ah λ_ G2=>?_
 refine aa λ_ G3=>nv Y<|zN O<|zM (ld U 1 O O (isAgg190 _) O)<|zM ((wY (m:=z) (k:=7) om om O O).asi (m':=((z%128:Nat):Int)) O)<|zM (jU (n:=(z%128)) O kr underlying5)<|zN O<|λa Y=>wl_r (f8 O O (hY.yield (pre:=dn) (x:=(UInt8.ofNat (z%128),decide ((z:Int)<128))) (by show dn.length<9; omega) hJ (U.only (i:=0) O))) O O Y λa v w2 hR Y=>?_
 obtain⟨y1,e2,rfl,hx,hok,hft,hJt,hJf⟩:=hR
 replace U:=U.exchange (k:=0) rfl hx hok hft
 replace U:=U.n2 O
 clear hx hok hft
 refine nv Y<|zM (bB O)<|zN O<|λa Y=>?_
 rcases zX (!y1) with hb3|hb3
 ·rw[hb3] at Y
  try simp only[qz] at hb3
  have hJ:=hJf hb3
  refine nv Y<|zQ<|zM (ay O O)<|λa Y=>G3 ?_
  replace Y:=Y.p3 0 1 15 O
  refine aM Y O ?_
  refine aq<|am Y results162 ag ?_
  first|exact⟨_,_,U,.inl ⟨_,⟨rfl,_,rfl⟩,hJ⟩⟩|exact⟨_,_,U,.inr ⟨_,⟨_,rfl⟩,hJ⟩⟩
 rw[hb3] at Y
 try simp only[qz] at hb3
 have hJ:=hJt hb3
 refine nv Y<|zP (au O)<|zM (al O O)<|λa Y=>G3 ?_
 replace Y:=Y.p3 0 1 15 O
 refine az Y O (λhc4=>?_) (λhc4=>?_)
 ·rw[zU hc4] at hJ
  rw[xM om] at hg
  rw[hg] at hJ
  refine aq<|am Y results162 ag ?_
  first|exact⟨_,_,U,.inl ⟨_,⟨rfl,_,rfl⟩,hJ⟩⟩|exact⟨_,_,U,.inr ⟨_,⟨_,rfl⟩,hJ⟩⟩
 rw[zW hc4] at hJ
 obtain⟨g,rfl⟩:=vG hz om
 rw[yD om] at hg
 refine ar<|G2<|aj<|nv Y<|zM (ld U 1 O O (isAgg190 _) O)<|zM ((qP (m:=z) (n:=7) om O O).asi (m':=((z / 128:Nat):Int)) O)<|λa Y=>aB 1 Y U [.int .u64 ((z / 128:Nat):Int)] O (sizeOf190 _) λa w3 Y U=>ab ?_
 refine⟨_,?_,g,z / 128,e2,dn++[(UInt8.ofNat (z%128),false)],O,(by rw[Aw]; exact hg),(oO hz),(by rw[zS]; simp; omega),om,hJ,Y.pick [0,1],U⟩
 omega
theorem pP {M:Nat→Prop} {w0:World} (z0 bg:Nat) (hz0:z0<128 ^ (8+1)) (hz06:z0<18446744073709551616):
  Iter Tryz.prog 162 [pq bg] encG NxG (λxs Hi1=>xs=gs 8 z0∧∃z1:Nat,Hi1=[blk bg [.int .u64 (z1:Int)] 190]) (λpre Hi1=>∃z1:Nat,Hi1=[blk bg [.int .u64 (z1:Int)] 190]) M w0 [blk bg [.int .u64 (z0:Int)] 190]:=
 λlp J Jx w e hY hJ U=>qZ z0 lp bg J Jx hY e w hz0 hz06 hJ U
theorem fI (n:Int) (w0:World) (hs:small n):
  Ret Tryz.prog 60 #[jv n] w0 λv w=>v=.tuple #[sv (putI n),jv 0]∧Ext No w0 w:=by
 have hs1:=hs.1
 have hs2:=hs.2
 refine BG func60 O ntmps60 (lb O) λa Y U=>?_
 refine aa λ_ G1=>nv Y<|zO O<|zO O<|λa Y=>G1<|ah λ_ G2=>?_
 refine aa λ_ G3=>nv Y<|zN O<|zM ((v_lt O O).asb (b':=false) (by rw[At]; have:=hs.1; omega))<|zN O<|zP (au O)<|zP ((v_gt O O).asb (b':=false) (by rw[At]; have:=hs.2; omega))<|zM (al O O)<|λa Y=>G3<|aG Y O ?_
 refine ar<|G2<|aa λ_ G4=>aE Y U (zeroValue60 _) [.slice none 0 0] O λa w1 Y U=>G4 ?_
 refine ah λ_ G5=>aa λ_ G6=>nv (Y.p4 0 2 3 4 O)<|zN O<|zM ((eq O kr underlying190).asi (m':=((cu (n):Nat):Int)) O)<|zM (qN (m:=cu n) (n:=1) om O O)<|zN O<|zM (yV om om O O)<|zM ((eq O kr underlying190).asi (m':=((cu (if n<0 then-1 else 0):Nat):Int)) O)<|zM (v_zz hs O O)<|λa Y=>bf Y U call115 O (uC (zz n) _) λa w2 x1 hp Y U=>?_
 revert x1 hp Y U; rintro bg hp Y U
 clear hp
 replace U:=U.n2 O
 refine G6 ?_
 replace Y:=Y.p4 2 3 4 20 O
 refine aw ?_
 replace U:St No w0 [own (.slice none 0 0) 5 1 ((([]:List (UInt8 × Bool)).map enc1).map λb=>[yv b]),blk bg [.int .u64 (zz n:Int)] 190,blk w0.hz [.slice none 0 0] 60] w2:=U.nil_own
 replace U:=U.s3 [2,0,1] de rfl
 replace Y:=Y.p4 2 3 4 20 O
 refine dS (M:=No) (w0:=w0) (encs:=encG) (Hi:=[blk bg [.int .u64 (zz n:Int)] 190]) (Hc:=[blk w0.hz [.slice none 0 0] 60,own (.slice none 0 0) 5 1 ((([]:List (UInt8 × Bool)).map enc1).map λb=>[yv b])]) (λpre H=>∃(v:Value),H=[blk w0.hz [v] 60,own v 5 1 ((pre.map enc1).map λb=>[yv b])]) (λ_ _ _=>False) (λpre xs H a=>Fr 33 [(2,sv ([])),(3,jv 0),(4,pq w0.hz),(20,.func (.func 162) #[] #[pq bg]),(5,yv xs.1),(6,.bool xs.2)] [] a∧∃(v:Value),H=[blk w0.hz [v] 60,own v 5 1 ((pre.map enc1).map λb=>[yv b])]) O call162 Y U (pP (zz n) bg (rg hs) (xh hs)) de (λ_=>O) ⟨.slice none 0 0,O⟩ ?_ ?_ ?_ ?_
 ·clear Y U
  rintro lp pre xs _ a w3 hnx ⟨v,rfl⟩ Y U
  generalize (join [blk w0.hz [v] 60,own v 5 1 ((pre.map enc1).map λb=>[yv b])]).foot=M1 at U⊢
  refine aa λ_ G7=>wla (Y.p6 22 21 2 3 4 20 O) O λa Y=>G7<|aj ?_
  refine wla Y O λa Y=>ab ?_
  exact⟨_,⟨Y.pick [2,3,4,20,5,6],v,O⟩,U⟩
 ·rintro lp pre xs _ a w4 hnx ⟨Y,v,rfl⟩ hout hrec hnl U
  clear hrec hnl
  generalize (join [blk w0.hz [v] 60,own v 5 1 ((pre.map enc1).map λb=>[yv b])]).foot=M1 at U hout⊢
  refine aw<|ah λ_ G8=>aa λ_ G9=>nv Y<|zN O<|zM (bB O)<|λa Y=>G9<|bF Y O (λhc2=>?_) (λhc2=>?_)
  ·try simp only[qz] at hc2
   refine aj<|nv Y<|zN O<|zM (v_yor (a:=xs.1) (b:=(128:UInt8)) O O)<|zO O<|λa Y=>ab<|G8 ?_
   refine aj<|nv (Y.p4 2 3 4 5 O)<|zM (ld U 0 O O (isAgg60 _) O)<|zN O<|λa Y=>aD (E:=5) (sz:=1) O [[yv (xs.1 ||| (128:UInt8))]] kr sm O de de Y U λa w5 Y U=>aY (i:=2) (sT:=60) (inf:=Tryz.t5) (z:=yv (0:UInt8)) (b:=0) (off:=0) (m:=0) (c:=0) O O O (U.ow 0 O) sm underlying60 O O O O de BS Ct Ct de Y U λa w6 s3 Y U _=>?_
   rw[show ((pre.map enc1).map λb=>[yv b])++([[yv (xs.1 ||| (128:UInt8))]])=(((pre++[xs]).map enc1).map λb=>[yv b]) from by simp[enc1,hc2]] at U
   refine cb 1 Y U (U.ow 2 O) O O O (sizeOf60 _) (lb O) (ds:=[s3]) O O λa w7 Y U=>ab ?_
   exact⟨_,⟨s3,O⟩,U.select [1,2] de⟩
  try simp only[qz] at hc2
  refine ar<|G8<|aj<|nv Y<|zM (ld U 0 O O (isAgg60 _) O)<|zN O<|λa Y=>aD (E:=5) (sz:=1) O [[yv xs.1]] kr sm O de de Y U λa w8 Y U=>aY (i:=2) (sT:=60) (inf:=Tryz.t5) (z:=yv (0:UInt8)) (b:=0) (off:=0) (m:=0) (c:=0) O O O (U.ow 0 O) sm underlying60 O O O O de BS Ct Ct de Y U λa w9 s4 Y U _=>?_
  rw[show ((pre.map enc1).map λb=>[yv b])++([[yv xs.1]])=(((pre++[xs]).map enc1).map λb=>[yv b]) from by simp[enc1,hc2]] at U
  refine cb 1 Y U (U.ow 2 O) O O O (sizeOf60 _) (lb O) (ds:=[s4]) O O λa w10 Y U=>ab ?_
  exact⟨_,⟨s4,O⟩,U.select [1,2] de⟩
 ·rintro D pre _ _ a w11 ⟨rfl,z1,rfl⟩ ⟨v,rfl⟩ U Y
  replace Y:=Y.p4 2 3 4 20 O
  replace U:=U.n4 O
  refine G5<|aa λ_ G10=>nv Y<|zM (ld U 1 O O (isAgg60 _) O)<|zM (eY (U.ow 2 O) O underlying60 underlying5 underlying9)<|zO O<|zO O<|λa Y=>G10<|aq ?_
  have hD:=U.g 0 rfl
  replace U:=U.unmark (i:=0) (o':=.deferred none) O
  replace U:=U.n3 O
  refine cF Y hD results60 (ae O (ae O ag)) ?_
  exact⟨by rw[y9 8 _ (rg hs)]; rfl,U.ext⟩
 ·rintro D c pre _ _ a w12 _ h
  exact h.elim
def Wsh.nums (x:Wsh):List Int:=[1,x.signer,x.holder,x.rf,x.rt,x.carrier,x.serial,x.sf,x.st]
def Pxy.nums (x:Pxy):List Int:=[2,x.frm,x.to,x.rf,x.rt,x.sf,x.st]
def smalls (l:List Int):Prop:=∀n∈l,small n
theorem Wsh.smalls_of {x:Wsh} (h:x.ok=true):smalls x.nums:=by
 simp only[Wsh.ok,inB,cG,dj,zT,zZ] at h
 intro n hn
 simp only[Wsh.nums,zY,Ab,As] at hn
 unfold small
 rcases hn with rfl|rfl|rfl|rfl|rfl|rfl|rfl|rfl|rfl<;>omega
theorem Pxy.smalls_of {x:Pxy} (h:x.ok=true):smalls x.nums:=by
 simp only[Pxy.ok,inB,cG,dj,zT,zZ] at h
 intro n hn
 simp only[Pxy.nums,zY,Ab,As] at hn
 unfold small
 rcases hn with rfl|rfl|rfl|rfl|rfl|rfl|rfl<;>omega
theorem Wsh.content_len (x:Wsh):x.content.length≤81:=AD (eh _) (Ay _)
theorem Pxy.content_len (x:Pxy):x.content.length≤63:=AD (eh _) (Ay _)
theorem kT (n lo hi:Int) (w0:World):
  Ret Tryz.prog 108 #[jv n,jv lo,jv hi] w0 λv w=>v=.bool (inB n lo hi)∧Ext No w0 w:=by
 refine BH func108 O ntmps108 (lb O) λa Y U=>?_
 refine aa λ_ G1=>wla Y O λa Y=>G1<|aa λ_ G2=>?_
 refine nv Y<|zN O<|zN O<|zM (v_ge O O)<|zN O<|λa Y=>dh (N:=15) (df:=[]) 4 [(14,.bool ((decide (lo≤n))&&(decide (n≤hi)))),(0,jv n),(1,jv lo),(2,jv hi),(6,.bool false)] ?_ (λhj=>?_)
 rotate_left
 ·rcases zX (decide (lo≤n)) with hb1|hb1
  ·rw[hb1] at Y
   have hb1b:=hb1
   try simp only[qz,zT,An,Af,Ao] at hb1
   refine nv Y<|zP (au O)<|zP (au O)<|zP (v_le O O)<|zM (ay O O)<|λa Y=>hj _ ?_
   try rw[hb1b]
   exact Y.pick [14,0,1,2,6]
  rw[hb1] at Y
  have hb1b:=hb1
  try simp only[qz,zT,An,Af,Ao] at hb1
  refine nv Y<|zQ<|zQ<|zQ<|zM (al O O)<|λa Y=>hj _ ?_
  try rw[hb1b]
  exact Y.pick [14,0,1,2,6]
 intro a Y
 refine wla Y O λa Y=>G2<|aq ?_
 refine am Y results108 (ae O ag) ?_
 exact⟨by rfl,U.ext⟩
theorem nz (b d:Int) (w0:World):
  Ret Tryz.prog 173 #[.agg #[jv b,jv d]] w0 λv w=>v=.bool (cG b d)∧Ext No w0 w:=by
 refine BG func173 O ntmps173 (lb O) λa Y U=>?_
 refine aa λ_ G1=>aS Y U O [jv b,jv d] O λa w1 Y U=>wla Y O λa Y=>G1<|aa λ_ G2=>?_
 refine nv Y<|zM (ac (v:=pq w0.hz) O kr)<|zM (ld U 0 O O (isAgg3 _) O)<|zM (v_ge O O)<|zN O<|λa Y=>dh (N:=18) (df:=[]) 6 [(12,.bool ((decide (0≤b))&&(decide (b<d)))),(0,.agg #[jv b,jv d]),(1,pq w0.hz),(2,.bool false)] ?_ (λhj=>?_)
 rotate_left
 ·rcases zX (decide (0≤b)) with hb1|hb1
  ·rw[hb1] at Y
   have hb1b:=hb1
   try simp only[qz,zT,An,Af,Ao] at hb1
   refine nv Y<|zP (ac (v:=pq w0.hz) O kr)<|zP (ld U 0 O O (isAgg3 _) O)<|zP (ac (v:=po w0.hz 1) O kr)<|zP (ld U 0 O O (isAgg3 _) O)<|zP (v_lt O O)<|zM (ay O O)<|λa Y=>hj _ ?_
   try rw[hb1b]
   exact Y.pick [12,0,1,2]
  rw[hb1] at Y
  have hb1b:=hb1
  try simp only[qz,zT,An,Af,Ao] at hb1
  refine nv Y<|zQ<|zQ<|zQ<|zQ<|zQ<|zM (al O O)<|λa Y=>hj _ ?_
  try rw[hb1b]
  exact Y.pick [12,0,1,2]
 intro a Y
 refine wlm Y O λa Y=>dh (N:=18) (df:=[]) 4 [(17,.bool (((decide (0≤b))&&(decide (b<d)))&&(decide (d≤100000000)))),(0,.agg #[jv b,jv d]),(1,pq w0.hz),(2,.bool false)] ?_ (λhj=>?_)
 rotate_left
 ·rcases zX ((decide (0≤b))&&(decide (b<d))) with hb2|hb2
  ·rw[hb2] at Y
   have hb2b:=hb2
   try simp only[qz,zT,An,Af,Ao] at hb2
   refine nv Y<|zP (ac (v:=po w0.hz 1) O kr)<|zP (ld U 0 O O (isAgg3 _) O)<|zP (v_le O O)<|zM (ay O O)<|λa Y=>hj _ ?_
   try rw[hb2b]
   exact Y.pick [17,0,1,2]
  rw[hb2] at Y
  have hb2b:=hb2
  try simp only[qz,zT,An,Af,Ao] at hb2
  refine nv Y<|zQ<|zQ<|zQ<|zM (al O O)<|λa Y=>hj _ ?_
  try rw[hb2b]
  exact Y.pick [17,0,1,2]
 intro a Y
 refine wla Y O λa Y=>G2<|aq ?_
 refine am Y results173 (ae O ag) ?_
 exact⟨by rfl,U.ext⟩
theorem mS (b d:Int) (w0:World):
  Ret Tryz.prog 174 #[.agg #[jv b,jv d]] w0 λv w=>v=.bool (dj b d)∧Ext No w0 w:=by
 refine BG func174 O ntmps174 (lb O) λa Y U=>?_
 refine aa λ_ G1=>aS Y U O [jv b,jv d] O λa w1 Y U=>wla Y O λa Y=>G1<|aa λ_ G2=>?_
 refine nv Y<|zM (ac (v:=pq w0.hz) O kr)<|zM (ld U 0 O O (isAgg3 _) O)<|zM (v_ge O O)<|zN O<|λa Y=>dh (N:=18) (df:=[]) 6 [(12,.bool ((decide (0≤b))&&(decide (b<d)))),(0,.agg #[jv b,jv d]),(1,pq w0.hz),(2,.bool false)] ?_ (λhj=>?_)
 rotate_left
 ·rcases zX (decide (0≤b)) with hb1|hb1
  ·rw[hb1] at Y
   have hb1b:=hb1
   try simp only[qz,zT,An,Af,Ao] at hb1
   refine nv Y<|zP (ac (v:=pq w0.hz) O kr)<|zP (ld U 0 O O (isAgg3 _) O)<|zP (ac (v:=po w0.hz 1) O kr)<|zP (ld U 0 O O (isAgg3 _) O)<|zP (v_lt O O)<|zM (ay O O)<|λa Y=>hj _ ?_
   try rw[hb1b]
   exact Y.pick [12,0,1,2]
  rw[hb1] at Y
  have hb1b:=hb1
  try simp only[qz,zT,An,Af,Ao] at hb1
  refine nv Y<|zQ<|zQ<|zQ<|zQ<|zQ<|zM (al O O)<|λa Y=>hj _ ?_
  try rw[hb1b]
  exact Y.pick [12,0,1,2]
 intro a Y
 refine wlm Y O λa Y=>dh (N:=18) (df:=[]) 4 [(17,.bool (((decide (0≤b))&&(decide (b<d)))&&(decide (d≤10000001)))),(0,.agg #[jv b,jv d]),(1,pq w0.hz),(2,.bool false)] ?_ (λhj=>?_)
 rotate_left
 ·rcases zX ((decide (0≤b))&&(decide (b<d))) with hb2|hb2
  ·rw[hb2] at Y
   have hb2b:=hb2
   try simp only[qz,zT,An,Af,Ao] at hb2
   refine nv Y<|zP (ac (v:=po w0.hz 1) O kr)<|zP (ld U 0 O O (isAgg3 _) O)<|zP (v_le O O)<|zM (ay O O)<|λa Y=>hj _ ?_
   try rw[hb2b]
   exact Y.pick [17,0,1,2]
  rw[hb2] at Y
  have hb2b:=hb2
  try simp only[qz,zT,An,Af,Ao] at hb2
  refine nv Y<|zQ<|zQ<|zQ<|zM (al O O)<|λa Y=>hj _ ?_
  try rw[hb2b]
  exact Y.pick [17,0,1,2]
 intro a Y
 refine wla Y O λa Y=>G2<|aq ?_
 refine am Y results174 (ae O ag) ?_
 exact⟨by rfl,U.ext⟩
theorem oX (x:Wsh) (w0:World):
  Ret Tryz.prog 135 #[.agg #[jv x.signer,jv x.holder,jv x.rf,jv x.rt,jv x.carrier,jv x.serial,jv x.sf,jv x.st,sv x.sig]] w0 λv w=>v=.bool x.ok∧Ext No w0 w:=by
 refine BG func135 O ntmps135 (lb O) λa Y U=>?_
 refine aa λ_ G1=>aS Y U O [jv x.signer,jv x.holder,jv x.rf,jv x.rt,jv x.carrier,jv x.serial,jv x.sf,jv x.st,sv x.sig] O λa w1 Y U=>wla Y O λa Y=>G1<|aa λ_ G2=>?_
 refine nv Y<|zM (ac (v:=pq w0.hz) O kr)<|zM (ld U 0 O O (isAgg3 _) O)<|λa Y=>ax Y U call108 O (kT x.signer 0 63 _) λa w2 Y U=>wlm Y O λa Y=>?_
 rcases zX (inB x.signer 0 63) with hb1|hb1
 ·rw[hb1] at Y
  refine nv Y<|zP (ac (v:=po w0.hz 1) O kr)<|zP (ld U 0 O O (isAgg3 _) O)<|λa Y=>aF Y U call108 O (kT x.holder 0 63 _) λa w3 Y U=>nv Y<|zM (ay O O)<|zN O<|λa Y=>?_
  rcases zX (inB x.holder 0 63) with hb2|hb2
  ·rw[hb2] at Y
   refine nv Y<|zP (ac (v:=po w0.hz 2) O kr)<|zP (bW (ds:=[jv x.rf,jv x.rt]) (U.g 0 O) O (isAgg87 _) (sizeOf87 _) O)<|λa Y=>aF Y U call173 O (nz x.rf x.rt _) λa w4 Y U=>nv Y<|zM (ay O O)<|zN O<|λa Y=>?_
   rcases zX (cG x.rf x.rt) with hb3|hb3
   ·rw[hb3] at Y
    refine nv Y<|zP (ac (v:=po w0.hz 4) O kr)<|zP (ld U 0 O O (isAgg3 _) O)<|λa Y=>aF Y U call108 O (kT x.carrier 0 7 _) λa w5 Y U=>nv Y<|zM (ay O O)<|zN O<|λa Y=>?_
    rcases zX (inB x.carrier 0 7) with hb4|hb4
    ·rw[hb4] at Y
     refine nv Y<|zP (ac (v:=po w0.hz 5) O kr)<|zP (ld U 0 O O (isAgg3 _) O)<|λa Y=>aF Y U call108 O (kT x.serial 0 1000000 _) λa w6 Y U=>nv Y<|zM (ay O O)<|zN O<|λa Y=>?_
     rcases zX (inB x.serial 0 1000000) with hb5|hb5
     ·rw[hb5] at Y
      refine nv Y<|zP (ac (v:=po w0.hz 6) O kr)<|zP (bW (ds:=[jv x.sf,jv x.st]) (U.g 0 O) O (isAgg88 _) (sizeOf88 _) O)<|λa Y=>aF Y U call174 O (mS x.sf x.st _) λa w7 Y U=>nv Y<|zM (ay O O)<|zO O<|λa Y=>G2 ?_
      replace Y:=Y.p1 2 O
      replace U:=U.k0 0 O
      refine aq<|am Y results135 (ae O ag) ?_
      exact⟨by simp only[retv]; unfold Wsh.ok; simp[hb1,hb2,hb3,hb4,hb5],U.ext⟩
     rw[hb5] at Y
     refine nv Y<|zQ<|zQ<|zQ<|zM (al O O)<|zO O<|λa Y=>G2 ?_
     replace Y:=Y.p1 2 O
     replace U:=U.k0 0 O
     refine aq<|am Y results135 (ae O ag) ?_
     exact⟨by simp only[retv]; unfold Wsh.ok; simp[hb1,hb2,hb3,hb4,hb5],U.ext⟩
    rw[hb4] at Y
    refine nv Y<|zQ<|zQ<|zQ<|zM (al O O)<|zN O<|zQ<|zQ<|zQ<|zM (al O O)<|zO O<|λa Y=>G2 ?_
    replace Y:=Y.p1 2 O
    replace U:=U.k0 0 O
    refine aq<|am Y results135 (ae O ag) ?_
    exact⟨by simp only[retv]; unfold Wsh.ok; simp[hb1,hb2,hb3,hb4],U.ext⟩
   rw[hb3] at Y
   refine nv Y<|zQ<|zQ<|zQ<|zM (al O O)<|zN O<|zQ<|zQ<|zQ<|zM (al O O)<|zN O<|zQ<|zQ<|zQ<|zM (al O O)<|zO O<|λa Y=>G2 ?_
   replace Y:=Y.p1 2 O
   replace U:=U.k0 0 O
   refine aq<|am Y results135 (ae O ag) ?_
   exact⟨by simp only[retv]; unfold Wsh.ok; simp[hb1,hb2,hb3],U.ext⟩
  rw[hb2] at Y
  refine nv Y<|zQ<|zQ<|zQ<|zM (al O O)<|zN O<|zQ<|zQ<|zQ<|zM (al O O)<|zN O<|zQ<|zQ<|zQ<|zM (al O O)<|zN O<|zQ<|zQ<|zQ<|zM (al O O)<|zO O<|λa Y=>G2 ?_
  replace Y:=Y.p1 2 O
  replace U:=U.k0 0 O
  refine aq<|am Y results135 (ae O ag) ?_
  exact⟨by simp only[retv]; unfold Wsh.ok; simp[hb1,hb2],U.ext⟩
 rw[hb1] at Y
 refine nv Y<|zQ<|zQ<|zQ<|zM (al O O)<|zN O<|zQ<|zQ<|zQ<|zM (al O O)<|zN O<|zQ<|zQ<|zQ<|zM (al O O)<|zN O<|zQ<|zQ<|zQ<|zM (al O O)<|zN O<|zQ<|zQ<|zQ<|zM (al O O)<|zO O<|λa Y=>G2 ?_
 replace Y:=Y.p1 2 O
 replace U:=U.k0 0 O
 refine aq<|am Y results135 (ae O ag) ?_
 exact⟨by simp only[retv]; unfold Wsh.ok; simp[hb1],U.ext⟩
theorem mI (x:Pxy) (w0:World):
  Ret Tryz.prog 132 #[.agg #[jv x.frm,jv x.to,jv x.rf,jv x.rt,jv x.sf,jv x.st,sv x.sig]] w0 λv w=>v=.bool x.ok∧Ext No w0 w:=by
 refine BG func132 O ntmps132 (lb O) λa Y U=>?_
 refine aa λ_ G1=>aS Y U O [jv x.frm,jv x.to,jv x.rf,jv x.rt,jv x.sf,jv x.st,sv x.sig] O λa w1 Y U=>wla Y O λa Y=>G1<|aa λ_ G2=>?_
 refine nv Y<|zM (ac (v:=pq w0.hz) O kr)<|zM (ld U 0 O O (isAgg3 _) O)<|λa Y=>ax Y U call108 O (kT x.frm 0 63 _) λa w2 Y U=>wlm Y O λa Y=>?_
 rcases zX (inB x.frm 0 63) with hb1|hb1
 ·rw[hb1] at Y
  refine nv Y<|zP (ac (v:=po w0.hz 1) O kr)<|zP (ld U 0 O O (isAgg3 _) O)<|λa Y=>aF Y U call108 O (kT x.to 0 63 _) λa w3 Y U=>nv Y<|zM (ay O O)<|zN O<|λa Y=>?_
  rcases zX (inB x.to 0 63) with hb2|hb2
  ·rw[hb2] at Y
   refine nv Y<|zP (ac (v:=pq w0.hz) O kr)<|zP (ld U 0 O O (isAgg3 _) O)<|zP (ac (v:=po w0.hz 1) O kr)<|zP (ld U 0 O O (isAgg3 _) O)<|zP (v_ne O O)<|zM (ay O O)<|zN O<|λa Y=>?_
   rcases (Decidable.em (x.frm=x.to)).symm with hb3|hb3
   ·rw[zW hb3] at Y
    refine nv Y<|zP (ac (v:=po w0.hz 2) O kr)<|zP (bW (ds:=[jv x.rf,jv x.rt]) (U.g 0 O) O (isAgg87 _) (sizeOf87 _) O)<|λa Y=>aF Y U call173 O (nz x.rf x.rt _) λa w4 Y U=>nv Y<|zM (ay O O)<|zN O<|λa Y=>?_
    rcases zX (cG x.rf x.rt) with hb4|hb4
    ·rw[hb4] at Y
     refine nv Y<|zP (ac (v:=po w0.hz 4) O kr)<|zP (bW (ds:=[jv x.sf,jv x.st]) (U.g 0 O) O (isAgg88 _) (sizeOf88 _) O)<|λa Y=>aF Y U call174 O (mS x.sf x.st _) λa w5 Y U=>nv Y<|zM (ay O O)<|zO O<|λa Y=>G2 ?_
     replace Y:=Y.p1 2 O
     replace U:=U.k0 0 O
     refine aq<|am Y results132 (ae O ag) ?_
     exact⟨by simp only[retv]; unfold Pxy.ok; simp[hb1,hb2,hb3,hb4],U.ext⟩
    rw[hb4] at Y
    refine nv Y<|zQ<|zQ<|zQ<|zM (al O O)<|zO O<|λa Y=>G2 ?_
    replace Y:=Y.p1 2 O
    replace U:=U.k0 0 O
    refine aq<|am Y results132 (ae O ag) ?_
    exact⟨by simp only[retv]; unfold Pxy.ok; simp[hb1,hb2,hb3,hb4],U.ext⟩
   rw[zU hb3] at Y
   refine nv Y<|zQ<|zQ<|zQ<|zM (al O O)<|zN O<|zQ<|zQ<|zQ<|zM (al O O)<|zO O<|λa Y=>G2 ?_
   replace Y:=Y.p1 2 O
   replace U:=U.k0 0 O
   refine aq<|am Y results132 (ae O ag) ?_
   exact⟨by simp only[retv]; unfold Pxy.ok; simp[hb1,hb2,hb3],U.ext⟩
  rw[hb2] at Y
  refine nv Y<|zQ<|zQ<|zQ<|zQ<|zQ<|zM (al O O)<|zN O<|zQ<|zQ<|zQ<|zM (al O O)<|zN O<|zQ<|zQ<|zQ<|zM (al O O)<|zO O<|λa Y=>G2 ?_
  replace Y:=Y.p1 2 O
  replace U:=U.k0 0 O
  refine aq<|am Y results132 (ae O ag) ?_
  exact⟨by simp only[retv]; unfold Pxy.ok; simp[hb1,hb2],U.ext⟩
 rw[hb1] at Y
 refine nv Y<|zQ<|zQ<|zQ<|zM (al O O)<|zN O<|zQ<|zQ<|zQ<|zQ<|zQ<|zM (al O O)<|zN O<|zQ<|zQ<|zQ<|zM (al O O)<|zN O<|zQ<|zQ<|zQ<|zM (al O O)<|zO O<|λa Y=>G2 ?_
 replace Y:=Y.p1 2 O
 replace U:=U.k0 0 O
 refine aq<|am Y results132 (ae O ag) ?_
 exact⟨by simp only[retv]; unfold Pxy.ok; simp[hb1],U.ext⟩
theorem kK (ns:List Int) (lv:Value) (w0:World) (hlv:SlAt w0 lv 1 ((ns).map λn=>[jv n])) (hns:smalls ns) (hnl:ns.length≤1000):
  Ret Tryz.prog 97 #[lv] w0 λv w=>v=sv (puts ns)∧Ext No w0 w:=by
 refine BG func97 O ntmps97 (lb O) λa Y U=>?_
 refine aa λ_ G1=>wla Y O λa Y=>G1<|aa λ_ G2=>?_
 refine wla Y O λa Y=>G2<|ah λ_ G3=>?_
 refine aa λ_ G4=>wla Y O λa Y=>G4<|aw ?_
 have hp0:([]:By)=puts (ns.take 0):=rfl
 rw[hp0] at Y
 refine aZ (λm a w=>∃(k:Nat),m=ns.length- k∧(k≤ns.length)∧Fr 25 [(0,lv),(2,sv (puts (ns.take 0))),(4,jv (k:Int)),(3,sv (puts (ns.take k)))] [] a∧St No w0 [] w) _ ⟨0,O,Ah _,Y.pick [0,2,4,3],U.select [] de⟩ ?_
 rintro _ a w1 ⟨k,rfl,hk,Y,U⟩
 refine ah λ_ G5=>aa λ_ G6=>nv Y<|zN O<|zN O<|zM ((aK (sT:=24) (U.arg hlv) O O (runUnderlying24 _)).asi (m':=(ns.length:Int)) B9)<|zM (v_lt O O)<|λa Y=>G6<|az Y O (λhc1=>?_) (λhc1=>?_)
 ·refine ar<|G5<|ah λ_ G7=>aw<|aa λ_ G8=>nv Y<|zN O<|zN O<|zM ((ai (i:=(k:Int)) (sT:=24) (U.arg hlv) O O (runUnderlying24 _) (sizeOf3 _) om BQ).as (v':=slAddr lv (k*1)) O)<|zM (aA (u:=jv (ns.getD k 0)) (i:=k) (j:=0) (U.arg hlv) BQ O (isAgg3 _) Ca)<|λa Y=>ax Y U call129 O (dJ (ns.getD k 0) _ (hns _ (bC om))) λa w2 Y U=>nv Y<|zN O<|zM (ak O O)<|zM (ak O O)<|zO O<|zO O<|λa Y=>G8 ?_
  refine aj<|nv (Y.p5 0 2 4 3 5 O)<|zN O<|zN O<|zM (dI O O (by have h1:=eh (ns.take k); have h2:=(bQ (ns.getD k 0)).2; rw[zV] at h1; omega))<|zO O<|λa Y=>?_
  refine ab<|G7<|aj<|nv Y<|zN O<|zM (aL O O ⟨om,om⟩)<|zO O<|λa Y=>ab ?_
  rw[show puts (ns.take k)++putI (ns.getD k 0)=puts (ns.take (k+1)) from by rw[cH 0 om,mY]] at Y
  refine⟨_,?_,k+1,O,om,Y.pick [0,2,4,3],U.select [] de⟩
  omega
 obtain rfl:k=ns.length:=by omega
 rw[List.take_length] at Y
 refine aP<|G3<|aa λ_ G9=>nv Y<|zN O<|zO O<|λa Y=>G9 ?_
 replace Y:=Y.p1 2 O
 refine aq<|am Y results97 (ae O ag) ?_
 exact⟨O,U.ext⟩
theorem iZ (x:Wsh) (w0:World) (hx:smalls x.nums):
  Ret Tryz.prog 37 #[.agg #[jv x.signer,jv x.holder,jv x.rf,jv x.rt,jv x.carrier,jv x.serial,jv x.sf,jv x.st,sv x.sig]] w0 λv w=>v=sv x.content∧Ext No w0 w:=by
 refine BG func37 O ntmps37 (lb O) λa Y U=>?_
 refine aa λ_ G1=>aS Y U O [jv x.signer,jv x.holder,jv x.rf,jv x.rt,jv x.carrier,jv x.serial,jv x.sf,jv x.st,sv x.sig] O λa w1 Y U=>wla Y O λa Y=>G1<|aa λ_ G2=>?_
 refine nv Y<|zM (ac (v:=pq w0.hz) O kr)<|zM (ld U 0 O O (isAgg3 _) O)<|zM (ac (v:=po w0.hz 1) O kr)<|zM (ld U 0 O O (isAgg3 _) O)<|zM (ac (v:=po w0.hz 2) O kr)<|zM (ac (v:=po w0.hz 2) O kr)<|zM (ld U 0 O O (isAgg3 _) O)<|zM (ac (v:=po w0.hz 2) O kr)<|zM (ac (v:=po w0.hz 3) O kr)<|zM (ld U 0 O O (isAgg3 _) O)<|λa Y=>?_
 refine nv Y<|zM (ac (v:=po w0.hz 4) O kr)<|zM (ld U 0 O O (isAgg3 _) O)<|zM (ac (v:=po w0.hz 5) O kr)<|zM (ld U 0 O O (isAgg3 _) O)<|zM (ac (v:=po w0.hz 6) O kr)<|zM (ac (v:=po w0.hz 6) O kr)<|zM (ld U 0 O O (isAgg3 _) O)<|zM (ac (v:=po w0.hz 6) O kr)<|zM (ac (v:=po w0.hz 7) O kr)<|zM (ld U 0 O O (isAgg3 _) O)<|λa Y=>aD (E:=3) (sz:=1) O [[jv 1],[jv x.signer],[jv x.holder],[jv x.rf],[jv x.rt],[jv x.carrier],[jv x.serial],[jv x.sf],[jv x.st]] kr sm O de de Y U λa w2 Y U=>ax Y U call97 O (kK [1,x.signer,x.holder,x.rf,x.rt,x.carrier,x.serial,x.sf,x.st] (.slice (some ⟨w1.hz,0,none⟩) 9 9) _ (U.ow 0 O) (hx) sm) λa w3 Y U=>wla Y O λa Y=>G2 ?_
 replace Y:=Y.p1 2 O
 replace U:=U.k0 0 O
 refine aq<|am Y results37 (ae O ag) ?_
 exact⟨by rfl,U.ext⟩
theorem jj (x:Pxy) (w0:World) (hx:smalls x.nums):
  Ret Tryz.prog 134 #[.agg #[jv x.frm,jv x.to,jv x.rf,jv x.rt,jv x.sf,jv x.st,sv x.sig]] w0 λv w=>v=sv x.content∧Ext No w0 w:=by
 refine BG func134 O ntmps134 (lb O) λa Y U=>?_
 refine aa λ_ G1=>aS Y U O [jv x.frm,jv x.to,jv x.rf,jv x.rt,jv x.sf,jv x.st,sv x.sig] O λa w1 Y U=>wla Y O λa Y=>G1<|aa λ_ G2=>?_
 refine nv Y<|zM (ac (v:=pq w0.hz) O kr)<|zM (ld U 0 O O (isAgg3 _) O)<|zM (ac (v:=po w0.hz 1) O kr)<|zM (ld U 0 O O (isAgg3 _) O)<|zM (ac (v:=po w0.hz 2) O kr)<|zM (ac (v:=po w0.hz 2) O kr)<|zM (ld U 0 O O (isAgg3 _) O)<|zM (ac (v:=po w0.hz 2) O kr)<|zM (ac (v:=po w0.hz 3) O kr)<|zM (ld U 0 O O (isAgg3 _) O)<|λa Y=>?_
 refine nv Y<|zM (ac (v:=po w0.hz 4) O kr)<|zM (ac (v:=po w0.hz 4) O kr)<|zM (ld U 0 O O (isAgg3 _) O)<|zM (ac (v:=po w0.hz 4) O kr)<|zM (ac (v:=po w0.hz 5) O kr)<|zM (ld U 0 O O (isAgg3 _) O)<|λa Y=>aD (E:=3) (sz:=1) O [[jv 2],[jv x.frm],[jv x.to],[jv x.rf],[jv x.rt],[jv x.sf],[jv x.st]] kr sm O de de Y U λa w2 Y U=>ax Y U call97 O (kK [2,x.frm,x.to,x.rf,x.rt,x.sf,x.st] (.slice (some ⟨w1.hz,0,none⟩) 7 7) _ (U.ow 0 O) (hx) sm) λa w3 Y U=>wla Y O λa Y=>G2 ?_
 replace Y:=Y.p1 2 O
 replace U:=U.k0 0 O
 refine aq<|am Y results134 (ae O ag) ?_
 exact⟨by rfl,U.ext⟩
theorem o7 (key s:By) (w0:World) (hk:key.length≤40000000) (hs:s.length≤40000000):
  Ret Tryz.prog 133 #[sv key,sv s] w0 λv w=>v=sv (sealH key s)∧Ext No w0 w:=by
 refine BF func133 O ntmps133 (lb O) λa Y U=>?_
 refine aa λ_ G1=>wla Y O λa Y=>G1<|aa λ_ G2=>?_
 refine nv Y<|zN O<|zN O<|λa Y=>ax Y U call36 O (lG s _ om) λa w1 Y U=>ax Y U call175 O (lK key (leafH sha s) _ om (by rw[gE dw]; decide)) λa w2 Y U=>wla Y O λa Y=>G2 ?_
 replace Y:=Y.p1 4 O
 refine aq<|am Y results133 (ae O ag) ?_
 exact⟨by rfl,U.ext⟩
theorem lj {P:Program} {w:World} {L:List (Nat × Value)} {dst:Option Tmp} {T T' ty:TypeId} {pos:String} {af:Array Edge} {gd:Option (Nat × Bool)} {x:Operand} {n:Int} (hx:ev L x=some (jv n)) (hs:(P.underlying T).isSome=true) (hd:P.underlying T'=some (.int .u8)):OpV P ⟨dst,.convert T T' x,ty,pos,af,gd⟩ L w (yv (UInt8.ofNat (n%256).toNat)):=
 (fh hx hs hd).as (by
  have h1:0≤n%256:=BE _ de
  have h2:n%256<256:=Int.emod_lt_of_pos _ de
  have e:((UInt8.ofNat (n%256).toNat).toNat:Int)=n%256:=by rw[eU om]; omega
  unfold yv
  rw[e]
  simp[IntKind.wrap,IntKind.signed,IntKind.bits])
def kfill (b:UInt8) (k:Nat):By:=List.replicate k b++List.replicate (32- k) 0
theorem nA {b:UInt8} {k:Nat} (h:k<32):(kfill b k).set k b=kfill b (k+1):=by
 unfold kfill
 rw[List.set_append_right _ _ sm,Ba,Bz,show 32- k=(32- (k+1))+1 from by omega,List.replicate_succ,List.set_cons_zero,List.replicate_succ']
 simp
theorem eN {b:UInt8} {k:Nat} (h:k≤32):(kfill b k).length=32:=by simp[kfill]; omega
theorem nq (b:UInt8):kfill b 32=List.replicate 32 b:=by simp[kfill]
theorem dA (n m:Int) (w0:World) (hn: -9223372036854775808≤n∧n≤9223372036854775807) (hm:0<m∧m≤9223372036854775807):
  Ret Tryz.prog 80 #[jv n,jv m] w0 λv w=>v=jv (pickI n m)∧Ext No w0 w:=by
 refine BF func80 O ntmps80 (lb O) λa Y U=>?_
 refine aa λ_ G1=>wla Y O λa Y=>G1<|ah λ_ G2=>?_
 refine aa λ_ G3=>nv Y<|zN O<|zM (v_lt O O)<|λa Y=>G3<|az Y O (λhc1=>?_) (λhc1=>?_)
 ·refine aj<|nv Y<|zN O<|zM (aL O O ⟨om,om⟩)<|zM (j2 O om om)<|zO O<|λa Y=>ab<|G2<|aa λ_ G4=>nv Y<|zN O<|zN O<|zM (fx O O om om)<|zO O<|λa Y=>G4 ?_
  replace Y:=Y.p1 4 O
  refine aq<|am Y results80 (ae O ag) ?_
  exact⟨by simp only[retv,pickI]; simp[hc1],U.ext⟩
 refine ar<|G2<|aa λ_ G5=>nv Y<|zN O<|zN O<|zM (fx O O om om)<|zO O<|λa Y=>G5 ?_
 replace Y:=Y.p1 4 O
 refine aq<|am Y results80 (ae O ag) ?_
 exact⟨by simp only[retv,pickI]; simp[hc1],U.ext⟩
theorem jT (h:Int) (w0:World):
  Ret Tryz.prog 33 #[jv h] w0 λv w=>v=sv (keyH h)∧Ext No w0 w:=by
 refine BG func33 O ntmps33 (lb O) λa Y U=>?_
 refine aa λ_ G1=>wla Y O λa Y=>G1<|aa λ_ G2=>?_
 refine jt (n:=32) (E:=5) (sz:=1) O O ((kfill (UInt8.ofNat (h%256).toNat) 0).map λb=>[yv b]) kr C9 (by simp[kfill]) de de Y U λa w1 Y U=>?_
 refine wla Y O λa Y=>G2<|ah λ_ G3=>?_
 refine aa λ_ G4=>wla Y O λa Y=>G4<|aw ?_
 refine aZ (λm a w=>∃(k:Nat),m=32- k∧(k≤32)∧Fr 19 [(0,jv h),(2,sv ([])),(3,(.slice (some ⟨w0.hz,0,none⟩) 32 32)),(4,jv (k:Int))] [] a∧St No w0 [own (.slice (some ⟨w0.hz,0,none⟩) 32 32) 5 1 ((kfill (UInt8.ofNat (h%256).toNat) k).map λb=>[yv b])] w) _ ⟨0,O,Ah _,Y.pick [0,2,3,4],U⟩ ?_
 rintro _ a w2 ⟨k,rfl,hk,Y,U⟩
 refine ah λ_ G5=>aa λ_ G6=>nv Y<|zN O<|zN O<|zM ((aK (sT:=60) (U.ow 0 O) O O (runUnderlying60 _)).asi (m':=32) (by rw[zR,eN om]; rfl))<|zM (v_lt O O)<|λa Y=>G6<|az Y O (λhc1=>?_) (λhc1=>?_)
 ·have hk2:k<32:=by omega
  refine ar<|G5<|ah λ_ G7=>aw<|aj<|nv Y<|zN O<|zN O<|zN O<|zM (lj (n:=h) O kr underlying5)<|zM ((ai (i:=(k:Int)) (sT:=60) (U.ow 0 O) O O (runUnderlying60 _) (sizeOf5 _) om DD).as (v':=slAddr (.slice (some ⟨w0.hz,0,none⟩) 32 32) (k*1)) O)<|λa Y=>kc (k:=k) (us:=[yv (UInt8.ofNat (h%256).toNat)]) 0 Y U O O O DD om (sizeOf5 _) O (by first|rfl|simp[Value.oneCell',yv,wv,sv]) O O λa w3 Y U=>ab<|G7 ?_
  refine aj<|nv (Y.p4 0 2 3 4 O)<|zN O<|zM (aL O O ⟨om,om⟩)<|zO O<|λa Y=>ab ?_
  rw[show ((kfill (UInt8.ofNat (h%256).toNat) k).map λb=>[yv b]).set k [yv (UInt8.ofNat (h%256).toNat)]=((kfill (UInt8.ofNat (h%256).toNat) (k+1)).map λb=>[yv b]) from by rw[←nA hk2,Bx]] at U
  refine⟨_,?_,k+1,O,om,Y.pick [0,2,3,4],U⟩
  omega
 obtain rfl:k=32:=by omega
 refine aP<|G3<|aa λ_ G8=>nv Y<|zN O<|zM (eY (U.ow 0 O) O underlying60 underlying5 underlying9)<|zO O<|λa Y=>G8 ?_
 replace Y:=Y.p1 2 O
 replace U:=U.k0 0 O
 refine aq<|am Y results33 (ae O ag) ?_
 exact⟨by rw[nq]; rfl,U.ext⟩
def keysTo (k:Nat):List By:=(List.range k).map λh:Nat=>keyH (h:Int)
theorem oV (k:Nat):keysTo (k+1)=keysTo k++[keyH (k:Int)]:=by simp[keysTo,BD]
theorem lW (k:Nat):(keysTo k).length=k:=by simp[keysTo]
theorem iO (w0:World):
  Ret Tryz.prog 18 #[] w0 (MemR w0 (λv:Value=>v) (λv=>[own v 9 1 (keysH.map λs=>[sv s])]) (λ_=>True)):=by
 refine aC func18 O ntmps18 (lb O) λa Y=>?_
 replace Y:Fr 13 [] [] a:=Y
 replace U:St No w0 [] w0:=St.init w0
 refine aa λ_ G1=>wla Y O λa Y=>G1<|aa λ_ G2=>?_
 refine wla Y O λa Y=>G2<|ah λ_ G3=>?_
 refine aa λ_ G4=>wla Y O λa Y=>G4<|aw ?_
 replace U:St No w0 [own (.slice none 0 0) 9 1 ((keysTo 0).map λs=>[sv s])] w0:=U.nil_own
 refine aZ (λm a w=>∃(k:Nat) (v:Value),m=10- k∧(k≤10)∧Fr 13 [(0,.slice none 0 0),(1,v),(2,jv (k:Int))] [] a∧St No w0 [own v 9 1 ((keysTo k).map λs=>[sv s])] w) _ ⟨0,.slice none 0 0,O,Ah _,Y.pick [0,1,2],U⟩ ?_
 rintro _ a w1 ⟨k,v,rfl,hk,Y,U⟩
 refine ah λ_ G5=>aa λ_ G6=>nv Y<|zN O<|zM (v_lt O O)<|λa Y=>G6<|az Y O (λhc1=>?_) (λhc1=>?_)
 ·refine ar<|G5<|ah λ_ G7=>aw<|aj<|nv Y<|zN O<|zN O<|λa Y=>ax Y U call33 O (jT (k:Int) _) λa w2 Y U=>aD (E:=9) (sz:=1) O [[sv (keyH (k:Int))]] kr sm O de de Y U λa w3 Y U=>aY (i:=1) (sT:=44) (inf:=Tryz.t9) (z:=.string (⟨#[]⟩)) (b:=0) (off:=0) (m:=0) (c:=0) O O O (U.ow 0 O) sm underlying44 O O O O de BS DG DG de Y U λa w4 s2 Y U _=>?_
  rw[show ((keysTo k).map λs=>[sv s])++([[sv (keyH (k:Int))]])=((keysTo (k+1)).map λs=>[sv s]) from by rw[oV]; simp] at U
  refine wla Y O λa Y=>ab<|G7 ?_
  replace U:=U.k1 2 O
  refine aj<|nv (Y.p3 0 2 1 O)<|zN O<|zM (aL O O ⟨om,om⟩)<|zO O<|λa Y=>ab ?_
  refine⟨_,?_,k+1,s2,O,om,Y.pick [0,1,2],U⟩
  omega
 obtain rfl:k=10:=by omega
 refine aP<|G3<|aa λ_ G8=>nv Y<|zN O<|zO O<|λa Y=>G8<|aq ?_
 refine am Y results18 (ae O ag) ?_
 exact⟨v,O,trivial,U.ext,St.out (E:=[own v 9 1 (keysH.map λs=>[sv s])]) (H:=[]) U⟩
theorem j1 (b d l r:Int) (w0:World) (hb:0≤b) (hbd:b<d) (hd:d≤1000000000) (hl:(-9223372036854775808≤l∧l≤9223372036854775807)) (hr:(-9223372036854775808≤r∧r≤9223372036854775807)):
  Ret Tryz.prog 82 #[jv b,jv d,jv l,jv r] w0 λv w=>v=.tuple #[jv (b+pickI l (d- b)),jv (d- pickI r (d- (b+pickI l (d- b))))]∧Ext No w0 w:=by
 refine BI func82 O ntmps82 (lb O) λa Y U=>?_
 have hp1:=ba l (n:=d- b) om
 refine aa λ_ G1=>nv Y<|zO O<|zO O<|λa Y=>G1<|aa λ_ G2=>?_
 refine nv Y<|zN O<|zN O<|zN O<|zN O<|zM (bJ O O ⟨om,om⟩)<|λa Y=>ax Y U call80 O (dA l (d- b) _ om om) λa w1 Y U=>nv Y<|zM (aL O O ⟨om,om⟩)<|zO O<|λa Y=>G2 ?_
 replace Y:=Y.p5 1 3 8 9 10 O
 have hp2:=ba r (n:=d- (b+pickI l (d- b))) om
 refine aa λ_ G3=>nv Y<|zN O<|zN O<|zN O<|zN O<|zN O<|zM (bJ O O ⟨om,om⟩)<|λa Y=>ax Y U call80 O (dA r (d- (b+(pickI l (d- b)))) _ om om) λa w2 Y U=>nv Y<|zM (bJ O O ⟨om,om⟩)<|zO O<|zO O<|λa Y=>G3 ?_
 replace Y:=Y.p2 8 9 O
 refine aq<|am Y results82 (ae O (ae O ag)) ?_
 exact⟨by rfl,U.ext⟩
theorem jh (key:By) (x:Wsh) (w0:World) (hk:key.length=32) (hok:x.ok=true):
  Ret Tryz.prog 83 #[sv key,.agg #[jv x.signer,jv x.holder,jv x.rf,jv x.rt,jv x.carrier,jv x.serial,jv x.sf,jv x.st,sv x.sig]] w0 λv w=>v=.tuple #[.agg #[jv x.signer,jv x.holder,jv x.rf,jv x.rt,jv x.carrier,jv x.serial,jv x.sf,jv x.st,sv (sealH key x.content)],jv 0]∧Ext No w0 w:=by
 refine BF func83 O ntmps83 (lb O) λa Y U=>?_
 refine aa λ_ G1=>aS Y U O [jv x.signer,jv x.holder,jv x.rf,jv x.rt,jv x.carrier,jv x.serial,jv x.sf,jv x.st,sv x.sig] O λa w1 Y U=>aE Y U (zeroValue90 _) [jv 0,jv 0,jv 0,jv 0,jv 0,jv 0,jv 0,jv 0,.string (⟨#[]⟩)] O λa w2 Y U=>wla Y O λa Y=>G1<|ah λ_ G2=>?_
 refine aa λ_ G3=>nv Y<|zN O<|zM (bp O O (runUnderlying9 _))<|zM ((v_ne O O).asb (b':=false) (by simp[hk]))<|zN O<|zP (ap (U.g 1 O) O (isAgg90 _) (sizeOf90 _))<|λa Y=>aF Y U call135 O (oX x _) λa w3 Y U=>nv Y<|zP (bB O)<|zM (al O O)<|λa Y=>G3 ?_
 replace Y:=Y.p5 0 3 4 5 13 O
 refine bF Y O (λhc1=>?_) (λhc1=>?_)
 ·try simp only[qz] at hc1
  simp[hok] at hc1
 try simp only[qz] at hc1
 refine ar<|G2<|aa λ_ G4=>nv Y<|zN O<|zM (ap (U.g 1 O) O (isAgg90 _) (sizeOf90 _))<|λa Y=>ax Y U call37 O (iZ x _ (Wsh.smalls_of hok)) λa w4 Y U=>ax Y U call133 O (o7 key x.content _ om (AD x.content_len de)) λa w5 Y U=>wlv Y (ac (v:=po w0.hz 8) O kr) λa Y=>aB 1 Y U [jv x.signer,jv x.holder,jv x.rf,jv x.rt,jv x.carrier,jv x.serial,jv x.sf,jv x.st,sv (sealH key x.content)] O (sizeOf9 _) λa w6 Y U=>G4 ?_
 refine aa λ_ G5=>wlv (Y.p3 3 4 5 O) (ap (U.g 1 O) O (isAgg90 _) (sizeOf90 _)) λa Y=>aB 0 Y U [jv x.signer,jv x.holder,jv x.rf,jv x.rt,jv x.carrier,jv x.serial,jv x.sf,jv x.st,sv (sealH key x.content)] O (sizeOf90 _) λa w7 Y U=>wla Y O λa Y=>G5<|aq ?_
 refine am Y results83 (ao O (bd (U.g 0 O) (isAgg90 _) (sizeOf90 _)) (ae O ag)) ?_
 exact⟨by rfl,U.ext⟩
theorem mo (key:By) (x:Pxy) (w0:World) (hk:key.length=32) (hok:x.ok=true):
  Ret Tryz.prog 81 #[sv key,.agg #[jv x.frm,jv x.to,jv x.rf,jv x.rt,jv x.sf,jv x.st,sv x.sig]] w0 λv w=>v=.tuple #[.agg #[jv x.frm,jv x.to,jv x.rf,jv x.rt,jv x.sf,jv x.st,sv (sealH key x.content)],jv 0]∧Ext No w0 w:=by
 refine BF func81 O ntmps81 (lb O) λa Y U=>?_
 refine aa λ_ G1=>aS Y U O [jv x.frm,jv x.to,jv x.rf,jv x.rt,jv x.sf,jv x.st,sv x.sig] O λa w1 Y U=>aE Y U (zeroValue144 _) [jv 0,jv 0,jv 0,jv 0,jv 0,jv 0,.string (⟨#[]⟩)] O λa w2 Y U=>wla Y O λa Y=>G1<|ah λ_ G2=>?_
 refine aa λ_ G3=>nv Y<|zN O<|zM (bp O O (runUnderlying9 _))<|zM ((v_ne O O).asb (b':=false) (by simp[hk]))<|zN O<|zP (ap (U.g 1 O) O (isAgg144 _) (sizeOf144 _))<|λa Y=>aF Y U call132 O (mI x _) λa w3 Y U=>nv Y<|zP (bB O)<|zM (al O O)<|λa Y=>G3 ?_
 replace Y:=Y.p5 0 3 4 5 13 O
 refine bF Y O (λhc1=>?_) (λhc1=>?_)
 ·try simp only[qz] at hc1
  simp[hok] at hc1
 try simp only[qz] at hc1
 refine ar<|G2<|aa λ_ G4=>nv Y<|zN O<|zM (ap (U.g 1 O) O (isAgg144 _) (sizeOf144 _))<|λa Y=>ax Y U call134 O (jj x _ (Pxy.smalls_of hok)) λa w4 Y U=>ax Y U call133 O (o7 key x.content _ om (AD x.content_len de)) λa w5 Y U=>wlv Y (ac (v:=po w0.hz 6) O kr) λa Y=>aB 1 Y U [jv x.frm,jv x.to,jv x.rf,jv x.rt,jv x.sf,jv x.st,sv (sealH key x.content)] O (sizeOf9 _) λa w6 Y U=>G4 ?_
 refine aa λ_ G5=>wlv (Y.p3 3 4 5 O) (ap (U.g 1 O) O (isAgg144 _) (sizeOf144 _)) λa Y=>aB 0 Y U [jv x.frm,jv x.to,jv x.rf,jv x.rt,jv x.sf,jv x.st,sv (sealH key x.content)] O (sizeOf144 _) λa w7 Y U=>wla Y O λa Y=>G5<|aq ?_
 refine am Y results81 (ao O (bd (U.g 0 O) (isAgg144 _) (sizeOf144 _)) (ae O ag)) ?_
 exact⟨by rfl,U.ext⟩
end Go.Proofs.YtliklcmddmpdfaaGreatDoor
