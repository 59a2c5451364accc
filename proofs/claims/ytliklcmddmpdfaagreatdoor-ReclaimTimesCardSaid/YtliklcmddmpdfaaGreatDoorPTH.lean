/- Texts joined: RclC, RclD, RclE. -/
import Derived.Test.YtliklcmddmpdfaaGreatDoorPTG
import Derived.Test.YtliklcmddmpdfaaGreatDoorPTB
import Derived.Test.YtliklcmddmpdfaaGreatDoorPTC
import Derived.Test.YtliklcmddmpdfaaGreatDoorPTF
import Derived.Test.YtliklcmddmpdfaaGreatDoorPTA
set_option linter.unusedVariables false
set_option linter.unusedSimpArgs false
set_option maxRecDepth 4000
set_option maxHeartbeats 4000000
namespace Go.Proofs.YtliklcmddmpdfaaGreatDoor
open Go.RowKit Go.PW _root_.Go.Proofs.Tryz
theorem sW {s:By} {x:Cas} {w0:World} (h:decCas s=some x) (hsl:s.length≤1000000):Ret Tryz.prog 20 #[sv s] w0 λv w=>v=.tuple #[.agg x.cells.toArray,jv 0]∧Ext No w0 w:=by
 have:=wP s w0 hsl
 unfold dcX dcE at this
 rw[h] at this
 exact this
theorem wM {s:By} {w0:World} (h:decCas s=none) (hsl:s.length≤1000000):Ret Tryz.prog 20 #[sv s] w0 λv w=>v=.tuple #[.agg Cas.z.cells.toArray,jv 210]∧Ext No w0 w:=by
 have:=wP s w0 hsl
 unfold dcX dcE at this
 rw[h] at this
 exact this
def encK (x:Int × Cas):List Value:=[jv x.1,.agg x.2.cells.toArray]
section
variable {L:List Itw} {k:Nat} {ix:Int} {en:By} {pf:List By} {pv:Value} {cc:Cas}
theorem nL {L:List Itw} {k:Nat} (hk:k<L.length):(itsM L).take (k+1)=(itsM L).take k++[(L.getD k Itw.z).m]:=by
 unfold itsM
 rw[←List.map_take,cH Itw.z hk,AH,List.map_take]; rfl
theorem ne (hk:k<L.length) (hx:L.getD k Itw.z=⟨⟨ix,en,pf⟩,pv⟩) (hd:decCas en=some cc):casesF ((itsM L).take (k+1))=casesF ((itsM L).take k)++[(ix,cc)]:=by
 rw[nL hk,iB,eE,hx]
 simp only[hd]
 rfl
theorem wW (hk:k<L.length) (hx:L.getD k Itw.z=⟨⟨ix,en,pf⟩,pv⟩) (hd:decCas en=none):casesF ((itsM L).take (k+1))=casesF ((itsM L).take k):=by
 rw[nL hk,iB,eE,hx]
 simp only[hd,Az]
 show _++[]=_
 rw[A0]
theorem zy (hk:k<L.length) (hx:L.getD k Itw.z=⟨⟨ix,en,pf⟩,pv⟩) (hd:decCas en=some cc):NxK (casesF (itsM L)) (casesF ((itsM L).take k)) (ix,cc):=by
 refine⟨casesF ((itsM L).drop (k+1)),?_⟩
 have h:itsM L=(itsM L).take (k+1)++(itsM L).drop (k+1):=(A3 _ _).symm
 have h2:casesF (itsM L)=casesF ((itsM L).take (k+1))++casesF ((itsM L).drop (k+1)):=by rw[←iB,←h]
 rw[h2,ne hk hx hd,Aw]; rfl
end
def OkP (n:Int) (L:List Itw):Prop:=0≤n∧n≤60∧∀x∈L,0≤x.m.ix∧x.m.ix<n∧x.m.e.length≤1000
theorem nJ {root:By} {n:Int}:∀{l:List Itm} {p:Int},chkIs sha root n p l=true→∀x∈l,0≤x.ix∧x.ix<n∧x.e.length≤1000
 | [],p,h=>by simp
 | y::l,p,h=>by
  simp only[chkIs,zT,zZ] at h
  intro x hx
  rcases zY.1 hx with rfl|hx
  ·have:=ju h.1.2
   exact⟨this.1,this.2.1,h.1.1.2⟩
  ·exact nJ h.2 x hx
theorem jO {key:By} {hd:Hd} {L:List Itw} (h:checkP sha key hd (itsM L)=true):OkP hd.n L:=by
 unfold checkP at h
 rw[zT] at h
 have hg:=h.1
 unfold genHd inB at hg
 simp only[zT,zZ] at hg
 refine⟨by omega,by omega,λx hx=>nJ h.2 x.m (AB.2 ⟨x,hx,O⟩)⟩
theorem zD {n:Int} {L:List Itw} (h:OkP n L) {p:Int × Cas} (hp:p∈casesF (itsM L)):0≤p.1∧p.1<n:=by
 obtain⟨x,hx,h1,_⟩:=eo.1 hp
 obtain⟨y,hy,rfl⟩:=AB.1 hx
 have:=h.2.2 y hy
 rw[←h1]; omega
def LHit (size num:Int) (p:Int × Cas) (la:Int) (fo:Bool):Prop:=(p.2.n<num∧p.1=size- 1)∨(num<p.2.n∧(p.1=0∨(fo=true∧la=p.1- 1)))
theorem qk {size num la:Int} {p:Int × Cas} {fo:Bool}:((decide (p.2.n<num)&&decide (p.1=size- 1))||(decide (num<p.2.n)&&(decide (p.1=0)||(fo&&decide (la=p.1- 1)))))=true↔LHit size num p la fo:=by
 unfold LHit
 simp only[An,zT,zZ]
theorem hO {size num la:Int} {fo b:Bool} {l pre:List (Int × Cas)} {p:Int × Cas} (h:LackI size num l pre la fo) (hc:¬LHit size num p la fo) (hb:decide (p.2.n<num)=b):LackI size num l (pre++[p]) p.1 b:=by
 subst hb
 exact vD h (by rw[Bool.eq_false_iff]; exact λh=>hc (qk.1 h))
theorem gH {size num la:Int} {fo:Bool} {l pre:List (Int × Cas)} {p:Int × Cas} (h:LackI size num l pre la fo) (hx:NxK l pre p) (hc:LHit size num p la fo):lackC size num (-1) false l=true:=tk h hx (qk.2 hc)
theorem eb (hd:Hd) (iv:Value) (L:List Itw) (w0:World) (hiv:ItsAt w0 iv L):
  Ret Tryz.prog 74 #[.agg #[jv hd.c,jv hd.n,sv hd.root,sv hd.tag,iv]] w0 (MemR w0 (λz:Nat=>.func (.func 125) #[] #[pq z]) (λz=>[blk z [jv hd.c,jv hd.n,sv hd.root,sv hd.tag,iv] 50]) (λ_=>True)):=by
 refine BG func74 O ntmps74 (lb O) λa Y U=>?_
 refine aa λ_ G1=>aS Y U O [jv hd.c,jv hd.n,sv hd.root,sv hd.tag,iv] O λa w1 Y U=>wla Y O λa Y=>G1<|aa λ_ G2=>?_
 refine nv Y<|zM (ck O O)<|zO O<|λa Y=>G2<|aq ?_
 refine am Y results74 (ae O ag) ?_
 exact⟨w0.hz,O,trivial,U.ext,St.out (H:=[]) U⟩
theorem tD {M:Nat→Prop} {w0:World} (hd:Hd) (iv:Value) (L:List Itw) (lp b1:Nat) (J Jx:List (Int × Cas)→Ent→Prop) (hY:Rounds Tryz.prog M w0 lp encK (NxK (casesF (itsM L))) J Jx) (e0:Ent) (ws:World) (hel:∀x∈L,x.m.e.length≤1000) (hiv:∀(H:List Ent) (w:World),St M w0 H w→ItsAt w iv L) (hJ:J [] e0) (U:St M w0 [e0,blk b1 [jv hd.c,jv hd.n,sv hd.root,sv hd.tag,iv] 50] ws):
  Ret Tryz.prog 125 #[.func (.yield lp) #[] #[],pq b1] ws λ_ w=>∃e1 Hi1,St M w0 (e1::Hi1) w∧((∃ys,(ys=casesF (itsM L)∧Hi1=[blk b1 [jv hd.c,jv hd.n,sv hd.root,sv hd.tag,iv] 50])∧J ys e1)∨(∃pre,Hi1=[blk b1 [jv hd.c,jv hd.n,sv hd.root,sv hd.tag,iv] 50]∧Jx pre e1)):=by
 have hxb:=(hiv _ _ U).len
 refine aC func125 O ntmps125 (lb O) λa Y=>?_
 replace Y:=Y.p2 0 1 O
 skip
 refine aa λ_ G1=>nv Y<|zM (ac (v:=po b1 4) O kr)<|zM (ld U 1 O O (isAgg48 _) O)<|zM ((aK (sT:=48) (hiv _ _ U).1 O O (runUnderlying48 _)).asi (m':=(L.length:Int)) B9)<|zN O<|λa Y=>G1<|aw ?_
 refine aZ (λm a w=>∃(k:Nat) (e:Ent),m=L.length- k∧(k≤L.length)∧(J (casesF ((itsM L).take k)) e)∧Fr 31 [(0,.func (.yield lp) #[] #[]),(8,iv),(9,jv (L.length:Int)),(10,jv (k:Int))] [] a∧St M w0 [e,blk b1 [jv hd.c,jv hd.n,sv hd.root,sv hd.tag,iv] 50] w) _ ⟨0,e0,O,Ah _,hJ,Y.pick [0,8,9,10],U.select [0,1] de⟩ ?_
 rintro _ a w1 ⟨k,e,rfl,hk,hJ,Y,U⟩
 refine aa λ_ G2=>wlv Y (v_lt O O) λa Y=>G2<|ah λ_ G3=>?_
 refine az Y O (λhc1=>?_) (λhc1=>?_)
 ·have hkx:k<L.length:=by omega
  refine ar<|G3<|ah λ_ G4=>aw ?_
  obtain⟨⟨⟨ix,en,pf⟩,pv⟩,hx⟩:∃x,L.getD k Itw.z=x:=⟨_,rfl⟩
  have hxm:=bC (d:=Itw.z) hkx
  rw[hx] at hxm
  have hln:en.length≤1000:=hel _ hxm
  refine aa λ_ G5=>nv Y<|zM ((ai (i:=(k:Int)) (sT:=48) (hiv _ _ U).1 O O (runUnderlying48 _) (sizeOf110 _) om BQ).as (v':=slAddr iv (k*3)) O)<|zM ((bN (hiv _ _ U).1 (i:=k) BQ O (isAgg110 _) (sizeOf110 _)).as (v':=.agg #[jv ix,sv en,pv]) (by rw[aX Itw.z,hx]; rfl))<|λa Y=>aE Y U (zeroValue110 _) [jv 0,.string (⟨#[]⟩),.slice none 0 0] O λa w2 Y U=>bj (us:=[jv ix,sv en,pv]) 0 Y U O O O (sizeOf110 _) (by intro z hz; simp only[zY,Ab,As] at hz; rcases hz with rfl|rfl|rfl<;>first|rfl|exact SlAt.one ((hiv _ _ U).2 _ hxm)) (lb O) (ds:=[jv ix,sv en,pv]) O O λa w3 Y U=>?_
  refine G5<|aa λ_ G6=>?_
  refine nv Y<|zM (ac (v:=po w1.hz 1) O kr)<|zM (ld U 0 O O (isAgg9 _) O)<|λa Y=>?_
  rcases zX ((decCas en).isSome) with hb2|hb2
  ·obtain⟨cc,hcc⟩:=AU.1 hb2
   refine ax Y U call20 O (sW hcc om) λa w4 Y U=>nv Y<|zN O<|zM (ak O O)<|zM (ak O O)<|λa Y=>aE Y U (zeroValue55 _) [jv 0,jv 0,.string (⟨#[]⟩)] O λa w5 Y U=>aB 0 Y U [jv cc.n,jv cc.t,sv cc.ev] O (sizeOf55 _) λa w6 Y U=>wla Y O λa Y=>G6 ?_
   refine aa λ_ G7=>nv (Y.p7 0 8 9 10 4 5 6 O)<|zN O<|zM ((v_eq O O).asb (b':=true) O)<|zN O<|zP (au O)<|zP (ac (v:=pq w1.hz) O kr)<|zP (ld U 1 O O (isAgg3 _) O)<|zP (ap (U.g 0 O) O (isAgg55 _) (sizeOf55 _))<|λa Y=>eH Y ?_
   refine wl_r (f8 O O (hY.yield (pre:=casesF ((itsM L).take k)) (x:=(ix,cc)) (zy hkx hx hcc) hJ (U.only (i:=2) O))) O O Y λa v w7 hR Y=>?_
   obtain⟨y3,e4,rfl,hx,hok,hft,hJt,hJf⟩:=hR
   replace U:=U.exchange (k:=2) rfl hx hok hft
   replace U:=U.n4 O
   clear hx hok hft
   refine nv Y<|zP (bB O)<|zM (ay O O)<|λa Y=>G7 ?_
   replace Y:=Y.p5 0 8 9 10 29 O
   replace U:=U.k2 12 O
   refine bF Y O (λhc5=>?_) (λhc5=>?_)
   ·try simp only[qz] at hc5
    have hJ:=hJf hc5
    refine aq<|am Y results125 ag ?_
    replace U:=U.select [0,1] de
    exact⟨_,_,U,.inr ⟨_,O,hJ⟩⟩
   try simp only[qz] at hc5
   have hJ:=hJt hc5
   refine ar<|G4<|aj<|nv Y<|zM (aL O O ⟨om,om⟩)<|zN O<|λa Y=>ab ?_
   refine⟨_,?_,k+1,e4,O,om,(by rw[ne hkx hx hcc]; exact hJ),Y.pick [0,8,9,10],U.select [0,1] de⟩
   omega
  have hcn:decCas en=none:=by
   cases h:decCas en with
   | none=>rfl
   | some z=>rw[h] at hb2; cases hb2
  refine ax Y U call20 O (wM hcn om) λa w8 Y U=>nv Y<|zN O<|zM (ak O O)<|zM (ak O O)<|λa Y=>aE Y U (zeroValue55 _) [jv 0,jv 0,.string (⟨#[]⟩)] O λa w9 Y U=>aB 0 Y U [jv Cas.z.n,jv Cas.z.t,sv Cas.z.ev] O (sizeOf55 _) λa w10 Y U=>wla Y O λa Y=>G6 ?_
  refine aa λ_ G8=>nv (Y.p7 0 8 9 10 4 5 6 O)<|zN O<|zM ((v_eq O O).asb (b':=false) O)<|zN O<|zQ<|zQ<|zQ<|zQ<|zQ<|zQ<|zM (al O O)<|λa Y=>G8 ?_
  replace Y:=Y.p5 0 8 9 10 29 O
  replace U:=U.k2 12 O
  refine aG Y O ?_
  refine ar<|G4<|aj<|nv Y<|zM (aL O O ⟨om,om⟩)<|zN O<|λa Y=>ab ?_
  refine⟨_,?_,k+1,e,O,om,(by rw[wW hkx hx hcn]; exact hJ),Y.pick [0,8,9,10],U.select [0,1] de⟩
  omega
 have hke:(itsM L).take k=itsM L:=by rw[AZ (by rw[dK]; omega)]
 rw[hke] at hJ
 refine aP<|cY Y results125 ag ?_
 replace U:=U.select [0,1] de
 exact⟨_,_,U,.inl ⟨_,⟨O,O⟩,hJ⟩⟩
theorem dC {M:Nat→Prop} {w0:World} (hd:Hd) (iv:Value) (L:List Itw) (b1:Nat) (hel:∀x∈L,x.m.e.length≤1000) (hiv:∀(H:List Ent) (w:World),St M w0 H w→ItsAt w iv L):
  Iter Tryz.prog 125 [pq b1] encK (NxK (casesF (itsM L))) (λys Hi=>ys=casesF (itsM L)∧Hi=[blk b1 [jv hd.c,jv hd.n,sv hd.root,sv hd.tag,iv] 50]) (λpre Hi=>Hi=[blk b1 [jv hd.c,jv hd.n,sv hd.root,sv hd.tag,iv] 50]) M w0 [blk b1 [jv hd.c,jv hd.n,sv hd.root,sv hd.tag,iv] 50]:=
 λlp J Jx w e hY hJ U=>tD hd iv L lp b1 J Jx hY e w hel hiv hJ U
theorem vX (key:By) (hd:Hd) (iv:Value) (L:List Itw) (num:Int) (w0:World) (hiv:ItsAt w0 iv L) (hpf:∀x∈L,x.m.pf.length≤1000) (hchk:checkP sha key hd (itsM L)=true) (hk0:(blk 0 (kOf.map wv) 258).ok w0):
  Ret Tryz.prog 24 #[sv key,.agg #[jv hd.c,jv hd.n,sv hd.root,sv hd.tag,iv],jv num] w0 λv w=>v=.tuple #[.agg ((hasF num (itsM L)).getD Cas.z).cells.toArray,.bool (hasF num (itsM L)).isSome]∧Ext No w0 w:=by
 have hok:=jO hchk
 refine BH func24 O ntmps24 (lb O) λa Y U=>?_
 refine aa λ_ G1=>aS Y U O [jv hd.c,jv hd.n,sv hd.root,sv hd.tag,iv] O λa w1 Y U=>aS Y U O [jv num] O λa w2 Y U=>aE Y U (zeroValue55 _) [jv 0,jv 0,.string (⟨#[]⟩)] O λa w3 Y U=>aE Y U (zeroValue4 _) [.bool false] O λa w4 Y U=>G1<|ah λ_ G2=>?_
 refine aa λ_ G3=>nv Y<|zN O<|zM (ap (U.g 3 O) O (isAgg50 _) (sizeOf50 _))<|λa Y=>ax Y U call52 O (cC hchk (eV key hd iv L _ (cL U hiv) hpf (U.keepb hk0))) λa w5 Y U=>wlv Y ((bB O).asb (b':=false) O) λa Y=>G3 ?_
 replace Y:=Y.p5 4 5 6 7 13 O
 refine aG Y O ?_
 refine ar<|G2<|ah λ_ G4=>aa λ_ G5=>wlv Y (ap (U.g 3 O) O (isAgg50 _) (sizeOf50 _)) λa Y=>bf Y U call74 O (eb hd iv L _ (cL U hiv)) λa w6 x2 hp Y U=>?_
 revert x2 hp Y U; rintro z1 hp Y U
 clear hp
 replace U:=U.n5 O
 refine G5<|aw ?_
 replace U:=U.s4 [3,2,1,0] de rfl
 replace Y:=Y.p7 4 5 6 7 13 15 16 O
 refine dS (M:=No) (w0:=w0) (encs:=encK) (Hi:=[blk z1 [jv hd.c,jv hd.n,sv hd.root,sv hd.tag,iv] 50]) (Hc:=[blk w1.hz [jv num] 3,blk w2.hz [jv 0,jv 0,.string (⟨#[]⟩)] 55,blk w3.hz [.bool false] 4]) (λpre H=>(∀z∈pre,¬z.2.n=num)∧H=[blk w1.hz [jv num] 3,blk w2.hz [jv 0,jv 0,.string (⟨#[]⟩)] 55,blk w3.hz [.bool false] 4]) (λc pre H=>c=.ret∧∃(cc:Cas),(((casesF (itsM L)).find? λp=>decide (p.2.n=num)).map (·.2)=some cc)∧H=[blk w1.hz [jv num] 3,blk w2.hz [jv cc.n,jv cc.t,sv cc.ev] 55,blk w3.hz [.bool true] 4]) (λpre xs H a=>∃(bA0:Nat),Fr 25 [(4,pq w0.hz),(5,pq w1.hz),(6,pq w2.hz),(7,pq w3.hz),(13,.bool false),(15,.agg #[jv hd.c,jv hd.n,sv hd.root,sv hd.tag,iv]),(16,.func (.func 125) #[] #[pq z1]),(9,pq bA0)] [] a∧(∀z∈pre,¬z.2.n=num)∧H=[blk bA0 [jv xs.2.n,jv xs.2.t,sv xs.2.ev] 55,blk w1.hz [jv num] 3,blk w2.hz [jv 0,jv 0,.string (⟨#[]⟩)] 55,blk w3.hz [.bool false] 4]) O call125 Y U (dC hd iv L z1 (λx hx=>(hok.2.2 x hx).2.2) (λH w h=>cL h hiv)) de (λ_=>O) ⟨sm,O⟩ ?_ ?_ ?_ ?_
 ·clear Y U
  rintro lp pre xs _ a w7 hnx ⟨hno,rfl⟩ Y U
  generalize (join [blk w1.hz [jv num] 3,blk w2.hz [jv 0,jv 0,.string (⟨#[]⟩)] 55,blk w3.hz [.bool false] 4]).foot=M1 at U⊢
  refine aj<|aE (Y.p9 18 17 4 5 6 7 13 15 16 O) U (zeroValue55 _) [jv 0,jv 0,.string (⟨#[]⟩)] O λa w8 Y U=>aB 0 Y U [jv xs.2.n,jv xs.2.t,sv xs.2.ev] O (sizeOf55 _) λa w9 Y U=>ab ?_
  exact⟨_,⟨w7.hz,Y.pick [4,5,6,7,13,15,16,9],hno,O⟩,U⟩
 ·rintro lp pre xs _ a w10 hnx ⟨bA0,Y,hno,rfl⟩ hout hrec hnl U
  clear hrec hnl
  generalize (join [blk bA0 [jv xs.2.n,jv xs.2.t,sv xs.2.ev] 55,blk w1.hz [jv num] 3,blk w2.hz [jv 0,jv 0,.string (⟨#[]⟩)] 55,blk w3.hz [.bool false] 4]).foot=M1 at U hout⊢
  refine aw<|aa λ_ G6=>nv Y<|zM (ac (v:=pq bA0) O kr)<|zM (ld U 0 O O (isAgg3 _) O)<|zM (ld U 1 O O (isAgg3 _) O)<|zM (v_eq O O)<|λa Y=>G6 ?_
  replace Y:=Y.p4 6 7 9 22 O
  refine az Y O (λhc3=>?_) (λhc3=>?_)
  ·refine aa λ_ G7=>wlv Y (ap (U.g 0 O) O (isAgg55 _) (sizeOf55 _)) λa Y=>aB 2 Y U [jv xs.2.n,jv xs.2.t,sv xs.2.ev] O (sizeOf55 _) λa w11 Y U=>aB 3 Y U [.bool true] O (sizeOf4 _) λa w12 Y U=>G7<|aq ?_
   exact⟨_,⟨O,xs.2,vh hnx hno om,O⟩,U.select [1,2,3] de⟩
  refine ar ?_
  exact⟨_,⟨bT hno om,O⟩,U.select [1,2,3] de⟩
 ·rintro D pre _ _ a w13 ⟨rfl,rfl⟩ ⟨hno,rfl⟩ U Y
  replace Y:=Y.p7 4 5 6 7 13 15 16 O
  replace U:=U.n5 O
  refine G4<|aa λ_ G8=>wlv Y (aV (v:=.agg #[jv 0,jv 0,sv ([]:By)]) O kr) λa Y=>aB 2 Y U [jv 0,jv 0,sv ([]:By)] O (sizeOf55 _) λa w14 Y U=>aB 3 Y U [.bool false] O (sizeOf4 _) λa w15 Y U=>G8 ?_
  replace Y:=Y.p2 6 7 O
  replace U:=U.k4 15 O
  refine aq ?_
  have hD:=U.g 0 rfl
  replace U:=U.unmark (i:=0) (o':=.deferred none) O
  replace U:=U.n3 O
  refine cF Y hD results24 (ao O (bd (U.g 1 O) (isAgg55 _) (sizeOf55 _)) (ao O (aN (U.g 2 O) (isAgg4 _)) ag)) ?_
  exact⟨by simp only[retv]; rw[f7,yF hno]; rfl,U.ext⟩
 ·rintro D _ pre _ _ a w16 rfl ⟨rfl,cc,hhit,rfl⟩ U Y
  replace Y:=Y.p7 4 5 6 7 13 15 16 O
  replace U:=U.n5 O
  refine aq ?_
  have hD:=U.g 0 rfl
  replace U:=U.unmark (i:=0) (o':=.deferred none) O
  replace U:=U.n4 O
  refine cF Y hD results24 (ao O (bd (U.g 1 O) (isAgg55 _) (sizeOf55 _)) (ao O (aN (U.g 2 O) (isAgg4 _)) ag)) ?_
  exact⟨by simp only[retv]; rw[f7,hhit]; rfl,U.ext⟩
theorem pj (hd:Hd) (iv:Value) (L:List Itw) (num:Int) (w0:World) (hiv:ItsAt w0 iv L) (hok:OkP hd.n L):
  Ret Tryz.prog 58 #[.agg #[jv hd.c,jv hd.n,sv hd.root,sv hd.tag,iv],jv num] w0 λv w=>v=.bool (lackF hd.n num (-1) false (itsM L))∧Ext No w0 w:=by
 refine BF func58 O ntmps58 (lb O) λa Y U=>?_
 refine aa λ_ G1=>aS Y U O [jv hd.c,jv hd.n,sv hd.root,sv hd.tag,iv] O λa w1 Y U=>aS Y U O [jv num] O λa w2 Y U=>aE Y U (zeroValue4 _) [.bool false] O λa w3 Y U=>G1<|aa λ_ G2=>?_
 refine aE Y U (zeroValue3 _) [jv 0] O λa w4 Y U=>aE Y U (zeroValue4 _) [.bool false] O λa w5 Y U=>aB 1 Y U [jv (-1)] O (sizeOf3 _) λa w6 Y U=>aB 0 Y U [.bool false] O (sizeOf4 _) λa w7 Y U=>G2<|ah λ_ G3=>?_
 refine aa λ_ G4=>wlv Y (ap (U.g 4 O) O (isAgg50 _) (sizeOf50 _)) λa Y=>bf Y U call74 O (eb hd iv L _ (cL U hiv)) λa w8 x2 hp Y U=>?_
 revert x2 hp Y U; rintro z1 hp Y U
 clear hp
 replace U:=U.n6 O
 refine G4<|aw ?_
 replace U:=U.s6 [5,4,3,2,1,0] de rfl
 replace Y:=Y.p9 0 1 2 3 4 5 6 10 11 O
 refine dS (M:=No) (w0:=w0) (encs:=encK) (Hi:=[blk z1 [jv hd.c,jv hd.n,sv hd.root,sv hd.tag,iv] 50]) (Hc:=[blk w0.hz [jv hd.c,jv hd.n,sv hd.root,sv hd.tag,iv] 50,blk w1.hz [jv num] 3,blk w2.hz [.bool false] 4,blk w3.hz [jv (-1)] 3,blk w4.hz [.bool false] 4]) (λpre H=>∃(la:Int),∃(fo:Bool),(LackI hd.n num (casesF (itsM L)) pre la fo)∧H=[blk w0.hz [jv hd.c,jv hd.n,sv hd.root,sv hd.tag,iv] 50,blk w1.hz [jv num] 3,blk w2.hz [.bool false] 4,blk w3.hz [jv la] 3,blk w4.hz [.bool fo] 4]) (λc pre H=>c=.ret∧∃(la:Int),∃(fo:Bool),(lackC hd.n num (-1) false (casesF (itsM L))=true)∧H=[blk w0.hz [jv hd.c,jv hd.n,sv hd.root,sv hd.tag,iv] 50,blk w1.hz [jv num] 3,blk w2.hz [.bool true] 4,blk w3.hz [jv la] 3,blk w4.hz [.bool fo] 4]) (λpre xs H a=>∃(bA0:Nat),Fr 52 [(0,.agg #[jv hd.c,jv hd.n,sv hd.root,sv hd.tag,iv]),(1,jv num),(2,pq w0.hz),(3,pq w1.hz),(4,pq w2.hz),(5,pq w3.hz),(6,pq w4.hz),(10,.agg #[jv hd.c,jv hd.n,sv hd.root,sv hd.tag,iv]),(11,.func (.func 125) #[] #[pq z1]),(7,jv xs.1),(8,pq bA0)] [] a∧∃(la:Int),∃(fo:Bool),(LackI hd.n num (casesF (itsM L)) pre la fo)∧H=[blk bA0 [jv xs.2.n,jv xs.2.t,sv xs.2.ev] 55,blk w0.hz [jv hd.c,jv hd.n,sv hd.root,sv hd.tag,iv] 50,blk w1.hz [jv num] 3,blk w2.hz [.bool false] 4,blk w3.hz [jv la] 3,blk w4.hz [.bool fo] 4]) O call125 Y U (dC hd iv L z1 (λx hx=>(hok.2.2 x hx).2.2) (λH w h=>cL h hiv)) de (λ_=>O) ⟨-1,false,xZ,O⟩ ?_ ?_ ?_ ?_
 ·clear Y U
  rintro lp pre xs _ a w9 hnx ⟨la,fo,hla,rfl⟩ Y U
  generalize (join [blk w0.hz [jv hd.c,jv hd.n,sv hd.root,sv hd.tag,iv] 50,blk w1.hz [jv num] 3,blk w2.hz [.bool false] 4,blk w3.hz [jv la] 3,blk w4.hz [.bool fo] 4]).foot=M1 at U⊢
  refine aa λ_ G5=>wla (Y.p11 13 12 0 1 2 3 4 5 6 10 11 O) O λa Y=>G5<|aj ?_
  refine aE Y U (zeroValue55 _) [jv 0,jv 0,.string (⟨#[]⟩)] O λa w10 Y U=>aB 0 Y U [jv xs.2.n,jv xs.2.t,sv xs.2.ev] O (sizeOf55 _) λa w11 Y U=>ab ?_
  exact⟨_,⟨w9.hz,Y.pick [0,1,2,3,4,5,6,10,11,7,8],la,fo,hla,O⟩,U⟩
 ·rintro lp pre xs _ a w12 hnx ⟨bA0,Y,la,fo,hla,rfl⟩ hout hrec hnl U
  clear hrec hnl
  generalize (join [blk bA0 [jv xs.2.n,jv xs.2.t,sv xs.2.ev] 55,blk w0.hz [jv hd.c,jv hd.n,sv hd.root,sv hd.tag,iv] 50,blk w1.hz [jv num] 3,blk w2.hz [.bool false] 4,blk w3.hz [jv la] 3,blk w4.hz [.bool fo] 4]).foot=M1 at U hout⊢
  refine aw ?_
  have hxb:=zD hok (fa hnx)
  have hok1:=hok.1
  have hok2:=hok.2.1
  refine aa λ_ G6=>nv Y<|zM (ac (v:=pq bA0) O kr)<|zM (ld U 0 O O (isAgg3 _) O)<|zM (ld U 2 O O (isAgg3 _) O)<|zM (v_lt O O)<|zO O<|λa Y=>G6 ?_
  refine ah λ_ G7=>aa λ_ G8=>nv (Y.p8 2 3 4 5 6 7 8 9 O)<|zN O<|zN O<|λa Y=>?_
  rcases Decidable.em (xs.2.n<num) with hb3|hb3
  ·rw[zU hb3] at Y
   refine nv Y<|zP (au O)<|zP (ac (v:=pq w0.hz) O kr)<|zP (ac (v:=po w0.hz 1) O kr)<|zP (ld U 1 O O (isAgg3 _) O)<|zP (bJ O O ⟨om,om⟩)<|zP (v_eq O O)<|zM (ay O O)<|zN O<|λa Y=>?_
   rcases Decidable.em (xs.1=hd.n- 1) with hb4|hb4
   ·rw[zU hb4] at Y
    refine nv Y<|zQ<|zQ<|zQ<|zQ<|zQ<|λa Y=>cf Y λa Y=>cf Y λa Y=>cf Y λa Y=>cf Y λa Y=>cf Y λa Y=>cf Y λa Y=>cf Y λa Y=>cf Y λa Y=>cf Y λa Y=>cf Y λa Y=>cf Y λa Y=>nv Y<|zQ<|zM (ay O O)<|λa Y=>G8 ?_
    replace Y:=Y.p6 4 5 6 7 9 45 O
    replace U:=U.k5 62 O
    refine aM Y O ?_
    refine aa λ_ G9=>aB 2 Y U [.bool true] O (sizeOf4 _) λa w13 Y U=>G9<|aq ?_
    exact⟨_,⟨O,la,fo,gH hla hnx Cc,O⟩,U.select [0,1,2,3,4] de⟩
   rw[zW hb4] at Y
   refine nv Y<|zP (ac (v:=pq bA0) O kr)<|zP (ld U 0 O O (isAgg3 _) O)<|zP (ld U 2 O O (isAgg3 _) O)<|zP (v_gt O O)<|zP (au O)<|λa Y=>?_
   rcases Decidable.em (num<xs.2.n) with hb5|hb5
   ·rw[zU hb5] at Y
    refine nv Y<|zP (au O)<|zP (v_eq O O)<|zP (au O)<|λa Y=>?_
    rcases Decidable.em (xs.1=0) with hb6|hb6
    ·rw[zU hb6] at Y
     refine nv Y<|zQ<|zQ<|λa Y=>cf Y λa Y=>cf Y λa Y=>cf Y λa Y=>cf Y λa Y=>nv Y<|zQ<|zP (ay O O)<|zP (ay O O)<|zM (al O O)<|λa Y=>G8 ?_
     replace Y:=Y.p6 4 5 6 7 9 45 O
     replace U:=U.k5 62 O
     refine aM Y O ?_
     refine aa λ_ G10=>aB 2 Y U [.bool true] O (sizeOf4 _) λa w14 Y U=>G10<|aq ?_
     exact⟨_,⟨O,la,fo,gH hla hnx Cc,O⟩,U.select [0,1,2,3,4] de⟩
    rw[zW hb6] at Y
    refine nv Y<|zP (ld U 5 O O (isAgg4 _) O)<|zP (au O)<|λa Y=>?_
    rcases zX (fo) with hb7|hb7
    ·rw[hb7] at Y
     have hfo:=hb7
     refine nv Y<|zP (ld U 4 O O (isAgg3 _) O)<|zP (au O)<|zP (bJ O O ⟨om,om⟩)<|zP (v_eq O O)<|zP (ay O O)<|zP (al O O)<|zP (ay O O)<|zM (al O O)<|λa Y=>G8 ?_
     replace Y:=Y.p6 4 5 6 7 9 45 O
     replace U:=U.k5 62 O
     refine az Y O (λhc8=>?_) (λhc8=>?_)
     ·refine aa λ_ G11=>aB 2 Y U [.bool true] O (sizeOf4 _) λa w15 Y U=>G11<|aq ?_
      exact⟨_,⟨O,la,fo,gH hla hnx Cc,O⟩,U.select [0,1,2,3,4] de⟩
     refine ar<|G7<|aj<|nv Y<|zN O<|zN O<|λa Y=>aB 3 Y U [jv xs.1] O (sizeOf3 _) λa w16 Y U=>aB 4 Y U [.bool true] O (sizeOf4 _) λa w17 Y U=>ab ?_
     exact⟨_,⟨xs.1,true,hO hla Cb (zU om),O⟩,U.select [0,1,2,3,4] de⟩
    rw[hb7] at Y
    have hfo:=hb7
    refine nv Y<|zQ<|zQ<|zQ<|zQ<|zP (al O O)<|zP (al O O)<|zP (ay O O)<|zM (al O O)<|λa Y=>G8 ?_
    replace Y:=Y.p6 4 5 6 7 9 45 O
    replace U:=U.k5 62 O
    refine aG Y O ?_
    refine ar<|G7<|aj<|nv Y<|zN O<|zN O<|λa Y=>aB 3 Y U [jv xs.1] O (sizeOf3 _) λa w18 Y U=>aB 4 Y U [.bool true] O (sizeOf4 _) λa w19 Y U=>ab ?_
    exact⟨_,⟨xs.1,true,hO hla Cb (zU om),O⟩,U.select [0,1,2,3,4] de⟩
   rw[zW hb5] at Y
   refine nv Y<|zQ<|zQ<|zQ<|λa Y=>cf Y λa Y=>cf Y λa Y=>cf Y λa Y=>cf Y λa Y=>cf Y λa Y=>cf Y λa Y=>cf Y λa Y=>nv Y<|zQ<|zP (al O O)<|zM (al O O)<|λa Y=>G8 ?_
   replace Y:=Y.p6 4 5 6 7 9 45 O
   replace U:=U.k5 62 O
   refine aG Y O ?_
   refine ar<|G7<|aj<|nv Y<|zN O<|zN O<|λa Y=>aB 3 Y U [jv xs.1] O (sizeOf3 _) λa w20 Y U=>aB 4 Y U [.bool true] O (sizeOf4 _) λa w21 Y U=>ab ?_
   exact⟨_,⟨xs.1,true,hO hla Cb (zU om),O⟩,U.select [0,1,2,3,4] de⟩
  rw[zW hb3] at Y
  refine nv Y<|zQ<|zQ<|zQ<|zQ<|zQ<|zQ<|zM (al O O)<|zN O<|zP (ac (v:=pq bA0) O kr)<|zP (ld U 0 O O (isAgg3 _) O)<|zP (ld U 2 O O (isAgg3 _) O)<|zP (v_gt O O)<|zP (au O)<|λa Y=>?_
  rcases Decidable.em (num<xs.2.n) with hb9|hb9
  ·rw[zU hb9] at Y
   refine nv Y<|zP (au O)<|zP (v_eq O O)<|zP (au O)<|λa Y=>?_
   rcases Decidable.em (xs.1=0) with hb10|hb10
   ·rw[zU hb10] at Y
    refine nv Y<|zQ<|zQ<|λa Y=>cf Y λa Y=>cf Y λa Y=>cf Y λa Y=>cf Y λa Y=>nv Y<|zQ<|zP (ay O O)<|zP (ay O O)<|zM (al O O)<|λa Y=>G8 ?_
    replace Y:=Y.p6 4 5 6 7 9 45 O
    replace U:=U.k5 62 O
    refine aM Y O ?_
    refine aa λ_ G12=>aB 2 Y U [.bool true] O (sizeOf4 _) λa w22 Y U=>G12<|aq ?_
    exact⟨_,⟨O,la,fo,gH hla hnx Cc,O⟩,U.select [0,1,2,3,4] de⟩
   rw[zW hb10] at Y
   refine nv Y<|zP (ld U 5 O O (isAgg4 _) O)<|zP (au O)<|λa Y=>?_
   rcases zX (fo) with hb11|hb11
   ·rw[hb11] at Y
    have hfo:=hb11
    refine nv Y<|zP (ld U 4 O O (isAgg3 _) O)<|zP (au O)<|zP (bJ O O ⟨om,om⟩)<|zP (v_eq O O)<|zP (ay O O)<|zP (al O O)<|zP (ay O O)<|zM (al O O)<|λa Y=>G8 ?_
    replace Y:=Y.p6 4 5 6 7 9 45 O
    replace U:=U.k5 62 O
    refine az Y O (λhc12=>?_) (λhc12=>?_)
    ·refine aa λ_ G13=>aB 2 Y U [.bool true] O (sizeOf4 _) λa w23 Y U=>G13<|aq ?_
     exact⟨_,⟨O,la,fo,gH hla hnx Cc,O⟩,U.select [0,1,2,3,4] de⟩
    refine ar<|G7<|aj<|nv Y<|zN O<|zN O<|λa Y=>aB 3 Y U [jv xs.1] O (sizeOf3 _) λa w24 Y U=>aB 4 Y U [.bool false] O (sizeOf4 _) λa w25 Y U=>ab ?_
    exact⟨_,⟨xs.1,false,hO hla Cb (zW om),O⟩,U.select [0,1,2,3,4] de⟩
   rw[hb11] at Y
   have hfo:=hb11
   refine nv Y<|zQ<|zQ<|zQ<|zQ<|zP (al O O)<|zP (al O O)<|zP (ay O O)<|zM (al O O)<|λa Y=>G8 ?_
   replace Y:=Y.p6 4 5 6 7 9 45 O
   replace U:=U.k5 62 O
   refine aG Y O ?_
   refine ar<|G7<|aj<|nv Y<|zN O<|zN O<|λa Y=>aB 3 Y U [jv xs.1] O (sizeOf3 _) λa w26 Y U=>aB 4 Y U [.bool false] O (sizeOf4 _) λa w27 Y U=>ab ?_
   exact⟨_,⟨xs.1,false,hO hla Cb (zW om),O⟩,U.select [0,1,2,3,4] de⟩
  rw[zW hb9] at Y
  refine nv Y<|zQ<|zQ<|zQ<|λa Y=>cf Y λa Y=>cf Y λa Y=>cf Y λa Y=>cf Y λa Y=>cf Y λa Y=>cf Y λa Y=>cf Y λa Y=>nv Y<|zQ<|zP (al O O)<|zM (al O O)<|λa Y=>G8 ?_
  replace Y:=Y.p6 4 5 6 7 9 45 O
  replace U:=U.k5 62 O
  refine aG Y O ?_
  refine ar<|G7<|aj<|nv Y<|zN O<|zN O<|λa Y=>aB 3 Y U [jv xs.1] O (sizeOf3 _) λa w28 Y U=>aB 4 Y U [.bool false] O (sizeOf4 _) λa w29 Y U=>ab ?_
  exact⟨_,⟨xs.1,false,hO hla Cb (zW om),O⟩,U.select [0,1,2,3,4] de⟩
 ·rintro D pre _ _ a w30 ⟨rfl,rfl⟩ ⟨la,fo,hla,rfl⟩ U Y
  replace Y:=Y.p9 0 1 2 3 4 5 6 10 11 O
  replace U:=U.n7 O
  refine G3<|aa λ_ G14=>nv Y<|zM (ac (v:=pq w0.hz) O kr)<|zM (ac (v:=po w0.hz 1) O kr)<|zM (ld U 1 O O (isAgg3 _) O)<|zM (v_eq O O)<|λa Y=>aB 3 Y U [.bool (decide (hd.n=0))] O (sizeOf4 _) λa w31 Y U=>G14 ?_
  replace Y:=Y.p1 4 O
  replace U:=U.k6 63 O
  refine aq ?_
  have hD:=U.g 0 rfl
  replace U:=U.unmark (i:=0) (o':=.deferred none) O
  replace U:=U.n5 O
  refine cF Y hD results58 (ao O (aN (U.g 2 O) (isAgg4 _)) ag) ?_
  exact⟨by simp only[retv]; rw[fu,ua hla]; try rfl,U.ext⟩
 ·rintro D _ pre _ _ a w32 rfl ⟨rfl,la,fo,hhit,rfl⟩ U Y
  replace Y:=Y.p9 0 1 2 3 4 5 6 10 11 O
  replace U:=U.n7 O
  refine aq ?_
  have hD:=U.g 0 rfl
  replace U:=U.unmark (i:=0) (o':=.deferred none) O
  replace U:=U.n6 O
  refine cF Y hD results58 (ao O (aN (U.g 2 O) (isAgg4 _)) ag) ?_
  exact⟨by simp only[retv]; rw[fu,hhit]; try rfl,U.ext⟩
theorem ji (key:By) (hd:Hd) (iv:Value) (L:List Itw) (num:Int) (w0:World) (hiv:ItsAt w0 iv L) (hpf:∀x∈L,x.m.pf.length≤1000) (hchk:checkP sha key hd (itsM L)=true) (hnum:0≤num∧num≤99999999) (hk0:(blk 0 (kOf.map wv) 258).ok w0):
  Ret Tryz.prog 25 #[sv key,.agg #[jv hd.c,jv hd.n,sv hd.root,sv hd.tag,iv],jv num] w0 λv w=>v=.bool (lackF hd.n num (-1) false (itsM L))∧Ext No w0 w:=by
 have hok:=jO hchk
 refine BH func25 O ntmps25 (lb O) λa Y U=>?_
 refine aa λ_ G1=>aS Y U O [jv hd.c,jv hd.n,sv hd.root,sv hd.tag,iv] O λa w1 Y U=>wla Y O λa Y=>G1<|aa λ_ G2=>?_
 refine nv Y<|zN O<|zM (ap (U.g 0 O) O (isAgg50 _) (sizeOf50 _))<|λa Y=>ax Y U call52 O (cC hchk (eV key hd iv L _ (cL U hiv) hpf (U.keepb hk0))) λa w2 Y U=>nv Y<|zN O<|zP (au O)<|λa Y=>aF Y U call49 O (cC (show inB num 0 99999999=true from by simp only[inB,zT,zZ]; omega) (dy num 0 99999999 _)) λa w3 Y U=>nv Y<|zM (ay O O)<|zN O<|zP (ap (U.g 0 O) O (isAgg50 _) (sizeOf50 _))<|zP (au O)<|λa Y=>aF Y U call58 O (pj hd iv L num _ (cL U hiv) hok) λa w4 Y U=>nv Y<|zM (ay O O)<|zO O<|λa Y=>G2 ?_
 replace Y:=Y.p1 6 O
 replace U:=U.k0 0 O
 refine aq<|am Y results25 (ae O ag) ?_
 exact⟨by rfl,U.ext⟩
end Go.Proofs.YtliklcmddmpdfaaGreatDoor
namespace Go.Proofs.YtliklcmddmpdfaaGreatDoor
open Go.RowKit Go.PW _root_.Go.Proofs.Tryz
theorem rp {s:By} {x:Wsh} {ps:List Pxy} {w0:World} (hsl:s.length≤1000000) (h:bL s=some (x,ps)):Ret Tryz.prog 39 #[sv s] w0 (MemR w0 (λlv:Value=>.tuple #[.agg x.cells.toArray,lv,jv 0]) (λlv=>[own lv 144 7 (ps.map Pxy.cells)]) (λ_=>True)):=by
 refine (lC s w0 hsl).mono λv w hR=>?_
 rcases hR with⟨x2,ps2,h2,hm⟩|⟨h2,_⟩
 ·rw[h] at h2
  simp only[Option.some.injEq,Prod.mk.injEq] at h2
  obtain⟨rfl,rfl⟩:=h2
  exact hm
 ·rw[h] at h2; cases h2
theorem tE {s:By} {w0:World} (hsl:s.length≤1000000) (h:bL s=none):Ret Tryz.prog 39 #[sv s] w0 λv w=>v=.tuple #[.agg [jv 0,jv 0,jv 0,jv 0,jv 0,jv 0,jv 0,jv 0,sv ([]:By)].toArray,.slice none 0 0,jv 150]∧Ext No w0 w:=by
 refine (lC s w0 hsl).mono λv w hR=>?_
 rcases hR with⟨x2,ps2,h2,hm⟩|⟨_,h2⟩
 ·rw[h] at h2; cases h2
 ·exact h2
section
variable {ks:List By} {q:Chg} {x:Cas} {u:Wsh} {up:List Pxy}
theorem xx (h:¬x.n=q.n):keepC ks q x=false:=by unfold keepC; rw[zW h]; rfl
theorem yC (h:¬x.t=q.t):keepC ks q x=false:=by unfold keepC; rw[zW h,AY]; rfl
theorem kB (h:eI ks q x=false):keepC ks q x=false:=by unfold keepC; rw[h,AY]
theorem tO (h:bL x.ev=none):eI ks q x=false:=by unfold eI; rw[h]
theorem hP (h:bL x.ev=some (u,up)):eI ks q x=(decide (u.holder=q.h)&&decide (u.carrier=q.c)&&validH ks u up q.n q.t):=by unfold eI; rw[h]
theorem ub (h1:x.n=q.n) (h2:x.t=q.t) (h:bL x.ev=some (u,up)) (h3:u.holder=q.h) (h4:u.carrier=q.c) (h5:validH ks u up q.n q.t=true):keepC ks q x=true:=by
 unfold keepC; rw[hP h,zU h1,zU h2,zU h3,zU h4,h5]; rfl
theorem yk {l:List Itm} {p:Int × Cas} (h:p∈casesF l):p.2.ok=true:=by
 obtain⟨x,_,_,hd⟩:=eo.1 h
 exact (qb hd).1
theorem vP {l:List Itm} (h:∀z∈casesF l,keepC ks q z.2=false):keepsF ks q l=false:=by
 rw[gc,A5]
 intro z hz; rw[h z hz]; simp
theorem tt {l:List Itm} {p:Int × Cas} (hp:p∈casesF l) (h:keepC ks q p.2=true):keepsF ks q l=true:=by
 rw[gc,AQ]
 exact⟨p,hp,h⟩
end
def NB (z:Int × Cas) (l:List (Int × Cas)):Prop:=∀y∈l,¬(z.1<y.1∧y.2.n≤z.2.n)
theorem km {a b:List (Int × Cas)} (h:∀z∈a,NB z b):bentF a b=false:=by
 unfold bentF
 rw[A5]
 intro z hz
 rw[BC,A5]
 intro y hy
 have:=h z hz y hy
 rw[zT,zZ,zZ]; exact this
theorem jq {a b:List (Int × Cas)} {z y:Int × Cas} (hz:z∈a) (hy:y∈b) (h1:z.1<y.1) (h2:y.2.n≤z.2.n):bentF a b=true:=by
 unfold bentF
 exact AQ.2 ⟨z,hz,AQ.2 ⟨y,hy,by rw[zU h1,zU h2]; rfl⟩⟩
theorem wG {a b:List Itm} (h1:a.any noCase=false) (h2:b.any noCase=false) (h3:∀z∈casesF a,NB z (casesF a)∧NB z (casesF b)) (h4:∀z∈casesF b,NB z (casesF a)∧NB z (casesF b)):crookF a b=false:=by
 unfold crookF
 rw[h1,h2,km (λz hz=>(h3 z hz).1),km (λz hz=>(h3 z hz).2),km (λz hz=>(h4 z hz).1),km (λz hz=>(h4 z hz).2)]; rfl
theorem ph {a b:List Itm} (h:a.any noCase=true):crookF a b=true:=by unfold crookF; rw[h]; simp
theorem oT {a b:List Itm} (h:b.any noCase=true):crookF a b=true:=by unfold crookF; rw[h]; simp
theorem qg {a b:List Itm} (h:bentF (casesF a) (casesF a)=true):crookF a b=true:=by unfold crookF; rw[h]; simp
theorem wS {a b:List Itm} (h:bentF (casesF a) (casesF b)=true):crookF a b=true:=by unfold crookF; rw[h]; simp
theorem vE {a b:List Itm} (h:bentF (casesF b) (casesF a)=true):crookF a b=true:=by unfold crookF; rw[h]; simp
theorem vg {a b:List Itm} (h:bentF (casesF b) (casesF b)=true):crookF a b=true:=by unfold crookF; rw[h]; simp
theorem eqHd (a0:Int) (a1:Int) (a2:By) (a3:By) (c0:Int) (c1:Int) (c2:By) (c3:By) (w:World):(Op.equal 47 (.agg #[jv a0,jv a1,sv a2,sv a3]) (.agg #[jv c0,jv c1,sv c2,sv c3])).run Tryz.prog w=.ok (decide (Hd.mk a0 a1 a2 a3=Hd.mk c0 c1 c2 c3)) w:=by
 have e:decide (Hd.mk a0 a1 a2 a3=Hd.mk c0 c1 c2 c3)=(decide (a0=c0)&&(decide (a1=c1)&&(decide (a2=c2)&&(decide (a3=c3)&&true)))):=by
  rw[Bool.eq_iff_iff]; simp[and_assoc]
 rw[e]
 unfold Op.equal Op.maxDepth
 obtain⟨dd,hd⟩:∃dd,10000=dd+1+1+1:=⟨9997,rfl⟩
 rw[hd,run_equalIn_struct w (dd+1+1) 47 _ _ kr kr]
 simp only[Program.fieldsOf,underlying47]
 refine cM (a:=jv a0) (b:=jv c0) (r:=decide (a0=c0)) de B6 B6 (eqI _ _ _) ?_
 refine cM (a:=jv a1) (b:=jv c1) (r:=decide (a1=c1)) de B6 B6 (eqI _ _ _) ?_
 refine cM (a:=sv a2) (b:=sv c2) (r:=decide (a2=c2)) de CG CG (eqS _ _ _) ?_
 refine cM (a:=sv a3) (b:=sv c3) (r:=decide (a3=c3)) de CG CG (eqS _ _ _) ?_
 exact iK
theorem eqCas (a0:Int) (a1:Int) (a2:By) (c0:Int) (c1:Int) (c2:By) (w:World):(Op.equal 55 (.agg #[jv a0,jv a1,sv a2]) (.agg #[jv c0,jv c1,sv c2])).run Tryz.prog w=.ok (decide (Cas.mk a0 a1 a2=Cas.mk c0 c1 c2)) w:=by
 have e:decide (Cas.mk a0 a1 a2=Cas.mk c0 c1 c2)=(decide (a0=c0)&&(decide (a1=c1)&&(decide (a2=c2)&&true))):=by
  rw[Bool.eq_iff_iff]; simp[and_assoc]
 rw[e]
 unfold Op.equal Op.maxDepth
 obtain⟨dd,hd⟩:∃dd,10000=dd+1+1+1:=⟨9997,rfl⟩
 rw[hd,run_equalIn_struct w (dd+1+1) 55 _ _ kr kr]
 simp only[Program.fieldsOf,underlying55]
 refine cM (a:=jv a0) (b:=jv c0) (r:=decide (a0=c0)) de B6 B6 (eqI _ _ _) ?_
 refine cM (a:=jv a1) (b:=jv c1) (r:=decide (a1=c1)) de B6 B6 (eqI _ _ _) ?_
 refine cM (a:=sv a2) (b:=sv c2) (r:=decide (a2=c2)) de CG CG (eqS _ _ _) ?_
 exact iK
theorem wi (kv:Value) (ks:List By) (q:Chg) (hd:Hd) (iv:Value) (L:List Itw) (w0:World) (hkv:SlAt w0 kv 1 (ks.map λs=>[sv s])) (hiv:ItsAt w0 iv L) (hok:OkP hd.n L) (hk0:(blk 0 (kOf.map wv) 258).ok w0):
  Ret Tryz.prog 56 #[kv,.agg #[jv q.n,jv q.h,jv q.c,jv q.t,jv q.a],.agg #[jv hd.c,jv hd.n,sv hd.root,sv hd.tag,iv]] w0 λv w=>v=.bool (keepsF ks q (itsM L))∧Ext No w0 w:=by
 refine BH func56 O ntmps56 (lb O) λa Y U=>?_
 refine aa λ_ G1=>aS Y U O [kv] (by rw[(U.arg hkv).cells]) λa w1 Y U=>aS Y U O [jv q.n,jv q.h,jv q.c,jv q.t,jv q.a] O λa w2 Y U=>aS Y U O [jv hd.c,jv hd.n,sv hd.root,sv hd.tag,iv] O λa w3 Y U=>aE Y U (zeroValue4 _) [.bool false] O λa w4 Y U=>G1<|ah λ_ G2=>?_
 refine aa λ_ G3=>wlv Y (ap (U.g 1 O) O (isAgg50 _) (sizeOf50 _)) λa Y=>bf Y U call74 O (eb hd iv L _ (cL U hiv)) λa w5 x2 hp Y U=>?_
 revert x2 hp Y U; rintro z1 hp Y U
 clear hp
 replace U:=U.n5 O
 refine G3<|aw ?_
 replace U:=U.s4 [4,3,1,0] de rfl
 replace Y:=Y.p9 0 1 2 3 4 5 6 12 13 O
 refine dS (M:=No) (w0:=w0) (encs:=encK) (Hi:=[blk z1 [jv hd.c,jv hd.n,sv hd.root,sv hd.tag,iv] 50]) (Hc:=[blk w0.hz [kv] 44,blk w1.hz [jv q.n,jv q.h,jv q.c,jv q.t,jv q.a] 36,blk w3.hz [.bool false] 4]) (λpre H=>(∀z∈pre,keepC ks q z.2=false)∧H=[blk w0.hz [kv] 44,blk w1.hz [jv q.n,jv q.h,jv q.c,jv q.t,jv q.a] 36,blk w3.hz [.bool false] 4]) (λc pre H=>c=.ret∧(keepsF ks q (itsM L)=true)∧H=[blk w0.hz [kv] 44,blk w1.hz [jv q.n,jv q.h,jv q.c,jv q.t,jv q.a] 36,blk w3.hz [.bool true] 4]) (λpre xs H a=>∃(bA0:Nat),Fr 61 [(0,kv),(1,.agg #[jv q.n,jv q.h,jv q.c,jv q.t,jv q.a]),(2,.agg #[jv hd.c,jv hd.n,sv hd.root,sv hd.tag,iv]),(3,pq w0.hz),(4,pq w1.hz),(5,pq w2.hz),(6,pq w3.hz),(12,.agg #[jv hd.c,jv hd.n,sv hd.root,sv hd.tag,iv]),(13,.func (.func 125) #[] #[pq z1]),(8,pq bA0)] [] a∧(∀z∈pre,keepC ks q z.2=false)∧H=[blk bA0 [jv xs.2.n,jv xs.2.t,sv xs.2.ev] 55,blk w0.hz [kv] 44,blk w1.hz [jv q.n,jv q.h,jv q.c,jv q.t,jv q.a] 36,blk w3.hz [.bool false] 4]) O call125 Y U (dC hd iv L z1 (λx hx=>(hok.2.2 x hx).2.2) (λH w h=>cL h hiv)) de (λ_=>O) ⟨sm,O⟩ ?_ ?_ ?_ ?_
 ·clear Y U
  rintro lp pre xs _ a w6 hnx ⟨hno,rfl⟩ Y U
  generalize (join [blk w0.hz [kv] 44,blk w1.hz [jv q.n,jv q.h,jv q.c,jv q.t,jv q.a] 36,blk w3.hz [.bool false] 4]).foot=M1 at U⊢
  refine aj<|aE (Y.p11 15 14 0 1 2 3 4 5 6 12 13 O) U (zeroValue55 _) [jv 0,jv 0,.string (⟨#[]⟩)] O λa w7 Y U=>aB 0 Y U [jv xs.2.n,jv xs.2.t,sv xs.2.ev] O (sizeOf55 _) λa w8 Y U=>ab ?_
  exact⟨_,⟨w6.hz,Y.pick [0,1,2,3,4,5,6,12,13,8],hno,O⟩,U⟩
 ·rintro lp pre xs _ a w9 hnx ⟨bA0,Y,hno,rfl⟩ hout hrec hnl U
  clear hrec hnl
  generalize (join [blk bA0 [jv xs.2.n,jv xs.2.t,sv xs.2.ev] 55,blk w0.hz [kv] 44,blk w1.hz [jv q.n,jv q.h,jv q.c,jv q.t,jv q.a] 36,blk w3.hz [.bool false] 4]).foot=M1 at U hout⊢
  refine aw<|ah λ_ G4=>?_
  have hco:=yk (fa hnx)
  have hbd:=Cas.bnd hco
  refine aa λ_ G5=>nv Y<|zM (ac (v:=pq bA0) O kr)<|zM (ld U 0 O O (isAgg3 _) O)<|zM (ac (v:=pq w1.hz) O kr)<|zM (ld U 2 O O (isAgg3 _) O)<|zM (v_ne O O)<|zN O<|λa Y=>?_
  rcases (Decidable.em (xs.2.n=q.n)).symm with hb3|hb3
  ·rw[zW hb3] at Y
   have hcf:keepC ks q xs.2=false:=xx om
   refine nv Y<|zQ<|zQ<|zQ<|zQ<|zQ<|zM (ay O O)<|λa Y=>G5 ?_
   replace Y:=Y.p5 3 4 6 8 27 O
   refine aM Y O ?_
   refine aP ?_
   exact⟨_,⟨bT hno hcf,O⟩,U.select [1,2,3] de⟩
  rw[zU hb3] at Y
  refine nv Y<|zP (ac (v:=po bA0 1) O kr)<|zP (ld U 0 O O (isAgg3 _) O)<|zP (ac (v:=po w1.hz 3) O kr)<|zP (ld U 2 O O (isAgg3 _) O)<|zP (v_ne O O)<|zM (al O O)<|λa Y=>G5 ?_
  replace Y:=Y.p5 3 4 6 8 27 O
  refine cN Y O (λhc4=>?_) (λhc4=>?_)
  ·have hcf:keepC ks q xs.2=false:=yC om
   refine aP ?_
   exact⟨_,⟨bT hno hcf,O⟩,U.select [1,2,3] de⟩
  refine ar<|G4<|aa λ_ G6=>nv Y<|zM (ac (v:=po bA0 2) O kr)<|zM (ld U 0 O O (isAgg9 _) O)<|λa Y=>?_
  rcases zX ((bL xs.2.ev).isSome) with hb5|hb5
  ·obtain⟨⟨u,up⟩,hdz⟩:=AU.1 hb5
   refine bf Y U call39 O (rp om hdz) λa w10 x7 hp Y U=>?_
   revert x7 hp Y U; rintro dv6 hp Y U
   clear hp
   replace U:=U.n5 O
   refine nv Y<|zN O<|zM (ak O O)<|zM (ak O O)<|zM (ak O O)<|λa Y=>aE Y U (zeroValue90 _) [jv 0,jv 0,jv 0,jv 0,jv 0,jv 0,jv 0,jv 0,.string (⟨#[]⟩)] O λa w11 Y U=>aB 0 Y U [jv u.signer,jv u.holder,jv u.rf,jv u.rt,jv u.carrier,jv u.serial,jv u.sf,jv u.st,sv u.sig] O (sizeOf90 _) λa w12 Y U=>nv Y<|zO O<|zO O<|λa Y=>G6 ?_
   replace U:=U.k5 59 O
   refine aa λ_ G7=>nv (Y.p6 3 4 6 9 10 11 O)<|zN O<|zM ((v_eq O O).asb (b':=true) O)<|zN O<|zP (ac (v:=po w10.hz 1) O kr)<|zP (ld U 0 O O (isAgg3 _) O)<|zP (ac (v:=po w1.hz 1) O kr)<|zP (ld U 3 O O (isAgg3 _) O)<|zP (v_eq O O)<|zM (ay O O)<|zN O<|λa Y=>?_
   rcases Decidable.em (u.holder=q.h) with hb8|hb8
   ·rw[zU hb8] at Y
    refine nv Y<|zP (ac (v:=po w10.hz 4) O kr)<|zP (ld U 0 O O (isAgg3 _) O)<|zP (ac (v:=po w1.hz 2) O kr)<|zP (ld U 3 O O (isAgg3 _) O)<|zP (v_eq O O)<|zM (ay O O)<|zN O<|λa Y=>?_
    rcases Decidable.em (u.carrier=q.c) with hb9|hb9
    ·rw[zU hb9] at Y
     refine nv Y<|zP (ld U 2 O O (isAgg44 _) O)<|zP (ap (U.g 0 O) O (isAgg90 _) (sizeOf90 _))<|zP (au O)<|zP (ac (v:=pq w1.hz) O kr)<|zP (ld U 3 O O (isAgg3 _) O)<|zP (ac (v:=po w1.hz 3) O kr)<|zP (ld U 3 O O (isAgg3 _) O)<|λa Y=>aF Y U call40 O (vH kv dv6 ks u up q.n q.t _ (hkv.grow (hout _ U.ext)) (U.ow 1 O) (dm hk0 (hout _ U.ext))) λa w13 Y U=>wlv Y (ay O O) λa Y=>G7 ?_
     replace Y:=Y.p2 6 60 O
     replace U:=U.k3 28 O
     refine bF Y O (λhc10=>?_) (λhc10=>?_)
     ·have hvl:=hc10
      refine aa λ_ G8=>aB 2 Y U [.bool true] O (sizeOf4 _) λa w14 Y U=>G8<|aq ?_
      exact⟨_,⟨O,tt (fa hnx) (ub om om hdz om om hvl),O⟩,U.select [0,1,2] de⟩
     have hcf:keepC ks q xs.2=false:=kB (by rw[hP hdz,hc10,AY])
     refine ar ?_
     exact⟨_,⟨bT hno hcf,O⟩,U.select [0,1,2] de⟩
    rw[zW hb9] at Y
    have hcf:keepC ks q xs.2=false:=kB (by rw[hP hdz,zW (by omega:¬u.carrier=q.c),AY]; rfl)
    refine nv Y<|zQ<|zQ<|zQ<|zQ<|zQ<|zQ<|zQ<|zQ<|zM (al O O)<|λa Y=>G7 ?_
    replace Y:=Y.p2 6 60 O
    replace U:=U.k3 28 O
    refine aG Y O ?_
    refine ar ?_
    exact⟨_,⟨bT hno hcf,O⟩,U.select [0,1,2] de⟩
   rw[zW hb8] at Y
   have hcf:keepC ks q xs.2=false:=kB (by rw[hP hdz,zW om]; rfl)
   refine nv Y<|zQ<|zQ<|zQ<|zQ<|zQ<|zM (al O O)<|zN O<|zQ<|zQ<|zQ<|zQ<|zQ<|zQ<|zQ<|zQ<|zM (al O O)<|λa Y=>G7 ?_
   replace Y:=Y.p2 6 60 O
   replace U:=U.k3 28 O
   refine aG Y O ?_
   refine ar ?_
   exact⟨_,⟨bT hno hcf,O⟩,U.select [0,1,2] de⟩
  have hdz:bL xs.2.ev=none:=by
   cases h:bL xs.2.ev with
   | none=>rfl
   | some z=>rw[h] at hb5; cases hb5
  have hcf:keepC ks q xs.2=false:=kB (tO hdz)
  refine ax Y U call39 O (tE om hdz) λa w15 Y U=>nv Y<|zN O<|zM (ak O O)<|zM (ak O O)<|zM (ak O O)<|λa Y=>aE Y U (zeroValue90 _) [jv 0,jv 0,jv 0,jv 0,jv 0,jv 0,jv 0,jv 0,.string (⟨#[]⟩)] O λa w16 Y U=>aB 0 Y U [jv 0,jv 0,jv 0,jv 0,jv 0,jv 0,jv 0,jv 0,sv ([]:By)] O (sizeOf90 _) λa w17 Y U=>nv Y<|zO O<|zO O<|λa Y=>G6 ?_
  replace U:=U.k4 29 O
  refine aa λ_ G9=>nv (Y.p6 3 4 6 9 10 11 O)<|zN O<|zM ((v_eq O O).asb (b':=false) O)<|zN O<|zQ<|zQ<|zQ<|zQ<|zQ<|zM (al O O)<|zN O<|zQ<|zQ<|zQ<|zQ<|zQ<|zM (al O O)<|zN O<|zQ<|zQ<|zQ<|zQ<|zQ<|zQ<|zQ<|zQ<|zM (al O O)<|λa Y=>G9 ?_
  replace Y:=Y.p2 6 60 O
  replace U:=U.k3 14 O
  refine aG Y O ?_
  refine ar ?_
  exact⟨_,⟨bT hno hcf,O⟩,U.select [0,1,2] de⟩
 ·rintro D pre _ _ a w18 ⟨rfl,rfl⟩ ⟨hno,rfl⟩ U Y
  replace Y:=Y.p9 0 1 2 3 4 5 6 12 13 O
  replace U:=U.n5 O
  refine G2<|aa λ_ G10=>aB 3 Y U [.bool false] O (sizeOf4 _) λa w19 Y U=>G10 ?_
  replace Y:=Y.p1 6 O
  replace U:=U.k4 15 O
  refine aq ?_
  have hD:=U.g 0 rfl
  replace U:=U.unmark (i:=0) (o':=.deferred none) O
  replace U:=U.n3 O
  refine cF Y hD results56 (ao O (aN (U.g 2 O) (isAgg4 _)) ag) ?_
  exact⟨by simp only[retv]; rw[vP hno]; try rfl,U.ext⟩
 ·rintro D _ pre _ _ a w20 rfl ⟨rfl,hhit,rfl⟩ U Y
  replace Y:=Y.p9 0 1 2 3 4 5 6 12 13 O
  replace U:=U.n5 O
  refine aq ?_
  have hD:=U.g 0 rfl
  replace U:=U.unmark (i:=0) (o':=.deferred none) O
  replace U:=U.n4 O
  refine cF Y hD results56 (ao O (aN (U.g 2 O) (isAgg4 _)) ag) ?_
  exact⟨by simp only[retv]; rw[hhit]; try rfl,U.ext⟩
theorem yR (x:Itw) (w0:World) (hln:x.m.e.length≤1000):
  Ret Tryz.prog 78 #[.agg #[jv x.m.ix,sv x.m.e,x.pv]] w0 λv w=>v=.bool (noCase x.m)∧Ext No w0 w:=by
 refine BG func78 O ntmps78 (lb O) λa Y U=>?_
 refine aa λ_ G1=>aS Y U O [jv x.m.ix,sv x.m.e,x.pv] O λa w1 Y U=>wla Y O λa Y=>G1<|aa λ_ G2=>?_
 refine nv Y<|zM (ac (v:=po w0.hz 1) O kr)<|zM (ld U 0 O O (isAgg9 _) O)<|λa Y=>?_
 rcases zX ((decCas x.m.e).isSome) with hb1|hb1
 ·obtain⟨cc,hcc⟩:=AU.1 hb1
  refine ax Y U call20 O (sW hcc om) λa w2 Y U=>nv Y<|zN O<|zM (ak O O)<|zM (ak O O)<|λa Y=>aE Y U (zeroValue55 _) [jv 0,jv 0,.string (⟨#[]⟩)] O λa w3 Y U=>aB 0 Y U [jv cc.n,jv cc.t,sv cc.ev] O (sizeOf55 _) λa w4 Y U=>wla Y O λa Y=>G2 ?_
  replace U:=U.k0 0 O
  refine aa λ_ G3=>nv (Y.p2 2 4 O)<|zN O<|zM ((v_ne O O).asb (b':=false) O)<|zO O<|λa Y=>G3<|aq ?_
  refine am Y results78 (ae O ag) ?_
  exact⟨by simp only[retv]; unfold noCase; rw[hcc]; rfl,U.ext⟩
 have hcn:decCas x.m.e=none:=by
  cases h:decCas x.m.e with
  | none=>rfl
  | some z=>rw[h] at hb1; cases hb1
 refine ax Y U call20 O (wM hcn om) λa w5 Y U=>nv Y<|zN O<|zM (ak O O)<|zM (ak O O)<|λa Y=>aE Y U (zeroValue55 _) [jv 0,jv 0,.string (⟨#[]⟩)] O λa w6 Y U=>aB 0 Y U [jv Cas.z.n,jv Cas.z.t,sv Cas.z.ev] O (sizeOf55 _) λa w7 Y U=>wla Y O λa Y=>G2 ?_
 replace U:=U.k0 0 O
 refine aa λ_ G4=>nv (Y.p2 2 4 O)<|zN O<|zM ((v_ne O O).asb (b':=true) O)<|zO O<|λa Y=>G4<|aq ?_
 refine am Y results78 (ae O ag) ?_
 exact⟨by simp only[retv]; unfold noCase; rw[hcn]; rfl,U.ext⟩
theorem tV {M:Nat→Prop} {wb:World} {H:List Ent} {sv:Value} {els:List (List Value)} {caps:List Value} {g:FuncId} (p:Nat→Bool) (ev_:Nat→Value) (J:Nat→Ent→Prop) (e0:Ent) (w0:World)
  (hen:∀args w,(callFunc g args).run Tryz.prog w=.ok (.enter g args) w) (hs:∀e w,St M wb (e::H) w→SlAt w sv 3 els)
  (hev:∀k (h:k<els.length),.agg (els[k]).toArray=ev_ k) (hJ0:J 0 e0) (U:St M wb (e0::H) w0)
  (hcl:∀k e w,k<els.length→J k e→e.ok w→(∀b,e.foot b→b<w.hz)→Ret Tryz.prog g ([ev_ k]++caps).toArray w λv w'=>v=.bool (p k)∧∃e',Ext e.foot w w'∧e'.ok w'∧(∀b,e'.foot b→b<w'.heap.size∧(e.foot b∨w.hz≤b))∧J (k+1) e'):
  Ret Tryz.prog 131 #[sv,.func (.func g) #[] caps.toArray] w0 λv w=>v=jv (fstIdx p els.length)∧∃k e',J k e'∧St M wb (e'::H) w:=by
 have hsl:=(hs _ _ U).le
 refine aC func131 O ntmps131 (lb O) λa Y=>aa λ_ G1=>wla (Y.p2 0 1 O) O λa Y=>G1<|ah λ_ G2=>?_
 refine aa λ_ G3=>nv Y<|zN O<|zM (aK (sT:=48) (hs _ _ U) O O (runUnderlying48 _))<|zN O<|λa Y=>G3<|aw ?_
 refine aZ (λm a w=>∃(k:Nat) (e:Ent),m=els.length- k∧(k≤els.length)∧(∀j,j<k→p j=false)∧(J k e)∧Fr 19 [(0,sv),(1,.func (.func g) #[] caps.toArray),(6,sv),(7,jv els.length),(8,jv (k:Int))] [] a∧St M wb (e::H) w) _ ⟨0,e0,O,Ah _,(by intro j hj; omega),hJ0,Y.pick [0,1,6,7,8],U⟩ ?_
 rintro _ a w1 ⟨k,e,rfl,hk,hp,hJ,Y,U⟩
 refine aa λ_ G4=>wlv Y (v_lt O O) λa Y=>G4<|ah λ_ G5=>?_
 refine az Y O (λhc1=>?_) (λhc1=>?_)
 ·rw[zU hc1] at Y
  refine ar<|G5<|ah λ_ G6=>aw<|aa λ_ G7=>nv Y<|zN O<|zO O<|λa Y=>G7<|aa λ_ G8=>?_
  refine nv Y<|zN O<|zN O<|zN O<|zM ((ai (i:=(k:Int)) (sT:=48) (hs _ _ U) O O (runUnderlying48 _) (sizeOf110 _) om om).as (v':=slAddr sv (k*3)) O)<|zM ((bN (hs _ _ U) (i:=k) om O (isAgg110 _) (sizeOf110 _)).as (v':=ev_ k) (hev k om))<|λa Y=>wl_r (gR (cap:=caps) O hen O (hcl k _ _ om hJ (U.g 0 O) (λb hb=>U.lt (k:=0) O hb))) O O Y λa v w2 hR Y=>?_
  obtain⟨rfl,e1,hx,hok,hft,hJ1⟩:=hR
  have U:=U.exchange (k:=0) rfl hx hok hft
  have U:St M wb (e1::H) w2:=U
  refine G8<|bF Y O (λhc2=>?_) (λhc2=>?_)
  ·rw[hc2] at Y
   refine aa λ_ G9=>nv Y<|zN O<|zO O<|λa Y=>G9<|aq ?_
   refine am Y results131 (ae O ag) ?_
   exact⟨by rw[fj (k:=k) om hp BT]; rfl,_,_,hJ1,U⟩
  rw[hc2] at Y
  refine ar<|G6<|aj<|nv Y<|zM (aL O O ⟨om,om⟩)<|zN O<|λa Y=>ab ?_
  refine⟨_,?_,k+1,e1,O,om,CS,hJ1,Y.pick [0,1,6,7,8],U⟩
  omega
 rw[zW hc1] at Y
 refine aP<|G2<|aa λ_ G10=>wla Y O λa Y=>G10<|aq ?_
 refine am Y results131 (ae O ag) ?_
 have hkl:k=els.length:=by omega
 subst hkl
 exact⟨by rw[fq hp]; rfl,_,_,hJ,U⟩
theorem oE {M:Nat→Prop} {wb:World} {H:List Ent} {sv:Value} {els:List (List Value)} {caps:List Value} {g:FuncId} (p:Nat→Bool) (ev_:Nat→Value) (J:Nat→Ent→Prop) (e0:Ent) (w0:World)
  (hen:∀args w,(callFunc g args).run Tryz.prog w=.ok (.enter g args) w) (hs:∀e w,St M wb (e::H) w→SlAt w sv 3 els)
  (hev:∀k (h:k<els.length),.agg (els[k]).toArray=ev_ k) (hJ0:J 0 e0) (U:St M wb (e0::H) w0)
  (hcl:∀k e w,k<els.length→J k e→e.ok w→(∀b,e.foot b→b<w.hz)→Ret Tryz.prog g ([ev_ k]++caps).toArray w λv w'=>v=.bool (p k)∧∃e',Ext e.foot w w'∧e'.ok w'∧(∀b,e'.foot b→b<w'.heap.size∧(e.foot b∨w.hz≤b))∧J (k+1) e'):
  Ret Tryz.prog 79 #[sv,.func (.func g) #[] caps.toArray] w0 λv w=>v=.bool ((List.range els.length).any p)∧∃k e',J k e'∧St M wb (e'::H) w:=by
 refine aC func79 O ntmps79 (lb O) λa Y=>aa λ_ G1=>wla (Y.p2 0 1 O) O λa Y=>G1<|aa λ_ G2=>?_
 refine nv Y<|zN O<|zN O<|λa Y=>wl_r (fe call131 O (tV p ev_ J e0 _ hen hs hev hJ0 U hcl)) O O Y λa v w1 hR Y=>?_
 obtain⟨rfl,kk,e1,hJ1,U⟩:=hR
 refine nv Y<|zM (v_ge O O)<|zO O<|λa Y=>G2<|aq ?_
 refine am Y results79 (ae O ag) ?_
 exact⟨by rw[iH]; rfl,_,_,hJ1,U⟩
theorem sD {iv:Value} {L:List Itw} (w0:World) (hiv:ItsAt w0 iv L) (hel:∀x∈L,x.m.e.length≤1000):Ret Tryz.prog 79 #[iv,.func (.func 78) #[] #[]] w0 λv w=>v=.bool ((itsM L).any noCase)∧Ext No w0 w:=by
 have U:St No w0 [join []] w0:=St.join [] [] (St.init w0)
 have h:=oE (M:=No) (wb:=w0) (H:=[]) (sv:=iv) (els:=L.map Itw.cells) (caps:=[]) (g:=78) (λk=>noCase (L.getD k Itw.z).m) (λk=>.agg (L.getD k Itw.z).cells.toArray) (λ_ e=>e=join []) (join []) w0 call78
  (λe w h=>h.arg hiv.1) (λk h=>by rw[aX Itw.z]) rfl U (λk e w hk he hok hlt=>by
   subst he
   have hm:=bC (d:=Itw.z) (l:=L) (i:=k) Dn
   refine (yR (L.getD k Itw.z) w (hel _ hm)).mono λv w' ⟨h1,h2⟩=>⟨h1,join [],h2.mono (λk _ hk=>hk.elim),?_,?_,O⟩
   ·exact⟨λe he=>(by cases he),List.Pairwise.nil⟩
   ·rintro b ⟨e,he,_⟩
    cases he)
 refine h.mono λv w ⟨h1,k,e,he,U⟩=>⟨?_,U.ext⟩
 rw[h1,zR]
 congr 1
 rw[Bool.eq_iff_iff,AQ,AQ]
 constructor
 ·rintro⟨k,hk,hp⟩
  exact⟨_,AB.2 ⟨_,bC (Ac.1 hk),O⟩,hp⟩
 ·rintro⟨x,hx,hp⟩
  obtain⟨y,hy,rfl⟩:=AB.1 hx
  obtain⟨k,hk,rfl⟩:=AR hy
  exact⟨k,Ac.2 hk,by rw[z6,z8 hk]; exact hp⟩
theorem lE (key:By) (hd:Hd) (iv1 iv2:Value) (L1 L2:List Itw) (w0:World) (hiv1:ItsAt w0 iv1 L1) (hiv2:ItsAt w0 iv2 L2) (hpf1:∀x∈L1,x.m.pf.length≤1000) (hpf2:∀x∈L2,x.m.pf.length≤1000) (hc1:checkP sha key hd (itsM L1)=true) (hc2:checkP sha key hd (itsM L2)=true) (hk0:(blk 0 (kOf.map wv) 258).ok w0):
  Ret Tryz.prog 30 #[sv key,.agg #[jv hd.c,jv hd.n,sv hd.root,sv hd.tag,iv1],.agg #[jv hd.c,jv hd.n,sv hd.root,sv hd.tag,iv2]] w0 λv w=>v=.bool (crookF (itsM L1) (itsM L2))∧Ext No w0 w:=by
 have hok1:=jO hc1
 have hok2:=jO hc2
 refine BH func30 O ntmps30 (lb O) λa Y U=>?_
 refine aa λ_ G1=>aS Y U O [jv hd.c,jv hd.n,sv hd.root,sv hd.tag,iv1] O λa w1 Y U=>aS Y U O [jv hd.c,jv hd.n,sv hd.root,sv hd.tag,iv2] O λa w2 Y U=>aE Y U (zeroValue4 _) [.bool false] O λa w3 Y U=>G1<|ah λ_ G2=>?_
 refine aa λ_ G3=>nv Y<|zN O<|zM (ap (U.g 2 O) O (isAgg50 _) (sizeOf50 _))<|λa Y=>ax Y U call52 O (cC hc1 (eV key hd iv1 L1 _ (cL U hiv1) hpf1 (U.keepb hk0))) λa w4 Y U=>nv Y<|zM ((bB O).asb (b':=false) O)<|zN O<|zP (au O)<|zP (ap (U.g 1 O) O (isAgg50 _) (sizeOf50 _))<|λa Y=>aF Y U call52 O (cC hc2 (eV key hd iv2 L2 _ (cL U hiv2) hpf2 (U.keepb hk0))) λa w5 Y U=>?_
 refine nv Y<|zP ((bB O).asb (b':=false) O)<|zM (al O O)<|zN O<|zP (ac (v:=pq w0.hz) O kr)<|zP (bW (ds:=[jv hd.c,jv hd.n,sv hd.root,sv hd.tag]) (U.g 2 O) O (isAgg47 _) (sizeOf47 _) O)<|zP (ac (v:=pq w1.hz) O kr)<|zP (bW (ds:=[jv hd.c,jv hd.n,sv hd.root,sv hd.tag]) (U.g 1 O) O (isAgg47 _) (sizeOf47 _) O)<|zP ((pW O O kr (eqHd hd.c hd.n hd.root hd.tag hd.c hd.n hd.root hd.tag _)).asb (b':=false) sm)<|zM (al O O)<|λa Y=>G3 ?_
 replace Y:=Y.p4 4 5 6 32 O
 refine aG Y O ?_
 refine ar<|G2<|aa λ_ G4=>wla Y O λa Y=>G4<|ah λ_ G5=>?_
 refine aa λ_ G6=>nv Y<|zM (ac (v:=po w0.hz 4) O kr)<|zM (ld U 2 O O (isAgg48 _) O)<|zN O<|λa Y=>ax Y U call79 O (sD _ (cL U hiv1) (λx hx=>(hok1.2.2 x hx).2.2)) λa w6 Y U=>wlm Y O λa Y=>?_
 rcases zX ((itsM L1).any noCase) with hb1|hb1
 ·rw[hb1] at Y
  have hna:=hb1
  refine nv Y<|zQ<|zQ<|zQ<|zQ<|zM (ay O O)<|λa Y=>G6 ?_
  replace Y:=Y.p4 4 5 6 42 O
  refine aM Y O ?_
  refine aa λ_ G7=>aB 0 Y U [.bool true] O (sizeOf4 _) λa w7 Y U=>G7<|aq ?_
  refine am Y results30 (ao O (aN (U.g 0 O) (isAgg4 _)) ag) ?_
  exact⟨by simp only[retv]; rw[ph hna]; try rfl,U.ext⟩
 rw[hb1] at Y
 have hna:=hb1
 refine nv Y<|zP (ac (v:=po w1.hz 4) O kr)<|zP (ld U 1 O O (isAgg48 _) O)<|zP (au O)<|λa Y=>aF Y U call79 O (sD _ (cL U hiv2) (λx hx=>(hok2.2.2 x hx).2.2)) λa w8 Y U=>wlv Y (al O O) λa Y=>G6 ?_
 replace Y:=Y.p4 4 5 6 42 O
 refine bF Y O (λhc2=>?_) (λhc2=>?_)
 ·have hnb:=hc2
  refine aa λ_ G8=>aB 0 Y U [.bool true] O (sizeOf4 _) λa w9 Y U=>G8<|aq ?_
  refine am Y results30 (ao O (aN (U.g 0 O) (isAgg4 _)) ag) ?_
  exact⟨by simp only[retv]; rw[oT hnb]; try rfl,U.ext⟩
 have hnb:=hc2
 refine ar<|G5<|ah λ_ G9=>aa λ_ G10=>nv Y<|zM (ap (U.g 2 O) O (isAgg50 _) (sizeOf50 _))<|zM (ap (U.g 1 O) O (isAgg50 _) (sizeOf50 _))<|zM (aV (v:=.agg #[jv hd.c,jv hd.n,sv hd.root,sv hd.tag,iv1,jv hd.c,jv hd.n,sv hd.root,sv hd.tag,iv2]) O (by obtain⟨_,_,_,eb0_⟩:=cT (U.arg hiv1.1); obtain⟨_,_,_,eb1_⟩:=cT (U.arg hiv2.1); rw[eb0_,eb1_]; kernel_rfl))<|zN O<|λa Y=>G10<|aw ?_
 refine eO 4 ?_
 refine bU<|aa λ_ G11=>wlv Y ((v_lt O O).asb (b':=true) O) λa Y=>G11<|ah λ_ G12=>?_
 refine aM Y O ?_
 refine ar<|G12<|ah λ_ G13=>aw<|aa λ_ G14=>wlv Y (cw (v:=.agg #[jv hd.c,jv hd.n,sv hd.root,sv hd.tag,iv1]) O O kr) λa Y=>aE Y U (zeroValue50 _) [jv 0,jv 0,.string (⟨#[]⟩),.string (⟨#[]⟩),.slice none 0 0] O λa w10 Y U=>bj (us:=[jv hd.c,jv hd.n,sv hd.root,sv hd.tag,iv1]) 0 Y U O O O (sizeOf50 _) (by intro z hz; simp only[zY,Ab,As] at hz; rcases hz with rfl|rfl|rfl|rfl|rfl<;>first|rfl|exact SlAt.one (U.arg hiv1.1)) (lb O) (ds:=[jv hd.c,jv hd.n,sv hd.root,sv hd.tag,iv1]) O O λa w11 Y U=>?_
 refine G14<|aa λ_ G15=>?_
 refine wlv Y (ap (U.g 0 O) O (isAgg50 _) (sizeOf50 _)) λa Y=>bf Y U call74 O (eb hd iv1 L1 _ (cL U hiv1)) λa w12 x4 hp Y U=>?_
 revert x4 hp Y U; rintro z3 hp Y U
 clear hp
 replace U:=U.n5 O
 refine G15 ?_
 replace Y:=Y.p6 4 5 6 45 46 50 O
 replace U:=U.k4 29 O
 refine aw ?_
 replace U:=U.s4 [3,2,1,0] de rfl
 replace Y:=Y.p6 4 5 6 45 46 50 O
 refine dS (M:=No) (w0:=w0) (encs:=encK) (Hi:=[blk z3 [jv hd.c,jv hd.n,sv hd.root,sv hd.tag,iv1] 50]) (Hc:=[blk w0.hz [jv hd.c,jv hd.n,sv hd.root,sv hd.tag,iv1] 50,blk w1.hz [jv hd.c,jv hd.n,sv hd.root,sv hd.tag,iv2] 50,blk w2.hz [.bool false] 4]) (λpre H=>(∀z∈pre,NB z (casesF (itsM L1))∧NB z (casesF (itsM L2)))∧H=[blk w0.hz [jv hd.c,jv hd.n,sv hd.root,sv hd.tag,iv1] 50,blk w1.hz [jv hd.c,jv hd.n,sv hd.root,sv hd.tag,iv2] 50,blk w2.hz [.bool false] 4]) (λc pre H=>c=.ret∧(crookF (itsM L1) (itsM L2)=true)∧H=[blk w0.hz [jv hd.c,jv hd.n,sv hd.root,sv hd.tag,iv1] 50,blk w1.hz [jv hd.c,jv hd.n,sv hd.root,sv hd.tag,iv2] 50,blk w2.hz [.bool true] 4]) (λpre xs H a=>∃(bA0:Nat),∃(bA1:Nat),Fr 75 [(4,pq w0.hz),(5,pq w1.hz),(6,pq w2.hz),(45,.agg #[jv hd.c,jv hd.n,sv hd.root,sv hd.tag,iv1,jv hd.c,jv hd.n,sv hd.root,sv hd.tag,iv2]),(46,jv 0),(50,.func (.func 125) #[] #[pq z3]),(10,pq bA1),(11,pq bA0)] [] a∧(∀z∈pre,NB z (casesF (itsM L1))∧NB z (casesF (itsM L2)))∧H=[blk bA0 [jv xs.2.n,jv xs.2.t,sv xs.2.ev] 55,blk bA1 [jv xs.1] 3,blk w0.hz [jv hd.c,jv hd.n,sv hd.root,sv hd.tag,iv1] 50,blk w1.hz [jv hd.c,jv hd.n,sv hd.root,sv hd.tag,iv2] 50,blk w2.hz [.bool false] 4]) O call125 Y U (dC hd iv1 L1 z3 (λx hx=>(hok1.2.2 x hx).2.2) (λH w h=>cL h hiv1)) de (λ_=>O) ⟨sm,O⟩ ?_ ?_ ?_ ?_
 ·clear Y U
  rintro lp pre xs _ a w13 hnx ⟨ho1,rfl⟩ Y U
  generalize (join [blk w0.hz [jv hd.c,jv hd.n,sv hd.root,sv hd.tag,iv1] 50,blk w1.hz [jv hd.c,jv hd.n,sv hd.root,sv hd.tag,iv2] 50,blk w2.hz [.bool false] 4]).foot=M1 at U⊢
  refine aa λ_ G16=>aE (Y.p8 52 51 4 5 6 45 46 50 O) U (zeroValue3 _) [jv 0] O λa w14 Y U=>aB 0 Y U [jv xs.1] O (sizeOf3 _) λa w15 Y U=>G16<|aj ?_
  refine aE Y U (zeroValue55 _) [jv 0,jv 0,.string (⟨#[]⟩)] O λa w16 Y U=>aB 0 Y U [jv xs.2.n,jv xs.2.t,sv xs.2.ev] O (sizeOf55 _) λa w17 Y U=>ab ?_
  exact⟨_,⟨w15.hz,w13.hz,Y.pick [4,5,6,45,46,50,10,11],ho1,O⟩,U⟩
 ·rintro lp pre xs _ a w18 hnx ⟨bA0,bA1,Y,ho1,rfl⟩ hout hrec hnl U
  generalize (join [blk bA0 [jv xs.2.n,jv xs.2.t,sv xs.2.ev] 55,blk bA1 [jv xs.1] 3,blk w0.hz [jv hd.c,jv hd.n,sv hd.root,sv hd.tag,iv1] 50,blk w1.hz [jv hd.c,jv hd.n,sv hd.root,sv hd.tag,iv2] 50,blk w2.hz [.bool false] 4]).foot=M1 at U hout hnl⊢
  refine aw<|aa λ_ G17=>nv Y<|zM (ap (U.g 2 O) O (isAgg50 _) (sizeOf50 _))<|zM (ap (U.g 3 O) O (isAgg50 _) (sizeOf50 _))<|zM (aV (v:=.agg #[jv hd.c,jv hd.n,sv hd.root,sv hd.tag,iv1,jv hd.c,jv hd.n,sv hd.root,sv hd.tag,iv2]) O CK)<|zN O<|λa Y=>G17 ?_
  replace Y:=Y.p5 6 10 11 55 56 O
  refine aw<|eO 4 ?_
  refine bU<|aa λ_ G18=>wlv Y ((v_lt O O).asb (b':=true) O) λa Y=>G18<|ah λ_ G19=>?_
  refine aM Y O ?_
  refine ar<|G19<|ah λ_ G20=>aw<|aa λ_ G21=>wlv Y (cw (v:=.agg #[jv hd.c,jv hd.n,sv hd.root,sv hd.tag,iv1]) O O kr) λa Y=>aE Y U (zeroValue50 _) [jv 0,jv 0,.string (⟨#[]⟩),.string (⟨#[]⟩),.slice none 0 0] O λa w19 Y U=>bj (us:=[jv hd.c,jv hd.n,sv hd.root,sv hd.tag,iv1]) 0 Y U O O O (sizeOf50 _) CP (lb O) (ds:=[jv hd.c,jv hd.n,sv hd.root,sv hd.tag,iv1]) O O λa w20 Y U=>?_
  refine G21<|aa λ_ G22=>?_
  refine wlv Y (ap (U.g 0 O) O (isAgg50 _) (sizeOf50 _)) λa Y=>bf Y U call74 O (eb hd iv1 L1 _ (hiv1.grow (hout _ U.ext))) λa w21 x6 hp Y U=>?_
  revert x6 hp Y U; rintro z5 hp Y U
  clear hp
  replace U:=U.n7 O
  refine G22<|aw ?_
  replace U:=U.s6 [4,5,6,3,2,0] de rfl
  replace Y:=Y.p10 6 10 11 55 56 57 58 13 59 60 O
  refine gO (M:=M1) (w0:=w18) (encs:=encK) (Hi:=[blk z5 [jv hd.c,jv hd.n,sv hd.root,sv hd.tag,iv1] 50]) (Hc:=[blk w0.hz [jv hd.c,jv hd.n,sv hd.root,sv hd.tag,iv1] 50,blk w1.hz [jv hd.c,jv hd.n,sv hd.root,sv hd.tag,iv2] 50,blk w2.hz [.bool false] 4,blk bA1 [jv xs.1] 3,blk bA0 [jv xs.2.n,jv xs.2.t,sv xs.2.ev] 55]) (λpre2 H=>(∀y∈pre2,¬(xs.1<y.1∧y.2.n≤xs.2.n))∧H=[blk w0.hz [jv hd.c,jv hd.n,sv hd.root,sv hd.tag,iv1] 50,blk w1.hz [jv hd.c,jv hd.n,sv hd.root,sv hd.tag,iv2] 50,blk w2.hz [.bool false] 4,blk bA1 [jv xs.1] 3,blk bA0 [jv xs.2.n,jv xs.2.t,sv xs.2.ev] 55]) (λc pre2 H=>c=.ret∧(crookF (itsM L1) (itsM L2)=true)∧H=[blk w0.hz [jv hd.c,jv hd.n,sv hd.root,sv hd.tag,iv1] 50,blk w1.hz [jv hd.c,jv hd.n,sv hd.root,sv hd.tag,iv2] 50,blk w2.hz [.bool true] 4,blk bA1 [jv xs.1] 3,blk bA0 [jv xs.2.n,jv xs.2.t,sv xs.2.ev] 55]) (λpre2 xs2 H a=>∃(bAz0:Nat),Fr 75 [(6,pq w2.hz),(10,pq bA1),(11,pq bA0),(14,jv xs2.1),(15,pq bAz0)] [] a∧(∀y∈pre2,¬(xs.1<y.1∧y.2.n≤xs.2.n))∧H=[blk bAz0 [jv xs2.2.n,jv xs2.2.t,sv xs2.2.ev] 55,blk w0.hz [jv hd.c,jv hd.n,sv hd.root,sv hd.tag,iv1] 50,blk w1.hz [jv hd.c,jv hd.n,sv hd.root,sv hd.tag,iv2] 50,blk w2.hz [.bool false] 4,blk bA1 [jv xs.1] 3,blk bA0 [jv xs.2.n,jv xs.2.t,sv xs.2.ev] 55]) O call125 (jn hrec hnl U.ext) Y U (dC hd iv1 L1 z5 (λx hx=>(hok1.2.2 x hx).2.2) (λH w h=>hiv1.grow (hout _ h.ext))) de (λ_=>O) ⟨sm,O⟩ ?_ ?_ ?_ ?_
  ·clear Y U
   rintro lp2 pre2 xs2 _ a w22 hnx2 ⟨hq1,rfl⟩ Y U
   generalize (join [blk w0.hz [jv hd.c,jv hd.n,sv hd.root,sv hd.tag,iv1] 50,blk w1.hz [jv hd.c,jv hd.n,sv hd.root,sv hd.tag,iv2] 50,blk w2.hz [.bool false] 4,blk bA1 [jv xs.1] 3,blk bA0 [jv xs.2.n,jv xs.2.t,sv xs.2.ev] 55]).foot=M2 at U⊢
   refine aa λ_ G23=>wla (Y.p12 62 61 6 10 11 55 56 57 58 13 59 60 O) O λa Y=>G23 ?_
   refine aj<|aE (Y.p5 62 6 10 11 14 O) U (zeroValue55 _) [jv 0,jv 0,.string (⟨#[]⟩)] O λa w23 Y U=>aB 0 Y U [jv xs2.2.n,jv xs2.2.t,sv xs2.2.ev] O (sizeOf55 _) λa w24 Y U=>ab ?_
   exact⟨_,⟨w22.hz,Y.pick [6,10,11,14,15],hq1,O⟩,U⟩
  ·rintro lp2 pre2 xs2 _ a w25 hnx2 ⟨bAz0,Y,hq1,rfl⟩ hout9 hrec2 hnl2 U
   clear hrec2 hnl2
   generalize (join [blk bAz0 [jv xs2.2.n,jv xs2.2.t,sv xs2.2.ev] 55,blk w0.hz [jv hd.c,jv hd.n,sv hd.root,sv hd.tag,iv1] 50,blk w1.hz [jv hd.c,jv hd.n,sv hd.root,sv hd.tag,iv2] 50,blk w2.hz [.bool false] 4,blk bA1 [jv xs.1] 3,blk bA0 [jv xs.2.n,jv xs.2.t,sv xs.2.ev] 55]).foot=M2 at U hout9⊢
   have hout:=λw (h:Ext M2 w25 w)=>hout w (hout9 w h)
   refine aw<|aa λ_ G24=>nv Y<|zM (ld U 4 O O (isAgg3 _) O)<|zN O<|zM (v_lt O O)<|zN O<|λa Y=>?_
   rcases Decidable.em (xs.1<xs2.1) with hb7|hb7
   ·rw[zU hb7] at Y
    refine nv Y<|zP (ac (v:=pq bA0) O kr)<|zP (ld U 5 O O (isAgg3 _) O)<|zP (ac (v:=pq bAz0) O kr)<|zP (ld U 0 O O (isAgg3 _) O)<|zP (v_ge O O)<|zM (ay O O)<|λa Y=>G24 ?_
    replace Y:=Y.p2 6 72 O
    replace U:=U.k5 62 O
    refine az Y O (λhc8=>?_) (λhc8=>?_)
    ·refine aa λ_ G25=>aB 2 Y U [.bool true] O (sizeOf4 _) λa w26 Y U=>G25<|aq ?_
     exact⟨_,⟨O,qg (jq (fa hnx) (fa hnx2) om om),O⟩,U.select [0,1,2,3,4] de⟩
    have hnt:¬(xs.1<xs2.1∧xs2.2.n≤xs.2.n):=by omega
    refine ar ?_
    exact⟨_,⟨bT hq1 hnt,O⟩,U.select [0,1,2,3,4] de⟩
   rw[zW hb7] at Y
   have hnt:¬(xs.1<xs2.1∧xs2.2.n≤xs.2.n):=by omega
   refine nv Y<|zQ<|zQ<|zQ<|zQ<|zQ<|zM (al O O)<|λa Y=>G24 ?_
   replace Y:=Y.p2 6 72 O
   replace U:=U.k5 62 O
   refine aG Y O ?_
   refine ar ?_
   exact⟨_,⟨bT hq1 hnt,O⟩,U.select [0,1,2,3,4] de⟩
  ·rintro pre2 _ _ a w27 ⟨rfl,rfl⟩ ⟨hq1,rfl⟩ U Y
   replace Y:=Y.p10 6 10 11 55 56 57 58 13 59 60 O
   replace U:=U.n6 O
   refine G20<|aj<|nv Y<|zM ((aL O O de).asi (m':=1) O)<|zN O<|λa Y=>ab<|bU<|aa λ_ G26=>wlv Y ((v_lt O O).asb (b':=true) O) λa Y=>G26<|ah λ_ G27=>?_
   refine aM Y O ?_
   refine ar<|G27<|ah λ_ G28=>aw<|aa λ_ G29=>wlv Y (cw (v:=.agg #[jv hd.c,jv hd.n,sv hd.root,sv hd.tag,iv2]) O O kr) λa Y=>aE Y U (zeroValue50 _) [jv 0,jv 0,.string (⟨#[]⟩),.string (⟨#[]⟩),.slice none 0 0] O λa w28 Y U=>bj (us:=[jv hd.c,jv hd.n,sv hd.root,sv hd.tag,iv2]) 0 Y U O O O (sizeOf50 _) CO (lb O) (ds:=[jv hd.c,jv hd.n,sv hd.root,sv hd.tag,iv2]) O O λa w29 Y U=>?_
   refine G29<|aa λ_ G30=>?_
   refine wlv Y (ap (U.g 0 O) O (isAgg50 _) (sizeOf50 _)) λa Y=>bf Y U call74 O (eb hd iv2 L2 _ (hiv2.grow (hout _ U.ext))) λa w30 x10 hp Y U=>?_
   revert x10 hp Y U; rintro z9 hp Y U
   clear hp
   replace U:=U.n8 O
   refine G30<|aw ?_
   replace U:=U.s6 [2,3,4,5,6,0] de rfl
   replace Y:=Y.p11 6 10 11 55 73 56 57 58 13 59 60 O
   refine gO (M:=M1) (w0:=w18) (encs:=encK) (Hi:=[blk z9 [jv hd.c,jv hd.n,sv hd.root,sv hd.tag,iv2] 50]) (Hc:=[blk w0.hz [jv hd.c,jv hd.n,sv hd.root,sv hd.tag,iv1] 50,blk w1.hz [jv hd.c,jv hd.n,sv hd.root,sv hd.tag,iv2] 50,blk w2.hz [.bool false] 4,blk bA1 [jv xs.1] 3,blk bA0 [jv xs.2.n,jv xs.2.t,sv xs.2.ev] 55]) (λpre2 H=>(∀y∈pre2,¬(xs.1<y.1∧y.2.n≤xs.2.n))∧H=[blk w0.hz [jv hd.c,jv hd.n,sv hd.root,sv hd.tag,iv1] 50,blk w1.hz [jv hd.c,jv hd.n,sv hd.root,sv hd.tag,iv2] 50,blk w2.hz [.bool false] 4,blk bA1 [jv xs.1] 3,blk bA0 [jv xs.2.n,jv xs.2.t,sv xs.2.ev] 55]) (λc pre2 H=>c=.ret∧(crookF (itsM L1) (itsM L2)=true)∧H=[blk w0.hz [jv hd.c,jv hd.n,sv hd.root,sv hd.tag,iv1] 50,blk w1.hz [jv hd.c,jv hd.n,sv hd.root,sv hd.tag,iv2] 50,blk w2.hz [.bool true] 4,blk bA1 [jv xs.1] 3,blk bA0 [jv xs.2.n,jv xs.2.t,sv xs.2.ev] 55]) (λpre2 xs2 H a=>∃(bAz0:Nat),Fr 75 [(6,pq w2.hz),(10,pq bA1),(11,pq bA0),(14,jv xs2.1),(15,pq bAz0)] [] a∧(∀y∈pre2,¬(xs.1<y.1∧y.2.n≤xs.2.n))∧H=[blk bAz0 [jv xs2.2.n,jv xs2.2.t,sv xs2.2.ev] 55,blk w0.hz [jv hd.c,jv hd.n,sv hd.root,sv hd.tag,iv1] 50,blk w1.hz [jv hd.c,jv hd.n,sv hd.root,sv hd.tag,iv2] 50,blk w2.hz [.bool false] 4,blk bA1 [jv xs.1] 3,blk bA0 [jv xs.2.n,jv xs.2.t,sv xs.2.ev] 55]) O call125 (jn hrec hnl U.ext) Y U (dC hd iv2 L2 z9 (λx hx=>(hok2.2.2 x hx).2.2) (λH w h=>hiv2.grow (hout _ h.ext))) de (λ_=>O) ⟨sm,O⟩ ?_ ?_ ?_ ?_
   ·clear Y U
    rintro lp2 pre2 xs2 _ a w31 hnx2 ⟨hq2,rfl⟩ Y U
    generalize (join [blk w0.hz [jv hd.c,jv hd.n,sv hd.root,sv hd.tag,iv1] 50,blk w1.hz [jv hd.c,jv hd.n,sv hd.root,sv hd.tag,iv2] 50,blk w2.hz [.bool false] 4,blk bA1 [jv xs.1] 3,blk bA0 [jv xs.2.n,jv xs.2.t,sv xs.2.ev] 55]).foot=M2 at U⊢
    refine aa λ_ G31=>wla (Y.p13 62 61 6 10 11 55 73 56 57 58 13 59 60 O) O λa Y=>G31 ?_
    refine aj<|aE (Y.p5 62 6 10 11 14 O) U (zeroValue55 _) [jv 0,jv 0,.string (⟨#[]⟩)] O λa w32 Y U=>aB 0 Y U [jv xs2.2.n,jv xs2.2.t,sv xs2.2.ev] O (sizeOf55 _) λa w33 Y U=>ab ?_
    exact⟨_,⟨w31.hz,Y.pick [6,10,11,14,15],hq2,O⟩,U⟩
   ·rintro lp2 pre2 xs2 _ a w34 hnx2 ⟨bAz0,Y,hq2,rfl⟩ hout9 hrec2 hnl2 U
    clear hrec2 hnl2
    generalize (join [blk bAz0 [jv xs2.2.n,jv xs2.2.t,sv xs2.2.ev] 55,blk w0.hz [jv hd.c,jv hd.n,sv hd.root,sv hd.tag,iv1] 50,blk w1.hz [jv hd.c,jv hd.n,sv hd.root,sv hd.tag,iv2] 50,blk w2.hz [.bool false] 4,blk bA1 [jv xs.1] 3,blk bA0 [jv xs.2.n,jv xs.2.t,sv xs.2.ev] 55]).foot=M2 at U hout9⊢
    have hout:=λw (h:Ext M2 w34 w)=>hout w (hout9 w h)
    refine aw<|aa λ_ G32=>nv Y<|zM (ld U 4 O O (isAgg3 _) O)<|zN O<|zM (v_lt O O)<|zN O<|λa Y=>?_
    rcases Decidable.em (xs.1<xs2.1) with hb11|hb11
    ·rw[zU hb11] at Y
     refine nv Y<|zP (ac (v:=pq bA0) O kr)<|zP (ld U 5 O O (isAgg3 _) O)<|zP (ac (v:=pq bAz0) O kr)<|zP (ld U 0 O O (isAgg3 _) O)<|zP (v_ge O O)<|zM (ay O O)<|λa Y=>G32 ?_
     replace Y:=Y.p2 6 72 O
     replace U:=U.k5 62 O
     refine az Y O (λhc12=>?_) (λhc12=>?_)
     ·refine aa λ_ G33=>aB 2 Y U [.bool true] O (sizeOf4 _) λa w35 Y U=>G33<|aq ?_
      exact⟨_,⟨O,wS (jq (fa hnx) (fa hnx2) om om),O⟩,U.select [0,1,2,3,4] de⟩
     have hnt:¬(xs.1<xs2.1∧xs2.2.n≤xs.2.n):=by omega
     refine ar ?_
     exact⟨_,⟨bT hq2 hnt,O⟩,U.select [0,1,2,3,4] de⟩
    rw[zW hb11] at Y
    have hnt:¬(xs.1<xs2.1∧xs2.2.n≤xs.2.n):=by omega
    refine nv Y<|zQ<|zQ<|zQ<|zQ<|zQ<|zM (al O O)<|λa Y=>G32 ?_
    replace Y:=Y.p2 6 72 O
    replace U:=U.k5 62 O
    refine aG Y O ?_
    refine ar ?_
    exact⟨_,⟨bT hq2 hnt,O⟩,U.select [0,1,2,3,4] de⟩
   ·rintro pre2 _ _ a w36 ⟨rfl,rfl⟩ ⟨hq2,rfl⟩ U Y
    replace Y:=Y.p11 6 10 11 55 73 56 57 58 13 59 60 O
    replace U:=U.n6 O
    refine G28<|aj<|nv Y<|zM ((aL O O de).asi (m':=2) O)<|zN O<|λa Y=>ab<|bU<|aa λ_ G34=>wlv Y ((v_lt O O).asb (b':=false) O) λa Y=>G34<|ah λ_ G35=>?_
    refine aG Y O ?_
    refine aP ?_
    exact⟨_,⟨bT ho1 ⟨hq1,hq2⟩,O⟩,U.select [0,1,2] de⟩
   ·rintro _ pre2 _ _ a w37 rfl ⟨rfl,hhit,rfl⟩ U Y
    replace Y:=Y.p11 6 10 11 55 73 56 57 58 13 59 60 O
    replace U:=U.n6 O
    refine aq ?_
    exact⟨_,⟨O,hhit,O⟩,U.select [0,1,2] de⟩
  ·rintro _ pre2 _ _ a w38 rfl ⟨rfl,hhit,rfl⟩ U Y
   replace Y:=Y.p10 6 10 11 55 56 57 58 13 59 60 O
   replace U:=U.n6 O
   refine aq ?_
   exact⟨_,⟨O,hhit,O⟩,U.select [0,1,2] de⟩
 ·rintro D pre _ _ a w39 ⟨rfl,rfl⟩ ⟨ho1,rfl⟩ U Y
  replace Y:=Y.p6 4 5 6 45 46 50 O
  replace U:=U.n5 O
  refine G13<|aj<|nv Y<|zM ((aL O O de).asi (m':=1) O)<|zN O<|λa Y=>ab<|bU<|aa λ_ G36=>wlv Y ((v_lt O O).asb (b':=true) O) λa Y=>G36<|ah λ_ G37=>?_
  refine aM Y O ?_
  refine ar<|G37<|ah λ_ G38=>aw<|aa λ_ G39=>wlv Y (cw (v:=.agg #[jv hd.c,jv hd.n,sv hd.root,sv hd.tag,iv2]) O O kr) λa Y=>aE Y U (zeroValue50 _) [jv 0,jv 0,.string (⟨#[]⟩),.string (⟨#[]⟩),.slice none 0 0] O λa w40 Y U=>bj (us:=[jv hd.c,jv hd.n,sv hd.root,sv hd.tag,iv2]) 0 Y U O O O (sizeOf50 _) (by intro z hz; simp only[zY,Ab,As] at hz; rcases hz with rfl|rfl|rfl|rfl|rfl<;>first|rfl|exact SlAt.one (U.arg hiv2.1)) (lb O) (ds:=[jv hd.c,jv hd.n,sv hd.root,sv hd.tag,iv2]) O O λa w41 Y U=>?_
  refine G39<|aa λ_ G40=>?_
  refine wlv Y (ap (U.g 0 O) O (isAgg50 _) (sizeOf50 _)) λa Y=>bf Y U call74 O (eb hd iv2 L2 _ (cL U hiv2)) λa w42 x14 hp Y U=>?_
  revert x14 hp Y U; rintro z13 hp Y U
  clear hp
  replace U:=U.n7 O
  refine G40<|aw ?_
  replace U:=U.s5 [3,4,5,2,0] de rfl
  replace Y:=Y.p11 4 5 6 45 74 46 47 48 9 49 50 O
  refine dS (M:=No) (w0:=w0) (encs:=encK) (Hi:=[blk z13 [jv hd.c,jv hd.n,sv hd.root,sv hd.tag,iv2] 50]) (Hc:=[blk w0.hz [jv hd.c,jv hd.n,sv hd.root,sv hd.tag,iv1] 50,blk w1.hz [jv hd.c,jv hd.n,sv hd.root,sv hd.tag,iv2] 50,blk w2.hz [.bool false] 4,obj D (.deferred (some []))]) (λpre H=>(∀z∈pre,NB z (casesF (itsM L1))∧NB z (casesF (itsM L2)))∧H=[blk w0.hz [jv hd.c,jv hd.n,sv hd.root,sv hd.tag,iv1] 50,blk w1.hz [jv hd.c,jv hd.n,sv hd.root,sv hd.tag,iv2] 50,blk w2.hz [.bool false] 4,obj D (.deferred (some []))]) (λc pre H=>c=.ret∧(crookF (itsM L1) (itsM L2)=true)∧H=[blk w0.hz [jv hd.c,jv hd.n,sv hd.root,sv hd.tag,iv1] 50,blk w1.hz [jv hd.c,jv hd.n,sv hd.root,sv hd.tag,iv2] 50,blk w2.hz [.bool true] 4,obj D (.deferred (some []))]) (λpre xs H a=>∃(bA0:Nat),∃(bA1:Nat),Fr 75 [(4,pq w0.hz),(5,pq w1.hz),(6,pq w2.hz),(10,pq bA1),(11,pq bA0)] [] a∧(∀z∈pre,NB z (casesF (itsM L1))∧NB z (casesF (itsM L2)))∧H=[blk bA0 [jv xs.2.n,jv xs.2.t,sv xs.2.ev] 55,blk bA1 [jv xs.1] 3,blk w0.hz [jv hd.c,jv hd.n,sv hd.root,sv hd.tag,iv1] 50,blk w1.hz [jv hd.c,jv hd.n,sv hd.root,sv hd.tag,iv2] 50,blk w2.hz [.bool false] 4,obj D (.deferred (some []))]) O call125 Y U (dC hd iv2 L2 z13 (λx hx=>(hok2.2.2 x hx).2.2) (λH w h=>cL h hiv2)) de (λ_=>O) ⟨sm,O⟩ ?_ ?_ ?_ ?_
  ·clear Y U
   rintro lp pre xs _ a w43 hnx ⟨ho2,rfl⟩ Y U
   generalize (join [blk w0.hz [jv hd.c,jv hd.n,sv hd.root,sv hd.tag,iv1] 50,blk w1.hz [jv hd.c,jv hd.n,sv hd.root,sv hd.tag,iv2] 50,blk w2.hz [.bool false] 4,obj D (.deferred (some []))]).foot=M1 at U⊢
   refine aa λ_ G41=>aE (Y.p13 52 51 4 5 6 45 74 46 47 48 9 49 50 O) U (zeroValue3 _) [jv 0] O λa w44 Y U=>aB 0 Y U [jv xs.1] O (sizeOf3 _) λa w45 Y U=>G41 ?_
   refine aj<|aE (Y.p5 52 4 5 6 10 O) U (zeroValue55 _) [jv 0,jv 0,.string (⟨#[]⟩)] O λa w46 Y U=>aB 0 Y U [jv xs.2.n,jv xs.2.t,sv xs.2.ev] O (sizeOf55 _) λa w47 Y U=>ab ?_
   exact⟨_,⟨w45.hz,w43.hz,Y.pick [4,5,6,10,11],ho2,O⟩,U⟩
  ·rintro lp pre xs _ a w48 hnx ⟨bA0,bA1,Y,ho2,rfl⟩ hout hrec hnl U
   generalize (join [blk bA0 [jv xs.2.n,jv xs.2.t,sv xs.2.ev] 55,blk bA1 [jv xs.1] 3,blk w0.hz [jv hd.c,jv hd.n,sv hd.root,sv hd.tag,iv1] 50,blk w1.hz [jv hd.c,jv hd.n,sv hd.root,sv hd.tag,iv2] 50,blk w2.hz [.bool false] 4,obj D (.deferred (some []))]).foot=M1 at U hout hnl⊢
   refine aw<|aa λ_ G42=>nv Y<|zM (ap (U.g 2 O) O (isAgg50 _) (sizeOf50 _))<|zM (ap (U.g 3 O) O (isAgg50 _) (sizeOf50 _))<|zM (aV (v:=.agg #[jv hd.c,jv hd.n,sv hd.root,sv hd.tag,iv1,jv hd.c,jv hd.n,sv hd.root,sv hd.tag,iv2]) O CK)<|zN O<|λa Y=>G42<|aw ?_
   refine eO 4 ?_
   refine bU<|aa λ_ G43=>wlv Y ((v_lt O O).asb (b':=true) O) λa Y=>G43<|ah λ_ G44=>?_
   refine aM Y O ?_
   refine ar<|G44<|ah λ_ G45=>aw<|aa λ_ G46=>wlv Y (cw (v:=.agg #[jv hd.c,jv hd.n,sv hd.root,sv hd.tag,iv1]) O O kr) λa Y=>aE Y U (zeroValue50 _) [jv 0,jv 0,.string (⟨#[]⟩),.string (⟨#[]⟩),.slice none 0 0] O λa w49 Y U=>bj (us:=[jv hd.c,jv hd.n,sv hd.root,sv hd.tag,iv1]) 0 Y U O O O (sizeOf50 _) CP (lb O) (ds:=[jv hd.c,jv hd.n,sv hd.root,sv hd.tag,iv1]) O O λa w50 Y U=>?_
   refine G46 ?_
   refine aa λ_ G47=>wlv (Y.p6 6 10 11 55 56 13 O) (ap (U.g 0 O) O (isAgg50 _) (sizeOf50 _)) λa Y=>bf Y U call74 O (eb hd iv1 L1 _ (hiv1.grow (hout _ U.ext))) λa w51 x16 hp Y U=>?_
   revert x16 hp Y U; rintro z15 hp Y U
   clear hp
   replace U:=U.n8 O
   refine G47<|aw ?_
   replace U:=U.s7 [4,5,6,3,2,7,0] de rfl
   replace Y:=Y.p8 6 10 11 55 56 13 59 60 O
   refine gO (M:=M1) (w0:=w48) (encs:=encK) (Hi:=[blk z15 [jv hd.c,jv hd.n,sv hd.root,sv hd.tag,iv1] 50]) (Hc:=[blk w0.hz [jv hd.c,jv hd.n,sv hd.root,sv hd.tag,iv1] 50,blk w1.hz [jv hd.c,jv hd.n,sv hd.root,sv hd.tag,iv2] 50,blk w2.hz [.bool false] 4,blk bA1 [jv xs.1] 3,blk bA0 [jv xs.2.n,jv xs.2.t,sv xs.2.ev] 55,obj D (.deferred (some []))]) (λpre2 H=>(∀y∈pre2,¬(xs.1<y.1∧y.2.n≤xs.2.n))∧H=[blk w0.hz [jv hd.c,jv hd.n,sv hd.root,sv hd.tag,iv1] 50,blk w1.hz [jv hd.c,jv hd.n,sv hd.root,sv hd.tag,iv2] 50,blk w2.hz [.bool false] 4,blk bA1 [jv xs.1] 3,blk bA0 [jv xs.2.n,jv xs.2.t,sv xs.2.ev] 55,obj D (.deferred (some []))]) (λc pre2 H=>c=.ret∧(crookF (itsM L1) (itsM L2)=true)∧H=[blk w0.hz [jv hd.c,jv hd.n,sv hd.root,sv hd.tag,iv1] 50,blk w1.hz [jv hd.c,jv hd.n,sv hd.root,sv hd.tag,iv2] 50,blk w2.hz [.bool true] 4,blk bA1 [jv xs.1] 3,blk bA0 [jv xs.2.n,jv xs.2.t,sv xs.2.ev] 55,obj D (.deferred (some []))]) (λpre2 xs2 H a=>∃(bAz0:Nat),Fr 75 [(6,pq w2.hz),(10,pq bA1),(11,pq bA0),(14,jv xs2.1),(15,pq bAz0)] [] a∧(∀y∈pre2,¬(xs.1<y.1∧y.2.n≤xs.2.n))∧H=[blk bAz0 [jv xs2.2.n,jv xs2.2.t,sv xs2.2.ev] 55,blk w0.hz [jv hd.c,jv hd.n,sv hd.root,sv hd.tag,iv1] 50,blk w1.hz [jv hd.c,jv hd.n,sv hd.root,sv hd.tag,iv2] 50,blk w2.hz [.bool false] 4,blk bA1 [jv xs.1] 3,blk bA0 [jv xs.2.n,jv xs.2.t,sv xs.2.ev] 55,obj D (.deferred (some []))]) O call125 (jn hrec hnl U.ext) Y U (dC hd iv1 L1 z15 (λx hx=>(hok1.2.2 x hx).2.2) (λH w h=>hiv1.grow (hout _ h.ext))) de (λ_=>O) ⟨sm,O⟩ ?_ ?_ ?_ ?_
   ·clear Y U
    rintro lp2 pre2 xs2 _ a w52 hnx2 ⟨hq1,rfl⟩ Y U
    generalize (join [blk w0.hz [jv hd.c,jv hd.n,sv hd.root,sv hd.tag,iv1] 50,blk w1.hz [jv hd.c,jv hd.n,sv hd.root,sv hd.tag,iv2] 50,blk w2.hz [.bool false] 4,blk bA1 [jv xs.1] 3,blk bA0 [jv xs.2.n,jv xs.2.t,sv xs.2.ev] 55,obj D (.deferred (some []))]).foot=M2 at U⊢
    refine aa λ_ G48=>wla (Y.p10 62 61 6 10 11 55 56 13 59 60 O) O λa Y=>G48 ?_
    refine aj<|aE (Y.p5 62 6 10 11 14 O) U (zeroValue55 _) [jv 0,jv 0,.string (⟨#[]⟩)] O λa w53 Y U=>aB 0 Y U [jv xs2.2.n,jv xs2.2.t,sv xs2.2.ev] O (sizeOf55 _) λa w54 Y U=>ab ?_
    exact⟨_,⟨w52.hz,Y.pick [6,10,11,14,15],hq1,O⟩,U⟩
   ·rintro lp2 pre2 xs2 _ a w55 hnx2 ⟨bAz0,Y,hq1,rfl⟩ hout9 hrec2 hnl2 U
    clear hrec2 hnl2
    generalize (join [blk bAz0 [jv xs2.2.n,jv xs2.2.t,sv xs2.2.ev] 55,blk w0.hz [jv hd.c,jv hd.n,sv hd.root,sv hd.tag,iv1] 50,blk w1.hz [jv hd.c,jv hd.n,sv hd.root,sv hd.tag,iv2] 50,blk w2.hz [.bool false] 4,blk bA1 [jv xs.1] 3,blk bA0 [jv xs.2.n,jv xs.2.t,sv xs.2.ev] 55,obj D (.deferred (some []))]).foot=M2 at U hout9⊢
    have hout:=λw (h:Ext M2 w55 w)=>hout w (hout9 w h)
    refine aw<|aa λ_ G49=>nv Y<|zM (ld U 4 O O (isAgg3 _) O)<|zN O<|zM (v_lt O O)<|zN O<|λa Y=>?_
    rcases Decidable.em (xs.1<xs2.1) with hb17|hb17
    ·rw[zU hb17] at Y
     refine nv Y<|zP (ac (v:=pq bA0) O kr)<|zP (ld U 5 O O (isAgg3 _) O)<|zP (ac (v:=pq bAz0) O kr)<|zP (ld U 0 O O (isAgg3 _) O)<|zP (v_ge O O)<|zM (ay O O)<|λa Y=>G49 ?_
     replace Y:=Y.p2 6 72 O
     replace U:=U.k6 126 O
     refine az Y O (λhc18=>?_) (λhc18=>?_)
     ·refine aa λ_ G50=>aB 2 Y U [.bool true] O (sizeOf4 _) λa w56 Y U=>G50<|aq ?_
      exact⟨_,⟨O,vE (jq (fa hnx) (fa hnx2) om om),O⟩,U.select [0,1,2,3,4,5] de⟩
     have hnt:¬(xs.1<xs2.1∧xs2.2.n≤xs.2.n):=by omega
     refine ar ?_
     exact⟨_,⟨bT hq1 hnt,O⟩,U.select [0,1,2,3,4,5] de⟩
    rw[zW hb17] at Y
    have hnt:¬(xs.1<xs2.1∧xs2.2.n≤xs.2.n):=by omega
    refine nv Y<|zQ<|zQ<|zQ<|zQ<|zQ<|zM (al O O)<|λa Y=>G49 ?_
    replace Y:=Y.p2 6 72 O
    replace U:=U.k6 126 O
    refine aG Y O ?_
    refine ar ?_
    exact⟨_,⟨bT hq1 hnt,O⟩,U.select [0,1,2,3,4,5] de⟩
   ·rintro pre2 _ _ a w57 ⟨rfl,rfl⟩ ⟨hq1,rfl⟩ U Y
    replace Y:=Y.p8 6 10 11 55 56 13 59 60 O
    replace U:=U.n7 O
    refine G45<|aj<|nv Y<|zM ((aL O O de).asi (m':=1) O)<|zN O<|λa Y=>ab<|bU<|aa λ_ G51=>wlv Y ((v_lt O O).asb (b':=true) O) λa Y=>G51<|ah λ_ G52=>?_
    refine aM Y O ?_
    refine ar<|G52<|ah λ_ G53=>aw<|aa λ_ G54=>wlv Y (cw (v:=.agg #[jv hd.c,jv hd.n,sv hd.root,sv hd.tag,iv2]) O O kr) λa Y=>aE Y U (zeroValue50 _) [jv 0,jv 0,.string (⟨#[]⟩),.string (⟨#[]⟩),.slice none 0 0] O λa w58 Y U=>bj (us:=[jv hd.c,jv hd.n,sv hd.root,sv hd.tag,iv2]) 0 Y U O O O (sizeOf50 _) CO (lb O) (ds:=[jv hd.c,jv hd.n,sv hd.root,sv hd.tag,iv2]) O O λa w59 Y U=>?_
    refine G54<|aa λ_ G55=>?_
    refine wlv Y (ap (U.g 0 O) O (isAgg50 _) (sizeOf50 _)) λa Y=>bf Y U call74 O (eb hd iv2 L2 _ (hiv2.grow (hout _ U.ext))) λa w60 x20 hp Y U=>?_
    revert x20 hp Y U; rintro z19 hp Y U
    clear hp
    replace U:=U.n9 O
    refine G55<|aw ?_
    replace U:=U.s7 [2,3,4,5,6,7,0] de rfl
    replace Y:=Y.p11 6 10 11 55 73 56 57 58 13 59 60 O
    refine gO (M:=M1) (w0:=w48) (encs:=encK) (Hi:=[blk z19 [jv hd.c,jv hd.n,sv hd.root,sv hd.tag,iv2] 50]) (Hc:=[blk w0.hz [jv hd.c,jv hd.n,sv hd.root,sv hd.tag,iv1] 50,blk w1.hz [jv hd.c,jv hd.n,sv hd.root,sv hd.tag,iv2] 50,blk w2.hz [.bool false] 4,blk bA1 [jv xs.1] 3,blk bA0 [jv xs.2.n,jv xs.2.t,sv xs.2.ev] 55,obj D (.deferred (some []))]) (λpre2 H=>(∀y∈pre2,¬(xs.1<y.1∧y.2.n≤xs.2.n))∧H=[blk w0.hz [jv hd.c,jv hd.n,sv hd.root,sv hd.tag,iv1] 50,blk w1.hz [jv hd.c,jv hd.n,sv hd.root,sv hd.tag,iv2] 50,blk w2.hz [.bool false] 4,blk bA1 [jv xs.1] 3,blk bA0 [jv xs.2.n,jv xs.2.t,sv xs.2.ev] 55,obj D (.deferred (some []))]) (λc pre2 H=>c=.ret∧(crookF (itsM L1) (itsM L2)=true)∧H=[blk w0.hz [jv hd.c,jv hd.n,sv hd.root,sv hd.tag,iv1] 50,blk w1.hz [jv hd.c,jv hd.n,sv hd.root,sv hd.tag,iv2] 50,blk w2.hz [.bool true] 4,blk bA1 [jv xs.1] 3,blk bA0 [jv xs.2.n,jv xs.2.t,sv xs.2.ev] 55,obj D (.deferred (some []))]) (λpre2 xs2 H a=>∃(bAz0:Nat),Fr 75 [(6,pq w2.hz),(10,pq bA1),(11,pq bA0),(14,jv xs2.1),(15,pq bAz0)] [] a∧(∀y∈pre2,¬(xs.1<y.1∧y.2.n≤xs.2.n))∧H=[blk bAz0 [jv xs2.2.n,jv xs2.2.t,sv xs2.2.ev] 55,blk w0.hz [jv hd.c,jv hd.n,sv hd.root,sv hd.tag,iv1] 50,blk w1.hz [jv hd.c,jv hd.n,sv hd.root,sv hd.tag,iv2] 50,blk w2.hz [.bool false] 4,blk bA1 [jv xs.1] 3,blk bA0 [jv xs.2.n,jv xs.2.t,sv xs.2.ev] 55,obj D (.deferred (some []))]) O call125 (jn hrec hnl U.ext) Y U (dC hd iv2 L2 z19 (λx hx=>(hok2.2.2 x hx).2.2) (λH w h=>hiv2.grow (hout _ h.ext))) de (λ_=>O) ⟨sm,O⟩ ?_ ?_ ?_ ?_
    ·clear Y U
     rintro lp2 pre2 xs2 _ a w61 hnx2 ⟨hq2,rfl⟩ Y U
     generalize (join [blk w0.hz [jv hd.c,jv hd.n,sv hd.root,sv hd.tag,iv1] 50,blk w1.hz [jv hd.c,jv hd.n,sv hd.root,sv hd.tag,iv2] 50,blk w2.hz [.bool false] 4,blk bA1 [jv xs.1] 3,blk bA0 [jv xs.2.n,jv xs.2.t,sv xs.2.ev] 55,obj D (.deferred (some []))]).foot=M2 at U⊢
     refine aa λ_ G56=>wla (Y.p13 62 61 6 10 11 55 73 56 57 58 13 59 60 O) O λa Y=>G56 ?_
     refine aj<|aE (Y.p5 62 6 10 11 14 O) U (zeroValue55 _) [jv 0,jv 0,.string (⟨#[]⟩)] O λa w62 Y U=>aB 0 Y U [jv xs2.2.n,jv xs2.2.t,sv xs2.2.ev] O (sizeOf55 _) λa w63 Y U=>ab ?_
     exact⟨_,⟨w61.hz,Y.pick [6,10,11,14,15],hq2,O⟩,U⟩
    ·rintro lp2 pre2 xs2 _ a w64 hnx2 ⟨bAz0,Y,hq2,rfl⟩ hout9 hrec2 hnl2 U
     clear hrec2 hnl2
     generalize (join [blk bAz0 [jv xs2.2.n,jv xs2.2.t,sv xs2.2.ev] 55,blk w0.hz [jv hd.c,jv hd.n,sv hd.root,sv hd.tag,iv1] 50,blk w1.hz [jv hd.c,jv hd.n,sv hd.root,sv hd.tag,iv2] 50,blk w2.hz [.bool false] 4,blk bA1 [jv xs.1] 3,blk bA0 [jv xs.2.n,jv xs.2.t,sv xs.2.ev] 55,obj D (.deferred (some []))]).foot=M2 at U hout9⊢
     have hout:=λw (h:Ext M2 w64 w)=>hout w (hout9 w h)
     refine aw<|aa λ_ G57=>nv Y<|zM (ld U 4 O O (isAgg3 _) O)<|zN O<|zM (v_lt O O)<|zN O<|λa Y=>?_
     rcases Decidable.em (xs.1<xs2.1) with hb21|hb21
     ·rw[zU hb21] at Y
      refine nv Y<|zP (ac (v:=pq bA0) O kr)<|zP (ld U 5 O O (isAgg3 _) O)<|zP (ac (v:=pq bAz0) O kr)<|zP (ld U 0 O O (isAgg3 _) O)<|zP (v_ge O O)<|zM (ay O O)<|λa Y=>G57 ?_
      replace Y:=Y.p2 6 72 O
      replace U:=U.k6 126 O
      refine az Y O (λhc22=>?_) (λhc22=>?_)
      ·refine aa λ_ G58=>aB 2 Y U [.bool true] O (sizeOf4 _) λa w65 Y U=>G58<|aq ?_
       exact⟨_,⟨O,vg (jq (fa hnx) (fa hnx2) om om),O⟩,U.select [0,1,2,3,4,5] de⟩
      have hnt:¬(xs.1<xs2.1∧xs2.2.n≤xs.2.n):=by omega
      refine ar ?_
      exact⟨_,⟨bT hq2 hnt,O⟩,U.select [0,1,2,3,4,5] de⟩
     rw[zW hb21] at Y
     have hnt:¬(xs.1<xs2.1∧xs2.2.n≤xs.2.n):=by omega
     refine nv Y<|zQ<|zQ<|zQ<|zQ<|zQ<|zM (al O O)<|λa Y=>G57 ?_
     replace Y:=Y.p2 6 72 O
     replace U:=U.k6 126 O
     refine aG Y O ?_
     refine ar ?_
     exact⟨_,⟨bT hq2 hnt,O⟩,U.select [0,1,2,3,4,5] de⟩
    ·rintro pre2 _ _ a w66 ⟨rfl,rfl⟩ ⟨hq2,rfl⟩ U Y
     replace Y:=Y.p11 6 10 11 55 73 56 57 58 13 59 60 O
     replace U:=U.n7 O
     refine G53<|aj<|nv Y<|zM ((aL O O de).asi (m':=2) O)<|zN O<|λa Y=>ab<|bU<|aa λ_ G59=>wlv Y ((v_lt O O).asb (b':=false) O) λa Y=>G59<|ah λ_ G60=>?_
     refine aG Y O ?_
     refine aP ?_
     exact⟨_,⟨bT ho2 ⟨hq1,hq2⟩,O⟩,U.select [0,1,2,5] de⟩
    ·rintro _ pre2 _ _ a w67 rfl ⟨rfl,hhit,rfl⟩ U Y
     replace Y:=Y.p11 6 10 11 55 73 56 57 58 13 59 60 O
     replace U:=U.n7 O
     refine aq ?_
     exact⟨_,⟨O,hhit,O⟩,U.select [0,1,2,5] de⟩
   ·rintro _ pre2 _ _ a w68 rfl ⟨rfl,hhit,rfl⟩ U Y
    replace Y:=Y.p8 6 10 11 55 56 13 59 60 O
    replace U:=U.n7 O
    refine aq ?_
    exact⟨_,⟨O,hhit,O⟩,U.select [0,1,2,5] de⟩
  ·rintro D2 pre _ _ a w69 ⟨rfl,rfl⟩ ⟨ho2,rfl⟩ U Y
   replace Y:=Y.p11 4 5 6 45 74 46 47 48 9 49 50 O
   replace U:=U.n6 O
   refine G38<|aj<|nv Y<|zM ((aL O O de).asi (m':=2) O)<|zN O<|λa Y=>ab<|bU<|aa λ_ G61=>wlv Y ((v_lt O O).asb (b':=false) O) λa Y=>G61<|ah λ_ G62=>?_
   refine aG Y O ?_
   refine aP<|G9<|aa λ_ G63=>aB 3 Y U [.bool false] O (sizeOf4 _) λa w70 Y U=>G63 ?_
   replace Y:=Y.p1 6 O
   replace U:=U.k5 31 O
   refine aq ?_
   have hD2:=U.g 0 rfl
   replace U:=U.unmark (i:=0) (o':=.deferred none) O
   have hD:=U.g 3 rfl
   replace U:=U.unmark (i:=3) (o':=.deferred none) O
   replace U:=U.n3 O
   refine oY Y hD2 hD results30 (ao O (aN (U.g 2 O) (isAgg4 _)) ag) ?_
   exact⟨by simp only[retv]; rw[wG hna hnb ho1 ho2]; try rfl,U.ext⟩
  ·rintro D2 _ pre _ _ a w71 rfl ⟨rfl,hhit,rfl⟩ U Y
   replace Y:=Y.p11 4 5 6 45 74 46 47 48 9 49 50 O
   replace U:=U.n6 O
   refine aq ?_
   have hD2:=U.g 0 rfl
   replace U:=U.unmark (i:=0) (o':=.deferred none) O
   have hD:=U.g 3 rfl
   replace U:=U.unmark (i:=3) (o':=.deferred none) O
   replace U:=U.n4 O
   refine oY Y hD2 hD results30 (ao O (aN (U.g 2 O) (isAgg4 _)) ag) ?_
   exact⟨by simp only[retv]; rw[hhit]; try rfl,U.ext⟩
 ·rintro D _ pre _ _ a w72 rfl ⟨rfl,hhit,rfl⟩ U Y
  replace Y:=Y.p6 4 5 6 45 46 50 O
  replace U:=U.n5 O
  refine aq ?_
  have hD:=U.g 0 rfl
  replace U:=U.unmark (i:=0) (o':=.deferred none) O
  replace U:=U.n4 O
  refine cF Y hD results30 (ao O (aN (U.g 2 O) (isAgg4 _)) ag) ?_
  exact⟨by simp only[retv]; rw[hhit]; try rfl,U.ext⟩
end Go.Proofs.YtliklcmddmpdfaaGreatDoor
namespace Go.Proofs.YtliklcmddmpdfaaGreatDoor
open Go.RowKit Go.PW _root_.Go.Proofs.Tryz
theorem yc {p:Rpl→Bool} {o:Option Int} {r:Rpl} (h:p r=false):nextO p o r=o:=by unfold nextO; rw[h]; rfl
theorem vL {p:Rpl→Bool} {o:Option Int} {r:Rpl} (h:p r=true) (ho:o.isSome=false):nextO p o r=some r.at_:=by
 cases o with
 | none=>unfold nextO; rw[h]; rfl
 | some b=>cases ho
theorem uH {p:Rpl→Bool} {o:Option Int} {r:Rpl} (h:p r=true) (hl:r.at_<o.getD 0):nextO p o r=some r.at_:=by
 cases o with
 | none=>unfold nextO; rw[h]; rfl
 | some b=>
  have hl:r.at_<b:=hl
  unfold nextO; rw[h,show lessO (some b) r.at_=true from zU hl]; rfl
theorem xR {p:Rpl→Bool} {o:Option Int} {r:Rpl} (ho:o.isSome=true) (hl:¬r.at_<o.getD 0):nextO p o r=o:=by
 cases o with
 | none=>cases ho
 | some b=>
  have hl:¬r.at_<b:=hl
  unfold nextO; rw[show lessO (some b) r.at_=false from zW hl,AY]; rfl
def repsM (R:List Rpw):List Rpl:=R.map Rpw.m
theorem ue {R:List Rpw} {k:Nat} (h:k<R.length):(repsM R).drop k=(R.getD k Rpw.z).m::(repsM R).drop (k+1):=by
 unfold repsM
 have h':k<(R.map Rpw.m).length:=by rw[zR]; exact h
 rw[AO h',Bo,z6,z8 h]; rfl
theorem jx {p:Rpl→Bool} {o o2:Option Int} {R:List Rpw} {k:Nat} {r:Rpw} (hk:k<R.length) (hx:R.getD k Rpw.z=r) (hf:firstF p none (repsM R)=firstF p o ((repsM R).drop k)) (hn:nextO p o r.m=o2):firstF p none (repsM R)=firstF p o2 ((repsM R).drop (k+1)):=by
 rw[hf,ue hk,hx,←hn]; rfl
section
variable {ko bo:Option Int} {q:Chg} {en t:Int}
theorem fw (h:bo.isSome=true) (h2:ko.isSome=false):pickS ko bo q en t=(3,bo.getD 0):=by cases bo<;>cases ko<;>simp_all [pickS]
theorem fy (h:bo.isSome=true) (h2:ko.isSome=true) (h3:bo.getD 0≤ko.getD 0):pickS ko bo q en t=(3,bo.getD 0):=by cases bo<;>cases ko<;>simp_all [pickS]
theorem fm (h:bo.isSome=false) (h2:ko.isSome=true):pickS ko bo q en t=(2,ko.getD 0):=by cases bo<;>cases ko<;>simp_all [pickS]
theorem fg (h:bo.isSome=true) (h2:ko.isSome=true) (h3:¬bo.getD 0≤ko.getD 0):pickS ko bo q en t=(2,ko.getD 0):=by
 cases bo<;>cases ko<;>simp_all [pickS]
theorem gj (h:bo.isSome=false) (h2:ko.isSome=false) (h3:en≤t):pickS ko bo q en t=(3,en):=by cases bo<;>cases ko<;>simp_all [pickS]
theorem gp (h:bo.isSome=false) (h2:ko.isSome=false) (h3:¬en≤t):pickS ko bo q en t=(1,q.a):=by
 cases bo<;>cases ko<;>simp_all [pickS]
end
theorem xr {q:Chg} (h:q.ok=true):(0≤q.h∧q.h≤63)∧(0≤q.c∧q.c≤7)∧(0≤q.n∧q.n≤99999999)∧(0≤q.a∧q.a≤10000000)∧0≤q.t∧q.t≤q.a:=by
 simp only[Chg.ok,inB,zT,zZ] at h; omega
theorem ml {key:By} {lim t:Int} {q:Chg} {n:Nat} (h:fk key lim q n t=true):key.length=32∧(1≤lim∧lim≤1000000)∧q.ok=true∧n≤10∧q.a≤t∧t≤11000000:=by
 simp only[fk,inB,zT,zZ] at h
 exact⟨h.1.1.1.1,h.1.1.1.2,h.1.1.2,h.1.2,h.2⟩
theorem uy (key:By) (hd:Hd) (c:Int) (lv:Value) (l:List Cas) (w0:World) (hlv:SlAt w0 lv 3 (l.map Cas.cells)) (hk32:key.length=32) (hdoc:docOk c l=true) (hhd:hdOf sha key c (entC l) l.length=hd) (hk0:(blk 0 (kOf.map wv) 258).ok w0):
  Ret Tryz.prog 23 #[sv key,.agg #[jv c,lv]] w0 λv w=>v=.tuple #[.agg #[jv hd.c,jv hd.n,sv hd.root,sv hd.tag],jv 0]∧Ext No w0 w:=by
 have hll:=g8 hdoc
 have hcb:=eP hdoc
 have hreg:=gb hdoc
 refine BF func23 O ntmps23 (lb O) λa Y U=>?_
 refine aa λ_ G1=>aS Y U O [jv c,lv] O λa w1 Y U=>aE Y U (zeroValue47 _) [jv 0,jv 0,.string (⟨#[]⟩),.string (⟨#[]⟩)] O λa w2 Y U=>wla Y O λa Y=>G1<|ah λ_ G2=>?_
 refine aa λ_ G3=>wlv Y (ap (U.g 1 O) O (isAgg32 _) (sizeOf32 _)) λa Y=>ax Y U call31 O (cC hdoc (kw c lv l _ (U.arg hlv))) λa w3 Y U=>wlv Y ((bB O).asb (b':=false) O) λa Y=>G3<|aG Y O ?_
 refine ar<|G2<|ah λ_ G4=>aH (aI λw4 hxz=>?_)
 replace U:=U.grow hxz
 refine aQ (k:=0) 12 [9,11] Y ?_
 replace Y:=Y.p8 0 1 3 4 5 8 9 10 O
 refine ey 10 11 47 [jv 0,jv 0,.string (⟨#[]⟩),.string (⟨#[]⟩)] [jv hd.c,jv hd.n,sv hd.root,sv hd.tag] 12 [[],[],[1],[],[3],[4],[0,2,5],[6],[7],[7],[],[8,10]] (λi=>match i with|0=>pv (sv key)|1=>pv (.agg #[jv c,lv])|2=>pm (λv:Value=>.agg #[jv c,v]) (λv=>[own v 9 1 ((entC l).map λs=>[sv s])]) (λ_=>True)|3=>pv (po w0.hz 1)|4=>pv (lv)|5=>pv (jv (l.length:Int))|6=>pv (.tuple #[.agg #[jv hd.c,jv hd.n,sv hd.root,sv hd.tag],jv 0])|7=>pv (.tuple #[.agg #[jv hd.c,jv hd.n,sv hd.root,sv hd.tag],jv 0])|8=>pv (.agg #[jv hd.c,jv hd.n,sv hd.root,sv hd.tag])|9=>pv (jv 0)|10=>λv E=>∃b,v=ptr b∧E=[]|11=>λv E=>v=undef∧E=[]|_=>λ_ _=>False) Y (H:=[blk w1.hz [jv 0,jv 0,.string (⟨#[]⟩),.string (⟨#[]⟩)] 47,blk w0.hz [jv c,lv] 32]) U kr kr kr kr de de de de de ?_ (λv E h=>h) ⟨O,O⟩ (λv E=>Iff.rfl) ?_ ?_ ?_ ?_
 ·intro i v E h
  match i,h with
  | 0,_=>exact by decide
  | 1,_=>exact by decide
  | 2,_=>exact by decide
  | 3,_=>exact by decide
  | 4,_=>exact by decide
  | 5,_=>exact by decide
  | 6,_=>exact by decide
  | 7,_=>exact by decide
  | 8,_=>exact by decide
  | 9,_=>exact by decide
  | 10,_=>exact by decide
  | 11,_=>exact by decide
  | i+12,h=>exact h.elim
 ·intro i hi hia hij e
  match i,hi,hia,hij with
  | 0,_,_,_=>exact λw U=>OpV.g (au O)
  | 1,_,_,_=>exact λw U=>OpV.g (ap (U.g 2 O) O (isAgg32 _) (sizeOf32 _))
  | 2,_,_,_=>
   rintro _ _ ⟨rfl,rfl⟩
   intro w U
   exact dt call72 O (sK c lv l _ (U.arg hlv) om)
  | 3,_,_,_=>exact λw U=>OpV.g (ac (v:=po w0.hz 1) O kr)
  | 4,_,_,_=>
   rintro _ _ ⟨rfl,rfl⟩
   intro w U
   exact OpV.g (ld U 2 O O (isAgg30 _) O)
  | 5,_,_,_=>
   rintro _ _ ⟨rfl,rfl⟩
   intro w U
   exact OpV.g ((aK (sT:=30) (U.arg hlv) O O (runUnderlying30 _)).asi (m':=(l.length:Int)) B9)
  | 6,_,_,_=>
   rintro _ _ ⟨rfl,rfl⟩ _ _ ⟨ev2,rfl, -,rfl⟩ _ _ ⟨rfl,rfl⟩
   intro w U
   exact bD call73 O (ni key l.length hd c ev2 (entC l) _ (U.ow 0 O) hk32 hreg Dp hhd (U.keepb hk0))
  | 7,_,_,_=>
   rintro _ _ ⟨rfl,rfl⟩
   intro w U
   exact OpV.g (au O)
  | 8,_,_,_=>
   rintro _ _ ⟨rfl,rfl⟩
   intro w U
   exact OpV.g (ak O O)
  | 9,_,_,_=>
   rintro _ _ ⟨rfl,rfl⟩
   intro w U
   exact OpV.g (ak O O)
  | 10,_,h,_=>exact absurd O h
  | 11,_,_,h=>exact absurd O h
  | i+12,h,_,_=>exact absurd h om
 ·exact λLv w=>eJ (zeroValue47 _)
 ·rintro _ _ ⟨rfl,rfl⟩ _ _ ⟨b1,rfl,rfl⟩
  intro b hb w h
  have hb:some (ptr b1)=some (ptr b):=hb
  cases hb
  exact dH O O h (sizeOf47 _) O (lb O) O
 clear Y U
 rintro bq _ _ ⟨⟨rfl,rfl⟩, -⟩ _ _ ⟨⟨rfl,rfl⟩, -⟩ _ _ ⟨⟨ev2,rfl, -,rfl⟩, -⟩ _ _ ⟨⟨rfl,rfl⟩, -⟩ _ _ ⟨⟨rfl,rfl⟩, -⟩ _ _ ⟨⟨rfl,rfl⟩, -⟩ _ _ ⟨⟨rfl,rfl⟩, -⟩ _ _ ⟨⟨rfl,rfl⟩, -⟩ _ _ ⟨⟨rfl,rfl⟩, -⟩ _ _ ⟨⟨rfl,rfl⟩, -⟩ _ _ ⟨⟨b1,rfl,rfl⟩,hva⟩ a w5 Y U
 obtain rfl:b1=bq:=fV (hva rfl)
 replace Y:Fr 26 [(13,_),(14,_),(15,_),(16,_),(17,_),(18,_),(19,_),(12,_),(20,_),(21,_),(6,_),(0,_),(1,_),(3,_),(4,_),(5,_),(8,_),(9,_),(10,_)] [] a:=Y
 try dsimp only at U
 replace U:=U.n4 O
 refine ab<|aJ (k:=12) 13 [12] ?_
 refine wla Y O λa Y=>ab<|aR<|G4 ?_
 replace U:=U.k2 6 O
 refine ah λ_ G5=>aa λ_ G6=>nv (Y.p4 4 5 6 7 O)<|zN O<|zM ((v_ne O O).asb (b':=false) O)<|λa Y=>G6<|aG Y O ?_
 refine ar<|G5<|aa λ_ G7=>wlv Y (ap (U.g 0 O) O (isAgg47 _) (sizeOf47 _)) λa Y=>aB 1 Y U [jv hd.c,jv hd.n,sv hd.root,sv hd.tag] O (sizeOf47 _) λa w6 Y U=>wla Y O λa Y=>G7<|aq ?_
 refine am Y results23 (ao O (bd (U.g 1 O) (isAgg47 _) (sizeOf47 _)) (ae O ag)) ?_
 exact⟨by rfl,U.ext⟩
theorem fK (key:By) (hd:Hd) (c:Int) (lv:Value) (l:List Cas) (num:Int) (w0:World) (hlv:SlAt w0 lv 3 (l.map Cas.cells)) (hk32:key.length=32) (hdoc:docOk c l=true) (hhd:hdOf sha key c (entC l) l.length=hd) (hnum:0≤num∧num≤99999999) (hk0:(blk 0 (kOf.map wv) 258).ok w0):
  Ret Tryz.prog 22 #[sv key,.agg #[jv c,lv],jv num] w0 (MemR w0 (λx:Value × List Itw=>.tuple #[.agg #[jv hd.c,jv hd.n,sv hd.root,sv hd.tag,x.1],jv 0]) (λx=>[itsE x.1 x.2]) (λx=>itsM x.2=showIs sha (entC l) l.length (ansIx l num))):=by
 have hll:=g8 hdoc
 have hcb:=eP hdoc
 have hreg:=gb hdoc
 have hle:=gY num l
 have hle9:=sA l num
 refine BH func22 O ntmps22 (lb O) λa Y U=>?_
 refine aa λ_ G1=>aS Y U O [jv c,lv] O λa w1 Y U=>aE Y U (zeroValue50 _) [jv 0,jv 0,.string (⟨#[]⟩),.string (⟨#[]⟩),.slice none 0 0] O λa w2 Y U=>wla Y O λa Y=>G1<|ah λ_ G2=>?_
 refine aa λ_ G3=>wlv Y (ap (U.g 1 O) O (isAgg32 _) (sizeOf32 _)) λa Y=>ax Y U call31 O (cC hdoc (kw c lv l _ (U.arg hlv))) λa w3 Y U=>nv Y<|zM ((bB O).asb (b':=false) O)<|zN O<|zP (au O)<|λa Y=>aF Y U call49 O (cC (show inB num 0 99999999=true from by simp only[inB,zT,zZ]; omega) (dy num 0 99999999 _)) λa w4 Y U=>nv Y<|zP ((bB O).asb (b':=false) O)<|zM (al O O)<|λa Y=>G3 ?_
 replace Y:=Y.p6 0 2 4 6 7 22 O
 refine aG Y O ?_
 refine ar<|G2<|aa λ_ G4=>nv Y<|zM (ac (v:=po w0.hz 1) O kr)<|zM (ld U 1 O O (isAgg30 _) O)<|zN O<|λa Y=>ax Y U call70 O (rr lv l num _ (U.arg hlv) (gX hdoc) hnum) λa w5 Y U=>nv Y<|zN O<|zM (ak O O)<|zM (ak O O)<|zO O<|zO O<|λa Y=>G4 ?_
 refine aa λ_ G5=>wla (Y.p6 0 4 6 7 8 9 O) O λa Y=>G5<|ah λ_ G6=>?_
 refine aa λ_ G7=>wlm Y O λa Y=>G7<|hC (λa w=>∃(av:Value),Fr 67 [(0,sv key),(4,pq w0.hz),(6,pq w1.hz),(7,jv 0),(10,av)] [] a∧St No w0 [own av 3 1 ((ansIx l num).map λn=>[jv n]),blk w1.hz [jv 0,jv 0,.string (⟨#[]⟩),.string (⟨#[]⟩),.slice none 0 0] 50,blk w0.hz [jv c,lv] 32] w) ?_ ?_
 ·refine bF Y O (λhc1=>?_) (λhc1=>?_)
  ·have hhit:=hc1
   refine aj<|wlm Y O λa Y=>aD (E:=3) (sz:=1) O [[jv (lowC num l:Int)]] kr sm O de de Y U λa w6 Y U=>wla Y O λa Y=>ab ?_
   replace U:St No w0 [own (.slice (some ⟨w5.hz,0,none⟩) 1 1) 3 1 ((ansIx l num).map λn=>[jv n]),blk w1.hz [jv 0,jv 0,.string (⟨#[]⟩),.string (⟨#[]⟩),.slice none 0 0] 50,blk w0.hz [jv c,lv] 32] w6:=by rw[show ansIx l num=[(lowC num l:Int)] from Am hhit]; exact U
   exact⟨(.slice (some ⟨w5.hz,0,none⟩) 1 1),Y.pick [0,4,6,7,10],U.select [0,1,2] de⟩
  have hhit:=hc1
  refine aa λ_ G8=>nv Y<|zN O<|zM (bJ O O ⟨om,om⟩)<|zN O<|zM (aV (v:=.agg #[jv ((lowC num l:Int)- 1),jv (lowC num l:Int)]) O kr)<|zN O<|λa Y=>G8 ?_
  replace Y:=Y.p7 0 4 6 7 10 37 38 O
  refine aw<|eO 4 ?_
  refine bU<|aa λ_ G9=>wlv Y ((v_lt O O).asb (b':=true) O) λa Y=>G9<|ah λ_ G10=>?_
  refine aM Y O ?_
  refine ar<|G10<|ah λ_ G11=>aw<|aa λ_ G12=>nv Y<|zM (cw (v:=jv ((lowC num l:Int)- 1)) O O kr)<|zO O<|λa Y=>G12<|aa λ_ G13=>?_
  refine nv Y<|zN O<|zM (ac (v:=po w0.hz 1) O kr)<|zM (ld U 1 O O (isAgg30 _) O)<|zM ((aK (sT:=30) (U.arg hlv) O O (runUnderlying30 _)).asi (m':=(l.length:Int)) B9)<|zM (bJ O O ⟨om,om⟩)<|λa Y=>ax Y U call49 O (dy ((lowC num l:Int)- 1) 0 ((l.length:Int)- 1) _) λa w7 Y U=>G13 ?_
  replace Y:=Y.p9 0 4 6 7 10 37 38 12 46 O
  refine bF Y O (λhc2=>?_) (λhc2=>?_)
  ·have hb1:0<lowC num l:=by have h9:=hc2; simp only[inB,zT,zZ] at h9; omega
   refine aj<|nv Y<|zN O<|zN O<|λa Y=>aD (E:=3) (sz:=1) O [[jv ((lowC num l:Int)- 1)]] kr sm O de de Y U λa w8 Y U=>?_
   replace U:St No w0 (own (.slice none 0 0) 3 1 []::[_,_,_]) w8:=U.nil_own
   refine aY (i:=0) (sT:=24) (inf:=Tryz.t3) (z:=jv 0) (b:=0) (off:=0) (m:=0) (c:=0) O O O (U.ow 1 O) sm underlying24 O O O O de BS BU BU de Y U λa w9 s3 Y U _=>wla Y O λa Y=>ab<|G11 ?_
   replace U:=U.k3 13 O
   refine aj<|nv (Y.p7 0 4 6 7 37 38 10 O)<|zM ((aL O O de).asi (m':=1) O)<|zN O<|λa Y=>ab<|bU<|aa λ_ G14=>wlv Y ((v_lt O O).asb (b':=true) O) λa Y=>G14<|ah λ_ G15=>?_
   refine aM Y O ?_
   refine ar<|G15<|ah λ_ G16=>aw<|aa λ_ G17=>nv Y<|zM (cw (v:=jv (lowC num l:Int)) O O kr)<|zO O<|λa Y=>G17<|aa λ_ G18=>?_
   refine nv Y<|zN O<|zM (ac (v:=po w0.hz 1) O kr)<|zM (ld U 2 O O (isAgg30 _) O)<|zM ((aK (sT:=30) (U.arg hlv) O O (runUnderlying30 _)).asi (m':=(l.length:Int)) B9)<|zM (bJ O O ⟨om,om⟩)<|λa Y=>ax Y U call49 O (dy (lowC num l:Int) 0 ((l.length:Int)- 1) _) λa w10 Y U=>G18 ?_
   replace Y:=Y.p9 0 4 6 7 37 10 38 12 46 O
   refine bF Y O (λhc4=>?_) (λhc4=>?_)
   ·have hb2:lowC num l<l.length:=by have h9:=hc4; simp only[inB,zT,zZ] at h9; omega
    refine aj<|nv Y<|zN O<|zN O<|λa Y=>aD (E:=3) (sz:=1) O [[jv (lowC num l:Int)]] kr sm O de de Y U λa w11 Y U=>aY (i:=1) (sT:=24) (inf:=Tryz.t3) (z:=jv 0) (b:=0) (off:=0) (m:=0) (c:=0) O O O (U.ow 0 O) sm underlying24 O O O O de BS BU BU de Y U λa w12 s5 Y U _=>wla Y O λa Y=>ab<|G16 ?_
    replace U:=U.k3 14 O
    refine aj<|nv (Y.p7 0 4 6 7 37 38 10 O)<|zM ((aL O O de).asi (m':=2) O)<|zN O<|λa Y=>ab<|bU<|aa λ_ G19=>wlv Y ((v_lt O O).asb (b':=false) O) λa Y=>G19<|ah λ_ G20=>?_
    refine aG Y O ?_
    refine aP ?_
    replace U:St No w0 [own s5 3 1 ((ansIx l num).map λn=>[jv n]),blk w1.hz [jv 0,jv 0,.string (⟨#[]⟩),.string (⟨#[]⟩),.slice none 0 0] 50,blk w0.hz [jv c,lv] 32] w12:=by rw[show ansIx l num=[((lowC num l:Int)- 1),(lowC num l:Int)] from by unfold ansIx; rw[Ai (by rw[hhit]; decide),Am hb1,Am hb2]; rfl]; exact U
    exact⟨s5,Y.pick [0,4,6,7,10],U.select [0,1,2] de⟩
   have hb2:¬lowC num l<l.length:=by have h9:=hc4; simp only[inB,Af,At] at h9; omega
   refine ar<|G16<|aj<|nv Y<|zM ((aL O O de).asi (m':=2) O)<|zN O<|λa Y=>ab<|bU<|aa λ_ G21=>wlv Y ((v_lt O O).asb (b':=false) O) λa Y=>G21<|ah λ_ G22=>?_
   refine aG Y O ?_
   refine aP ?_
   replace U:St No w0 [own s3 3 1 ((ansIx l num).map λn=>[jv n]),blk w1.hz [jv 0,jv 0,.string (⟨#[]⟩),.string (⟨#[]⟩),.slice none 0 0] 50,blk w0.hz [jv c,lv] 32] w10:=by rw[show ansIx l num=[((lowC num l:Int)- 1)] from by unfold ansIx; rw[Ai (by rw[hhit]; decide),Am hb1,Ai hb2]; rfl]; exact U
   exact⟨s3,Y.pick [0,4,6,7,10],U.select [0,1,2] de⟩
  have hb1:¬0<lowC num l:=by have h9:=hc2; simp only[inB,Af,At] at h9; omega
  refine ar<|G11<|aj<|nv Y<|zM ((aL O O de).asi (m':=1) O)<|zN O<|λa Y=>ab<|bU<|aa λ_ G23=>wlv Y ((v_lt O O).asb (b':=true) O) λa Y=>G23<|ah λ_ G24=>?_
  refine aM Y O ?_
  refine ar<|G24<|ah λ_ G25=>aw<|aa λ_ G26=>nv Y<|zM (cw (v:=jv (lowC num l:Int)) O O kr)<|zO O<|λa Y=>G26<|aa λ_ G27=>?_
  refine nv Y<|zN O<|zM (ac (v:=po w0.hz 1) O kr)<|zM (ld U 1 O O (isAgg30 _) O)<|zM ((aK (sT:=30) (U.arg hlv) O O (runUnderlying30 _)).asi (m':=(l.length:Int)) B9)<|zM (bJ O O ⟨om,om⟩)<|λa Y=>ax Y U call49 O (dy (lowC num l:Int) 0 ((l.length:Int)- 1) _) λa w13 Y U=>G27 ?_
  replace Y:=Y.p9 0 4 6 7 10 37 38 12 46 O
  refine bF Y O (λhc6=>?_) (λhc6=>?_)
  ·have hb2:lowC num l<l.length:=by have h9:=hc6; simp only[inB,zT,zZ] at h9; omega
   refine aj<|nv Y<|zN O<|zN O<|λa Y=>aD (E:=3) (sz:=1) O [[jv (lowC num l:Int)]] kr sm O de de Y U λa w14 Y U=>?_
   replace U:St No w0 (own (.slice none 0 0) 3 1 []::[_,_,_]) w14:=U.nil_own
   refine aY (i:=0) (sT:=24) (inf:=Tryz.t3) (z:=jv 0) (b:=0) (off:=0) (m:=0) (c:=0) O O O (U.ow 1 O) sm underlying24 O O O O de BS BU BU de Y U λa w15 s7 Y U _=>wla Y O λa Y=>ab<|G25 ?_
   replace U:=U.k3 13 O
   refine aj<|nv (Y.p7 0 4 6 7 37 38 10 O)<|zM ((aL O O de).asi (m':=2) O)<|zN O<|λa Y=>ab<|bU<|aa λ_ G28=>wlv Y ((v_lt O O).asb (b':=false) O) λa Y=>G28<|ah λ_ G29=>?_
   refine aG Y O ?_
   refine aP ?_
   replace U:St No w0 [own s7 3 1 ((ansIx l num).map λn=>[jv n]),blk w1.hz [jv 0,jv 0,.string (⟨#[]⟩),.string (⟨#[]⟩),.slice none 0 0] 50,blk w0.hz [jv c,lv] 32] w15:=by rw[show ansIx l num=[(lowC num l:Int)] from by unfold ansIx; rw[Ai (by rw[hhit]; decide),Ai hb1,Am hb2]; rfl]; exact U
   exact⟨s7,Y.pick [0,4,6,7,10],U.select [0,1,2] de⟩
  have hb2:¬lowC num l<l.length:=by have h9:=hc6; simp only[inB,Af,At] at h9; omega
  refine ar<|G25<|aj<|nv Y<|zM ((aL O O de).asi (m':=2) O)<|zN O<|λa Y=>ab<|bU<|aa λ_ G30=>wlv Y ((v_lt O O).asb (b':=false) O) λa Y=>G30<|ah λ_ G31=>?_
  refine aG Y O ?_
  refine aP ?_
  replace U:St No w0 [own (.slice none 0 0) 3 1 ([]),blk w1.hz [jv 0,jv 0,.string (⟨#[]⟩),.string (⟨#[]⟩),.slice none 0 0] 50,blk w0.hz [jv c,lv] 32] w13:=U.nil_own
  replace U:St No w0 [own (.slice none 0 0) 3 1 ((ansIx l num).map λn=>[jv n]),blk w1.hz [jv 0,jv 0,.string (⟨#[]⟩),.string (⟨#[]⟩),.slice none 0 0] 50,blk w0.hz [jv c,lv] 32] w13:=by rw[show ansIx l num=[] from by unfold ansIx; rw[Ai (by rw[hhit]; decide),Ai hb1,Ai hb2]; rfl]; exact U
  exact⟨.slice none 0 0,Y.pick [0,4,6,7,10],U.select [0,1,2] de⟩
 rintro a w16 ⟨av,Y,U⟩
 refine G6<|ah λ_ G32=>aH (aI λw17 hxz=>?_)
 replace U:=U.grow hxz
 refine aQ (k:=0) 13 [10,12] Y ?_
 replace Y:=Y.p5 0 4 6 7 10 O
 refine fc 11 12 9 [(8,7,λu=>u),(9,8,λu=>tupAt u 0)] 50 [jv 0,jv 0,.string (⟨#[]⟩),.string (⟨#[]⟩),.slice none 0 0] (λu=>u.cells.toList) 13 [[],[],[1],[],[3],[4],[],[0,2,5,6],[7],[8],[8],[],[9,11]] (λi=>match i with|0=>pv (sv key)|1=>pv (.agg #[jv c,lv])|2=>pm (λv:Value=>.agg #[jv c,v]) (λv=>[own v 9 1 ((entC l).map λs=>[sv s])]) (λ_=>True)|3=>pv (po w0.hz 1)|4=>pv (lv)|5=>pv (jv (l.length:Int))|6=>pv (av)|7=>pm (λx:Value × List Itw=>.tuple #[.agg #[jv hd.c,jv hd.n,sv hd.root,sv hd.tag,x.1],jv 0]) (λx=>[itsE x.1 x.2]) (λx=>itsM x.2=showIs sha (entC l) l.length (ansIx l num))|8=>λv E=>(∃sa0 sn0 sc0,v=.tuple #[.agg #[jv hd.c,jv hd.n,sv hd.root,sv hd.tag,(.slice sa0 sn0 sc0)],jv 0])∧E=[]|9=>λv E=>(∃sa0 sn0 sc0,v=.agg #[jv hd.c,jv hd.n,sv hd.root,sv hd.tag,(.slice sa0 sn0 sc0)])∧E=[]|10=>pv (jv 0)|11=>λv E=>∃b,v=ptr b∧E=[]|12=>λv E=>v=undef∧E=[]|_=>λ_ _=>False) Y (H:=[own av 3 1 ((ansIx l num).map λn=>[jv n]),blk w1.hz [jv 0,jv 0,.string (⟨#[]⟩),.string (⟨#[]⟩),.slice none 0 0] 50,blk w0.hz [jv c,lv] 32]) U kr kr kr kr de de de de de de de kr CR ?_ (λ_ _ h=>h) ⟨O,O⟩ (λ_ _=>Iff.rfl) ?_ ?_ ?_ ?_ ?_
 ·intro i v E h
  match i,h with
  | 0,_=>exact by decide
  | 1,_=>exact by decide
  | 2,_=>exact by decide
  | 3,_=>exact by decide
  | 4,_=>exact by decide
  | 5,_=>exact by decide
  | 6,_=>exact by decide
  | 7,_=>exact by decide
  | 8,_=>exact by decide
  | 9,_=>exact by decide
  | 10,_=>exact by decide
  | 11,_=>exact by decide
  | 12,_=>exact by decide
  | i+13,h=>exact h.elim
 ·intro i hi hia hij hil e
  match i,hi,hia,hij,hil with
  | 0,_,_,_,_=>
   intro hl9 w U
   exact OpV.g (au O)
  | 1,_,_,_,_=>
   intro hl9 w U
   exact OpV.g (ap (U.g 3 O) O (isAgg32 _) (sizeOf32 _))
  | 2,_,_,_,_=>
   rintro _ _ ⟨rfl,rfl⟩
   intro hl9 w U
   exact dt call72 O (sK c lv l _ (U.arg hlv) om)
  | 3,_,_,_,_=>
   intro hl9 w U
   exact OpV.g (ac (v:=po w0.hz 1) O kr)
  | 4,_,_,_,_=>
   rintro _ _ ⟨rfl,rfl⟩
   intro hl9 w U
   exact OpV.g (ld U 3 O O (isAgg30 _) O)
  | 5,_,_,_,_=>
   rintro _ _ ⟨rfl,rfl⟩
   intro hl9 w U
   exact OpV.g ((aK (sT:=30) (U.arg hlv) O O (runUnderlying30 _)).asi (m':=(l.length:Int)) B9)
  | 6,_,_,_,_=>
   intro hl9 w U
   exact OpV.g (au O)
  | 7,_,_,_,_=>
   rintro _ _ ⟨rfl,rfl⟩ _ _ ⟨ev9,rfl, -,rfl⟩ _ _ ⟨rfl,rfl⟩ _ _ ⟨rfl,rfl⟩
   intro hl9 w U
   exact dt call26 O (nM key l.length hd av (ansIx l num) c ev9 (entC l) _ (U.ow 0 O) (U.ow 2 O) hk32 hreg Dp (du l num) (AD (sA l num) de) hhd (U.keepb hk0))
  | 8,_,_,_,h=>exact absurd de h
  | 9,_,_,_,h=>exact absurd de h
  | 10,_,_,_,_=>
   rintro _ _ ⟨⟨sa0,sn0,sc0,rfl⟩,rfl⟩
   intro hl9 w U
   exact OpV.g (ak O O)
  | 11,_,h,_,_=>exact absurd O h
  | 12,_,_,h,_=>exact absurd O h
  | i+13,h,_,_,_=>exact absurd h om
 ·intro x hx e
  simp only[zY,Ab,As] at hx
  rcases hx with rfl|rfl
  ·rintro _ _ ⟨⟨iv10,Liv10⟩,rfl,hL,rfl⟩
   intro w U
   obtain⟨sa0,sn0,sc0,rfl⟩:=cT (bG (k:=0) U rfl).1
   exact OpV.hopv (OpV.g (au O)) ⟨⟨_,_,_,O⟩,O⟩
  ·rintro _ _ ⟨⟨sa0,sn0,sc0,rfl⟩,rfl⟩
   intro w U
   exact OpV.hopv (OpV.g (ak O O)) ⟨⟨_,_,_,O⟩,O⟩
 ·exact λLv w=>eJ (zeroValue50 _)
 ·rintro _ _ ⟨⟨sa0,sn0,sc0,rfl⟩,rfl⟩ _ _ ⟨b8,rfl,rfl⟩
  intro b hb u hu w h
  have hb:some (ptr b8)=some (ptr b):=hb
  cases hb
  have hu:some (.agg #[jv hd.c,jv hd.n,sv hd.root,sv hd.tag,(.slice sa0 sn0 sc0)])=some u:=hu
  cases hu
  exact dH O O h (sizeOf50 _) O (lb O) O
 clear Y U
 rintro V bq hva hlk _ _ ⟨⟨rfl,rfl⟩, -⟩ _ _ ⟨⟨rfl,rfl⟩, -⟩ _ _ ⟨⟨ev9,rfl, -,rfl⟩, -⟩ _ _ ⟨⟨rfl,rfl⟩, -⟩ _ _ ⟨⟨rfl,rfl⟩, -⟩ _ _ ⟨⟨rfl,rfl⟩, -⟩ _ _ ⟨⟨rfl,rfl⟩, -⟩ _ _ ⟨⟨⟨iv10,Liv10⟩,rfl,hL,rfl⟩,hv7_⟩ v8_ _ ⟨⟨-,rfl⟩,hv8_⟩ v9_ _ ⟨⟨-,rfl⟩,hv9_⟩ _ _ ⟨⟨rfl,rfl⟩, -⟩ _ _ ⟨⟨b8,rfl,rfl⟩,hva9⟩ a w18 Y U
 obtain rfl:b8=bq:=fV (hva9.trans hva)
 obtain rfl:v8_=.tuple #[.agg #[jv hd.c,jv hd.n,sv hd.root,sv hd.tag,iv10],jv 0]:=hv8_.trans ((hlk 0 _ rfl).trans (Ap (λu=>u) hv7_.symm))
 obtain rfl:v9_=.agg #[jv hd.c,jv hd.n,sv hd.root,sv hd.tag,iv10]:=hv9_.trans ((hlk 1 _ rfl).trans (Ap (λu=>tupAt u 0) hv8_.symm))
 rw[←hv9_] at U
 replace Y:=Y.p17 53 54 55 56 57 58 59 60 52 61 62 13 0 4 6 7 10 O
 try dsimp only at U
 replace U:=U.n6 O
 clear hva9 hva hlk hv9_ hv8_ hv7_
 refine ab<|aJ (k:=13) 14 [13] ?_
 refine wla Y O λa Y=>ab<|aR<|G32 ?_
 replace U:=U.k4 30 O
 refine ah λ_ G33=>aa λ_ G34=>nv (Y.p4 6 7 13 14 O)<|zN O<|zM ((v_ne O O).asb (b':=false) O)<|λa Y=>G34<|aG Y O ?_
 refine ar<|G33<|aa λ_ G35=>wlv Y (ap (U.g 1 O) O (isAgg50 _) (sizeOf50 _)) λa Y=>bj (us:=[jv hd.c,jv hd.n,sv hd.root,sv hd.tag,iv10]) 3 Y U O O O (sizeOf50 _) Cg (lb O) (ds:=[jv hd.c,jv hd.n,sv hd.root,sv hd.tag,iv10]) O O λa w19 Y U=>?_
 refine wla Y O λa Y=>G35<|aq ?_
 refine am Y results22 (ao O (bd (U.g 3 O) (isAgg50 _) (sizeOf50 _)) (ae O ag)) ?_
 exact⟨(iv10,Liv10),O,hL,U.ext,St.out (E:=[itsE iv10 Liv10]) (H:=[]) (U.select [0] de)⟩
theorem re (r:Rpw) (w0:World):
  Ret Tryz.prog 53 #[.agg #[jv r.at_,jv r.hd.c,jv r.hd.n,sv r.hd.root,sv r.hd.tag,r.iv]] w0 λv w=>v=jv r.at_∧Ext No w0 w:=by
 refine BG func53 O ntmps53 (lb O) λa Y U=>?_
 refine aa λ_ G1=>aS Y U O [jv r.at_,jv r.hd.c,jv r.hd.n,sv r.hd.root,sv r.hd.tag,r.iv] O λa w1 Y U=>wla Y O λa Y=>G1<|aa λ_ G2=>?_
 refine nv Y<|zM (ac (v:=pq w0.hz) O kr)<|zM (ld U 0 O O (isAgg3 _) O)<|zO O<|λa Y=>G2<|aq ?_
 refine am Y results53 (ae O ag) ?_
 exact⟨by rfl,U.ext⟩
theorem pD (lv:Value) (R:List Rpw) (p:Rpl→Bool) (g:FuncId) (caps:List Value) (w0:World) (hen:∀args w,(callFunc g args).run Tryz.prog w=.ok (.enter g args) w) (hlv:RepAt w0 lv R) (hcl:∀(r:Rpw) (w:World),r∈R→Ext No w0 w→Ret Tryz.prog g (.agg r.cells.toArray::caps).toArray w λv w'=>v=.bool (p r.m)∧Ext No w w'):
  Ret Tryz.prog 54 #[lv,.func (.func 53) #[] #[],.func (.func g) #[] caps.toArray] w0 λv w=>v=.tuple #[jv ((firstF p none (repsM R)).getD 0),.bool ((firstF p none (repsM R)).isSome)]∧Ext No w0 w:=by
 have hxb:=hlv.len
 refine BH func54 O ntmps54 (lb O) λa Y U=>?_
 refine aa λ_ G1=>nv Y<|zO O<|zO O<|λa Y=>G1<|aa λ_ G2=>?_
 refine nv Y<|zO O<|zO O<|λa Y=>G2<|ah λ_ G3=>?_
 refine aa λ_ G4=>nv Y<|zN O<|zM ((aK (sT:=38) (U.arg hlv.1) O O (runUnderlying38 _)).asi (m':=(R.length:Int)) B9)<|zN O<|λa Y=>G4<|aw ?_
 refine aZ (λm a w=>∃(k:Nat) (o:Option Int),m=R.length- k∧(k≤R.length)∧(firstF p none (repsM R)=firstF p o ((repsM R).drop k))∧Fr 38 [(1,.func (.func 53) #[] #[]),(2,.func (.func g) #[] caps.toArray),(6,jv 0),(7,.bool false),(12,lv),(13,jv (R.length:Int)),(14,jv (k:Int)),(8,jv (o.getD 0)),(9,.bool o.isSome)] [] a∧St No w0 [] w) _ ⟨0,none,O,Ah _,O,Y.pick [1,2,6,7,12,13,14,8,9],U.select [] de⟩ ?_
 rintro _ a w1 ⟨k,o,rfl,hk,hf,Y,U⟩
 refine aa λ_ G5=>wlv Y (v_lt O O) λa Y=>G5<|ah λ_ G6=>?_
 refine az Y O (λhc1=>?_) (λhc1=>?_)
 ·have hkx:k<R.length:=by omega
  refine ar<|G6<|ah λ_ G7=>aw ?_
  obtain⟨⟨ra,hd,iv,L⟩,hxr⟩:∃r,R.getD k Rpw.z=r:=⟨_,rfl⟩
  have hxm:=bC (d:=Rpw.z) hkx
  rw[hxr] at hxm
  refine aa λ_ G8=>nv Y<|zM ((ai (i:=(k:Int)) (sT:=38) (U.arg hlv.1) O O (runUnderlying38 _) (sizeOf52 _) om BQ).as (v':=slAddr lv (k*6)) O)<|zM ((bN (U.arg hlv.1) (i:=k) BQ O (isAgg52 _) (sizeOf52 _)).as (v':=.agg #[jv ra,jv hd.c,jv hd.n,sv hd.root,sv hd.tag,iv]) (by rw[aX Rpw.z,hxr]; rfl))<|λa Y=>aE Y U (zeroValue52 _) [jv 0,jv 0,jv 0,.string (⟨#[]⟩),.string (⟨#[]⟩),.slice none 0 0] O λa w2 Y U=>?_
  refine bj (us:=[jv ra,jv hd.c,jv hd.n,sv hd.root,sv hd.tag,iv]) 0 Y U O O O (sizeOf52 _) (by intro z hz; simp only[zY,Ab,As] at hz; rcases hz with rfl|rfl|rfl|rfl|rfl|rfl<;>first|rfl|exact SlAt.one (U.arg (hlv.2 _ hxm).1)) (lb O) (ds:=[jv ra,jv hd.c,jv hd.n,sv hd.root,sv hd.tag,iv]) O O λa w3 Y U=>?_
  refine G8<|aa λ_ G9=>?_
  refine nv Y<|zN O<|zM (ap (U.g 0 O) O (isAgg52 _) (sizeOf52 _))<|λa Y=>wl_r (gR (cap:=caps) O hen O (hcl ⟨ra,hd,iv,L⟩ _ hxm U.ext)) O O Y λa v w4 hR Y=>?_
  obtain⟨rfl,hx⟩:=hR
  have U:=U.grow hx
  clear hx
  refine wlm Y O λa Y=>?_
  rcases zX (p (Rpw.m (⟨ra,hd,iv,L⟩:Rpw))) with hb2|hb2
  ·rw[hb2] at Y
   have hp:=hb2
   refine nv Y<|zP (au O)<|zP (bB O)<|zP (au O)<|λa Y=>?_
   rcases zX (!o.isSome) with hb3|hb3
   ·rw[hb3] at Y
    try simp only[qz] at hb3
    have hnx:=vL hp hb3
    refine nv Y<|zQ<|zQ<|zQ<|zQ<|zQ<|zP (ay O O)<|zM (ay O O)<|λa Y=>G9 ?_
    replace Y:=Y.p11 1 2 6 7 12 13 14 8 9 11 31 O
    refine aM Y O ?_
    refine aj<|nv Y<|zN O<|zM (ap (U.g 0 O) O (isAgg52 _) (sizeOf52 _))<|λa Y=>dQ Y U O call53 O (re ⟨ra,hd,iv,L⟩ _) λa w5 Y U=>nv Y<|zO O<|zO O<|λa Y=>ab<|G7<|aj<|nv Y<|zM (aL O O ⟨om,om⟩)<|zN O<|λa Y=>ab ?_
    refine⟨_,?_,k+1,some ra,O,om,(jx hkx hxr hf hnx),Y.pick [1,2,6,7,12,13,14,8,9],U.select [] de⟩
    omega
   rw[hb3] at Y
   try simp only[qz] at hb3
   have hos:=hb3
   refine nv Y<|zP (au O)<|zP (ap (U.g 0 O) O (isAgg52 _) (sizeOf52 _))<|λa Y=>eH Y ?_
   refine dQ Y U O call53 O (re ⟨ra,hd,iv,L⟩ _) λa w6 Y U=>nv Y<|zP (au O)<|zP (v_lt O O)<|zP (al O O)<|zM (ay O O)<|λa Y=>G9 ?_
   replace Y:=Y.p11 1 2 6 7 12 13 14 8 9 11 31 O
   refine az Y O (λhc4=>?_) (λhc4=>?_)
   ·have hnx:=uH hp (show (Rpw.m (⟨ra,hd,iv,L⟩:Rpw)).at_<o.getD 0 from hc4)
    refine aj<|nv Y<|zN O<|zM (ap (U.g 0 O) O (isAgg52 _) (sizeOf52 _))<|λa Y=>dQ Y U O call53 O (re ⟨ra,hd,iv,L⟩ _) λa w7 Y U=>nv Y<|zO O<|zO O<|λa Y=>ab<|G7<|aj<|nv Y<|zM (aL O O ⟨om,om⟩)<|zN O<|λa Y=>ab ?_
    refine⟨_,?_,k+1,some ra,O,om,(jx hkx hxr hf hnx),Y.pick [1,2,6,7,12,13,14,8,9],U.select [] de⟩
    omega
   have hnx:=xR (p:=p) hos (show ¬(Rpw.m (⟨ra,hd,iv,L⟩:Rpw)).at_<o.getD 0 by show ¬ra<_; omega)
   refine ar<|G7<|aj<|nv Y<|zM (aL O O ⟨om,om⟩)<|zN O<|λa Y=>ab ?_
   refine⟨_,?_,k+1,o,O,om,(jx hkx hxr hf hnx),Y.pick [1,2,6,7,12,13,14,8,9],U.select [] de⟩
   omega
  rw[hb2] at Y
  have hnx:=yc (o:=o) (show p (Rpw.m (⟨ra,hd,iv,L⟩:Rpw))=false from hb2)
  refine nv Y<|zQ<|zQ<|zQ<|λa Y=>cf Y λa Y=>cf Y λa Y=>cf Y λa Y=>cf Y λa Y=>cf Y λa Y=>nv Y<|zQ<|zM (al O O)<|λa Y=>G9 ?_
  replace Y:=Y.p11 1 2 6 7 12 13 14 8 9 11 31 O
  refine aG Y O ?_
  refine ar<|G7<|aj<|nv Y<|zM (aL O O ⟨om,om⟩)<|zN O<|λa Y=>ab ?_
  refine⟨_,?_,k+1,o,O,om,(jx hkx hxr hf hnx),Y.pick [1,2,6,7,12,13,14,8,9],U.select [] de⟩
  omega
 have hkd:(repsM R).drop k=[]:=List.drop_eq_nil_of_le (by unfold repsM; rw[zR]; omega)
 rw[hkd] at hf
 refine aP<|G3<|aa λ_ G10=>nv Y<|zN O<|zN O<|zO O<|zO O<|λa Y=>G10 ?_
 replace Y:=Y.p2 6 7 O
 refine aq<|am Y results54 (ae O (ae O ag)) ?_
 exact⟨by simp only[retv]; rw[hf]; rfl,U.ext⟩
theorem vJ (r:Rpw) (q:Chg) (en t:Int) (key:By) (b9 b15 b11 b7:Nat) (w0:World) (hiv:ItsAt w0 r.iv r.L) (hpf:∀x∈r.L,x.m.pf.length≤1000) (hen:0≤en∧en≤12000000) (h9:(blk b9 [jv q.n,jv q.h,jv q.c,jv q.t,jv q.a] 36).ok w0) (h15:(blk b15 [jv en] 3).ok w0) (h11:(blk b11 [jv t] 3).ok w0) (h7:(blk b7 [sv key] 9).ok w0) (hk0:(blk 0 (kOf.map wv) 258).ok w0):
  Ret Tryz.prog 51 #[.agg #[jv r.at_,jv r.hd.c,jv r.hd.n,sv r.hd.root,sv r.hd.tag,r.iv],pq b9,pq b15,pq b11,pq b7] w0 λv w=>v=.bool (countB sha key q en t r.m)∧Ext No w0 w:=by
 refine BJ func51 O ntmps51 (lb O) λa Y U=>?_
 refine aa λ_ G1=>aS Y U O [jv r.at_,jv r.hd.c,jv r.hd.n,sv r.hd.root,sv r.hd.tag,r.iv] O λa w1 Y U=>wla Y O λa Y=>G1<|aa λ_ G2=>?_
 refine nv Y<|zM (ac (v:=pq w0.hz) O kr)<|zM (ld U 0 O O (isAgg3 _) O)<|zM (ac (v:=po b9 4) O kr)<|zM (bS (U.keepb h9) O (isAgg3 _) O)<|zM (bS (U.keepb h15) O (isAgg3 _) O)<|zM (bJ O O ⟨om,om⟩)<|zM (bS (U.keepb h11) O (isAgg3 _) O)<|zM (wV O O)<|λa Y=>ax Y U call49 O (dy r.at_ q.a (min (en- 1) t) _) λa w2 Y U=>wlm Y O λa Y=>?_
 rcases zX (inB r.at_ q.a (min (en- 1) t)) with hb1|hb1
 ·rw[hb1] at Y
  refine nv Y<|zP (ac (v:=po w0.hz 1) O kr)<|zP (ac (v:=po w0.hz 1) O kr)<|zP (ac (v:=po w0.hz 1) O kr)<|zP (ld U 0 O O (isAgg3 _) O)<|zP (ac (v:=po b9 2) O kr)<|zP (bS (U.keepb h9) O (isAgg3 _) O)<|zP (v_eq O O)<|zM (ay O O)<|zN O<|λa Y=>?_
  rcases Decidable.em (r.hd.c=q.c) with hb2|hb2
  ·rw[zU hb2] at Y
   refine nv Y<|zP (bS (U.keepb h7) O (isAgg9 _) O)<|zP (ac (v:=po w0.hz 1) O kr)<|zP (bW (ds:=[jv r.hd.c,jv r.hd.n,sv r.hd.root,sv r.hd.tag,r.iv]) (U.g 0 O) O (isAgg50 _) (sizeOf50 _) O)<|λa Y=>aF Y U call52 O (eV key r.hd r.iv r.L _ (cL U hiv) hpf (U.keepb hk0)) λa w3 Y U=>nv Y<|zM (ay O O)<|zO O<|λa Y=>G2 ?_
   replace Y:=Y.p1 6 O
   replace U:=U.k0 0 O
   refine aq<|am Y results51 (ae O ag) ?_
   refine⟨?_,U.ext⟩
   simp only[retv]
   refine Ap Value.bool ?_
   unfold countB
   show _=(inB r.at_ q.a (min (en- 1) t)&&decide (r.hd.c=q.c)&&checkP sha key r.hd (itsM r.L))
   rw[hb1,zU (by omega:r.hd.c=q.c)]; rfl
  rw[zW hb2] at Y
  refine nv Y<|zQ<|zQ<|zQ<|zQ<|zM (al O O)<|zO O<|λa Y=>G2 ?_
  replace Y:=Y.p1 6 O
  replace U:=U.k0 0 O
  refine aq<|am Y results51 (ae O ag) ?_
  refine⟨?_,U.ext⟩
  simp only[retv]
  refine Ap Value.bool ?_
  unfold countB
  show _=(inB r.at_ q.a (min (en- 1) t)&&decide (r.hd.c=q.c)&&checkP sha key r.hd (itsM r.L))
  rw[hb1,zW (by omega:¬r.hd.c=q.c)]; rfl
 rw[hb1] at Y
 refine nv Y<|zQ<|zQ<|zQ<|zQ<|zQ<|zQ<|zQ<|zM (al O O)<|zN O<|zQ<|zQ<|zQ<|zQ<|zM (al O O)<|zO O<|λa Y=>G2 ?_
 replace Y:=Y.p1 6 O
 replace U:=U.k0 0 O
 refine aq<|am Y results51 (ae O ag) ?_
 refine⟨?_,U.ext⟩
 simp only[retv]
 refine Ap Value.bool ?_
 unfold countB
 show _=(inB r.at_ q.a (min (en- 1) t)&&decide (r.hd.c=q.c)&&checkP sha key r.hd (itsM r.L))
 rw[hb1]; rfl
theorem xY (kv:Value) (ks:List By) (b16 b6:Nat) (r:Rpw) (q:Chg) (en t:Int) (key:By) (b9 b15 b11 b7:Nat) (w0:World) (hiv:ItsAt w0 r.iv r.L) (hpf:∀x∈r.L,x.m.pf.length≤1000) (hen:0≤en∧en≤12000000) (h9:(blk b9 [jv q.n,jv q.h,jv q.c,jv q.t,jv q.a] 36).ok w0) (h15:(blk b15 [jv en] 3).ok w0) (h11:(blk b11 [jv t] 3).ok w0) (h7:(blk b7 [sv key] 9).ok w0) (h16:(blk b16 [.func (.func 51) #[] #[pq b9,pq b15,pq b11,pq b7]] 116).ok w0) (h6:(blk b6 [kv] 44).ok w0) (hkv:SlAt w0 kv 1 (ks.map λs=>[sv s])) (hk0:(blk 0 (kOf.map wv) 258).ok w0):
  Ret Tryz.prog 55 #[.agg #[jv r.at_,jv r.hd.c,jv r.hd.n,sv r.hd.root,sv r.hd.tag,r.iv],pq b16,pq b6,pq b9] w0 λv w=>v=.bool (keptB sha ks key q en t r.m)∧Ext No w0 w:=by
 refine BI func55 O ntmps55 (lb O) λa Y U=>?_
 refine aa λ_ G1=>aS Y U O [jv r.at_,jv r.hd.c,jv r.hd.n,sv r.hd.root,sv r.hd.tag,r.iv] O λa w1 Y U=>wla Y O λa Y=>G1<|aa λ_ G2=>?_
 refine nv Y<|zM (bS (U.keepb h16) O (isAgg116 _) O)<|zM (ap (U.g 0 O) O (isAgg52 _) (sizeOf52 _))<|λa Y=>dQ Y U O call51 O (vJ r q en t key b9 b15 b11 b7 _ (cL U hiv) hpf hen (U.keepb h9) (U.keepb h15) (U.keepb h11) (U.keepb h7) (U.keepb hk0)) λa w2 Y U=>wlm Y O λa Y=>?_
 rcases zX (countB sha key q en t r.m) with hb1|hb1
 ·rw[hb1] at Y
  have hok:OkP r.hd.n r.L:=jO (key:=key) (by have h9:=hb1; unfold countB at h9; rw[zT] at h9; exact h9.2)
  refine nv Y<|zP (bS (U.keepb h6) O (isAgg44 _) O)<|zP (ap (U.keepb h9) O (isAgg36 _) (sizeOf36 _))<|zP (ac (v:=po w0.hz 1) O kr)<|zP (bW (ds:=[jv r.hd.c,jv r.hd.n,sv r.hd.root,sv r.hd.tag,r.iv]) (U.g 0 O) O (isAgg50 _) (sizeOf50 _) O)<|λa Y=>aF Y U call56 O (wi kv ks q r.hd r.iv r.L _ (U.arg hkv) (cL U hiv) hok (U.keepb hk0)) λa w3 Y U=>nv Y<|zM (ay O O)<|zO O<|λa Y=>G2 ?_
  replace Y:=Y.p1 5 O
  replace U:=U.k0 0 O
  refine aq<|am Y results55 (ae O ag) ?_
  refine⟨?_,U.ext⟩
  simp only[retv]
  refine Ap Value.bool ?_
  unfold keptB
  rw[hb1]; rfl
 rw[hb1] at Y
 refine nv Y<|zQ<|zQ<|zQ<|zQ<|zQ<|zM (al O O)<|zO O<|λa Y=>G2 ?_
 replace Y:=Y.p1 5 O
 replace U:=U.k0 0 O
 refine aq<|am Y results55 (ae O ag) ?_
 refine⟨?_,U.ext⟩
 simp only[retv]
 refine Ap Value.bool ?_
 unfold keptB
 rw[hb1]; rfl
theorem u0 (b16:Nat) (r:Rpw) (q:Chg) (en t:Int) (key:By) (b9 b15 b11 b7:Nat) (w0:World) (hiv:ItsAt w0 r.iv r.L) (hpf:∀x∈r.L,x.m.pf.length≤1000) (hen:0≤en∧en≤12000000) (h9:(blk b9 [jv q.n,jv q.h,jv q.c,jv q.t,jv q.a] 36).ok w0) (h15:(blk b15 [jv en] 3).ok w0) (h11:(blk b11 [jv t] 3).ok w0) (h7:(blk b7 [sv key] 9).ok w0) (h16:(blk b16 [.func (.func 51) #[] #[pq b9,pq b15,pq b11,pq b7]] 116).ok w0) (hk0:(blk 0 (kOf.map wv) 258).ok w0):
  Ret Tryz.prog 57 #[.agg #[jv r.at_,jv r.hd.c,jv r.hd.n,sv r.hd.root,sv r.hd.tag,r.iv],pq b16,pq b9] w0 λv w=>v=.bool (backB sha key q en t r.m)∧Ext No w0 w:=by
 refine BH func57 O ntmps57 (lb O) λa Y U=>?_
 refine aa λ_ G1=>aS Y U O [jv r.at_,jv r.hd.c,jv r.hd.n,sv r.hd.root,sv r.hd.tag,r.iv] O λa w1 Y U=>wla Y O λa Y=>G1<|aa λ_ G2=>?_
 refine nv Y<|zM (bS (U.keepb h16) O (isAgg116 _) O)<|zM (ap (U.g 0 O) O (isAgg52 _) (sizeOf52 _))<|λa Y=>dQ Y U O call51 O (vJ r q en t key b9 b15 b11 b7 _ (cL U hiv) hpf hen (U.keepb h9) (U.keepb h15) (U.keepb h11) (U.keepb h7) (U.keepb hk0)) λa w2 Y U=>wlm Y O λa Y=>?_
 rcases zX (countB sha key q en t r.m) with hb1|hb1
 ·rw[hb1] at Y
  have hok:OkP r.hd.n r.L:=jO (key:=key) (by have h9:=hb1; unfold countB at h9; rw[zT] at h9; exact h9.2)
  refine nv Y<|zP (ac (v:=po w0.hz 1) O kr)<|zP (bW (ds:=[jv r.hd.c,jv r.hd.n,sv r.hd.root,sv r.hd.tag,r.iv]) (U.g 0 O) O (isAgg50 _) (sizeOf50 _) O)<|zP (ac (v:=pq b9) O kr)<|zP (bS (U.keepb h9) O (isAgg3 _) O)<|λa Y=>aF Y U call58 O (pj r.hd r.iv r.L q.n _ (cL U hiv) hok) λa w3 Y U=>nv Y<|zM (ay O O)<|zO O<|λa Y=>G2 ?_
  replace Y:=Y.p1 4 O
  replace U:=U.k0 0 O
  refine aq<|am Y results57 (ae O ag) ?_
  refine⟨?_,U.ext⟩
  simp only[retv]
  refine Ap Value.bool ?_
  unfold backB
  rw[hb1]; rfl
 rw[hb1] at Y
 refine nv Y<|zQ<|zQ<|zQ<|zQ<|zQ<|zM (al O O)<|zO O<|λa Y=>G2 ?_
 replace Y:=Y.p1 4 O
 replace U:=U.k0 0 O
 refine aq<|am Y results57 (ae O ag) ?_
 refine⟨?_,U.ext⟩
 simp only[retv]
 refine Ap Value.bool ?_
 unfold backB
 rw[hb1]; rfl
end Go.Proofs.YtliklcmddmpdfaaGreatDoor
