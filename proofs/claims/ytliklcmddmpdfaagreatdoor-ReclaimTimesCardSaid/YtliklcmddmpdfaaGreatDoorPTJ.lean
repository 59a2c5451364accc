/- Texts joined: RclJ, RclK, RclL, Sle, Laid, Door, OpenL, LawT. -/
import Derived.Test.YtliklcmddmpdfaaGreatDoorPTI
import Derived.Test.YtliklcmddmpdfaaGreatDoorPTA
import Derived.Test.YtliklcmddmpdfaaGreatDoorPTB
import Derived.Test.YtliklcmddmpdfaaGreatDoorPTC
import Derived.LaidMore
import Derived.OpenShut
import Derived.Stop.Joined
import Derived.SevenTiedAt
import Derived.ChangeMaps5
import Derived.Test.YtliklcmddmpdfaaGreatDoorRows
set_option linter.unusedVariables false
set_option linter.unusedSimpArgs false
set_option maxRecDepth 4000
set_option maxHeartbeats 4000000
namespace Go.Proofs.YtliklcmddmpdfaaGreatDoor
open Go.RowKit Go.PW _root_.Go.Proofs.Tryz
def ChgB (q:Chg):Prop:=(0≤q.n∧q.n≤39)∧(0≤q.h∧q.h≤63)∧(0≤q.c∧q.c≤7)∧(0≤q.t∧q.t≤10000)∧q.t≤q.a∧q.a≤q.t+99
theorem Doc.at {c:Int} {l:List Cas} (h:Doc c l) {i:Nat} (hi:i<l.length):(0≤(l.getD i Cas.z).n∧(l.getD i Cas.z).n≤23)∧(0≤(l.getD i Cas.z).t∧(l.getD i Cas.z).t<10000)∧(l.getD i Cas.z).ev.length≤900:=by
 have hm:=qS hi
 have h1:=Cas.bnd (m8 h.1 _ hm)
 have h2:=h.2.2 _ hm
 omega
theorem Doc.car {c:Int} {l:List Cas} (h:Doc c l):0≤c∧c≤7:=eP h.1
theorem Doc.swap {c e:Int} {l k:List Cas} (h:Doc c l) (h2:Doc e k):Doc c k:=by
 refine⟨?_,h2.2⟩
 have h3:=h2.1
 have h4:=eP h.1
 unfold docOk inB at h3⊢
 simp only[zT,zZ] at h3⊢
 exact⟨⟨h3.1.1,h4⟩,h3.2⟩
theorem rA {s:By} {u:Wsh} {up:List Pxy} (h:bL s=some (u,up)):0≤u.holder∧u.holder≤63:=by
 have h1:=iJ (cV.1 (ic h)).1
 simp only[Wsh.ok,inB,zT,zZ] at h1
 omega
theorem oZ {s:By} {x:Wsh} {ps:List Pxy} {w0:World} (hsl:s.length≤1000000) (h:bL s=some (x,ps)):Ret Tryz.prog 46 #[sv s] w0 (MemR w0 (λlv:Value=>.tuple #[.agg x.cells.toArray,lv,jv 0]) (λlv=>[own lv 144 7 (ps.map Pxy.cells)]) (λ_=>True)):=by
 refine (j6 s w0 hsl).mono λv w hR=>?_
 rcases hR with⟨x2,ps2,h2,hm⟩|⟨h2,_⟩
 ·rw[h] at h2
  simp only[Option.some.injEq,Prod.mk.injEq] at h2
  obtain⟨rfl,rfl⟩:=h2
  exact hm
 ·rw[h] at h2; cases h2
theorem qI {s:By} {w0:World} (hsl:s.length≤1000000) (h:bL s=none):Ret Tryz.prog 46 #[sv s] w0 λv w=>v=.tuple #[.agg [jv 0,jv 0,jv 0,jv 0,jv 0,jv 0,jv 0,jv 0,sv ([]:By)].toArray,.slice none 0 0,jv 150]∧Ext No w0 w:=by
 refine (j6 s w0 hsl).mono λv w hR=>?_
 rcases hR with⟨x2,ps2,h2,hm⟩|⟨_,h2⟩
 ·rw[h] at h2; cases h2
 ·exact h2
theorem wj {xs:List By} {k n:Nat} (h:∀z∈xs,z.length≤n):(xs.getD k []).length≤n:=by
 rw[z6]
 rcases Nat.lt_or_ge k xs.length with hk|hk
 ·rw[z8 hk]; exact h _ (AM hk)
 ·rw[Bq hk]; exact Ah _
def RepB (R:List Rpw):Prop:=R.length≤5∧(∀r∈R,∀x∈r.L,x.m.pf.length≤6)∧∀r∈R, -5≤r.at_∧r.at_≤20000000
theorem ww (c:Int) (lv:Value) (l:List Cas) (x0 x1 x2 x3:Int) (w0:World) (hlv:SlAt w0 lv 3 (l.map Cas.cells)) (hD:Doc c l) (hx0:i64 x0) (hx1:i64 x1) (hx2:i64 x2) (hx3:i64 x3):
  Ret Tryz.prog 14 #[.agg #[jv c,lv],.agg #[jv x0,jv x1,jv x2,jv x3]] w0 (MemR w0 (λq:Chg=>.agg #[jv q.n,jv q.h,jv q.c,jv q.t,jv q.a]) (λ_=>[]) (λq=>ChgB q)):=by
 have hxb:=hlv.2.1
 simp only[zR,big] at hxb
 have hcb:=hD.car
 have hll:=hD.2.1
 have g0:=hx0
 unfold i64 at g0
 have g1:=hx1
 unfold i64 at g1
 have g2:=hx2
 unfold i64 at g2
 have g3:=hx3
 unfold i64 at g3
 have p0:=ba x0 (n:=40) de
 have p1:=ba x1 (n:=10) de
 have p2:=ba x2 (n:=10000) de
 have p3:=ba (x3.tdiv 16) (n:=100) de
 refine BF func14 O ntmps14 (lb O) λa Y U=>?_
 refine aa λ_ G1=>aS Y U O [jv c,lv] O λa w1 Y U=>aS Y U O [jv x0,jv x1,jv x2,jv x3] O λa w2 Y U=>aE Y U (zeroValue36 _) [jv 0,jv 0,jv 0,jv 0,jv 0] O λa w3 Y U=>G1<|ah λ_ G2=>?_
 refine aH (aI λw4 hxz=>?_)
 replace U:=U.grow hxz
 refine aQ (k:=0) 13 [11,12] Y ?_
 replace Y:=Y.p5 0 1 2 3 4 O
 refine bn [12] (λi=>match i with|12=>pm (λb:Nat=>pq b) (λb=>[blk b [jv 0,jv 0,jv 0,jv 0,jv 0] 36]) (λ_=>True)|_=>λ_ _=>False) 13 [[],[0],[1],[],[3],[4],[],[6],[],[8],[9],[2,5,7,10],[]] [pq w1.hz,jv x0,jv (pickI x0 40),po w1.hz 1,jv x1,jv (pickI x1 10),pq w0.hz,jv c,po w1.hz 2,jv x2,jv (pickI x2 10000),.agg #[jv (pickI x0 40),jv (pickI x1 10),jv c,jv (pickI x2 10000),jv 0],undef] Y U ?_ ?_ ?_
 ·exact BO<|hqv (aT (v:=pq w1.hz) rfl rfl kr)<|hqw (λU=>ld U 1 rfl rfl (isAgg3 _) rfl)<|BM (λ_ _ _=>bD call44 rfl (bO x0 40 _ BX Cf))<|hqv (aT (v:=po w1.hz 1) rfl rfl kr)<|hqw (λU=>ld U 1 rfl rfl (isAgg3 _) rfl)<|BM (λ_ _ _=>bD call44 rfl (bO x1 10 _ BX Cf))<|hqv (ac (v:=pq w0.hz) rfl kr)<|hqw (λU=>ld U 2 rfl rfl (isAgg3 _) rfl)<|hqv (aT (v:=po w1.hz 2) rfl rfl kr)<|hqw (λU=>ld U 1 rfl rfl (isAgg3 _) rfl)<|BM (λ_ _ _=>bD call44 rfl (bO x2 10000 _ BX Cf))<|hqv (aV (v:=.agg #[jv (pickI x0 40),jv (pickI x1 10),jv c,jv (pickI x2 10000),jv 0]) rfl kr)<|BM (λh=>absurd sm h)<|BN
 ·intro i hi
  simp only[zY,Ab,As] at hi
  subst hi
  ·intro w U
   exact fi (zeroValue36 _) (cs:=[jv 0,jv 0,jv 0,jv 0,jv 0]) O
 clear Y U
 rintro _ _ ⟨b1,rfl, -,rfl⟩ a w5 Y U
 replace Y:=Y.p5 21 5 2 3 4 O
 replace U:=U.n4 O
 refine ab<|aJ (k:=13) 14 [13] ?_
 refine aB 0 Y U [jv (pickI x0 40),jv (pickI x1 10),jv c,jv (pickI x2 10000),jv 0] O (sizeOf36 _) λa w6 Y U=>ab<|aR<|G2 ?_
 refine ah λ_ G3=>aa λ_ G4=>nv (Y.p4 2 3 4 5 O)<|zM (ac (v:=po w0.hz 1) O kr)<|zM (ld U 3 O O (isAgg30 _) O)<|zM ((aK (sT:=30) (U.arg hlv) O O (runUnderlying30 _)).asi (m':=(l.length:Int)) B9)<|zM (v_gt O O)<|zN O<|λa Y=>?_
 rcases Decidable.em (0<(l.length:Int)) with hb2|hb2
 ·rw[zU hb2] at Y
  refine nv Y<|zP (aT (v:=pq w1.hz) O O kr)<|zP (ld U 2 O O (isAgg3 _) O)<|λa Y=>aF Y U call44 O (bO x0 8 _ BX Cf) λa w7 Y U=>nv Y<|zP (v_lt O O)<|zM (ay O O)<|λa Y=>G4 ?_
  replace Y:=Y.p5 2 3 4 5 31 O
  refine hC (λa w=>∃(qn:Int),∃(qh:Int),∃(qt:Int),(0≤qn∧qn≤39)∧(0≤qh∧qh≤63)∧(0≤qt∧qt≤10000)∧Fr 93 [(3,pq w1.hz),(4,pq w2.hz),(5,pq b1)] [] a∧St No w0 [blk b1 [jv qn,jv qh,jv c,jv qt,jv 0] 36,blk w2.hz [jv 0,jv 0,jv 0,jv 0,jv 0] 36,blk w1.hz [jv x0,jv x1,jv x2,jv x3] 27,blk w0.hz [jv c,lv] 32] w) ?_ ?_
  ·refine az Y O (λhc3=>?_) (λhc3=>?_)
   ·refine ah λ_ G5=>?_
    obtain⟨iq,hjq⟩:∃m:Nat,pickI (x0.tdiv 8) (l.length:Int)=(m:Int):=⟨_,(Bd (ba _ (n:=(l.length:Int)) om).1).symm⟩
    have hjql:=(ba (x0.tdiv 8) (n:=(l.length:Int)) om).2
    rw[hjq] at hjql
    obtain⟨y,hy⟩:∃y,l.getD iq Cas.z=y:=⟨_,rfl⟩
    have hyb:=hD.at (i:=iq) om
    rw[hy] at hyb
    obtain⟨hyn,hyt,hye⟩:=hyb
    refine aH (aI λw8 hxz=>?_)
    replace U:=U.grow hxz
    refine aQ (k:=0) 12 [10,11] Y ?_
    replace Y:=Y.p4 2 3 4 5 O
    refine bn [11] (λi=>match i with|11=>pm (λb:Nat=>pq b) (λb=>[blk b [jv 0,jv 0,.string (⟨#[]⟩)] 55]) (λ_=>True)|_=>λ_ _=>False) 12 [[],[0],[],[2],[3],[],[5],[6],[4,7],[1,8],[9],[]] [po w0.hz 1,lv,pq w1.hz,jv x0,jv (x0.tdiv 8),po w0.hz 1,lv,jv (l.length:Int),jv (iq:Int),slAddr lv (iq*3),.agg #[jv y.n,jv y.t,sv y.ev],undef] Y U ?_ ?_ ?_
    ·exact BO<|hqv (ac (v:=po w0.hz 1) rfl kr)<|hqw (λU=>ld U 3 rfl rfl (isAgg30 _) rfl)<|hqv (aT (v:=pq w1.hz) rfl rfl kr)<|hqw (λU=>ld U 2 rfl rfl (isAgg3 _) rfl)<|hqv (jR rfl rfl de ⟨om,om⟩)<|hqv (ac (v:=po w0.hz 1) rfl kr)<|hqw (λU=>ld U 3 rfl rfl (isAgg30 _) rfl)<|hqw (λU=>(aK (sT:=30) (U.arg hlv) rfl rfl (runUnderlying30 _)).asi (m':=(l.length:Int)) B9)<|BM (λ_ _ _=>bD call44 rfl (g7 hjq (bO (x0.tdiv 8) (l.length:Int) _ (fN hx0 de) om)))<|hqw (λU=>(ai (i:=(iq:Int)) (sT:=30) (U.arg hlv) rfl rfl (runUnderlying30 _) (sizeOf55 _) om BQ).as (v':=slAddr lv (iq*3)) CC)<|hqw (λU=>(bN (U.arg hlv) (i:=iq) BQ rfl (isAgg55 _) (sizeOf55 _)).as (v':=.agg #[jv y.n,jv y.t,sv y.ev]) (by rw[aX Cas.z,hy]; rfl))<|
      BM (λh=>absurd sm h)<|BN
    ·intro i hi
     simp only[zY,Ab,As] at hi
     subst hi
     ·intro w U
      exact fi (zeroValue55 _) (cs:=[jv 0,jv 0,.string (⟨#[]⟩)]) O
    clear Y U
    rintro _ _ ⟨b4,rfl, -,rfl⟩ a w9 Y U
    replace Y:=Y.p5 42 6 3 4 5 O
    replace U:=U.n5 O
    refine ab<|aJ (k:=12) 13 [12] ?_
    refine aB 0 Y U [jv y.n,jv y.t,sv y.ev] O (sizeOf55 _) λa w10 Y U=>ab<|aR<|G5 ?_
    refine aa λ_ G6=>nv (Y.p4 3 4 5 6 O)<|zM (ac (v:=pq b4) O kr)<|zM (ld U 0 O O (isAgg3 _) O)<|zM (ac (v:=pq b1) O kr)<|λa Y=>aB 1 Y U [jv y.n,jv (pickI x1 10),jv c,jv (pickI x2 10000),jv 0] O (sizeOf3 _) λa w11 Y U=>G6<|aa λ_ G7=>?_
    refine nv Y<|zM (ac (v:=po b4 1) O kr)<|zM (ld U 0 O O (isAgg3 _) O)<|zM (ac (v:=po b1 3) O kr)<|λa Y=>aB 1 Y U [jv y.n,jv (pickI x1 10),jv c,jv y.t,jv 0] O (sizeOf3 _) λa w12 Y U=>G7 ?_
    refine aa λ_ G8=>nv (Y.p4 3 4 5 6 O)<|zM (ac (v:=po b4 2) O kr)<|zM (ld U 0 O O (isAgg9 _) O)<|λa Y=>?_
    rcases zX ((bL y.ev).isSome) with hb5|hb5
    ·obtain⟨⟨u,up⟩,hdz⟩:=AU.1 hb5
     have huh:=rA hdz
     refine bf Y U call46 O (oZ (AD hye de) hdz) λa w13 x7 hp Y U=>?_
     revert x7 hp Y U; rintro dv6 hp Y U
     clear hp
     replace U:=U.n6 O
     refine nv Y<|zN O<|zM (ak O O)<|zM (ak O O)<|zM (ak O O)<|λa Y=>aE Y U (zeroValue90 _) [jv 0,jv 0,jv 0,jv 0,jv 0,jv 0,jv 0,jv 0,.string (⟨#[]⟩)] O λa w14 Y U=>aB 0 Y U [jv u.signer,jv u.holder,jv u.rf,jv u.rt,jv u.carrier,jv u.serial,jv u.sf,jv u.st,sv u.sig] O (sizeOf90 _) λa w15 Y U=>nv Y<|zO O<|zO O<|λa Y=>G8 ?_
     replace U:=U.k5 121 O
     refine ah λ_ G9=>aa λ_ G10=>nv (Y.p5 3 4 5 7 9 O)<|zN O<|zM ((v_eq O O).asb (b':=true) O)<|zN O<|zP (aT (v:=po w1.hz 1) O O kr)<|zP (ld U 3 O O (isAgg3 _) O)<|λa Y=>aF Y U call44 O (bO x1 4 _ BX Cf) λa w16 Y U=>nv Y<|zP (v_lt O O)<|zM (ay O O)<|λa Y=>G10 ?_
     replace Y:=Y.p5 3 4 5 7 63 O
     refine az Y O (λhc8=>?_) (λhc8=>?_)
     ·refine aj<|nv Y<|zM (ac (v:=po w13.hz 1) O kr)<|zM (ld U 0 O O (isAgg3 _) O)<|zM (ac (v:=po b1 1) O kr)<|λa Y=>aB 1 Y U [jv y.n,jv u.holder,jv c,jv y.t,jv 0] O (sizeOf3 _) λa w17 Y U=>ab<|G9<|aa λ_ G11=>nv Y<|zM (aT (v:=po w1.hz 2) O O kr)<|zM (ld U 3 O O (isAgg3 _) O)<|λa Y=>ax Y U call44 O (bO x2 8 _ BX Cf) λa w18 Y U=>wlv Y (v_eq O O) λa Y=>G11 ?_
      replace Y:=Y.p4 3 4 5 70 O
      replace U:=U.k4 30 O
      refine az Y O (λhc9=>?_) (λhc9=>?_)
      ·refine aj<|nv Y<|zM (ac (v:=po b1 3) O kr)<|zM (ld U 0 O O (isAgg3 _) O)<|zM (aL O O ⟨om,om⟩)<|zM (ac (v:=po b1 3) O kr)<|λa Y=>aB 0 Y U [jv y.n,jv u.holder,jv c,jv (y.t+1),jv 0] O (sizeOf3 _) λa w19 Y U=>ab ?_
       exact⟨y.n,u.holder,(y.t+1),om,om,om,Y.pick [3,4,5],U.select [0,1,2,3] de⟩
      refine ar ?_
      exact⟨y.n,u.holder,y.t,om,om,om,Y.pick [3,4,5],U.select [0,1,2,3] de⟩
     refine ar<|G9<|aa λ_ G12=>nv Y<|zM (aT (v:=po w1.hz 2) O O kr)<|zM (ld U 3 O O (isAgg3 _) O)<|λa Y=>ax Y U call44 O (bO x2 8 _ BX Cf) λa w20 Y U=>wlv Y (v_eq O O) λa Y=>G12<|az Y O (λhc10=>?_) (λhc10=>?_)
     ·refine aj<|nv Y<|zM (ac (v:=po b1 3) O kr)<|zM (ld U 1 O O (isAgg3 _) O)<|zM (aL O O ⟨om,om⟩)<|zM (ac (v:=po b1 3) O kr)<|λa Y=>aB 1 Y U [jv y.n,jv (pickI x1 10),jv c,jv (y.t+1),jv 0] O (sizeOf3 _) λa w21 Y U=>ab ?_
      exact⟨y.n,(pickI x1 10),(y.t+1),om,om,om,Y.pick [3,4,5],U.select [1,2,3,4] de⟩
     refine ar ?_
     exact⟨y.n,(pickI x1 10),y.t,om,om,om,Y.pick [3,4,5],U.select [1,2,3,4] de⟩
    have hdz:bL y.ev=none:=by
     cases h:bL y.ev with
     | none=>rfl
     | some z=>rw[h] at hb5; cases hb5
    refine ax Y U call46 O (qI (AD hye de) hdz) λa w22 Y U=>nv Y<|zN O<|zM (ak O O)<|zM (ak O O)<|zM (ak O O)<|λa Y=>aE Y U (zeroValue90 _) [jv 0,jv 0,jv 0,jv 0,jv 0,jv 0,jv 0,jv 0,.string (⟨#[]⟩)] O λa w23 Y U=>aB 0 Y U [jv 0,jv 0,jv 0,jv 0,jv 0,jv 0,jv 0,jv 0,sv ([]:By)] O (sizeOf90 _) λa w24 Y U=>nv Y<|zO O<|zO O<|λa Y=>G8 ?_
    replace U:=U.k5 61 O
    refine ah λ_ G13=>aa λ_ G14=>nv (Y.p5 3 4 5 7 9 O)<|zN O<|zM ((v_eq O O).asb (b':=false) O)<|zN O<|zQ<|zQ<|zQ<|zQ<|zM (al O O)<|λa Y=>G14 ?_
    replace Y:=Y.p5 3 4 5 7 63 O
    refine aG Y O ?_
    refine ar<|G13<|aa λ_ G15=>nv Y<|zM (aT (v:=po w1.hz 2) O O kr)<|zM (ld U 3 O O (isAgg3 _) O)<|λa Y=>ax Y U call44 O (bO x2 8 _ BX Cf) λa w25 Y U=>wlv Y (v_eq O O) λa Y=>G15<|az Y O (λhc11=>?_) (λhc11=>?_)
    ·refine aj<|nv Y<|zM (ac (v:=po b1 3) O kr)<|zM (ld U 1 O O (isAgg3 _) O)<|zM (aL O O ⟨om,om⟩)<|zM (ac (v:=po b1 3) O kr)<|λa Y=>aB 1 Y U [jv y.n,jv (pickI x1 10),jv c,jv (y.t+1),jv 0] O (sizeOf3 _) λa w26 Y U=>ab ?_
     exact⟨y.n,(pickI x1 10),(y.t+1),om,om,om,Y.pick [3,4,5],U.select [1,2,3,4] de⟩
    refine ar ?_
    exact⟨y.n,(pickI x1 10),y.t,om,om,om,Y.pick [3,4,5],U.select [1,2,3,4] de⟩
   refine ar ?_
   exact⟨(pickI x0 40),(pickI x1 10),(pickI x2 10000),om,om,om,Y.pick [3,4,5],U.select [0,1,2,3] de⟩
  rintro a w27 ⟨qn,qh,qt,hqn,hqh,hqt,Y,U⟩
  refine G3<|ah λ_ G16=>aa λ_ G17=>nv Y<|zM (aT (v:=po w1.hz 3) O O kr)<|zM (ld U 2 O O (isAgg3 _) O)<|λa Y=>ax Y U call44 O (bO x3 16 _ BX Cf) λa w28 Y U=>wlv Y (v_eq O O) λa Y=>G17<|az Y O (λhc12=>?_) (λhc12=>?_)
  ·refine aj<|nv Y<|zM (ac (v:=po b1 2) O kr)<|zM (ld U 0 O O (isAgg3 _) O)<|zM (aL O O ⟨om,om⟩)<|zM (fx O O om om)<|zM (ac (v:=po b1 2) O kr)<|λa Y=>aB 0 Y U [jv qn,jv qh,jv ((c+1)%8),jv qt,jv 0] O (sizeOf3 _) λa w29 Y U=>ab<|G16 ?_
   replace Y:=Y.p3 3 4 5 O
   replace U:=U.k3 7 O
   refine ah λ_ G18=>aH (aI λw30 hxz=>?_)
   replace U:=U.grow hxz
   refine aQ (k:=0) 6 [1,5] Y ?_
   refine bI 6 (Y.p3 3 4 5 O) U<|pl_v (ac (v:=po b1 3) O kr)<|pl_w (λU=>ld U 0 O O (isAgg3 _) O)<|pl_v (aT (v:=po w1.hz 3) O O kr)<|pl_w (λU=>ld U 2 O O (isAgg3 _) O)<|pl_v (jR O O de ⟨om,om⟩)<|pl_r (λU=>bD call44 O (bO (x3.tdiv 16) 100 _ (fN hx3 de) Cf)) λa w31 Y U=>?_
   replace Y:=Y.p4 4 5 85 89 O
   refine ab<|aJ (k:=6) 9 [8] ?_
   refine nv Y<|zM (aL O O ⟨om,om⟩)<|zM (ac (v:=po b1 4) O kr)<|λa Y=>aB 0 Y U [jv qn,jv qh,jv ((c+1)%8),jv qt,jv (qt+(pickI (x3.tdiv 16) 100))] O (sizeOf3 _) λa w32 Y U=>ab<|aR<|G18<|aa λ_ G19=>wlv Y (ap (U.g 0 O) O (isAgg36 _) (sizeOf36 _)) λa Y=>aB 1 Y U [jv qn,jv qh,jv ((c+1)%8),jv qt,jv (qt+(pickI (x3.tdiv 16) 100))] O (sizeOf36 _) λa w33 Y U=>G19 ?_
   replace Y:=Y.p1 4 O
   replace U:=U.k1 2 O
   refine aq<|am Y results14 (ao O (bd (U.g 0 O) (isAgg36 _) (sizeOf36 _)) ag) ?_
   exact⟨⟨qn,qh,(c+1)%8,qt,qt+(pickI (x3.tdiv 16) 100)⟩,O,⟨by show 0≤qn∧_; omega,by show 0≤qh∧_; omega,by show 0≤((c+1)%8)∧((c+1)%8)≤7; omega,by show 0≤qt∧_; omega,by show qt≤(qt+(pickI (x3.tdiv 16) 100)); omega,by show (qt+(pickI (x3.tdiv 16) 100))≤qt+99; omega⟩,U.ext,St.out (E:=[]) (H:=[]) (U.select [] de)⟩
  refine ar<|G16<|ah λ_ G20=>aH (aI λw34 hxz=>?_)
  replace U:=U.grow hxz
  refine aQ (k:=0) 6 [1,5] Y ?_
  refine bI 6 (Y.p6 3 4 5 75 76 77 O) U<|pl_v (ac (v:=po b1 3) O kr)<|pl_w (λU=>ld U 0 O O (isAgg3 _) O)<|pl_v (aT (v:=po w1.hz 3) O O kr)<|pl_w (λU=>ld U 2 O O (isAgg3 _) O)<|pl_v (jR O O de ⟨om,om⟩)<|pl_r (λU=>bD call44 O (bO (x3.tdiv 16) 100 _ (fN hx3 de) Cf)) λa w35 Y U=>?_
  replace Y:=Y.p4 4 5 85 89 O
  refine ab<|aJ (k:=6) 9 [8] ?_
  refine nv Y<|zM (aL O O ⟨om,om⟩)<|zM (ac (v:=po b1 4) O kr)<|λa Y=>aB 0 Y U [jv qn,jv qh,jv c,jv qt,jv (qt+(pickI (x3.tdiv 16) 100))] O (sizeOf3 _) λa w36 Y U=>ab<|aR<|G20<|aa λ_ G21=>wlv Y (ap (U.g 0 O) O (isAgg36 _) (sizeOf36 _)) λa Y=>aB 1 Y U [jv qn,jv qh,jv c,jv qt,jv (qt+(pickI (x3.tdiv 16) 100))] O (sizeOf36 _) λa w37 Y U=>G21 ?_
  replace Y:=Y.p1 4 O
  replace U:=U.k1 2 O
  refine aq<|am Y results14 (ao O (bd (U.g 0 O) (isAgg36 _) (sizeOf36 _)) ag) ?_
  exact⟨⟨qn,qh,c,qt,qt+(pickI (x3.tdiv 16) 100)⟩,O,⟨by show 0≤qn∧_; omega,by show 0≤qh∧_; omega,by show 0≤c∧c≤7; omega,by show 0≤qt∧_; omega,by show qt≤(qt+(pickI (x3.tdiv 16) 100)); omega,by show (qt+(pickI (x3.tdiv 16) 100))≤qt+99; omega⟩,U.ext,St.out (E:=[]) (H:=[]) (U.select [] de)⟩
 rw[zW hb2] at Y
 refine nv Y<|zQ<|zQ<|zQ<|zQ<|zM (al O O)<|λa Y=>G4 ?_
 replace Y:=Y.p5 2 3 4 5 31 O
 refine hC (λa w=>∃(qn:Int),∃(qh:Int),∃(qt:Int),(0≤qn∧qn≤39)∧(0≤qh∧qh≤63)∧(0≤qt∧qt≤10000)∧Fr 93 [(3,pq w1.hz),(4,pq w2.hz),(5,pq b1)] [] a∧St No w0 [blk b1 [jv qn,jv qh,jv c,jv qt,jv 0] 36,blk w2.hz [jv 0,jv 0,jv 0,jv 0,jv 0] 36,blk w1.hz [jv x0,jv x1,jv x2,jv x3] 27,blk w0.hz [jv c,lv] 32] w) ?_ ?_
 ·refine aG Y O ?_
  refine ar ?_
  exact⟨(pickI x0 40),(pickI x1 10),(pickI x2 10000),om,om,om,Y.pick [3,4,5],U.select [0,1,2,3] de⟩
 rintro a w38 ⟨qn,qh,qt,hqn,hqh,hqt,Y,U⟩
 refine G3<|ah λ_ G22=>aa λ_ G23=>nv Y<|zM (aT (v:=po w1.hz 3) O O kr)<|zM (ld U 2 O O (isAgg3 _) O)<|λa Y=>ax Y U call44 O (bO x3 16 _ BX Cf) λa w39 Y U=>wlv Y (v_eq O O) λa Y=>G23<|az Y O (λhc13=>?_) (λhc13=>?_)
 ·refine aj<|nv Y<|zM (ac (v:=po b1 2) O kr)<|zM (ld U 0 O O (isAgg3 _) O)<|zM (aL O O ⟨om,om⟩)<|zM (fx O O om om)<|zM (ac (v:=po b1 2) O kr)<|λa Y=>aB 0 Y U [jv qn,jv qh,jv ((c+1)%8),jv qt,jv 0] O (sizeOf3 _) λa w40 Y U=>ab<|G22 ?_
  replace Y:=Y.p3 3 4 5 O
  replace U:=U.k3 7 O
  refine ah λ_ G24=>aH (aI λw41 hxz=>?_)
  replace U:=U.grow hxz
  refine aQ (k:=0) 6 [1,5] Y ?_
  refine bI 6 (Y.p3 3 4 5 O) U<|pl_v (ac (v:=po b1 3) O kr)<|pl_w (λU=>ld U 0 O O (isAgg3 _) O)<|pl_v (aT (v:=po w1.hz 3) O O kr)<|pl_w (λU=>ld U 2 O O (isAgg3 _) O)<|pl_v (jR O O de ⟨om,om⟩)<|pl_r (λU=>bD call44 O (bO (x3.tdiv 16) 100 _ (fN hx3 de) Cf)) λa w42 Y U=>?_
  replace Y:=Y.p4 4 5 85 89 O
  refine ab<|aJ (k:=6) 9 [8] ?_
  refine nv Y<|zM (aL O O ⟨om,om⟩)<|zM (ac (v:=po b1 4) O kr)<|λa Y=>aB 0 Y U [jv qn,jv qh,jv ((c+1)%8),jv qt,jv (qt+(pickI (x3.tdiv 16) 100))] O (sizeOf3 _) λa w43 Y U=>ab<|aR<|G24<|aa λ_ G25=>wlv Y (ap (U.g 0 O) O (isAgg36 _) (sizeOf36 _)) λa Y=>aB 1 Y U [jv qn,jv qh,jv ((c+1)%8),jv qt,jv (qt+(pickI (x3.tdiv 16) 100))] O (sizeOf36 _) λa w44 Y U=>G25 ?_
  replace Y:=Y.p1 4 O
  replace U:=U.k1 2 O
  refine aq<|am Y results14 (ao O (bd (U.g 0 O) (isAgg36 _) (sizeOf36 _)) ag) ?_
  exact⟨⟨qn,qh,(c+1)%8,qt,qt+(pickI (x3.tdiv 16) 100)⟩,O,⟨by show 0≤qn∧_; omega,by show 0≤qh∧_; omega,by show 0≤((c+1)%8)∧((c+1)%8)≤7; omega,by show 0≤qt∧_; omega,by show qt≤(qt+(pickI (x3.tdiv 16) 100)); omega,by show (qt+(pickI (x3.tdiv 16) 100))≤qt+99; omega⟩,U.ext,St.out (E:=[]) (H:=[]) (U.select [] de)⟩
 refine ar<|G22<|ah λ_ G26=>aH (aI λw45 hxz=>?_)
 replace U:=U.grow hxz
 refine aQ (k:=0) 6 [1,5] Y ?_
 refine bI 6 (Y.p6 3 4 5 75 76 77 O) U<|pl_v (ac (v:=po b1 3) O kr)<|pl_w (λU=>ld U 0 O O (isAgg3 _) O)<|pl_v (aT (v:=po w1.hz 3) O O kr)<|pl_w (λU=>ld U 2 O O (isAgg3 _) O)<|pl_v (jR O O de ⟨om,om⟩)<|pl_r (λU=>bD call44 O (bO (x3.tdiv 16) 100 _ (fN hx3 de) Cf)) λa w46 Y U=>?_
 replace Y:=Y.p4 4 5 85 89 O
 refine ab<|aJ (k:=6) 9 [8] ?_
 refine nv Y<|zM (aL O O ⟨om,om⟩)<|zM (ac (v:=po b1 4) O kr)<|λa Y=>aB 0 Y U [jv qn,jv qh,jv c,jv qt,jv (qt+(pickI (x3.tdiv 16) 100))] O (sizeOf3 _) λa w47 Y U=>ab<|aR<|G26<|aa λ_ G27=>wlv Y (ap (U.g 0 O) O (isAgg36 _) (sizeOf36 _)) λa Y=>aB 1 Y U [jv qn,jv qh,jv c,jv qt,jv (qt+(pickI (x3.tdiv 16) 100))] O (sizeOf36 _) λa w48 Y U=>G27 ?_
 replace Y:=Y.p1 4 O
 replace U:=U.k1 2 O
 refine aq<|am Y results14 (ao O (bd (U.g 0 O) (isAgg36 _) (sizeOf36 _)) ag) ?_
 exact⟨⟨qn,qh,c,qt,qt+(pickI (x3.tdiv 16) 100)⟩,O,⟨by show 0≤qn∧_; omega,by show 0≤qh∧_; omega,by show 0≤c∧c≤7; omega,by show 0≤qt∧_; omega,by show qt≤(qt+(pickI (x3.tdiv 16) 100)); omega,by show (qt+(pickI (x3.tdiv 16) 100))≤qt+99; omega⟩,U.ext,St.out (E:=[]) (H:=[]) (U.select [] de)⟩
theorem iW {es:List By} {n:Nat} {ix:List Int} {L:List Itw} (hn:n≤60) (hL:itsM L=showIs sha es n ix):∀x∈L,x.m.pf.length≤6:=tc hL hn
theorem nd {R:List Rpw} {r:Rpw} {k:Nat} (hk:R.length=k) (h5:k<5) (h:∀r∈R,∀x∈r.L,x.m.pf.length≤6) (hr:∀x∈r.L,x.m.pf.length≤6):(R++[r]).length=k+1∧∀z∈R++[r],∀x∈z.L,x.m.pf.length≤6:=⟨by simp[hk],bT h hr⟩
theorem lq (c1:Int) (lv1:Value) (l1:List Cas) (c2:Int) (lv2:Value) (l2:List Cas) (cg:Chg) (xv:Value) (xs:List Pr3) (w0:World) (hlv1:SlAt w0 lv1 3 (l1.map Cas.cells)) (hD1:Doc c1 l1) (hlv2:SlAt w0 lv2 3 (l2.map Cas.cells)) (hD2:Doc c2 l2) (hq:ChgB cg) (hxv:SlAt w0 xv 3 (xs.map Pr3.cells)) (hxs:∀y∈xs,y.wt):
  Ret Tryz.prog 15 #[.agg #[jv c1,lv1],.agg #[jv c2,lv2],.agg #[jv cg.n,jv cg.h,jv cg.c,jv cg.t,jv cg.a],xv] w0 (MemR w0 (λx:Value × List Rpw=>x.1) (λx=>[own x.1 52 6 (x.2.map Rpw.cells),repsE x.2]) (λx=>RepB x.2)):=by
 have hxb:=hxv.2.1
 have hxb1:=hlv1.2.1
 have hxb2:=hlv2.2.1
 simp only[zR,big] at hxb hxb1 hxb2
 obtain⟨hqn0,hqh,hqc,hqt,hqa⟩:=id hq
 have hqn:0≤cg.n∧cg.n≤99999999:=by omega
 have hcb:=hD1.car
 have hcb2:=hD2.car
 have hll1:=hD1.2.1
 have hll2:=hD2.2.1
 have hD2c:=hD1.swap hD2
 have hreg1:=gb hD1.1
 have hreg2:=gb hD2c.1
 obtain⟨hd1,hh1⟩:∃h,hdOf sha (keyG c1) c1 (entC l1) l1.length=h:=⟨_,rfl⟩
 obtain⟨hd2,hh2⟩:∃h,hdOf sha (keyG c1) c1 (entC l2) l2.length=h:=⟨_,rfl⟩
 refine BI func15 O ntmps15 (lb O) λa Y U=>?_
 refine aa λ_ G1=>aS Y U O [jv c1,lv1] O λa w1 Y U=>aS Y U O [jv c2,lv2] O λa w2 Y U=>aS Y U O [jv cg.n,jv cg.h,jv cg.c,jv cg.t,jv cg.a] O λa w3 Y U=>wla Y O λa Y=>G1<|aa λ_ G2=>?_
 refine nv Y<|zM (ac (v:=pq w0.hz) O kr)<|zM (ld U 2 O O (isAgg3 _) O)<|λa Y=>ax Y U call13 O (jd c1 _ om) λa w4 Y U=>wla Y O λa Y=>G2 ?_
 refine aa λ_ G3=>wla (Y.p6 3 4 5 6 8 9 O) O λa Y=>G3<|ah λ_ G4=>?_
 refine aa λ_ G5=>wla Y O λa Y=>G5<|aw ?_
 replace U:St No w0 [own (.slice none 0 0) 52 6 (([]:List Rpw).map Rpw.cells),blk w2.hz [jv cg.n,jv cg.h,jv cg.c,jv cg.t,jv cg.a] 36,blk w1.hz [jv c2,lv2] 32,blk w0.hz [jv c1,lv1] 32] w4:=U.nil_own
 replace U:St No w0 [repsE ([]:List Rpw),own (.slice none 0 0) 52 6 (([]:List Rpw).map Rpw.cells),blk w2.hz [jv cg.n,jv cg.h,jv cg.c,jv cg.t,jv cg.a] 36,blk w1.hz [jv c2,lv2] 32,blk w0.hz [jv c1,lv1] 32] w4:=wm U
 refine aZ (λm a w=>∃(k:Nat) (v:Value) (R:List Rpw) (cq:Int),m=5- k∧(k≤5)∧(R.length=k)∧(∀r∈R,∀x∈r.L,x.m.pf.length≤6)∧(∀r∈R, -5≤r.at_∧r.at_≤20000000)∧(Doc cq l2)∧Fr 105 [(3,xv),(4,pq w0.hz),(5,pq w1.hz),(6,pq w2.hz),(8,.slice none 0 0),(9,sv (keyG c1)),(10,v),(11,jv (k:Int))] [] a∧St No w0 [own v 52 6 ((R).map Rpw.cells),repsE R,blk w1.hz [jv cq,lv2] 32,blk w2.hz [jv cg.n,jv cg.h,jv cg.c,jv cg.t,jv cg.a] 36,blk w0.hz [jv c1,lv1] 32] w) _ ⟨0,.slice none 0 0,[],c2,O,de,O,sm,sm,hD2,Y.pick [3,4,5,6,8,9,10,11],U.select [1,0,3,2,4] de⟩ ?_
 rintro _ a w5 ⟨k,v,R,cq,rfl,hk,hRk,hRp,hRa,hDq,Y,U⟩
 refine ah λ_ G6=>aa λ_ G7=>nv Y<|zN O<|zN O<|zM ((aK (sT:=28) (U.arg hxv) O O (runUnderlying28 _)).asi (m':=(xs.length:Int)) B9)<|zM (v_lt O O)<|zN O<|λa Y=>?_
 rcases Decidable.em ((k:Int)<(xs.length:Int)) with hb1|hb1
 ·rw[zU hb1] at Y
  have hkx:k<xs.length:=by omega
  refine nv Y<|zP (au O)<|zP (v_lt O O)<|zM (ay O O)<|λa Y=>G7 ?_
  replace Y:=Y.p9 3 4 5 6 8 9 10 11 23 O
  refine az Y O (λhc2=>?_) (λhc2=>?_)
  ·refine ar<|G6<|ah λ_ G8=>aw<|ah λ_ G9=>?_
   obtain⟨y,hy⟩:∃y,xs.getD k Pr3.z=y:=⟨_,rfl⟩
   have hyw:=hxs _ (bC (d:=Pr3.z) hkx)
   rw[hy] at hyw
   obtain⟨hya,hyb,hyc⟩:=hyw
   have g1:=hya
   have g2:=hyb
   have g3:=hyc
   unfold i64 at g1 g2 g3
   have p1:=ba y.a (n:=70) de
   refine aH (aI λw6 hxz=>?_)
   replace U:=U.grow hxz
   refine aQ (k:=0) 12 [10,11] Y ?_
   replace Y:=Y.p8 3 4 5 6 8 9 10 11 O
   refine bn [11] (λi=>match i with|11=>pm (λb:Nat=>pq b) (λb=>[blk b [jv 0,jv 0,jv 0,.string (⟨#[]⟩),.string (⟨#[]⟩),.slice none 0 0] 52]) (λ_=>True)|_=>λ_ _=>False) 12 [[],[0],[],[],[2,3],[4],[5],[6],[1,7],[8],[9],[]] [po w2.hz 4,jv cg.a,xv,jv (k:Int),slAddr xv (k*3),slAddr xv (k*3+0),jv y.a,jv (pickI y.a 70),jv (cg.a+(pickI y.a 70)),jv ((cg.a+(pickI y.a 70))- 5),.agg #[jv ((cg.a+(pickI y.a 70))- 5),jv 0,jv 0,sv ([]:By),sv ([]:By),.slice none 0 0],undef] Y U ?_ ?_ ?_
   ·exact BO<|hqv (ac (v:=po w2.hz 4) rfl kr)<|hqw (λU=>ld U 3 rfl rfl (isAgg3 _) rfl)<|hqv (au rfl)<|hqv (au rfl)<|hqw (λU=>(ai (i:=(k:Int)) (sT:=28) (U.arg hxv) rfl rfl (runUnderlying28 _) (sizeOf112 _) om BQ).as (v':=slAddr xv (k*3)) rfl)<|hqw (λU=>cK (k:=k*3) (j:=0) (U.arg hxv) (i:=k) BQ rfl rfl (λ_ _=>by kernel_rfl))<|hqw (λU=>aA (u:=jv y.a) (i:=k) (j:=0) (U.arg hxv) BQ rfl (isAgg3 _) DB)<|BM (λ_ _ _=>bD call44 rfl (bO y.a 70 _ BX de))<|hqv (aL rfl rfl ⟨om,om⟩)<|hqv (bJ rfl rfl ⟨om,om⟩)<|hqv (aV (v:=.agg #[jv ((cg.a+(pickI y.a 70))- 5),jv 0,jv 0,sv ([]:By),sv ([]:By),.slice none 0 0]) rfl kr)<|BM (λh=>absurd sm h)<|BN
   ·intro i hi
    simp only[zY,Ab,As] at hi
    subst hi
    ·intro w U
     exact fi (zeroValue52 _) (cs:=[jv 0,jv 0,jv 0,.string (⟨#[]⟩),.string (⟨#[]⟩),.slice none 0 0]) O
   clear Y U
   rintro _ _ ⟨b3,rfl, -,rfl⟩ a w7 Y U
   replace Y:=Y.p10 36 12 3 4 5 6 8 9 10 11 O
   replace U:=U.n6 O
   refine ab<|aJ (k:=12) 13 [12] ?_
   refine aB 0 Y U [jv ((cg.a+(pickI y.a 70))- 5),jv 0,jv 0,sv ([]:By),sv ([]:By),.slice none 0 0] O (sizeOf52 _) λa w8 Y U=>ab<|aR<|G9 ?_
   refine ah λ_ G10=>aa λ_ G11=>nv (Y.p9 3 4 5 6 8 9 10 11 12 O)<|zN O<|zN O<|zM ((ai (i:=(k:Int)) (sT:=28) (U.arg hxv) O O (runUnderlying28 _) (sizeOf112 _) om BQ).as (v':=slAddr xv (k*3)) O)<|zM (cK (k:=k*3) (j:=1) (U.arg hxv) (i:=k) BQ O O (λ_ _=>by kernel_rfl))<|zM (aA (u:=jv y.b) (i:=k) (j:=1) (U.arg hxv) BQ O (isAgg3 _) DB)<|λa Y=>ax Y U call44 O (bO y.b 4 _ BX de) λa w9 Y U=>G11 ?_
   refine hC (λa w=>∃(hdr:Hd),∃(ir:Value),∃(Lr:List Itw),∃(cq2:Int),(∀x∈Lr,x.m.pf.length≤6)∧(Doc cq2 l2)∧Fr 105 [(3,xv),(4,pq w0.hz),(5,pq w1.hz),(6,pq w2.hz),(8,.slice none 0 0),(9,sv (keyG c1)),(10,v),(11,jv (k:Int)),(12,pq b3)] [] a∧St No w0 [itsE ir Lr,blk b3 [jv ((cg.a+(pickI y.a 70))- 5),jv hdr.c,jv hdr.n,sv hdr.root,sv hdr.tag,ir] 52,blk w1.hz [jv cq2,lv2] 32,own v 52 6 ((R).map Rpw.cells),repsE R,blk w2.hz [jv cg.n,jv cg.h,jv cg.c,jv cg.t,jv cg.a] 36,blk w0.hz [jv c1,lv1] 32] w) ?_ ?_
   ·refine aw<|ah λ_ G12=>aa λ_ G13=>nv Y<|zM (v_eq O O)<|zO O<|λa Y=>G13 ?_
    replace Y:=Y.p11 3 4 5 6 8 9 10 11 12 42 66 O
    refine az Y O (λhc4=>?_) (λhc4=>?_)
    ·rw[zU hc4] at Y
     refine ar<|G12<|aM Y O ?_
     refine aj<|nv Y<|zN O<|zM (ap (U.g 5 O) O (isAgg32 _) (sizeOf32 _))<|zM (ac (v:=pq w2.hz) O kr)<|zM (ld U 4 O O (isAgg3 _) O)<|λa Y=>bf Y U call47 O (lS (keyG c1) hd1 c1 lv1 l1 cg.n _ (U.arg hlv1) (fJ _) hD1.1 hh1 hqn) λa w10 x6 hp Y U=>?_
     obtain⟨iv5,Liv5⟩:=x6
     obtain⟨ixa,hixa,hixl,hLiv5⟩:=hp
     try dsimp only at U
     replace U:=U.n7 O
     refine nv Y<|zN O<|zM (ak O O)<|zM (ak O O)<|zM (ac (v:=po b3 1) O kr)<|λa Y=>bj (us:=[jv hd1.c,jv hd1.n,sv hd1.root,sv hd1.tag,iv5]) 1 Y U O O O (sizeOf50 _) Cg (lb O) (ds:=[jv ((cg.a+(pickI y.a 70))- 5),jv hd1.c,jv hd1.n,sv hd1.root,sv hd1.tag,iv5]) O O λa w11 Y U=>?_
     refine ab ?_
     have hpx:=iW om hLiv5
     exact⟨hd1,iv5,Liv5,cq,hpx,C8,Y.pick [3,4,5,6,8,9,10,11,12],U.select [0,1,4,2,3,5,6] de⟩
    refine aj<|nv Y<|zM (v_eq O O)<|zO O<|λa Y=>ab<|G12<|az Y O (λhc7=>?_) (λhc7=>?_)
    ·refine aj<|nv Y<|zN O<|zM (ap (U.g 5 O) O (isAgg32 _) (sizeOf32 _))<|zM (ac (v:=pq w2.hz) O kr)<|zM (ld U 4 O O (isAgg3 _) O)<|λa Y=>bf Y U call47 O (lS (keyG c1) hd1 c1 lv1 l1 cg.n _ (U.arg hlv1) (fJ _) hD1.1 hh1 hqn) λa w12 x9 hp Y U=>?_
     obtain⟨iv8,Liv8⟩:=x9
     obtain⟨ixa,hixa,hixl,hLiv8⟩:=hp
     try dsimp only at U
     replace U:=U.n7 O
     refine nv Y<|zN O<|zM (ak O O)<|zM (ak O O)<|zM (ac (v:=po b3 1) O kr)<|λa Y=>bj (us:=[jv hd1.c,jv hd1.n,sv hd1.root,sv hd1.tag,iv8]) 1 Y U O O O (sizeOf50 _) Cg (lb O) (ds:=[jv ((cg.a+(pickI y.a 70))- 5),jv hd1.c,jv hd1.n,sv hd1.root,sv hd1.tag,iv8]) O O λa w13 Y U=>?_
     refine ab ?_
     have hpx:=iW om hLiv8
     exact⟨hd1,iv8,Liv8,cq,hpx,C8,Y.pick [3,4,5,6,8,9,10,11,12],U.select [0,1,4,2,3,5,6] de⟩
    refine aa λ_ G14=>nv Y<|zM (v_eq O O)<|zO O<|λa Y=>G14<|az Y O (λhc10=>?_) (λhc10=>?_)
    ·refine aH (aI λw14 hxz=>?_)
     replace U:=U.grow hxz
     refine aQ (k:=0) 15 [0,5,14] Y ?_
     replace Y:=Y.p10 3 4 5 6 8 9 10 11 12 42 O
     refine bn [2,14] (λi=>match i with|2=>pm (λv:Value=>.agg #[jv c1,v]) (λv=>[own v 9 1 ((entC l1).map λs=>[sv s])]) (λ_=>True)|14=>pm (λx:Value × List Int=>x.1) (λx=>[own x.1 3 1 (x.2.map λz:Int=>[jv z])]) (λx=>ascI (l1.length:Int) (-1) x.2=true∧x.2.length≤l1.length)|_=>λ_ _=>False) 15 [[],[],[1],[],[3],[4],[],[],[6,7],[8],[9],[],[11],[12],[10,13]] [sv (keyG c1),.agg #[jv c1,lv1],undef,po w0.hz 1,lv1,jv (l1.length:Int),xv,jv (k:Int),slAddr xv (k*3),slAddr xv (k*3+2),jv y.c,po w0.hz 1,lv1,jv (l1.length:Int),undef] Y U ?_ ?_ ?_
     ·exact BO<|hqv (au rfl)<|hqw (λU=>ap (U.g 5 rfl) rfl (isAgg32 _) (sizeOf32 _))<|BM (λh=>absurd sm h)<|hqv (ac (v:=po w0.hz 1) rfl kr)<|hqw (λU=>ld U 5 rfl rfl (isAgg30 _) rfl)<|hqw (λU=>(aK (sT:=30) (U.arg hlv1) rfl rfl (runUnderlying30 _)).asi (m':=(l1.length:Int)) B9)<|hqv (au rfl)<|hqv (au rfl)<|hqw (λU=>(ai (i:=(k:Int)) (sT:=28) (U.arg hxv) rfl rfl (runUnderlying28 _) (sizeOf112 _) om BQ).as (v':=slAddr xv (k*3)) rfl)<|hqw (λU=>cK (k:=k*3) (j:=2) (U.arg hxv) (i:=k) BQ rfl rfl (λ_ _=>by kernel_rfl))<|hqw (λU=>aA (u:=jv y.c) (i:=k) (j:=2) (U.arg hxv) BQ rfl (isAgg3 _) DB)<|hqv (ac (v:=po w0.hz 1) rfl kr)<|hqw (λU=>ld U 5 rfl rfl (isAgg30 _) rfl)<|
       hqw (λU=>(aK (sT:=30) (U.arg hlv1) rfl rfl (runUnderlying30 _)).asi (m':=(l1.length:Int)) B9)<|BM (λh=>absurd sm h)<|BN
     ·intro i hi
      simp only[zY,Ab,As] at hi
      rcases hi with rfl|rfl
      ·intro w U
       exact dt call27 O (oH c1 lv1 l1 _ (U.arg hlv1) om)
      ·intro w U
       exact dt call28 O (qf y.c l1.length _ hyc om)
     clear Y U
     rintro _ _ ⟨ev11,rfl, -,rfl⟩ xv12 _ ⟨⟨_,lxv12⟩,rfl,⟨haxv12,hlxv12⟩,rfl⟩ a w15 Y U
     replace Y:=Y.p13 81 83 86 95 3 4 5 6 8 9 10 11 12 O
     try dsimp only at U
     replace U:=U.n8 O
     refine ab<|aJ (k:=15) 17 [16] ?_
     refine bf Y U call48 O (iw (keyG c1) l1.length hd1 xv12 lxv12 c1 ev11 (entC l1) _ (U.ow 0 O) (U.ow 1 O) (fJ _) hreg1 Dp haxv12 (AD (show lxv12.length≤l1.length from hlxv12) om) hh1) λa w16 x14 hp Y U=>?_
     obtain⟨iv13,Liv13⟩:=x14
     have hLiv13:=hp
     try dsimp only at U
     replace U:=U.n9 O
     refine wlm Y O λa Y=>ab<|aQ (k:=17) 21 [18,20] Y ?_
     replace Y:=Y.p15 3 4 5 6 8 9 10 11 12 81 83 86 95 96 80 O
     have hon15:=SlAt.one' (bG (k:=0) U rfl).1
     replace U:=U.s9 [3,0,1,2,4,5,6,7,8] de rfl
     refine ew [3] (λq=>if q=3 then blk b3 [jv ((cg.a+(pickI y.a 70))- 5),jv 0,jv 0,sv ([]:By),sv ([]:By),.slice none 0 0] 52 else join []) (λq=>if q=3 then blk b3 [jv ((cg.a+(pickI y.a 70))- 5),jv hd1.c,jv hd1.n,sv hd1.root,sv hd1.tag,iv13] 52 else join []) 4 [[],[],[],[0,2]] (λi=>match i with|0=>pv (.agg #[jv hd1.c,jv hd1.n,sv hd1.root,sv hd1.tag,iv13])|1=>pv (jv 0)|2=>pv (po b3 1)|3=>λv E=>v=undef∧E=[]|_=>λ_ _=>False) Dx Y (H:=[itsE iv13 Liv13,own ev11 9 1 ((entC l1).map λs=>[sv s]),own xv12 3 1 ((lxv12).map λn=>[jv n]),own v 52 6 ((R).map Rpw.cells),repsE R,blk w1.hz [jv cq,lv2] 32,blk w2.hz [jv cg.n,jv cg.h,jv cg.c,jv cg.t,jv cg.a] 36,blk w0.hz [jv c1,lv1] 32]) U kr kr kr kr de de ?_ ?_ ?_ ?_ ?_ ?_
     ·intro i v E h
      match i,h with
      | 0,_=>exact by decide
      | 1,_=>exact by decide
      | 2,_=>exact by decide
      | 3,_=>exact by decide
      | i+4,h=>exact h.elim
     ·intro q v E hq h
      simp only[zY,Ab,As] at hq
      rcases hq with rfl<;>exact h
     ·intro q hq
      simp only[zY,Ab,As] at hq
      rcases hq with rfl<;>exact⟨rfl,rfl⟩
     ·intro i hi hiq e
      match i,hi,hiq with
      | 0,_,_=>exact λw U=>OpV.g (ak O O)
      | 1,_,_=>exact λw U=>OpV.g (ak O O)
      | 2,_,_=>exact λw U=>OpV.g (ac (v:=po b3 1) O kr)
      | 3,_,h=>exact absurd de h
     ·intro q hq
      simp only[zY,Ab,As] at hq
      rcases hq with rfl
      ·rintro _ _ ⟨rfl,rfl⟩ _ _ ⟨rfl,rfl⟩
       intro w h
       exact dH (cs:=[jv ((cg.a+(pickI y.a 70))- 5),jv 0,jv 0,sv ([]:By),sv ([]:By),.slice none 0 0]) (ds:=[jv ((cg.a+(pickI y.a 70))- 5),jv hd1.c,jv hd1.n,sv hd1.root,sv hd1.tag,iv13]) O O h (sizeOf50 _) (show ([jv hd1.c,jv hd1.n,sv hd1.root,sv hd1.tag,iv13]:List Value).all (λz=>z.oneCell')=true by simp only[List.all_cons,hon15]; rfl) (lb O) O
     clear Y U
     rintro _ _ ⟨rfl,rfl⟩ _ _ ⟨rfl,rfl⟩ _ _ ⟨rfl,rfl⟩ a w17 Y U
     replace Y:Fr 105 [(97,_),(98,_),(99,_),(3,_),(4,_),(5,_),(6,_),(8,_),(9,_),(10,_),(11,_),(12,_),(81,_),(83,_),(86,_),(95,_),(96,_),(80,_)] [] a:=Y
     try dsimp only at U
     replace U:=U.n9 O
     refine ab<|aR ?_
     have hpx:=iW om hLiv13
     exact⟨hd1,iv13,Liv13,cq,hpx,C8,Y.pick [3,4,5,6,8,9,10,11,12],U.select [1,0,6,4,5,7,8] de⟩
    refine aa λ_ G15=>nv Y<|zM (ac (v:=pq w0.hz) O kr)<|zM (ld U 5 O O (isAgg3 _) O)<|zM (ac (v:=pq w1.hz) O kr)<|λa Y=>aB 3 Y U [jv c1,lv2] O (sizeOf3 _) λa w18 Y U=>G15 ?_
    replace Y:=Y.p9 3 4 5 6 8 9 10 11 12 O
    refine aH (aI λw19 hxz=>?_)
    replace U:=U.grow hxz
    refine aQ (k:=0) 15 [0,5,14] Y ?_
    replace Y:=Y.p9 3 4 5 6 8 9 10 11 12 O
    refine bn [2,14] (λi=>match i with|2=>pm (λv:Value=>.agg #[jv c1,v]) (λv=>[own v 9 1 ((entC l2).map λs=>[sv s])]) (λ_=>True)|14=>pm (λx:Value × List Int=>x.1) (λx=>[own x.1 3 1 (x.2.map λz:Int=>[jv z])]) (λx=>ascI (l2.length:Int) (-1) x.2=true∧x.2.length≤l2.length)|_=>λ_ _=>False) 15 [[],[],[1],[],[3],[4],[],[],[6,7],[8],[9],[],[11],[12],[10,13]] [sv (keyG c1),.agg #[jv c1,lv2],undef,po w1.hz 1,lv2,jv (l2.length:Int),xv,jv (k:Int),slAddr xv (k*3),slAddr xv (k*3+2),jv y.c,po w1.hz 1,lv2,jv (l2.length:Int),undef] Y U ?_ ?_ ?_
    ·exact BO<|hqv (au rfl)<|hqw (λU=>ap (U.g 3 rfl) rfl (isAgg32 _) (sizeOf32 _))<|BM (λh=>absurd sm h)<|hqv (ac (v:=po w1.hz 1) rfl kr)<|hqw (λU=>ld U 3 rfl rfl (isAgg30 _) rfl)<|hqw (λU=>(aK (sT:=30) (U.arg hlv2) rfl rfl (runUnderlying30 _)).asi (m':=(l2.length:Int)) B9)<|hqv (au rfl)<|hqv (au rfl)<|hqw (λU=>(ai (i:=(k:Int)) (sT:=28) (U.arg hxv) rfl rfl (runUnderlying28 _) (sizeOf112 _) om BQ).as (v':=slAddr xv (k*3)) rfl)<|hqw (λU=>cK (k:=k*3) (j:=2) (U.arg hxv) (i:=k) BQ rfl rfl (λ_ _=>by kernel_rfl))<|hqw (λU=>aA (u:=jv y.c) (i:=k) (j:=2) (U.arg hxv) BQ rfl (isAgg3 _) DB)<|hqv (ac (v:=po w1.hz 1) rfl kr)<|hqw (λU=>ld U 3 rfl rfl (isAgg30 _) rfl)<|
      hqw (λU=>(aK (sT:=30) (U.arg hlv2) rfl rfl (runUnderlying30 _)).asi (m':=(l2.length:Int)) B9)<|BM (λh=>absurd sm h)<|BN
    ·intro i hi
     simp only[zY,Ab,As] at hi
     rcases hi with rfl|rfl
     ·intro w U
      exact dt call27 O (oH c1 lv2 l2 _ (U.arg hlv2) om)
     ·intro w U
      exact dt call28 O (qf y.c l2.length _ hyc om)
    clear Y U
    rintro _ _ ⟨ev16,rfl, -,rfl⟩ xv17 _ ⟨⟨_,lxv17⟩,rfl,⟨haxv17,hlxv17⟩,rfl⟩ a w20 Y U
    replace Y:=Y.p13 47 49 52 61 3 4 5 6 8 9 10 11 12 O
    try dsimp only at U
    replace U:=U.n8 O
    refine ab<|aJ (k:=15) 17 [16] ?_
    refine bf Y U call48 O (iw (keyG c1) l2.length hd2 xv17 lxv17 c1 ev16 (entC l2) _ (U.ow 0 O) (U.ow 1 O) (fJ _) hreg2 Dp haxv17 (AD (show lxv17.length≤l2.length from hlxv17) om) hh2) λa w21 x19 hp Y U=>?_
    obtain⟨iv18,Liv18⟩:=x19
    have hLiv18:=hp
    try dsimp only at U
    replace U:=U.n9 O
    refine wlm Y O λa Y=>ab<|aQ (k:=17) 21 [18,20] Y ?_
    replace Y:=Y.p15 3 4 5 6 8 9 10 11 12 47 49 52 61 62 46 O
    have hon20:=SlAt.one' (bG (k:=0) U rfl).1
    replace U:=U.s9 [3,0,1,2,4,5,6,7,8] de rfl
    refine ew [3] (λq=>if q=3 then blk b3 [jv ((cg.a+(pickI y.a 70))- 5),jv 0,jv 0,sv ([]:By),sv ([]:By),.slice none 0 0] 52 else join []) (λq=>if q=3 then blk b3 [jv ((cg.a+(pickI y.a 70))- 5),jv hd2.c,jv hd2.n,sv hd2.root,sv hd2.tag,iv18] 52 else join []) 4 [[],[],[],[0,2]] (λi=>match i with|0=>pv (.agg #[jv hd2.c,jv hd2.n,sv hd2.root,sv hd2.tag,iv18])|1=>pv (jv 0)|2=>pv (po b3 1)|3=>λv E=>v=undef∧E=[]|_=>λ_ _=>False) Dx Y (H:=[itsE iv18 Liv18,own ev16 9 1 ((entC l2).map λs=>[sv s]),own xv17 3 1 ((lxv17).map λn=>[jv n]),own v 52 6 ((R).map Rpw.cells),repsE R,blk w1.hz [jv c1,lv2] 32,blk w2.hz [jv cg.n,jv cg.h,jv cg.c,jv cg.t,jv cg.a] 36,blk w0.hz [jv c1,lv1] 32]) U kr kr kr kr de de ?_ ?_ ?_ ?_ ?_ ?_
    ·intro i v E h
     match i,h with
     | 0,_=>exact by decide
     | 1,_=>exact by decide
     | 2,_=>exact by decide
     | 3,_=>exact by decide
     | i+4,h=>exact h.elim
    ·intro q v E hq h
     simp only[zY,Ab,As] at hq
     rcases hq with rfl<;>exact h
    ·intro q hq
     simp only[zY,Ab,As] at hq
     rcases hq with rfl<;>exact⟨rfl,rfl⟩
    ·intro i hi hiq e
     match i,hi,hiq with
     | 0,_,_=>exact λw U=>OpV.g (ak O O)
     | 1,_,_=>exact λw U=>OpV.g (ak O O)
     | 2,_,_=>exact λw U=>OpV.g (ac (v:=po b3 1) O kr)
     | 3,_,h=>exact absurd de h
    ·intro q hq
     simp only[zY,Ab,As] at hq
     rcases hq with rfl
     ·rintro _ _ ⟨rfl,rfl⟩ _ _ ⟨rfl,rfl⟩
      intro w h
      exact dH (cs:=[jv ((cg.a+(pickI y.a 70))- 5),jv 0,jv 0,sv ([]:By),sv ([]:By),.slice none 0 0]) (ds:=[jv ((cg.a+(pickI y.a 70))- 5),jv hd2.c,jv hd2.n,sv hd2.root,sv hd2.tag,iv18]) O O h (sizeOf50 _) (show ([jv hd2.c,jv hd2.n,sv hd2.root,sv hd2.tag,iv18]:List Value).all (λz=>z.oneCell')=true by simp only[List.all_cons,hon20]; rfl) (lb O) O
    clear Y U
    rintro _ _ ⟨rfl,rfl⟩ _ _ ⟨rfl,rfl⟩ _ _ ⟨rfl,rfl⟩ a w22 Y U
    replace Y:Fr 105 [(63,_),(64,_),(65,_),(3,_),(4,_),(5,_),(6,_),(8,_),(9,_),(10,_),(11,_),(12,_),(47,_),(49,_),(52,_),(61,_),(62,_),(46,_)] [] a:=Y
    try dsimp only at U
    replace U:=U.n9 O
    refine ab<|aR ?_
    have hpx:=iW om hLiv18
    exact⟨hd2,iv18,Liv18,c1,hpx,C8,Y.pick [3,4,5,6,8,9,10,11,12],U.select [1,0,6,4,5,7,8] de⟩
   rintro a w23 ⟨hdr,ir,Lr,cq2,hpr,hDq,Y,U⟩
   refine G10<|aj<|nv Y<|zN O<|zM (ap (U.g 1 O) O (isAgg52 _) (sizeOf52 _))<|λa Y=>aD (E:=52) (sz:=6) O [[jv ((cg.a+(pickI y.a 70))- 5),jv hdr.c,jv hdr.n,sv hdr.root,sv hdr.tag,ir]] kr sm O de de Y U λa w24 Y U=>aY (i:=4) (sT:=38) (inf:=Tryz.t52) (z:=.agg #[jv 0,jv 0,jv 0,.string (⟨#[]⟩),.string (⟨#[]⟩),.slice none 0 0]) (b:=0) (off:=0) (m:=0) (c:=0) O O O (U.ow 0 O) sm underlying38 O O O O de (by exact nW (r:=(⟨_,hdr,ir,Lr⟩:Rpw)) (bG (k:=1) U O).1) B0 B0 de Y U λa w25 s21 Y U _=>?_
   replace U:St No w0 [own (.slice (some ⟨w23.hz,0,none⟩) 1 1) 52 6 ([[jv ((cg.a+(pickI y.a 70))- 5),jv hdr.c,jv hdr.n,sv hdr.root,sv hdr.tag,ir]]),itsE ir Lr,blk b3 [jv ((cg.a+(pickI y.a 70))- 5),jv hdr.c,jv hdr.n,sv hdr.root,sv hdr.tag,ir] 52,blk w1.hz [jv cq2,lv2] 32,own s21 52 6 (((R++[(⟨(cg.a+(pickI y.a 70))- 5,hdr,ir,Lr⟩:Rpw)])).map Rpw.cells),repsE R,blk w2.hz [jv cg.n,jv cg.h,jv cg.c,jv cg.t,jv cg.a] 36,blk w0.hz [jv c1,lv1] 32] w25:=by rw[show (((R++[(⟨(cg.a+(pickI y.a 70))- 5,hdr,ir,Lr⟩:Rpw)])).map Rpw.cells)=((R).map Rpw.cells)++([[jv ((cg.a+(pickI y.a 70))- 5),jv hdr.c,jv hdr.n,sv hdr.root,sv hdr.tag,ir]]) from by rw[AH]; rfl]; exact U
   refine wla Y O λa Y=>ab<|G8<|aj<|nv Y<|zN O<|zM (aL O O ⟨om,om⟩)<|zO O<|λa Y=>ab ?_
   replace U:=U.s8 [1,5,0,2,3,4,6,7] de rfl
   replace U:St No w0 [repsE (R++[(⟨(cg.a+(pickI y.a 70))- 5,hdr,ir,Lr⟩:Rpw)]),own (.slice (some ⟨w23.hz,0,none⟩) 1 1) 52 6 ([[jv ((cg.a+(pickI y.a 70))- 5),jv hdr.c,jv hdr.n,sv hdr.root,sv hdr.tag,ir]]),blk b3 [jv ((cg.a+(pickI y.a 70))- 5),jv hdr.c,jv hdr.n,sv hdr.root,sv hdr.tag,ir] 52,blk w1.hz [jv cq2,lv2] 32,own s21 52 6 (((R++[(⟨(cg.a+(pickI y.a 70))- 5,hdr,ir,Lr⟩:Rpw)])).map Rpw.cells),blk w2.hz [jv cg.n,jv cg.h,jv cg.c,jv cg.t,jv cg.a] 36,blk w0.hz [jv c1,lv1] 32] w25:=tB (⟨(cg.a+(pickI y.a 70))- 5,hdr,ir,Lr⟩:Rpw) U
   refine⟨_,?_,k+1,s21,(R++[(⟨(cg.a+(pickI y.a 70))- 5,hdr,ir,Lr⟩:Rpw)]),cq2,O,om,(nd hRk om hRp hpr).1,(nd hRk om hRp hpr).2,bT hRa (show-5≤(cg.a+(pickI y.a 70))- 5∧(cg.a+(pickI y.a 70))- 5≤20000000 by omega),hDq,Y.pick [3,4,5,6,8,9,10,11],U.select [4,0,3,5,6] de⟩
   omega
  refine aP<|G4<|aa λ_ G16=>nv Y<|zN O<|zO O<|λa Y=>G16 ?_
  replace Y:=Y.p1 8 O
  replace U:=U.k2 3 O
  refine aq<|am Y results15 (ae O ag) ?_
  exact⟨(v,R),O,⟨show R.length≤5 by omega,hRp,hRa⟩,U.ext,St.out (E:=[own v 52 6 ((R).map Rpw.cells),repsE R]) (H:=[]) (U.select [0,1] de)⟩
 rw[zW hb1] at Y
 refine nv Y<|zQ<|zQ<|zM (al O O)<|λa Y=>G7 ?_
 replace Y:=Y.p9 3 4 5 6 8 9 10 11 23 O
 refine aG Y O ?_
 refine aP<|G4<|aa λ_ G17=>nv Y<|zN O<|zO O<|λa Y=>G17 ?_
 replace Y:=Y.p1 8 O
 replace U:=U.k2 3 O
 refine aq<|am Y results15 (ae O ag) ?_
 exact⟨(v,R),O,⟨show R.length≤5 by omega,hRp,hRa⟩,U.ext,St.out (E:=[own v 52 6 ((R).map Rpw.cells),repsE R]) (H:=[]) (U.select [0,1] de)⟩
theorem eL {f:FuncId} {args:Array Value} {w:World} {a b:Value} (h:a=b) (hr:Ret Tryz.prog f args w λv w'=>v=a∧Ext No w w'):Ret Tryz.prog f args w λv w'=>v=b∧Ext No w w':=by subst h; exact hr
section
variable {key:By} {hd:Hd} {c:Int} {l:List Cas} {es:List By} {n:Nat} {ix ixa ixb:List Int} {L La Lb:List Itw} {num:Int}
theorem dR (hD:docOk c l=true) (hk:key.length=32) (hhd:hdOf sha key c (entC l) l.length=hd) (hix:ascI (l.length:Int) (-1) ix=true) (hL:itsM L=showIs sha (entC l) l.length ix):checkP sha key hd (itsM L)=true:=by
 rw[hL,←hhd]; exact mj dw hk (gb hD) Dp hix
theorem nr (hr:regOk c es=true) (hn:n≤es.length) (hk:key.length=32) (hhd:hdOf sha key c es n=hd) (hix:ascI (n:Int) (-1) ix=true) (hL:itsM L=showIs sha es n ix):checkP sha key hd (itsM L)=true:=by
 rw[hL,←hhd]; exact mj dw hk hr hn hix
theorem dF (hn:n≤60) (hL:itsM L=showIs sha es n ix):∀x∈L,x.m.pf.length≤1000:=λx hx=>AD (tc hL hn x hx) de
theorem dY (hL:itsM L=showIs sha es n ix):L.length=ix.length:=by
 have:=Ap List.length hL
 rwa [dK,showIs,zR] at this
theorem eB (hL:itsM L=showIs sha es n ix) {k:Nat} (hk:k<ix.length):(L.getD k Itw.z).m=itmAt sha es n (ix.getD k 0):=by
 have h1:(itsM L).getD k Itm.z=(L.getD k Itw.z).m:=by
  have hl:=dY hL
  rw[itsM,z6,A2,z6,z8 om]; rfl
 rw[←h1,hL,showIs,z6,A2,z6,z8 hk]; rfl
theorem tN (hL:itsM L=showIs sha (entC l) l.length ix) (h:docOk c l=true) (hix:ascI (l.length:Int) (-1) ix=true) (hn:¬thereC l num):hasF num (itsM L)=none:=by
 cases hq:hasF num (itsM L) with
 | none=>rfl
 | some d=>
  rw[hL] at hq
  obtain⟨i,h1,h2,h3⟩:=xC h hix hq
  exact absurd ⟨i,h1,by rw[h2]; exact h3⟩ hn
theorem ng (hL:itsM L=showIs sha (entC l) l.length ix) (hhd:hdOf sha key c (entC l) l.length=hd) (h:docOk c l=true) (hix:ascI (l.length:Int) (-1) ix=true) (ht:thereC l num):lackF hd.n num (-1) false (itsM L)=false:=by
 rw[hL,←hhd]; exact uR h hix ht
theorem iP (hL:itsM L=showIs sha (entC l) l.length (ansIx l num)) (hhd:hdOf sha key c (entC l) l.length=hd) (h:docOk c l=true) (hh:hitC l num=false):lackF hd.n num (-1) false (itsM L)=true:=by
 rw[hL,←hhd]; exact vu h hh
theorem ym (hL:itsM L=showIs sha (entC l) l.length (ansIx l num)) (h:docOk c l=true) (hh:hitC l num=true):hasF num (itsM L)=some (l.getD (lowC num l) Cas.z):=by rw[hL]; exact xw h hh
theorem kH (h:docOk c l=true) (hia:ascI (l.length:Int) (-1) ixa=true) (hib:ascI (l.length:Int) (-1) ixb=true) (ha:itsM La=showIs sha (entC l) l.length ixa) (hb:itsM Lb=showIs sha (entC l) l.length ixb):crookF (itsM La) (itsM Lb)=false:=by rw[ha,hb]; exact oB h hia hib
end
section
variable {ks:List By} {key:By} {q:Chg} {lim t:Int} {r:Rpl}
theorem nK {p:Rpl→Bool}:firstF p none [r]=if p r=true then some r.at_ else none:=by
 show nextO p none r=_
 unfold nextO lessO
 rw[Bw]
theorem fS {bk bb:Bool} (h1:keptB sha ks key q (q.a+lim) t r=bk) (h2:backB sha key q (q.a+lim) t r=bb):stateH sha ks key lim q [r] t=pickS (if bk=true then some r.at_ else none) (if bb=true then some r.at_ else none) q (q.a+lim) t:=by
 unfold stateH
 rw[nK,nK,h1,h2]
end
theorem yr:exS.length≤900:=jJ (x:=exW) (ps:=[exP]) (e:=0) (by unfold encT; rw[qW])
theorem cy:docOk 3 exC=true:=by
 have h:=yr
 unfold docOk exC
 simp only[ascC,Cas.ok,inB]
 rw[zU h]
 rfl
theorem xG:exC.length=3:=rfl
theorem ix1000:ansIx exC 1000=[0]:=by decide
theorem ix1500:ansIx exC 1500=[1]:=by decide
theorem ix1200:ansIx exC 1200=[0,1]:=by decide
theorem ix500:ansIx exC 500=[0]:=by decide
theorem ix3000:ansIx exC 3000=[2]:=by decide
theorem xT:hitC exC 1500=true:=by decide
theorem oG:hitC exC 1200=false:=by decide
theorem hit500:hitC exC 500=false:=by decide
theorem yG:hitC exC 3000=false:=by decide
theorem mZ:thereC exC 1000:=⟨0,by decide,rfl⟩
theorem kd:¬thereC exC 1200:=λh=>by have:=(sY cy).2 h; rw[oG] at this; cases this
section
variable {hd:Hd} {L:List Itw}
theorem oo {key:By} (hk:key.length=32) (hhd:hdOf sha key 3 (entC exC) exC.length=hd) (hL:itsM L=showIs sha (entC exC) exC.length (ansIx exC 1000)) (hol t en:Int) (hen:320≤en- 1) (iv:Value):
  (320≤t→keptB sha keysH key ⟨1000,1,3,150,300⟩ en t (Rpw.m ⟨320,hd,iv,L⟩)=true)∧(t<320→keptB sha keysH key ⟨1000,hol,3,150,300⟩ en t (Rpw.m ⟨320,hd,iv,L⟩)=false)∧backB sha key ⟨1000,hol,3,150,300⟩ en t (Rpw.m ⟨320,hd,iv,L⟩)=false∧(hol≠1→keptB sha keysH key ⟨1000,hol,3,150,300⟩ en t (Rpw.m ⟨320,hd,iv,L⟩)=false):=by
 have hix:=du exC 1000
 have hc:=dR cy hk hhd hix hL
 have hdc:hd.c=3:=by rw[←hhd]; rfl
 have hm:itmAt sha (entC exC) exC.length 0∈itsM L:=by rw[hL,ix1000]; exact Aq.2 rfl
 have hd0:decCas (itmAt sha (entC exC) exC.length 0).e=some ⟨1000,150,exS⟩:=dg cy de de
 refine⟨λht=>?_,λht=>?_,?_,λhn=>?_⟩
 ·exact eC.2 ⟨dz.2 ⟨⟨by show (300:Int)≤320; decide,hen,ht⟩,hdc,hc⟩,vY hm hd0 O O vy O O vm⟩
 ·rw[Bool.eq_false_iff]; intro h
  have:=(dz.1 (eC.1 h).1).1.2.2
  have:(320:Int)≤t:=this
  omega
 ·rw[Bool.eq_false_iff]; intro h
  have h9:lackF hd.n 1000 (-1) false (itsM L)=true:=(fF.1 h).2
  rw[ng hL hhd cy hix mZ] at h9
  cases h9
 ·rw[Bool.eq_false_iff]; intro h
  obtain⟨x,hx,d,h1,h2,h3,w,ps,h4,h5,_⟩:=lN (eC.1 h).2
  have hx:x∈itsM L:=hx
  rw[hL,ix1000] at hx
  have hx:=Aq.1 hx
  rw[hx,hd0] at h1
  cases h1
  rw[vy] at h4
  cases h4
  exact hn h5.symm
theorem ex_b {key:By} (hk:key.length=32) (hhd:hdOf sha key 3 (entC exC) exC.length=hd) (hL:itsM L=showIs sha (entC exC) exC.length (ansIx exC 1200)) (iv:Value):
  keptB sha keysH key ⟨1200,1,3,150,300⟩ 350 310 (Rpw.m ⟨310,hd,iv,L⟩)=false∧backB sha key ⟨1200,1,3,150,300⟩ 350 310 (Rpw.m ⟨310,hd,iv,L⟩)=true:=by
 have hix:=du exC 1200
 have hc:=dR cy hk hhd hix hL
 have hdc:hd.c=3:=by rw[←hhd]; rfl
 refine⟨?_,?_⟩
 ·rw[Bool.eq_false_iff]; intro h
  obtain⟨x,hx,d,h1,h2,_⟩:=lN (eC.1 h).2
  have hx:x∈itsM L:=hx
  rw[hL] at hx
  obtain⟨i,hi,rfl⟩:=ed hx
  have hb:=dZ hix i hi
  rw[dg cy om hb.2] at h1
  exact kd ⟨i.toNat,by omega,by rw[A4 h1]; exact h2⟩
 ·exact fF.2 ⟨dz.2 ⟨⟨by show (300:Int)≤310; decide,by show (310:Int)≤350- 1; decide,by show (310:Int)≤310; decide⟩,hdc,hc⟩,iP hL hhd cy oG⟩
theorem g6 {key:By} (hk:key.length=32) (hhd:hdOf sha key 3 (entC exC) exC.length=hd) (hL:itsM L=showIs sha (entC exC) exC.length (ansIx exC 1000)) (iv:Value):
  stateH sha keysH key 50 ⟨1000,1,3,150,300⟩ (repsM [⟨320,hd,iv,L⟩]) 320=(2,320)∧stateH sha keysH key 50 ⟨1000,1,3,150,300⟩ (repsM [⟨320,hd,iv,L⟩]) 319=(1,300)∧stateH sha keysH key 50 ⟨1000,2,3,150,300⟩ (repsM [⟨320,hd,iv,L⟩]) 349=(1,300)∧stateH sha keysH key 50 ⟨1000,2,3,150,300⟩ (repsM [⟨320,hd,iv,L⟩]) 350=(3,350):=by
 have a:=oo hk hhd hL 1 320 350 de iv
 have b:=oo hk hhd hL 1 319 350 de iv
 have d:=oo hk hhd hL 2 349 350 de iv
 have e:=oo hk hhd hL 2 350 350 de iv
 exact⟨fS (lim:=50) (a.1 de) a.2.2.1,fS (lim:=50) (b.2.1 de) b.2.2.1,fS (lim:=50) (d.2.2.2 de) d.2.2.1,fS (lim:=50) (e.2.2.2 de) e.2.2.1⟩
theorem tm {key:By} (hk:key.length=32) (hhd:hdOf sha key 3 (entC exC) exC.length=hd) (hL:itsM L=showIs sha (entC exC) exC.length (ansIx exC 1200)) (iv:Value):
  stateH sha keysH key 50 ⟨1200,1,3,150,300⟩ (repsM [⟨310,hd,iv,L⟩]) 310=(3,310):=by
 have a:=ex_b hk hhd hL iv
 exact fS (lim:=50) a.1 a.2
end
theorem nb {key:By}:stateH sha keysH key 50 ⟨1000,1,3,150,300⟩ (repsM []) 349=(1,300)∧stateH sha keysH key 50 ⟨1000,1,3,150,300⟩ (repsM []) 350=(3,350):=⟨rfl,rfl⟩
theorem tX {La Lo L:List Itw} (ha:itsM La=showIs sha (entC exC) exC.length (ansIx exC 1500)) (ho:itsM Lo=showIs sha (entC exC) exC.length (ansIx exC 1000)) (hL:itsM L=showIs sha [(La.getD 0 Itw.z).m.e,(Lo.getD 0 Itw.z).m.e] 2 [0,1]):crookF (itsM L) (itsM L)=true:=by
 have e1:decCas (La.getD 0 Itw.z).m.e=some ⟨1500,160,[]⟩:=by
  rw[eB ha (k:=0) (by rw[ix1500]; decide),ix1500]; exact dg cy de de
 have e2:decCas (Lo.getD 0 Itw.z).m.e=some ⟨1000,150,exS⟩:=by
  rw[eB ho (k:=0) (by rw[ix1000]; decide),ix1000]; exact dg cy de de
 rw[hL]
 refine qg (xn (x:=itmAt sha [(La.getD 0 Itw.z).m.e,(Lo.getD 0 Itw.z).m.e] 2 0) (y:=itmAt sha [(La.getD 0 Itw.z).m.e,(Lo.getD 0 Itw.z).m.e] 2 1) (by simp[showIs]) (by simp[showIs]) (c:=⟨1500,160,[]⟩) (d:=⟨1000,150,exS⟩) e1 e2 (show (0:Int)<1 by decide) (show (1000:Int)≤1500 by decide))
theorem ik {La Lo:List Itw} (ha:itsM La=showIs sha (entC exC) exC.length (ansIx exC 1500)) (ho:itsM Lo=showIs sha (entC exC) exC.length (ansIx exC 1000)):regOk 3 [(La.getD 0 Itw.z).m.e,(Lo.getD 0 Itw.z).m.e]=true:=by
 refine pZ O (show 2≤60 by decide) λs hs=>?_
 have h1:∀{L:List Itw} {n:Int},itsM L=showIs sha (entC exC) exC.length (ansIx exC n)→0<(ansIx exC n).length→(L.getD 0 Itw.z).m.e.length≤1000:=by
  intro L n hL hn
  rw[eB hL hn]
  exact AD (wj (px exC)) de
 simp only[zY,Ab,As] at hs
 rcases hs with rfl|rfl
 ·exact h1 ha (by rw[ix1500]; decide)
 ·exact h1 ho (by rw[ix1000]; decide)
theorem rG {x:Wsh} {lv:Value} {ps:List Pxy} {s:By} {w0:World} (hlv:SlAt w0 lv 7 (ps.map Pxy.cells)) (h:cx x ps=some s):Ret Tryz.prog 35 #[.agg #[jv x.signer,jv x.holder,jv x.rf,jv x.rt,jv x.carrier,jv x.serial,jv x.sf,jv x.st,sv x.sig],lv] w0 λv w=>v=.tuple #[sv s,jv 0]∧Ext No w0 w:=by
 have:=tA x lv ps w0 hlv
 rw[h] at this
 exact this
theorem zl (w0:World) (hk0:(blk 0 (kOf.map wv) 258).ok w0):
  Ret Tryz.prog 104 #[] w0 λv w=>v=sv exS∧Ext No w0 w:=by
 refine aC func104 O ntmps104 (lb O) λa Y=>?_
 replace Y:Fr 31 [] [] a:=Y
 replace U:St No w0 [] w0:=St.init w0
 refine aa λ_ G1=>wla Y O λa Y=>G1<|aa λ_ G2=>?_
 refine ax Y U call33 O (jT 1 _) λa w1 Y U=>nv Y<|zM (aV (v:=.agg #[jv 1000,jv 2000]) O kr)<|zM (aV (v:=.agg #[jv 100,jv 500]) O kr)<|zM (aV (v:=.agg #[jv 1,jv 2,jv 1000,jv 2000,jv 100,jv 500,sv ([]:By)]) O kr)<|λa Y=>ax Y U call151 O (oD (keyH 1) ⟨1,2,1000,2000,100,500,[]⟩ _ (gA _) de (U.keepb hk0)) λa w2 Y U=>nv Y<|zN O<|zM (ak O O)<|zM (ak O O)<|λa Y=>aE Y U (zeroValue144 _) [jv 0,jv 0,jv 0,jv 0,jv 0,jv 0,.string (⟨#[]⟩)] O λa w3 Y U=>aB 0 Y U [jv exP.frm,jv exP.to,jv exP.rf,jv exP.rt,jv exP.sf,jv exP.st,sv exP.sig] O (sizeOf144 _) λa w4 Y U=>wla Y O λa Y=>G2 ?_
 refine aa λ_ G3=>ax (Y.p2 0 1 O) U call33 O (jT 2 _) λa w5 Y U=>nv Y<|zM (aV (v:=.agg #[jv 1000,jv 1200]) O kr)<|zM (aV (v:=.agg #[jv 150,jv 200]) O kr)<|zM (aV (v:=.agg #[jv 2,jv 1,jv 1000,jv 1200,jv 3,jv 7,jv 150,jv 200,sv ([]:By)]) O kr)<|λa Y=>ax Y U call34 O (pE (keyH 2) ⟨2,1,1000,1200,3,7,150,200,[]⟩ _ (gA _) de (U.keepb hk0)) λa w6 Y U=>nv Y<|zN O<|zM (ak O O)<|zM (ak O O)<|λa Y=>aE Y U (zeroValue90 _) [jv 0,jv 0,jv 0,jv 0,jv 0,jv 0,jv 0,jv 0,.string (⟨#[]⟩)] O λa w7 Y U=>aB 0 Y U [jv exW.signer,jv exW.holder,jv exW.rf,jv exW.rt,jv exW.carrier,jv exW.serial,jv exW.sf,jv exW.st,sv exW.sig] O (sizeOf90 _) λa w8 Y U=>wla Y O λa Y=>G3 ?_
 refine aa λ_ G4=>nv (Y.p3 0 1 3 O)<|zM (ap (U.g 0 O) O (isAgg90 _) (sizeOf90 _))<|zM (ap (U.g 1 O) O (isAgg144 _) (sizeOf144 _))<|λa Y=>aD (E:=144) (sz:=7) O [[jv exP.frm,jv exP.to,jv exP.rf,jv exP.rt,jv exP.sf,jv exP.st,sv exP.sig]] kr sm O de de Y U λa w9 Y U=>ax Y U call35 O (rG (x:=exW) (ps:=[exP]) (U.ow 0 O) qW) λa w10 Y U=>nv Y<|zN O<|zM (ak O O)<|zM (ak O O)<|zO O<|zO O<|λa Y=>G4 ?_
 replace U:=U.k0 0 O
 refine aa λ_ G5=>nv (Y.p2 0 5 O)<|zN O<|zO O<|λa Y=>G5<|aq ?_
 refine am Y results104 (ae O ag) ?_
 exact⟨by rfl,U.ext⟩
theorem zq (w0:World) (hk0:(blk 0 (kOf.map wv) 258).ok w0):
  Ret Tryz.prog 41 #[] w0 (MemR w0 (λv:Value=>.agg #[jv 3,v]) (λv=>[own v 55 3 (exC.map Cas.cells)]) (λ_=>True)):=by
 refine aC func41 O ntmps41 (lb O) λa Y=>?_
 replace Y:Fr 7 [] [] a:=Y
 replace U:St No w0 [] w0:=St.init w0
 refine aa λ_ G1=>aE Y U (zeroValue32 _) [jv 0,.slice none 0 0] O λa w1 Y U=>G1<|aa λ_ G2=>?_
 refine ax Y U call104 O (zl _ (U.keepb hk0)) λa w2 Y U=>nv Y<|zM (aV (v:=.agg #[jv 1000,jv 150,sv exS]) O kr)<|zM (aV (v:=.agg #[jv 1500,jv 160,sv ([]:By)]) O kr)<|zM (aV (v:=.agg #[jv 2000,jv 170,sv ([]:By)]) O kr)<|λa Y=>aD (E:=55) (sz:=3) O [[jv 1000,jv 150,sv exS],[jv 1500,jv 160,sv ([]:By)],[jv 2000,jv 170,sv ([]:By)]] kr sm O de de Y U λa w3 Y U=>wlv Y (aV (v:=.agg #[jv 3,(.slice (some ⟨w2.hz,0,none⟩) 3 3)]) O kr) λa Y=>aB 1 Y U [jv 3,(.slice (some ⟨w2.hz,0,none⟩) 3 3)] O (sizeOf32 _) λa w4 Y U=>G2 ?_
 replace Y:=Y.p1 0 O
 refine aq<|am Y results41 (ao O (bd (U.g 1 O) (isAgg32 _) (sizeOf32 _)) ag) ?_
 exact⟨(.slice (some ⟨w2.hz,0,none⟩) 3 3),O,trivial,U.ext,St.out (E:=[own (.slice (some ⟨w2.hz,0,none⟩) 3 3) 55 3 (exC.map Cas.cells)]) (H:=[]) (U.select [0] de)⟩
theorem gI (hd:Hd) (iv:Value) (L:List Itw) (lv:Value) (ix:List Int) (w0:World) (hiv:ItsAt w0 iv L) (hlv:SlAt w0 lv 1 ((ix).map λn=>[jv n])) (hl:L.length=ix.length) (hix:∀k,k<ix.length→(L.getD k Itw.z).m.ix=ix.getD k 0):
  Ret Tryz.prog 42 #[.agg #[jv hd.c,jv hd.n,sv hd.root,sv hd.tag,iv],lv] w0 λv w=>v=.bool true∧Ext No w0 w:=by
 have hxb:=hiv.len
 have hxc:=hlv.2.1
 simp only[zR,big] at hxc
 refine BF func42 O ntmps42 (lb O) λa Y U=>?_
 refine aa λ_ G1=>aS Y U O [jv hd.c,jv hd.n,sv hd.root,sv hd.tag,iv] O λa w1 Y U=>wla Y O λa Y=>G1<|ah λ_ G2=>?_
 refine aa λ_ G3=>nv Y<|zM (ac (v:=po w0.hz 4) O kr)<|zM (ld U 0 O O (isAgg48 _) O)<|zM ((aK (sT:=48) (U.arg hiv.1) O O (runUnderlying48 _)).asi (m':=(L.length:Int)) B9)<|zN O<|zM ((aK (sT:=24) (U.arg hlv) O O (runUnderlying24 _)).asi (m':=(ix.length:Int)) B9)<|zM (v_ne O O)<|λa Y=>G3 ?_
 replace Y:=Y.p4 1 2 4 11 O
 refine cN Y O (λhc1=>?_) (λhc1=>?_)
 ·exfalso; omega
 refine ar<|G2<|ah λ_ G4=>aa λ_ G5=>wla Y O λa Y=>G5<|aw ?_
 refine aZ (λm a w=>∃(k:Nat),m=ix.length- k∧(k≤ix.length)∧Fr 29 [(1,lv),(2,pq w0.hz),(5,jv (k:Int))] [] a∧St No w0 [blk w0.hz [jv hd.c,jv hd.n,sv hd.root,sv hd.tag,iv] 50] w) _ ⟨0,O,Ah _,Y.pick [1,2,5],U.select [0] de⟩ ?_
 rintro _ a w2 ⟨k,rfl,hk,Y,U⟩
 refine ah λ_ G6=>aa λ_ G7=>nv Y<|zN O<|zN O<|zM ((aK (sT:=24) (U.arg hlv) O O (runUnderlying24 _)).asi (m':=(ix.length:Int)) B9)<|zM (v_lt O O)<|λa Y=>G7<|az Y O (λhc2=>?_) (λhc2=>?_)
 ·have hkx:k<ix.length:=by omega
  have hkl:=hix k hkx
  refine ar<|G6<|ah λ_ G8=>aw<|ah λ_ G9=>aH (aI λw3 hxz=>?_)
  replace U:=U.grow hxz
  refine aQ (k:=0) 10 [5,9] Y ?_
  replace Y:=Y.p6 1 2 5 12 13 14 O
  refine bI 10 Y U<|pl_v (ac (v:=po w0.hz 4) O kr)<|pl_w (λU=>ld U 0 O O (isAgg48 _) O)<|pl_m O<|pl_w (λU=>(ai (i:=(k:Int)) (sT:=48) (U.arg hiv.1) O O (runUnderlying48 _) (sizeOf110 _) om BQ).as (v':=slAddr iv (k*3)) O)<|pl_w (λU=>bA (k:=k*3) (j:=0) (U.arg hiv.1) (i:=k) BQ O (λ_ _=>by kernel_rfl))<|pl_w (λU=>aA (u:=jv ((L.getD k Itw.z).m.ix)) (i:=k) (j:=0) (U.arg hiv.1) BQ O (isAgg3 _) (by rw[aX Itw.z]; rfl))<|pl_m O<|pl_m O ?_
  refine pl_w (λU=>(ai (i:=(k:Int)) (sT:=24) (U.arg hlv) O O (runUnderlying24 _) (sizeOf3 _) om BQ).as (v':=slAddr lv (k*1)) O)<|pl_w (λU=>aA (u:=jv (ix.getD k 0)) (i:=k) (j:=0) (U.arg hlv) BQ O (isAgg3 _) Ca) λa w4 Y U=>?_
  replace Y:=Y.p5 1 2 5 23 27 O
  refine ab<|aJ (k:=10) 11 [10] ?_
  refine wlv Y (v_ne O O) λa Y=>ab<|aR<|G9<|cN Y O (λhc3=>?_) (λhc3=>?_)
  ·exact absurd hkl hc3
  refine ar<|G8<|aj<|nv Y<|zN O<|zM (aL O O ⟨om,om⟩)<|zO O<|λa Y=>ab ?_
  refine⟨_,?_,k+1,O,om,Y.pick [1,2,5],U.select [0] de⟩
  omega
 refine aP<|G4<|aa λ_ G10=>wla Y O λa Y=>G10 ?_
 replace Y:=Y.p1 4 O
 replace U:=U.k0 0 O
 refine aq<|am Y results42 (ae O ag) ?_
 exact⟨by rfl,U.ext⟩
theorem fW (n h:Int) (lv:Value) (R:List Rpw) (t s0 s1:Int) (w0:World) (hlv:RepAt w0 lv R) (hRp:∀r∈R,∀x∈r.L,x.m.pf.length≤1000) (hso:fk (keyG 3) 50 ⟨n,h,3,150,300⟩ R.length t=true) (hs:stateH sha keysH (keyG 3) 50 ⟨n,h,3,150,300⟩ (repsM R) t=(s0,s1)) (hk0:(blk 0 (kOf.map wv) 258).ok w0):
  Ret Tryz.prog 43 #[jv n,jv h,lv,jv t,jv s0,jv s1] w0 λv w=>v=.bool true∧Ext No w0 w:=by
 refine BK func43 O ntmps43 (lb O) λa Y U=>?_
 refine aa λ_ G1=>wla Y O λa Y=>G1<|aa λ_ G2=>?_
 refine bf Y U call18 O (iO _) λa w1 x2 hp Y U=>?_
 revert x2 hp Y U; rintro kv1 hp Y U
 clear hp
 replace U:=U.n1 O
 refine ax Y U call13 O (jd 3 _ om) λa w2 Y U=>nv Y<|zN O<|zN O<|zM (aV (v:=.agg #[jv n,jv h,jv 3,jv 150,jv 300]) O kr)<|zN O<|zN O<|λa Y=>ax Y U call17 O (eL (by rw[hs]) (fU kv1 lv keysH (keyG 3) 50 (⟨n,h,3,150,300⟩:Chg) R t _ (U.ow 0 O) (iQ U hlv) hRp hso (U.keepb hk0))) λa w3 Y U=>nv Y<|zN O<|zM (ak O O)<|zM (ak O O)<|zM (ak O O)<|zO O<|zO O<|zO O<|λa Y=>G2 ?_
 replace U:=U.k0 0 O
 refine aa λ_ G3=>nv (Y.p6 4 5 12 13 14 15 O)<|zN O<|zM ((v_eq O O).asb (b':=true) O)<|zN O<|zP (au O)<|zP (au O)<|zP ((v_eq O O).asb (b':=true) sm)<|zM (ay O O)<|zN O<|zP (au O)<|zP (au O)<|zP ((v_eq O O).asb (b':=true) sm)<|zM (ay O O)<|zO O<|λa Y=>G3 ?_
 replace Y:=Y.p1 12 O
 refine aq<|am Y results43 (ae O ag) ?_
 exact⟨by rfl,U.ext⟩
theorem lZ {key:By} {n h t:Int} {k:Nat} (hk:key.length=32) (hn:(0≤n∧n≤2000)∧0≤h∧h≤2) (hl:k≤1) (ht:300≤t∧t≤350):fk key 50 ⟨n,h,3,150,300⟩ k t=true:=by
 simp only[fk,Chg.ok,inB,zT,zZ]
 omega
theorem yA (w0:World) (hk0:(blk 0 (kOf.map wv) 258).ok w0):
  Ret Tryz.prog 11 #[] w0 λv w=>v=.bool true∧Ext No w0 w:=by
 obtain⟨kk,hkk⟩:∃k,keyG 3=k:=⟨_,rfl⟩
 have hk32:kk.length=32:=by rw[←hkk]; exact fJ _
 obtain⟨hd,hhd⟩:∃h,hdOf sha kk 3 (entC exC) exC.length=h:=⟨_,rfl⟩
 have hxl:=xG
 refine aC func11 O ntmps11 (lb O) λa Y=>?_
 replace Y:Fr 243 [] [] a:=Y
 replace U:St No w0 [] w0:=St.init w0
 refine aa λ_ G1=>wla Y O λa Y=>G1<|aa λ_ G2=>?_
 refine ax Y U call13 O (eL (by rw[hkk]) (jd 3 _ de)) λa w1 Y U=>wla Y O λa Y=>G2<|aa λ_ G3=>?_
 refine bf Y U call41 O (zq _ (U.keepb hk0)) λa w2 x2 hp Y U=>?_
 revert x2 hp Y U; rintro dv1 hp Y U
 clear hp
 replace U:=U.n1 O
 refine aE Y U (zeroValue32 _) [jv 0,.slice none 0 0] O λa w3 Y U=>bj (us:=[jv 3,dv1]) 0 Y U O O O (sizeOf32 _) CY (lb O) (ds:=[jv 3,dv1]) O O λa w4 Y U=>?_
 refine G3<|aa λ_ G4=>?_
 refine nv Y<|zN O<|zM (ap (U.g 0 O) O (isAgg32 _) (sizeOf32 _))<|λa Y=>bf Y U call22 O (fK kk hd 3 dv1 exC 1000 _ (U.ow 1 O) hk32 cy hhd om (U.keepb hk0)) λa w5 x4 hp Y U=>?_
 obtain⟨iv3,Liv3⟩:=x4
 have hLiv3:=hp
 try dsimp only at U
 replace U:=U.n3 O
 refine nv Y<|zN O<|zM (ak O O)<|zM (ak O O)<|λa Y=>aE Y U (zeroValue50 _) [jv 0,jv 0,.string (⟨#[]⟩),.string (⟨#[]⟩),.slice none 0 0] O λa w6 Y U=>bj (us:=[jv hd.c,jv hd.n,sv hd.root,sv hd.tag,iv3]) 0 Y U O O O (sizeOf50 _) B8 (lb O) (ds:=[jv hd.c,jv hd.n,sv hd.root,sv hd.tag,iv3]) O O λa w7 Y U=>?_
 refine wla Y O λa Y=>G4 ?_
 refine aa λ_ G5=>nv (Y.p5 0 1 2 3 4 O)<|zN O<|zM (ap (U.g 2 O) O (isAgg32 _) (sizeOf32 _))<|λa Y=>bf Y U call22 O (fK kk hd 3 dv1 exC 1500 _ (U.ow 3 O) hk32 cy hhd om (U.keepb hk0)) λa w8 x6 hp Y U=>?_
 obtain⟨iv5,Liv5⟩:=x6
 have hLiv5:=hp
 try dsimp only at U
 replace U:=U.n5 O
 refine nv Y<|zN O<|zM (ak O O)<|zM (ak O O)<|λa Y=>aE Y U (zeroValue50 _) [jv 0,jv 0,.string (⟨#[]⟩),.string (⟨#[]⟩),.slice none 0 0] O λa w9 Y U=>bj (us:=[jv hd.c,jv hd.n,sv hd.root,sv hd.tag,iv5]) 0 Y U O O O (sizeOf50 _) B8 (lb O) (ds:=[jv hd.c,jv hd.n,sv hd.root,sv hd.tag,iv5]) O O λa w10 Y U=>?_
 refine wla Y O λa Y=>G5 ?_
 refine aa λ_ G6=>nv (Y.p7 0 1 2 3 4 5 6 O)<|zN O<|zM (ap (U.g 4 O) O (isAgg32 _) (sizeOf32 _))<|λa Y=>bf Y U call22 O (fK kk hd 3 dv1 exC 1200 _ (U.ow 5 O) hk32 cy hhd om (U.keepb hk0)) λa w11 x8 hp Y U=>?_
 obtain⟨iv7,Liv7⟩:=x8
 have hLiv7:=hp
 try dsimp only at U
 replace U:=U.n7 O
 refine nv Y<|zN O<|zM (ak O O)<|zM (ak O O)<|λa Y=>aE Y U (zeroValue50 _) [jv 0,jv 0,.string (⟨#[]⟩),.string (⟨#[]⟩),.slice none 0 0] O λa w12 Y U=>bj (us:=[jv hd.c,jv hd.n,sv hd.root,sv hd.tag,iv7]) 0 Y U O O O (sizeOf50 _) B8 (lb O) (ds:=[jv hd.c,jv hd.n,sv hd.root,sv hd.tag,iv7]) O O λa w13 Y U=>?_
 refine wla Y O λa Y=>G6 ?_
 refine aa λ_ G7=>nv (Y.p9 0 1 2 3 4 5 6 7 8 O)<|zN O<|zM (ap (U.g 6 O) O (isAgg32 _) (sizeOf32 _))<|λa Y=>bf Y U call22 O (fK kk hd 3 dv1 exC 500 _ (U.ow 7 O) hk32 cy hhd om (U.keepb hk0)) λa w14 x10 hp Y U=>?_
 obtain⟨iv9,Liv9⟩:=x10
 have hLiv9:=hp
 try dsimp only at U
 replace U:=U.n9 O
 refine nv Y<|zN O<|zM (ak O O)<|zM (ak O O)<|λa Y=>aE Y U (zeroValue50 _) [jv 0,jv 0,.string (⟨#[]⟩),.string (⟨#[]⟩),.slice none 0 0] O λa w15 Y U=>bj (us:=[jv hd.c,jv hd.n,sv hd.root,sv hd.tag,iv9]) 0 Y U O O O (sizeOf50 _) B8 (lb O) (ds:=[jv hd.c,jv hd.n,sv hd.root,sv hd.tag,iv9]) O O λa w16 Y U=>?_
 refine wla Y O λa Y=>G7 ?_
 refine aa λ_ G8=>nv (Y.p11 0 1 2 3 4 5 6 7 8 9 10 O)<|zN O<|zM (ap (U.g 8 O) O (isAgg32 _) (sizeOf32 _))<|λa Y=>bf Y U call22 O (fK kk hd 3 dv1 exC 3000 _ (U.ow 9 O) hk32 cy hhd om (U.keepb hk0)) λa w17 x12 hp Y U=>?_
 obtain⟨iv11,Liv11⟩:=x12
 have hLiv11:=hp
 try dsimp only at U
 replace U:=U.n11 O
 refine nv Y<|zN O<|zM (ak O O)<|zM (ak O O)<|λa Y=>aE Y U (zeroValue50 _) [jv 0,jv 0,.string (⟨#[]⟩),.string (⟨#[]⟩),.slice none 0 0] O λa w18 Y U=>bj (us:=[jv hd.c,jv hd.n,sv hd.root,sv hd.tag,iv11]) 0 Y U O O O (sizeOf50 _) B8 (lb O) (ds:=[jv hd.c,jv hd.n,sv hd.root,sv hd.tag,iv11]) O O λa w19 Y U=>?_
 refine wla Y O λa Y=>G8 ?_
 refine aa λ_ G9=>nv (Y.p13 0 1 2 3 4 5 6 7 8 9 10 11 12 O)<|zN O<|zM (ap (U.g 10 O) O (isAgg32 _) (sizeOf32 _))<|λa Y=>ax Y U call23 O (uy kk hd 3 dv1 exC _ (U.ow 11 O) hk32 cy hhd (U.keepb hk0)) λa w20 Y U=>nv Y<|zN O<|zM (ak O O)<|zM (ak O O)<|λa Y=>aE Y U (zeroValue47 _) [jv 0,jv 0,.string (⟨#[]⟩),.string (⟨#[]⟩)] O λa w21 Y U=>aB 0 Y U [jv hd.c,jv hd.n,sv hd.root,sv hd.tag] O (sizeOf47 _) λa w22 Y U=>wla Y O λa Y=>G9 ?_
 refine ah λ_ G10=>aa λ_ G11=>nv (Y.p15 0 1 2 3 4 5 6 7 8 9 10 11 12 13 14 O)<|zN O<|zM ((v_ne O O).asb (b':=false) O)<|zN O<|zP (au O)<|zP ((v_ne O O).asb (b':=false) O)<|zM (al O O)<|zN O<|zP (au O)<|zP ((v_ne O O).asb (b':=false) O)<|zM (al O O)<|zN O<|zP (au O)<|zP ((v_ne O O).asb (b':=false) O)<|zM (al O O)<|zN O<|zP (au O)<|zP ((v_ne O O).asb (b':=false) O)<|zM (al O O)<|zN O<|zP (au O)<|zP ((v_ne O O).asb (b':=false) O)<|zM (al O O)<|zN O<|zP (ap (U.g 9 O) O (isAgg50 _) (sizeOf50 _))<|λa Y=>eH Y ?_
 refine aD (E:=3) (sz:=1) O [[jv 0]] kr sm O de de Y U λa w23 Y U=>aF Y U call42 O (gI hd iv3 Liv3 (.slice (some ⟨w22.hz,0,none⟩) 1 1) [0] _ (bG (k:=11) U O) (U.ow 0 O) (by rw[dY hLiv3,ix1000]<;>rfl) (λk hk=>by rw[eB hLiv3 (by rw[ix1000]; exact hk),ix1000]<;>rfl)) λa w24 Y U=>nv Y<|zP ((bB O).asb (b':=false) O)<|zM (al O O)<|zN O<|zP (ap (U.g 8 O) O (isAgg50 _) (sizeOf50 _))<|λa Y=>eH Y ?_
 refine aD (E:=3) (sz:=1) O [[jv 1]] kr sm O de de Y U λa w25 Y U=>aF Y U call42 O (gI hd iv5 Liv5 (.slice (some ⟨w24.hz,0,none⟩) 1 1) [1] _ (bG (k:=10) U O) (U.ow 0 O) (by rw[dY hLiv5,ix1500]<;>rfl) (λk hk=>by rw[eB hLiv5 (by rw[ix1500]; exact hk),ix1500]<;>rfl)) λa w26 Y U=>nv Y<|zP ((bB O).asb (b':=false) O)<|zM (al O O)<|zN O<|zP (ap (U.g 7 O) O (isAgg50 _) (sizeOf50 _))<|λa Y=>eH Y ?_
 refine aD (E:=3) (sz:=1) O [[jv 0],[jv 1]] kr sm O de de Y U λa w27 Y U=>aF Y U call42 O (gI hd iv7 Liv7 (.slice (some ⟨w26.hz,0,none⟩) 2 2) [0,1] _ (bG (k:=9) U O) (U.ow 0 O) (by rw[dY hLiv7,ix1200]<;>rfl) (λk hk=>by rw[eB hLiv7 (by rw[ix1200]; exact hk),ix1200]<;>rfl)) λa w28 Y U=>nv Y<|zP ((bB O).asb (b':=false) O)<|zM (al O O)<|zN O<|zP (ap (U.g 6 O) O (isAgg50 _) (sizeOf50 _))<|λa Y=>eH Y ?_
 refine aD (E:=3) (sz:=1) O [[jv 0]] kr sm O de de Y U λa w29 Y U=>aF Y U call42 O (gI hd iv9 Liv9 (.slice (some ⟨w28.hz,0,none⟩) 1 1) [0] _ (bG (k:=8) U O) (U.ow 0 O) (by rw[dY hLiv9,ix500]<;>rfl) (λk hk=>by rw[eB hLiv9 (by rw[ix500]; exact hk),ix500]<;>rfl)) λa w30 Y U=>nv Y<|zP ((bB O).asb (b':=false) O)<|zM (al O O)<|zN O<|zP (ap (U.g 5 O) O (isAgg50 _) (sizeOf50 _))<|λa Y=>eH Y ?_
 refine aD (E:=3) (sz:=1) O [[jv 2]] kr sm O de de Y U λa w31 Y U=>aF Y U call42 O (gI hd iv11 Liv11 (.slice (some ⟨w30.hz,0,none⟩) 1 1) [2] _ (bG (k:=7) U O) (U.ow 0 O) (by rw[dY hLiv11,ix3000]<;>rfl) (λk hk=>by rw[eB hLiv11 (by rw[ix3000]; exact hk),ix3000]<;>rfl)) λa w32 Y U=>nv Y<|zP ((bB O).asb (b':=false) O)<|zM (al O O)<|λa Y=>G11 ?_
 replace Y:=Y.p10 0 1 2 3 5 7 9 11 13 113 O
 replace U:=U.k13 262112 O
 refine aG Y O ?_
 refine ar<|G10<|aa λ_ G12=>nv Y<|zN O<|zM (ap (U.g 7 O) O (isAgg50 _) (sizeOf50 _))<|λa Y=>ax Y U call24 O (eL (by rw[ym hLiv5 cy xT]<;>rfl) (vX kk hd iv5 Liv5 1500 _ (bG (k:=8) U O) (dF om hLiv5) (dR cy hk32 hhd (du exC 1500) hLiv5) (U.keepb hk0))) λa w33 Y U=>nv Y<|zN O<|zM (ak O O)<|zM (ak O O)<|λa Y=>aE Y U (zeroValue55 _) [jv 0,jv 0,.string (⟨#[]⟩)] O λa w34 Y U=>aB 0 Y U [jv ((exC.getD 1 Cas.z).n),jv ((exC.getD 1 Cas.z).t),sv ((exC.getD 1 Cas.z).ev)] O (sizeOf55 _) λa w35 Y U=>wla Y O λa Y=>G12 ?_
 refine aa λ_ G13=>nv (Y.p11 0 1 2 3 5 7 9 11 13 15 16 O)<|zN O<|zM (ap (U.g 8 O) O (isAgg50 _) (sizeOf50 _))<|λa Y=>ax Y U call24 O (eL (by rw[tN hLiv5 cy (du exC 1500) kd]<;>rfl) (vX kk hd iv5 Liv5 1200 _ (bG (k:=9) U O) (dF om hLiv5) (dR cy hk32 hhd (du exC 1500) hLiv5) (U.keepb hk0))) λa w36 Y U=>nv Y<|zN O<|zM (ak O O)<|zM (ak O O)<|λa Y=>aE Y U (zeroValue55 _) [jv 0,jv 0,.string (⟨#[]⟩)] O λa w37 Y U=>aB 0 Y U [jv Cas.z.n,jv Cas.z.t,sv Cas.z.ev] O (sizeOf55 _) λa w38 Y U=>wla Y O λa Y=>G13 ?_
 replace Y:=Y.p12 0 1 2 3 5 7 9 11 13 15 16 18 O
 replace U:=U.k14 32766 O
 refine ah λ_ G14=>aH (aI λw39 hxz=>?_)
 replace U:=U.grow hxz
 refine aJ (k:=0) 2 [1] ?_
 refine nv Y<|zN O<|zN O<|λa Y=>ab<|aQ (k:=2) 7 [2,6] Y ?_
 refine bI 5 (Y.p14 0 1 2 3 5 7 9 11 13 15 16 18 126 127 O) U<|pl_w (λU=>ap (U.g 0 O) O (isAgg55 _) (sizeOf55 _))<|pl_v (ac (v:=po w2.hz 1) O kr)<|pl_w (λU=>ld U 12 O O (isAgg30 _) O)<|pl_w (λU=>(ai (i:=1) (sT:=30) (U.ow 13 O) O O (runUnderlying30 _) (sizeOf55 _) om Ci).as (v':=slAddr dv1 (1*3)) O)<|pl_w (λU=>(bN (U.ow 13 O) (i:=1) Ci O (isAgg55 _) (sizeOf55 _)).as (v':=.agg #[jv ((exC.getD 1 Cas.z).n),jv ((exC.getD 1 Cas.z).t),sv ((exC.getD 1 Cas.z).ev)]) Co) λa w40 Y U=>?_
 replace Y:=Y.p13 0 1 2 3 5 7 9 11 13 18 127 128 132 O
 refine ab<|aJ (k:=7) 14 [13] ?_
 refine nv Y<|zP ((pS O O kr (eqCas ((exC.getD 1 Cas.z).n) ((exC.getD 1 Cas.z).t) ((exC.getD 1 Cas.z).ev) ((exC.getD 1 Cas.z).n) ((exC.getD 1 Cas.z).t) ((exC.getD 1 Cas.z).ev) _)).asb (b':=true) sm)<|zM (ay O O)<|zN O<|zP (au O)<|zP ((bB O).asb (b':=true) O)<|zM (ay O O)<|zN O<|λa Y=>ab<|aQ (k:=14) 16 [14,15] Y ?_
 refine bI 2 (Y.p20 0 1 2 3 5 7 9 11 13 18 127 128 132 133 134 135 136 137 138 139 O) U<|pl_m O<|pl_w (λU=>ap (U.g 6 O) O (isAgg50 _) (sizeOf50 _)) λa w41 Y U=>?_
 replace Y:=Y.p12 0 1 2 3 5 7 9 11 13 139 140 141 O
 refine ab<|aJ (k:=16) 19 [18] ?_
 refine aF Y U call25 O (cC (iP hLiv7 hhd cy oG) (ji kk hd iv7 Liv7 1200 _ (bG (k:=7) U O) (dF om hLiv7) (dR cy hk32 hhd (du exC 1200) hLiv7) om (U.keepb hk0))) λa w42 Y U=>nv Y<|zM (ay O O)<|zN O<|λa Y=>ab<|aQ (k:=19) 21 [19,20] Y ?_
 refine bI 2 (Y.p15 0 1 2 3 5 7 9 11 13 139 140 141 142 143 144 O) U<|pl_m O<|pl_w (λU=>ap (U.g 6 O) O (isAgg50 _) (sizeOf50 _)) λa w43 Y U=>?_
 replace Y:=Y.p12 0 1 2 3 5 7 9 11 13 144 145 146 O
 refine ab<|aJ (k:=21) 25 [24] ?_
 refine aF Y U call25 O (cC (ng hLiv7 hhd cy (du exC 1200) mZ) (ji kk hd iv7 Liv7 1000 _ (bG (k:=7) U O) (dF om hLiv7) (dR cy hk32 hhd (du exC 1200) hLiv7) om (U.keepb hk0))) λa w44 Y U=>nv Y<|zP ((bB O).asb (b':=true) O)<|zM (ay O O)<|zN O<|λa Y=>ab<|aQ (k:=25) 27 [25,26] Y ?_
 refine bI 2 (Y.p16 0 1 2 3 5 7 9 11 13 144 145 146 147 148 149 150 O) U<|pl_m O<|pl_w (λU=>ap (U.g 4 O) O (isAgg50 _) (sizeOf50 _)) λa w45 Y U=>?_
 replace Y:=Y.p11 0 1 2 3 5 7 11 13 150 151 152 O
 refine ab<|aJ (k:=27) 30 [29] ?_
 refine aF Y U call25 O (cC (iP hLiv9 hhd cy hit500) (ji kk hd iv9 Liv9 500 _ (bG (k:=5) U O) (dF om hLiv9) (dR cy hk32 hhd (du exC 500) hLiv9) om (U.keepb hk0))) λa w46 Y U=>nv Y<|zM (ay O O)<|zN O<|λa Y=>ab<|aQ (k:=30) 32 [30,31] Y ?_
 refine bI 2 (Y.p14 0 1 2 3 5 7 11 13 150 151 152 153 154 155 O) U<|pl_m O<|pl_w (λU=>ap (U.g 2 O) O (isAgg50 _) (sizeOf50 _)) λa w47 Y U=>?_
 replace Y:=Y.p10 0 1 2 3 5 7 13 155 156 157 O
 refine ab<|aJ (k:=32) 35 [34] ?_
 refine aF Y U call25 O (cC (iP hLiv11 hhd cy yG) (ji kk hd iv11 Liv11 3000 _ (bG (k:=3) U O) (dF om hLiv11) (dR cy hk32 hhd (du exC 3000) hLiv11) om (U.keepb hk0))) λa w48 Y U=>nv Y<|zM (ay O O)<|zN O<|λa Y=>ab<|aQ (k:=35) 38 [35,36,37] Y ?_
 refine bI 3 (Y.p13 0 1 2 3 5 7 13 155 156 157 158 159 160 O) U<|pl_m O<|pl_w (λU=>ap (U.g 8 O) O (isAgg50 _) (sizeOf50 _))<|pl_w (λU=>ap (U.g 6 O) O (isAgg50 _) (sizeOf50 _)) λa w49 Y U=>?_
 replace Y:=Y.p11 0 1 2 3 5 7 13 160 161 162 163 O
 refine ab<|aJ (k:=38) 42 [41] ?_
 refine aF Y U call30 O (cC (kH cy (du exC 1500) (du exC 1200) hLiv5 hLiv7) (lE kk hd iv5 iv7 Liv5 Liv7 _ (bG (k:=9) U O) (bG (k:=7) U O) (dF om hLiv5) (dF om hLiv7) (dR cy hk32 hhd (du exC 1500) hLiv5) (dR cy hk32 hhd (du exC 1200) hLiv7) (U.keepb hk0))) λa w50 Y U=>nv Y<|zP ((bB O).asb (b':=true) O)<|zM (ay O O)<|zN O<|λa Y=>ab<|aQ (k:=42) 45 [43,44] Y ?_
 refine bI 3 (Y.p15 0 1 2 3 5 7 13 160 161 162 163 164 165 166 167 O) U<|pl_v (ac (v:=pq w8.hz) O kr)<|pl_w (λU=>bW (ds:=[jv hd.c,jv hd.n,sv hd.root,sv hd.tag]) (U.g 8 O) O (isAgg47 _) (sizeOf47 _) O)<|pl_w (λU=>ap (U.g 1 O) O (isAgg47 _) (sizeOf47 _)) λa w51 Y U=>?_
 replace Y:=Y.p9 0 1 2 3 5 7 167 169 170 O
 refine ab<|aJ (k:=45) 48 [47] ?_
 refine nv Y<|zP ((pS O O kr (eqHd hd.c hd.n hd.root hd.tag hd.c hd.n hd.root hd.tag _)).asb (b':=true) sm)<|zM (ay O O)<|zO O<|λa Y=>ab<|aR<|G14<|aa λ_ G15=>nv Y<|zM (ap (U.g 10 O) O (isAgg50 _) (sizeOf50 _))<|zM (aV (v:=.agg #[jv 320,jv hd.c,jv hd.n,sv hd.root,sv hd.tag,iv3]) O (by obtain⟨_,_,_,eb0_⟩:=cT (bG (k:=11) U O).1; rw[eb0_]; kernel_rfl))<|λa Y=>aD (E:=52) (sz:=6) O [[jv 320,jv hd.c,jv hd.n,sv hd.root,sv hd.tag,iv3]] kr sm O de de Y U λa w52 Y U=>wla Y O λa Y=>G15 ?_
 replace U:=U.k11 32721 O
 refine aa λ_ G16=>ax (Y.p8 0 1 2 3 5 7 19 20 O) U call43 O (fW 1000 1 (.slice none 0 0) [] 349 1 300 _ ⟨fL _ _,λr h=>by cases h⟩ (λr h=>by cases h) (by rw[hkk]; exact lZ hk32 de (Ah 1) de) (by rw[hkk]; exact nb.1) (U.keepb hk0)) λa w53 Y U=>wlm Y O λa Y=>aF Y U call43 O (fW 1000 1 (.slice none 0 0) [] 350 3 350 _ ⟨fL _ _,λr h=>by cases h⟩ (λr h=>by cases h) (by rw[hkk]; exact lZ hk32 de (Ah 1) de) (by rw[hkk]; exact nb.2) (U.keepb hk0)) λa w54 Y U=>?_
 refine nv Y<|zM (ay O O)<|zN O<|zP (au O)<|λa Y=>aF Y U call43 O (fW 1000 1 (.slice (some ⟨w51.hz,0,none⟩) 1 1) [⟨320,hd,iv3,Liv3⟩] 320 2 320 _ ⟨(U.ow 0 O),λr h=>by rw[Aq.1 h]; exact (bG (k:=8) U O)⟩ (λr h=>by rw[Aq.1 h]; exact (dF om hLiv3)) CM (by rw[hkk]; exact (g6 hk32 hhd hLiv3 iv3).1) (U.keepb hk0)) λa w55 Y U=>?_
 refine nv Y<|zM (ay O O)<|zN O<|zP (au O)<|λa Y=>aF Y U call43 O (fW 1000 1 (.slice (some ⟨w51.hz,0,none⟩) 1 1) [⟨320,hd,iv3,Liv3⟩] 319 1 300 _ ⟨(U.ow 0 O),λr h=>by rw[Aq.1 h]; exact (bG (k:=8) U O)⟩ (λr h=>by rw[Aq.1 h]; exact (dF om hLiv3)) CM (by rw[hkk]; exact (g6 hk32 hhd hLiv3 iv3).2.1) (U.keepb hk0)) λa w56 Y U=>?_
 refine nv Y<|zM (ay O O)<|zN O<|zP (au O)<|λa Y=>aF Y U call43 O (fW 1000 2 (.slice (some ⟨w51.hz,0,none⟩) 1 1) [⟨320,hd,iv3,Liv3⟩] 349 1 300 _ ⟨(U.ow 0 O),λr h=>by rw[Aq.1 h]; exact (bG (k:=8) U O)⟩ (λr h=>by rw[Aq.1 h]; exact (dF om hLiv3)) CM (by rw[hkk]; exact (g6 hk32 hhd hLiv3 iv3).2.2.1) (U.keepb hk0)) λa w57 Y U=>?_
 refine nv Y<|zM (ay O O)<|zN O<|zP (au O)<|λa Y=>aF Y U call43 O (fW 1000 2 (.slice (some ⟨w51.hz,0,none⟩) 1 1) [⟨320,hd,iv3,Liv3⟩] 350 3 350 _ ⟨(U.ow 0 O),λr h=>by rw[Aq.1 h]; exact (bG (k:=8) U O)⟩ (λr h=>by rw[Aq.1 h]; exact (dF om hLiv3)) CM (by rw[hkk]; exact (g6 hk32 hhd hLiv3 iv3).2.2.2) (U.keepb hk0)) λa w58 Y U=>nv Y<|zM (ay O O)<|zN O<|zP (ap (U.g 3 O) O (isAgg50 _) (sizeOf50 _))<|zP (aV (v:=.agg #[jv 310,jv hd.c,jv hd.n,sv hd.root,sv hd.tag,iv7]) O (by obtain⟨_,_,_,eb0_⟩:=cT (bG (k:=4) U O).1; rw[eb0_]; kernel_rfl))<|λa Y=>eH Y ?_
 refine aD (E:=52) (sz:=6) O [[jv 310,jv hd.c,jv hd.n,sv hd.root,sv hd.tag,iv7]] kr sm O de de Y U λa w59 Y U=>aF Y U call43 O (fW 1200 1 (.slice (some ⟨w58.hz,0,none⟩) 1 1) [⟨310,hd,iv7,Liv7⟩] 310 3 310 _ ⟨(U.ow 0 O),λr h=>by rw[Aq.1 h]; exact (bG (k:=5) U O)⟩ (λr h=>by rw[Aq.1 h]; exact (dF om hLiv7)) CM (by rw[hkk]; exact (tm hk32 hhd hLiv7 iv7)) (U.keepb hk0)) λa w60 Y U=>nv Y<|zM (ay O O)<|zO O<|λa Y=>G16 ?_
 replace Y:=Y.p7 0 1 2 3 5 19 21 O
 replace U:=U.k9 4076 O
 refine ah λ_ G17=>?_
 have hla:=dY hLiv5
 have hlo:=dY hLiv3
 rw[ix1500] at hla
 rw[ix1000] at hlo
 simp only[z7,Aa] at hla hlo
 obtain⟨hdt,hhdt⟩:∃h,hdOf sha kk 3 [(Liv5.getD 0 Itw.z).m.e,(Liv3.getD 0 Itw.z).m.e] 2=h:=⟨_,rfl⟩
 refine aH (aI λw61 hxz=>?_)
 replace U:=U.grow hxz
 refine aQ (k:=0) 20 [17,19] Y ?_
 replace Y:=Y.p7 0 1 2 3 5 19 21 O
 refine fc 18 19 16 [(12,11,λu=>Value.agg #[jv 3,u]),(15,14,λu=>u),(16,15,λu=>tupAt u 0)] 50 [jv 0,jv 0,.string (⟨#[]⟩),.string (⟨#[]⟩),.slice none 0 0] (λu=>u.cells.toList) 20 [[],[],[1],[2],[3],[4],[],[6],[7],[8],[9],[5,10],[11],[],[0,12,13,11],[14],[15],[15],[],[16,18]] (λi=>match i with|0=>pv (sv kk)|1=>pv (po w8.hz 4)|2=>pv (iv5)|3=>pv (slAddr iv5 (0*3))|4=>pv (slAddr iv5 (0*3+1))|5=>pv (sv ((Liv5.getD 0 Itw.z).m.e))|6=>pv (po w5.hz 4)|7=>pv (iv3)|8=>pv (slAddr iv3 (0*3))|9=>pv (slAddr iv3 (0*3+1))|10=>pv (sv ((Liv3.getD 0 Itw.z).m.e))|11=>pm (λb:Nat=>.slice (some ⟨b,0,none⟩) 2 2) (λb=>[own (.slice (some ⟨b,0,none⟩) 2 2) 9 1 [[sv ((Liv5.getD 0 Itw.z).m.e)],[sv ((Liv3.getD 0 Itw.z).m.e)]]]) (λ_=>True)|12=>λv E=>(∃sx12_ sy12_ sz12_,v=.agg #[jv 3,(.slice sx12_ sy12_ sz12_)])∧E=[]|13=>pm (λb:Nat=>.slice (some ⟨b,0,none⟩) 2 2) (λb=>[own (.slice (some ⟨b,0,none⟩) 2 2) 3 1 [[jv 0],[jv 1]]]) (λ_=>True)|14=>pm (λx:Value × List Itw=>.tuple #[.agg #[jv hdt.c,jv hdt.n,sv hdt.root,sv hdt.tag,x.1],jv 0]) (λx=>[itsE x.1 x.2]) (λx=>itsM x.2=showIs sha ([(Liv5.getD 0 Itw.z).m.e,(Liv3.getD 0 Itw.z).m.e]) 2 ([0,1]))|15=>λv E=>(∃sa0 sn0 sc0,v=.tuple #[.agg #[jv hdt.c,jv hdt.n,sv hdt.root,sv hdt.tag,(.slice sa0 sn0 sc0)],jv 0])∧E=[]|16=>λv E=>(∃sa0 sn0 sc0,v=.agg #[jv hdt.c,jv hdt.n,sv hdt.root,sv hdt.tag,(.slice sa0 sn0 sc0)])∧E=[]|17=>pv (jv 0)|18=>λv E=>∃b,v=ptr b∧E=[]|19=>λv E=>v=undef∧E=[]|_=>λ_ _=>False) Y (H:=[itsE iv11 Liv11,itsE iv9 Liv9,itsE iv7 Liv7,blk w8.hz [jv hd.c,jv hd.n,sv hd.root,sv hd.tag,iv5] 50,itsE iv5 Liv5,blk w5.hz [jv hd.c,jv hd.n,sv hd.root,sv hd.tag,iv3] 50,itsE iv3 Liv3,blk w2.hz [jv 3,dv1] 32,own dv1 55 3 ((exC).map Cas.cells)]) U kr kr kr kr de de de de de de de kr (by intro x hx y hy h; simp only[zY,Ab,As] at hx hy; rcases hx with rfl|rfl|rfl<;>rcases hy with rfl|rfl|rfl<;>first|rfl|exact absurd h de) ?_ (λ_ _ h=>h) ⟨O,O⟩ (λ_ _=>Iff.rfl) ?_ ?_ ?_ ?_ ?_
 ·intro i v E h
  match i,h with
  | 0,_=>exact by decide
  | 1,_=>exact by decide
  | 2,_=>exact by decide
  | 3,_=>exact by decide
  | 4,_=>exact by decide
  | 5,_=>exact by decide
  | 6,_=>exact by decide
  | 7,_=>exact by decide
  | 8,_=>exact by decide
  | 9,_=>exact by decide
  | 10,_=>exact by decide
  | 11,_=>exact by decide
  | 12,_=>exact by decide
  | 13,_=>exact by decide
  | 14,_=>exact by decide
  | 15,_=>exact by decide
  | 16,_=>exact by decide
  | 17,_=>exact by decide
  | 18,_=>exact by decide
  | 19,_=>exact by decide
  | i+20,h=>exact h.elim
 ·intro i hi hia hij hil e
  match i,hi,hia,hij,hil with
  | 0,_,_,_,_=>
   intro hl9 w U
   exact OpV.g (au O)
  | 1,_,_,_,_=>
   intro hl9 w U
   exact OpV.g (ac (v:=po w8.hz 4) O kr)
  | 2,_,_,_,_=>
   rintro _ _ ⟨rfl,rfl⟩
   intro hl9 w U
   exact OpV.g (ld U 4 O O (isAgg48 _) O)
  | 3,_,_,_,_=>
   rintro _ _ ⟨rfl,rfl⟩
   intro hl9 w U
   exact OpV.g ((ai (i:=0) (sT:=48) (bG (k:=5) U O).1 O O (runUnderlying48 _) (sizeOf110 _) om Ci).as (v':=slAddr iv5 (0*3)) O)
  | 4,_,_,_,_=>
   rintro _ _ ⟨rfl,rfl⟩
   intro hl9 w U
   exact OpV.g (bA (k:=0*3) (j:=1) (bG (k:=5) U O).1 (i:=0) Ci O (λ_ _=>by kernel_rfl))
  | 5,_,_,_,_=>
   rintro _ _ ⟨rfl,rfl⟩
   intro hl9 w U
   exact OpV.g (aA (u:=sv ((Liv5.getD 0 Itw.z).m.e)) (i:=0) (j:=1) (bG (k:=5) U O).1 Ci O (isAgg9 _) (by rw[aX Itw.z]; rfl))
  | 6,_,_,_,_=>
   intro hl9 w U
   exact OpV.g (ac (v:=po w5.hz 4) O kr)
  | 7,_,_,_,_=>
   rintro _ _ ⟨rfl,rfl⟩
   intro hl9 w U
   exact OpV.g (ld U 6 O O (isAgg48 _) O)
  | 8,_,_,_,_=>
   rintro _ _ ⟨rfl,rfl⟩
   intro hl9 w U
   exact OpV.g ((ai (i:=0) (sT:=48) (bG (k:=7) U O).1 O O (runUnderlying48 _) (sizeOf110 _) om Ci).as (v':=slAddr iv3 (0*3)) O)
  | 9,_,_,_,_=>
   rintro _ _ ⟨rfl,rfl⟩
   intro hl9 w U
   exact OpV.g (bA (k:=0*3) (j:=1) (bG (k:=7) U O).1 (i:=0) Ci O (λ_ _=>by kernel_rfl))
  | 10,_,_,_,_=>
   rintro _ _ ⟨rfl,rfl⟩
   intro hl9 w U
   exact OpV.g (aA (u:=sv ((Liv3.getD 0 Itw.z).m.e)) (i:=0) (j:=1) (bG (k:=7) U O).1 Ci O (isAgg9 _) (by rw[aX Itw.z]; rfl))
  | 11,_,_,_,_=>
   rintro _ _ ⟨rfl,rfl⟩ _ _ ⟨rfl,rfl⟩
   intro hl9 w U
   exact bP (E:=9) (sz:=1) O [[sv ((Liv5.getD 0 Itw.z).m.e)],[sv ((Liv3.getD 0 Itw.z).m.e)]] (λ_=>by kernel_rfl) sm O de
  | 12,_,_,_,h=>exact absurd de h
  | 13,_,_,_,_=>
   intro hl9 w U
   exact bP (E:=3) (sz:=1) O [[jv 0],[jv 1]] (λ_=>by kernel_rfl) sm O de
  | 14,_,_,_,_=>
   rintro _ _ ⟨rfl,rfl⟩ _ _ ⟨⟨sx12_,sy12_,sz12_,rfl⟩,rfl⟩ _ _ ⟨b15,rfl, -,rfl⟩ _ _ ⟨b14,rfl, -,rfl⟩
   intro hl9 w U
   have hz9:sx12_=some ⟨b14,0,none⟩∧sy12_=2∧sz12_=2:=by simpa using hl9 (12,11,λu=>Value.agg #[jv 3,u]) sm _ _ rfl rfl
   obtain⟨rfl,rfl,rfl⟩:=hz9
   exact dt call26 O (nM kk 2 hdt (.slice (some ⟨b15,0,none⟩) 2 2) ([0,1]) 3 (.slice (some ⟨b14,0,none⟩) 2 2) ([(Liv5.getD 0 Itw.z).m.e,(Liv3.getD 0 Itw.z).m.e]) _ (U.ow 1 O) (U.ow 0 O) hk32 (ik hLiv5 hLiv3) (Ay 2) de de hhdt (U.keepb hk0))
  | 15,_,_,_,h=>exact absurd de h
  | 16,_,_,_,h=>exact absurd de h
  | 17,_,_,_,_=>
   rintro _ _ ⟨⟨sa0,sn0,sc0,rfl⟩,rfl⟩
   intro hl9 w U
   exact OpV.g (ak O O)
  | 18,_,h,_,_=>exact absurd O h
  | 19,_,_,h,_=>exact absurd O h
  | i+20,h,_,_,_=>exact absurd h om
 ·intro x hx e
  simp only[zY,Ab,As] at hx
  rcases hx with rfl|rfl|rfl
  ·rintro _ _ ⟨b14,rfl, -,rfl⟩
   intro w U
   exact OpV.hopv (OpV.g (aV (v:=.agg #[jv 3,(.slice (some ⟨b14,0,none⟩) 2 2)]) O kr)) ⟨⟨_,_,_,O⟩,O⟩
  ·rintro _ _ ⟨⟨iv16,Liv16⟩,rfl,hLiv16,rfl⟩
   intro w U
   obtain⟨sa0,sn0,sc0,rfl⟩:=cT (bG (k:=0) U rfl).1
   exact OpV.hopv (OpV.g (au O)) ⟨⟨_,_,_,O⟩,O⟩
  ·rintro _ _ ⟨⟨sa0,sn0,sc0,rfl⟩,rfl⟩
   intro w U
   exact OpV.hopv (OpV.g (ak O O)) ⟨⟨_,_,_,O⟩,O⟩
 ·exact λLv w=>eJ (zeroValue50 _)
 ·rintro _ _ ⟨⟨sa0,sn0,sc0,rfl⟩,rfl⟩ _ _ ⟨b13,rfl,rfl⟩
  intro b hb u hu w h
  have hb:some (ptr b13)=some (ptr b):=hb
  cases hb
  have hu:some (.agg #[jv hdt.c,jv hdt.n,sv hdt.root,sv hdt.tag,(.slice sa0 sn0 sc0)])=some u:=hu
  cases hu
  exact dH O O h (sizeOf50 _) O (lb O) O
 clear Y U
 rintro V bq hva hlk _ _ ⟨⟨rfl,rfl⟩, -⟩ _ _ ⟨⟨rfl,rfl⟩, -⟩ _ _ ⟨⟨rfl,rfl⟩, -⟩ _ _ ⟨⟨rfl,rfl⟩, -⟩ _ _ ⟨⟨rfl,rfl⟩, -⟩ _ _ ⟨⟨rfl,rfl⟩, -⟩ _ _ ⟨⟨rfl,rfl⟩, -⟩ _ _ ⟨⟨rfl,rfl⟩, -⟩ _ _ ⟨⟨rfl,rfl⟩, -⟩ _ _ ⟨⟨rfl,rfl⟩, -⟩ _ _ ⟨⟨rfl,rfl⟩, -⟩ _ _ ⟨⟨b14,rfl, -,rfl⟩,hv11_⟩ v12_ _ ⟨⟨-,rfl⟩,hv12_⟩ _ _ ⟨⟨b15,rfl, -,rfl⟩, -⟩ _ _ ⟨⟨⟨iv16,Liv16⟩,rfl,hLiv16,rfl⟩,hv14_⟩ v15_ _ ⟨⟨-,rfl⟩,hv15_⟩ v16_ _ ⟨⟨-,rfl⟩,hv16_⟩ _ _ ⟨⟨rfl,rfl⟩, -⟩ _ _ ⟨⟨b13,rfl,rfl⟩,hva9⟩ a w62 Y U
 obtain rfl:b13=bq:=fV (hva9.trans hva)
 obtain rfl:v12_=.agg #[jv 3,(.slice (some ⟨b14,0,none⟩) 2 2)]:=hv12_.trans ((hlk 0 _ rfl).trans (Ap (λu=>Value.agg #[jv 3,u]) hv11_.symm))
 obtain rfl:v15_=.tuple #[.agg #[jv hdt.c,jv hdt.n,sv hdt.root,sv hdt.tag,iv16],jv 0]:=hv15_.trans ((hlk 1 _ rfl).trans (Ap (λu=>u) hv14_.symm))
 obtain rfl:v16_=.agg #[jv hdt.c,jv hdt.n,sv hdt.root,sv hdt.tag,iv16]:=hv16_.trans ((hlk 2 _ rfl).trans (Ap (λu=>tupAt u 0) hv15_.symm))
 rw[←hv16_] at U
 replace Y:Fr 243 [(203,_),(204,_),(205,_),(206,_),(207,_),(208,_),(209,_),(210,_),(211,_),(212,_),(213,_),(214,_),(215,_),(216,_),(217,_),(202,_),(218,_),(219,_),(22,_),(0,_),(1,_),(2,_),(3,_),(5,_),(19,_),(21,_)] [] a:=Y
 try dsimp only at U
 replace U:=U.n13 O
 clear hva9 hva hlk hv16_ hv15_ hv12_ hv11_ hv14_
 refine ab<|aJ (k:=20) 21 [20] ?_
 refine wla Y O λa Y=>ab<|aR<|G17 ?_
 replace U:=U.k9 7548 O
 refine aa λ_ G18=>nv (Y.p7 0 1 2 19 21 22 23 O)<|zN O<|zN O<|zP (au O)<|zM (ay O O)<|zN O<|zP (au O)<|zP ((v_eq O O).asb (b':=true) O)<|zM (ay O O)<|zN O<|zP (au O)<|zP (ap (U.g 1 O) O (isAgg50 _) (sizeOf50 _))<|zP (ap (U.g 1 O) O (isAgg50 _) (sizeOf50 _))<|λa Y=>aF Y U call30 O (cC (tX hLiv5 hLiv3 hLiv16) (lE kk hdt iv16 iv16 Liv16 Liv16 _ (bG (k:=0) U O) (bG (k:=0) U O) (dF de hLiv16) (dF de hLiv16) (nr (ik hLiv5 hLiv3) (Ay 2) hk32 hhdt de hLiv16) (nr (ik hLiv5 hLiv3) (Ay 2) hk32 hhdt de hLiv16) (U.keepb hk0))) λa w63 Y U=>?_
 refine nv Y<|zM (ay O O)<|zN O<|zP (ap (U.g 7 O) O (isAgg32 _) (sizeOf32 _))<|λa Y=>aF Y U call31 O (cC cy (kw 3 dv1 exC _ (U.ow 8 O))) λa w64 Y U=>nv Y<|zM (ay O O)<|zN O<|zP (aV (v:=.agg #[jv 8,.slice none 0 0]) O kr)<|λa Y=>aF Y U call31 O (cC (show docOk 8 []=false from O) (kw 8 (.slice none 0 0) [] _ (fL _ _))) λa w65 Y U=>nv Y<|zP ((bB O).asb (b':=true) O)<|zM (ay O O)<|zO O<|λa Y=>G18 ?_
 replace Y:=Y.p1 0 O
 replace U:=U.k7 381 O
 refine aq<|am Y results11 (ae O ag) ?_
 exact⟨by rfl,U.ext⟩
end Go.Proofs.YtliklcmddmpdfaaGreatDoor
namespace Go.PW
open Go.RowKit Go.ChangeShapes Go.WideShapes Go.ChangeAt
section
variable {H:Type} {enc:TypeId × Value→H} {P:Program} {w:World} {base:Nat} {spare:Nat→Bool} {held:Bool} {fuel:Nat} {t e:TypeId} {cs:List Value} {x:DataW H × List MemPlace} {α:Type}
theorem vT {v:Value} (sz:Nat) (ht:P.underlying t=some (.slice e)) (hc:P.cellsOf e=sz) (hs:0<sz) (hby:0<P.bytesOf e) (hw:Wt P t x.1) (h:DataW.trod enc P w base spare held fuel t [v]=some x):
  ∃els:List (List Value),SlE w v sz els∧els.length*P.bytesOf e≤140737488355328∧(∀d∈els,d.length=sz)∧∀i (hi:i<els.length),∃n y,DataW.trod enc P w base spare held n e els[i]=some y∧Wt P e y.1:=by
 rcases DataW.trod_slice ht h with⟨h0,_⟩|⟨a,len,cap,elems,rest,n,_,hv,hx,hb,hl,hm,hlen,hel,_,_⟩
 ·cases h0
  exact⟨[],.inl (fL _ _),by simp,by simp,λi hi=>absurd hi sm⟩
 ·cases hv
  have hwl:elems.length*P.bytesOf e≤140737488355328:=by
   have h1:=hw ((elems.length+rest.length)*P.bytesOf e) (by rw[hx]; simp[DataW.weights,ht])
   have h2:=reachBytes_lt
   have h3:elems.length*P.bytesOf e≤(elems.length+rest.length)*P.bytesOf e:=Nat.mul_le_mul om (Ay _)
   omega
  by_cases h0:len=0
  ·subst h0
   exact⟨[],.inr ⟨O,a,cap,O⟩,by simp,by simp,λi hi=>absurd hi sm⟩
  obtain⟨b,off,spot⟩:=a
  have hfirst:w.cell? ⟨b,off,spot⟩≠none:=by
   have h1:=hel 0 om
   rw[z8 om] at h1
   cases hcs:w.cells? base ((⟨b,off,spot⟩:Addr).add (0*P.cellsOf e)) (P.cellsOf e) with
   | none=>rw[hcs] at h1; simp at h1
   | some ds=>
    obtain⟨_,hl1,hc1⟩:=World.cells?_some hcs
    have h2:=hc1 0 om
    rw[Nat.zero_mul,show ((⟨b,off,spot⟩:Addr).add 0).add 0=⟨b,off,spot⟩ from rfl,z8 om] at h2
    rw[h2]; simp
  have hsp:spot=none∧b<w.heap.size:=by
   unfold World.cell? at hfirst
   cases hh:w.heap[b]? with
   | none=>rw[hh] at hfirst; exact absurd rfl hfirst
   | some o=>
    refine⟨?_,(Ad.1 hh).1⟩
    rw[hh] at hfirst
    cases spot with
    | none=>rfl
    | some s=>cases o<;>exact absurd rfl hfirst
  obtain⟨rfl,hlt⟩:=hsp
  have hwe:∀y∈elems,Wt P e y.1:=by
   intro y hy n hn
   refine hw n ?_
   rw[hx]
   simp only[DataW.weights,ht,zY,AJ]
   exact .inr (.inl (vl (AB.2 ⟨y,hy,O⟩) n hn))
  have each:∀i,i<len→∃ds:List Value,(ds.length=sz∧∀j v,ds[j]?=some v→w.cell? ⟨b,off+i*sz+j,none⟩=some v)∧∃n y,DataW.trod enc P w base spare held n e ds=some y∧Wt P e y.1:=by
   intro i hi
   have h1:=hel i hi
   rw[z8 om,hc,cW] at h1
   cases hcs:w.cells? base ⟨b,off+i*sz,none⟩ sz with
   | none=>rw[hcs] at h1; simp at h1
   | some ds=>
    rw[hcs] at h1
    simp only[Bv] at h1
    exact⟨ds,j7 hcs,n,_,h1,hwe _ (AM _)⟩
  obtain⟨els,hel2,hp⟩:=gV len each
  have h1:∀d∈els,d.length=sz:=by
   intro d hd
   obtain⟨i,hi,rfl⟩:=AR hd
   exact (hp i hi).1.1
  have hbg:elems.length≤big:=by
   have h3:elems.length*1≤elems.length*P.bytesOf e:=Nat.mul_le_mul (Ay _) hby
   unfold big; omega
  refine⟨els,.inl ⟨h1,by omega,.inr ⟨b,off,cap,by rw[hel2],by omega,hlt,?_⟩⟩,by rw[hel2,←hlen]; exact hwl,h1,λi hi=>(hp i hi).2⟩
  intro j v hj
  have hjl:=(Au.1 hj).1
  rw[ez h1] at hjl
  have hi:j / sz<els.length:=Nat.div_lt_of_lt_mul (by rw[Nat.mul_comm]; exact hjl)
  have:=(hp (j / sz) hi).1.2 (j%sz) v (by
   rw[←lO h1 hi,AW,Am (Nat.mod_lt _ hs),A7,Nat.div_add_mod' j sz]
   exact hj)
  rw[Nat.add_assoc,Nat.div_add_mod' j sz] at this
  exact this
theorem y6 {els:List (List Value)} {f:α→List Value} {q:α→Prop} (hp:∀i (hi:i<els.length),∃a,els[i]=f a∧q a):∃xs:List α,els=xs.map f∧∀a∈xs,q a:=by
 obtain⟨xs,hl,hx⟩:=gV (p:=λi a=>els[i]?=some (f a)∧q a) els.length λi hi=>by
  obtain⟨a,h1,h2⟩:=hp i hi
  exact⟨a,by rw[z8 hi,h1],h2⟩
 refine⟨xs,?_,λa ha=>?_⟩
 ·refine Bu (by simp[hl]) λi h1 h2=>?_
  have:=(hx i om).1
  rw[z8 h1] at this
  simpa using this
 ·obtain⟨i,hi,rfl⟩:=AR ha
  exact (hx i hi).2
end
end Go.PW
namespace Go.PW
open Go.RowKit Go.ChangeShapes Go.WideShapes Go.ChangeAt
section
variable {H:Type} {enc:TypeId × Value→H}
theorem o9 {a:Assume} {C:Checked} {os:Os} {f:FuncId} {fn:Func} {s:ChangeSpec} {conds:List PathCond} {apart fresh handsOn again:Bool} {X:World→Array Value→Prop}
  (hX:∀(w w':World) (args:Array Value),w.heap=w'.heap→X w args→X w' args)
  (own:ownKnob C.prog.godebug=none) (started:os.Started) (noInit:C.prog.inits.idxOf? f=none) (hfn:C.prog.funcs[f]?=some fn)
  (witness:∃(w:World) (tape:Tape) (i:Input),w.os=os∧(w.forCall tape i).Shaped C.prog∧i.vars=[]∧Input.okWide C.prog (w.forCall tape i) .any w.heap.size f i∧
   ((s.pre enc C.prog fn conds apart (w.forCall tape i).memory i.args∧X (w.forCall tape i).memory i.args)∧sizedMet enc C.prog fn (OpenSpec.ofChange s) apart (w.forCall tape i).memory i.args)∧a.holds C.prog (lone (Frame.enter C.prog f i.args .normal) [] (w.forCall tape i)))
  (contract:∀(W:World) (base:Nat) (args:Array Value) (ds gs:List (DataW H)) (before:List MemPlace),
   (∀(j:Nat) t v,fn.params[j]?=some t→args[j]?=some v→Value.okWide C.prog W .any base t v)→
   DataW.Whole enc C.prog fn.params.toList s.vars apart W args.toList ds gs before→
   conds.all (PathCond.test C.prog ⟨fn.params.toList,ds,s.plain.varTypes C.prog,gs⟩)=true→
   (DataW.weightsEach C.prog (fn.params.toList++s.plain.varTypes C.prog) (ds++gs)).all (·≤reachBytes)=true→X W args→W.ShapedOpen C.prog→
   Calls C.prog f args W λe W'=>∃v,e=.returned v∧s.post enc C.prog fn apart fresh handsOn again W args v W'):
  ReturnsInHanded a C os f .any (λw args=>(s.pre enc C.prog fn conds apart w args∧X w args)∧sizedMet enc C.prog fn (OpenSpec.ofChange s) apart w args) (s.post enc C.prog fn apart fresh handsOn again):=by
 refine returnsInHanded_of_calls own started noInit witness ?_
 intro w tape i _ hsh _ hok hpre _
 obtain⟨_,_,_,fn',hfn',_,_,_,_,hval⟩:=hok
 have e:fn'=fn:=A4 (hfn'.symm.trans hfn)
 subst e
 obtain⟨⟨⟨ds,gs,before,hw,hc⟩,hx⟩,hz⟩:=hpre
 have hw':=DataW.Whole.of_heap (w':=w.forCall tape i) rfx hw
 refine (contract (w.forCall tape i) w.heap.size i.args ds gs before hval hw' hc (hz.weights hw) (hX _ _ _ rfx hx) hsh).mono λe W' ⟨v,he,hp⟩=>?_
 subst he
 exact ChangeSpec.post_blind hp
end
section
variable {H:Type} {enc:TypeId × Value→H} {P:Program} {w:World} {base:Nat} {spare:Nat→Bool} {held:Bool} {fuel:Nat} {t e:TypeId} {cs:List Value} {x:DataW H × List MemPlace}
theorem rD {n:Nat} {ks:List Int} (ht:P.underlying t=some (.array n e)) (he:P.underlying e=some (.int .u32)) (hc:P.cellsOf e=1) (hct:P.cellsOf t=n) (h:DataW.trod enc P w base spare held fuel t cs=some x) (hx:x.1=.agg (ks.map λk=>.lit (.int .u32 k))):cs=ks.map (λk=>.int .u32 k):=by
 obtain⟨xs,m,rfl,rfl,hlen,hxs,hel⟩:=DataW.trod_array ht h
 simp only[DataW.agg.injEq] at hx
 have hl:ks.length=n:=by
  have h:=Ap List.length hx
  rw[zR,zR] at h
  omega
 refine Bu (by rw[hlen,hct,zR,hl]) λi h1 h2=>?_
 have hi:i<n:=by rw[←hct,←hlen]; exact h1
 have hi2:i<ks.length:=by omega
 have h3:=hel i hi
 rw[hc,Nat.mul_one,z8 om] at h3
 obtain⟨k,e1,e2,_⟩:=DataW.trod_int he h3
 rw[AO h1,List.take_succ_cons] at e1
 injection e1 with e1 _
 have h4:(xs.map (·.1))[i]?=(ks.map λk=>DataW.lit (H:=H) (.int .u32 k))[i]?:=by rw[hx]
 rw[A2,A2,z8 om,z8 hi2,Option.map_some,Option.map_some,e2] at h4
 simp only[Option.some.injEq,DataW.lit.injEq,Lit.int.injEq,true_and] at h4
 rw[e1,Bo,h4]
end
end Go.PW
namespace Go.Proofs.YtliklcmddmpdfaaGreatDoor
open Go.RowKit Go.PW _root_.Go.Proofs.Tryz
open Go.ChangeShapes Go.WideShapes Go.ChangeAt Go.RowKit Go.PW
theorem ownD:ownKnob Tryz.prog.godebug=none:=by kernel_rfl
theorem eA:laidOutB Tryz.prog=true:=by kernel_rfl
def laid1:List (String × DataW Unit):=[("dialtone/digest.round",Rows.laid_dialtone_digest_round)]
theorem gRound:Tryz.prog.globalNamed "dialtone/digest.round"=some 0:=by kernel_rfl
theorem tRound:(Tryz.prog.globals[0]?).map (·.type)=some 258:=by kernel_rfl
theorem yi:(Rows.laid_dialtone_digest_round:DataW Unit)=.agg ((kOf.map λk=>(k.toNat:Int)).map λk=>.lit (.int .u32 k)):=by kernel_rfl
theorem vt (os:Os) (args:Array Value):laidMetH Tryz.prog laid1 ((World.doorLaid Tryz.prog 4000 os).forCall (λ_ _=>0) ⟨#[],args,[]⟩).memory:=
 laidMetH_of_parts3 (fuel:=8) (laidMet_of_run' 8 kr kr) kr kr
theorem rR (os:Os) (args:Array Value):((World.doorLaid Tryz.prog 4000 os).forCall (λ_ _=>0) ⟨#[],args,[]⟩).Shaped Tryz.prog:=World.shaped_of_RefB kr kr
theorem zC {W:World} (h:laidMetH Tryz.prog laid1 W) (hs:W.ShapedOpen Tryz.prog):(blk 0 (kOf.map wv) 258).ok W:=by
 rw[MakeChecks.laidMetH_plain _ _ _ kr] at h
 obtain⟨ps,⟨g0,t0,cs0,f0,p0,q0,hg0,ht0,hv0,hd0,_,_⟩,_,_⟩:=h
 obtain rfl:=A4 (gRound.symm.trans hg0)
 obtain rfl:=A4 (tRound.symm.trans ht0)
 obtain⟨cs,hcs,_,_⟩:=hs.1 0 (List.replicate 64 (.int .u32 0)).toArray 258 (of_decide_eq_true kr) kr
 have e:cs0=cs:=by
  have:=hv0
  simp only[World.var?,gRound,Bv,hcs,Option.some.injEq] at this
  exact this.symm
 subst e
 have hw:=rD (ks:=kOf.map λk=>(k.toNat:Int)) underlying258 underlying206 kr kr hd0 yi
 have hl:cs0=(kOf.map wv).toArray:=by
  apply Array.toList_inj.1
  rw[hw,Bg]; rfl
 show W.heap[0]?=some (.cells (kOf.map wv).toArray 258)
 rw[←hl]; exact hcs
open Go.ChangeShapes Go.WideShapes Go.ChangeAt
section
variable {H:Type} {enc:TypeId × Value→H} {W:World} {base b0:Nat} {sp:Nat→Bool} {hd:Bool} {v:Value} {d:DataW H} {ps:List MemPlace} {r:Reach}
theorem qT {n:Int} (h:Go.PW.i64 n):i64 n:=h
theorem len4 {α:Type} {l:List α} (h:l.length=4):∃a0 a1 a2 a3,l=[a0,a1,a2,a3]:=by
 match l,h with
 | [a0,a1,a2,a3],_=>exact⟨_,_,_,_,rfl⟩
theorem xf {fuel:Nat} {cs:List Value} {x:DataW H × List MemPlace} (hl:cs.length=4) (hw:Wt Tryz.prog 26 x.1) (h:DataW.trod enc Tryz.prog W base sp hd fuel 26 cs=some x):
  ∃(n0:Int) (v1:Value) (v2:Value) (v3:Value),cs=[jv n0,v1,v2,v3]∧(i64 n0)∧(∃n z,DataW.trod enc Tryz.prog W base sp hd n 22 [v1]=some z∧Wt Tryz.prog 22 z.1)∧(∃n z,DataW.trod enc Tryz.prog W base sp hd n 23 [v2]=some z∧Wt Tryz.prog 23 z.1)∧(∃n z,DataW.trod enc Tryz.prog W base sp hd n 24 [v3]=some z∧Wt Tryz.prog 24 z.1):=by
 obtain⟨c0,c1,c2,c3,rfl⟩:=len4 hl
 obtain⟨m0,z0,h0,w0⟩:=dp 0 _ underlying26 hw h rfl
 have k0:Tryz.prog.cellsOf 3=1:=by kernel_rfl
 replace h0:DataW.trod enc Tryz.prog W base sp hd m0 3 [c0]=some z0:=by rw[show[c0]=([c0,c1,c2,c3].drop 0).take (Tryz.prog.cellsOf 3) from by rw[k0]; rfl]; exact h0
 obtain⟨m1,z1,h1,w1⟩:=dp 1 _ underlying26 hw h rfl
 have k1:Tryz.prog.cellsOf 22=1:=by kernel_rfl
 replace h1:DataW.trod enc Tryz.prog W base sp hd m1 22 [c1]=some z1:=by rw[show[c1]=([c0,c1,c2,c3].drop 1).take (Tryz.prog.cellsOf 22) from by rw[k1]; rfl]; exact h1
 obtain⟨m2,z2,h2,w2⟩:=dp 2 _ underlying26 hw h rfl
 have k2:Tryz.prog.cellsOf 23=1:=by kernel_rfl
 replace h2:DataW.trod enc Tryz.prog W base sp hd m2 23 [c2]=some z2:=by rw[show[c2]=([c0,c1,c2,c3].drop 2).take (Tryz.prog.cellsOf 23) from by rw[k2]; rfl]; exact h2
 obtain⟨m3,z3,h3,w3⟩:=dp 3 _ underlying26 hw h rfl
 have k3:Tryz.prog.cellsOf 24=1:=by kernel_rfl
 replace h3:DataW.trod enc Tryz.prog W base sp hd m3 24 [c3]=some z3:=by rw[show[c3]=([c0,c1,c2,c3].drop 3).take (Tryz.prog.cellsOf 24) from by rw[k3]; rfl]; exact h3
 obtain⟨n0,e0,f0⟩:=fQ underlying3 h0
 obtain rfl:c0=jv n0:=by simpa using e0
 obtain⟨v1,e1⟩:∃q,q=c1:=⟨_,rfl⟩
 subst e1
 obtain⟨v2,e2⟩:∃q,q=c2:=⟨_,rfl⟩
 subst e2
 obtain⟨v3,e3⟩:∃q,q=c3:=⟨_,rfl⟩
 subst e3
 exact⟨n0,v1,v2,v3,O,f0,⟨m1,z1,h1,w1⟩,⟨m2,z2,h2,w2⟩,⟨m3,z3,h3,w3⟩⟩
theorem len2 {α:Type} {l:List α} (h:l.length=2):∃a0 a1,l=[a0,a1]:=by
 match l,h with
 | [a0,a1],_=>exact⟨_,_,rfl⟩
theorem lI {fuel:Nat} {cs:List Value} {x:DataW H × List MemPlace} (hl:cs.length=2) (hw:Wt Tryz.prog 63 x.1) (h:DataW.trod enc Tryz.prog W base sp hd fuel 63 cs=some x):
  ∃(n0:Int) (n1:Int),cs=[jv n0,jv n1]∧(i64 n0)∧(i64 n1):=by
 obtain⟨zs,hz,he,hy⟩:=gN 2 underlying63 underlying3 kr h hl
 obtain⟨n0,n1,rfl⟩:=len2 hz
 exact⟨n0,n1,he,hy n0 sm,hy n1 sm⟩
theorem tG {fuel:Nat} {v:Value} {x:DataW H × List MemPlace} (hok:Cell.okWide Tryz.prog W r b0 22 v) (hw:Wt Tryz.prog 22 x.1) (h:DataW.trod enc Tryz.prog W base sp hd fuel 22 [v]=some x):
  ∃xs:List Pr2,SlAt W v 2 (xs.map Pr2.cells)∧∀a∈xs,a.wt:=by
 obtain⟨els,h1,h2⟩:=kn 2 underlying22 kr de (of_decide_eq_true kr) hok hw h
 exact nV (f:=Pr2.cells) (q:=λa=>a.wt) h1 λi hi=>by
  obtain⟨n,y,hy,hwy⟩:=h2 i hi
  obtain⟨n0,n1,he,hf⟩:=lI (h1.1 _ (AM hi)) hwy hy
  exact⟨⟨n0,n1⟩,he,hf⟩
theorem len8 {α:Type} {l:List α} (h:l.length=8):∃a0 a1 a2 a3 a4 a5 a6 a7,l=[a0,a1,a2,a3,a4,a5,a6,a7]:=by
 match l,h with
 | [a0,a1,a2,a3,a4,a5,a6,a7],_=>exact⟨_,_,_,_,_,_,_,_,rfl⟩
theorem vF {fuel:Nat} {cs:List Value} {x:DataW H × List MemPlace} (hl:cs.length=8) (hw:Wt Tryz.prog 84 x.1) (h:DataW.trod enc Tryz.prog W base sp hd fuel 84 cs=some x):
  ∃(n0:Int) (n1:Int) (n2:Int) (n3:Int) (n4:Int) (n5:Int) (n6:Int) (v7:Value),cs=[jv n0,jv n1,jv n2,jv n3,jv n4,jv n5,jv n6,v7]∧(i64 n0)∧(i64 n1)∧(i64 n2)∧(i64 n3)∧(i64 n4)∧(i64 n5)∧(i64 n6)∧(∃n z,DataW.trod enc Tryz.prog W base sp hd n 82 [v7]=some z∧Wt Tryz.prog 82 z.1):=by
 obtain⟨c0,c1,c2,c3,c4,c5,c6,c7,rfl⟩:=len8 hl
 obtain⟨m0,z0,h0,w0⟩:=dp 0 _ underlying84 hw h rfl
 have k0:Tryz.prog.cellsOf 3=1:=by kernel_rfl
 replace h0:DataW.trod enc Tryz.prog W base sp hd m0 3 [c0]=some z0:=by rw[show[c0]=([c0,c1,c2,c3,c4,c5,c6,c7].drop 0).take (Tryz.prog.cellsOf 3) from by rw[k0]; rfl]; exact h0
 obtain⟨m1,z1,h1,w1⟩:=dp 1 _ underlying84 hw h rfl
 have k1:Tryz.prog.cellsOf 63=2:=by kernel_rfl
 replace h1:DataW.trod enc Tryz.prog W base sp hd m1 63 [c1,c2]=some z1:=by rw[show[c1,c2]=([c0,c1,c2,c3,c4,c5,c6,c7].drop 1).take (Tryz.prog.cellsOf 63) from by rw[k1]; rfl]; exact h1
 obtain⟨m2,z2,h2,w2⟩:=dp 2 _ underlying84 hw h rfl
 have k2:Tryz.prog.cellsOf 63=2:=by kernel_rfl
 replace h2:DataW.trod enc Tryz.prog W base sp hd m2 63 [c3,c4]=some z2:=by rw[show[c3,c4]=([c0,c1,c2,c3,c4,c5,c6,c7].drop 3).take (Tryz.prog.cellsOf 63) from by rw[k2]; rfl]; exact h2
 obtain⟨m3,z3,h3,w3⟩:=dp 3 _ underlying84 hw h rfl
 have k3:Tryz.prog.cellsOf 3=1:=by kernel_rfl
 replace h3:DataW.trod enc Tryz.prog W base sp hd m3 3 [c5]=some z3:=by rw[show[c5]=([c0,c1,c2,c3,c4,c5,c6,c7].drop 5).take (Tryz.prog.cellsOf 3) from by rw[k3]; rfl]; exact h3
 obtain⟨m4,z4,h4,w4⟩:=dp 4 _ underlying84 hw h rfl
 have k4:Tryz.prog.cellsOf 3=1:=by kernel_rfl
 replace h4:DataW.trod enc Tryz.prog W base sp hd m4 3 [c6]=some z4:=by rw[show[c6]=([c0,c1,c2,c3,c4,c5,c6,c7].drop 6).take (Tryz.prog.cellsOf 3) from by rw[k4]; rfl]; exact h4
 obtain⟨m5,z5,h5,w5⟩:=dp 5 _ underlying84 hw h rfl
 have k5:Tryz.prog.cellsOf 82=1:=by kernel_rfl
 replace h5:DataW.trod enc Tryz.prog W base sp hd m5 82 [c7]=some z5:=by rw[show[c7]=([c0,c1,c2,c3,c4,c5,c6,c7].drop 7).take (Tryz.prog.cellsOf 82) from by rw[k5]; rfl]; exact h5
 obtain⟨n0,e0,f0⟩:=fQ underlying3 h0
 obtain rfl:c0=jv n0:=by simpa using e0
 obtain⟨n1,n2,e1,f1_0,f1_1⟩:=lI rfl w1 h1
 simp only[List.cons.injEq,and_true] at e1
 obtain⟨rfl,rfl⟩:=e1
 obtain⟨n3,n4,e2,f2_0,f2_1⟩:=lI rfl w2 h2
 simp only[List.cons.injEq,and_true] at e2
 obtain⟨rfl,rfl⟩:=e2
 obtain⟨n5,e3,f3⟩:=fQ underlying3 h3
 obtain rfl:c5=jv n5:=by simpa using e3
 obtain⟨n6,e4,f4⟩:=fQ underlying3 h4
 obtain rfl:c6=jv n6:=by simpa using e4
 obtain⟨v7,e5⟩:∃q,q=c7:=⟨_,rfl⟩
 subst e5
 exact⟨n0,n1,n2,n3,n4,n5,n6,v7,O,f0,f1_0,f1_1,f2_0,f2_1,f3,f4,⟨m5,z5,h5,w5⟩⟩
theorem len5 {α:Type} {l:List α} (h:l.length=5):∃a0 a1 a2 a3 a4,l=[a0,a1,a2,a3,a4]:=by
 match l,h with
 | [a0,a1,a2,a3,a4],_=>exact⟨_,_,_,_,_,rfl⟩
theorem tF {fuel:Nat} {cs:List Value} {x:DataW H × List MemPlace} (hl:cs.length=5) (hw:Wt Tryz.prog 142 x.1) (h:DataW.trod enc Tryz.prog W base sp hd fuel 142 cs=some x):
  ∃(n0:Int) (n1:Int) (n2:Int) (n3:Int) (n4:Int),cs=[jv n0,jv n1,jv n2,jv n3,jv n4]∧(i64 n0)∧(i64 n1)∧(i64 n2)∧(i64 n3)∧(i64 n4):=by
 obtain⟨zs,hz,he,hy⟩:=gN 5 underlying142 underlying3 kr h hl
 obtain⟨n0,n1,n2,n3,n4,rfl⟩:=len5 hz
 exact⟨n0,n1,n2,n3,n4,he,hy n0 sm,hy n1 sm,hy n2 sm,hy n3 sm,hy n4 sm⟩
theorem vr {fuel:Nat} {v:Value} {x:DataW H × List MemPlace} (hw:Wt Tryz.prog 82 x.1) (h:DataW.trod enc Tryz.prog W base sp hd fuel 82 [v]=some x):
  ∃ys:List Cin,SlE W v 5 (ys.map Cin.cells)∧(∀y∈ys,y.wt)∧ys.length≤3518437208883:=by
 obtain⟨els,h1,h2,h3,h4⟩:=vT 5 underlying82 kr de (of_decide_eq_true kr) hw h
 obtain⟨ys,rfl,hq⟩:=y6 (els:=els) (f:=Cin.cells) (q:=Cin.wt) λi hi=>by
  obtain⟨n,y,hy,hwy⟩:=h4 i hi
  obtain⟨n0,n1,n2,n3,n4,he,hf⟩:=tF (h3 _ (AM hi)) hwy hy
  exact⟨⟨n0,n1,n2,n3,n4⟩,he,hf⟩
 refine⟨ys,h1,hq,?_⟩
 rw[zR,show Tryz.prog.bytesOf 142=40 from by kernel_rfl] at h2
 omega
theorem uI {fuel:Nat} {v:Value} {x:DataW H × List MemPlace} (hok:Cell.okWide Tryz.prog W r b0 23 v) (hw:Wt Tryz.prog 23 x.1) (h:DataW.trod enc Tryz.prog W base sp hd fuel 23 [v]=some x):
  ∃xs:List Nin,SlAt W v 8 (xs.map Nin.cells)∧∀a∈xs,a.wt W:=by
 obtain⟨els,h1,h2⟩:=kn 8 underlying23 kr de (of_decide_eq_true kr) hok hw h
 exact nV (f:=Nin.cells) (q:=λa=>a.wt W) h1 λi hi=>by
  obtain⟨n,y,hy,hwy⟩:=h2 i hi
  obtain⟨n0,n1,n2,n3,n4,n5,n6,v7,he,f0,f1,f2,f3,f4,f5,f6,n9,z,hz,hwz⟩:=vF (h1.1 _ (AM hi)) hwy hy
  obtain⟨ys,g1,g2,g3⟩:=vr hwz hz
  exact⟨⟨n0,n1,n2,n3,n4,n5,n6,v7,ys⟩,he,⟨f0,f1,f2,f3,f4,f5,f6⟩,g1,g2,g3⟩
theorem uu {fuel:Nat} {v:Value} {x:DataW H × List MemPlace} (hok:Cell.okWide Tryz.prog W r b0 24 v) (hw:Wt Tryz.prog 24 x.1) (h:DataW.trod enc Tryz.prog W base sp hd fuel 24 [v]=some x):
  ∃xs:List Int,SlAt W v 1 (xs.map (λz:Int=>[jv z]))∧∀a∈xs,i64 a:=by
 obtain⟨els,h1,h2⟩:=kn 1 underlying24 kr de (of_decide_eq_true kr) hok hw h
 exact nV (f:=λz:Int=>[jv z]) (q:=λa=>i64 a) h1 λi hi=>by
  obtain⟨n,y,hy,hwy⟩:=h2 i hi
  obtain⟨n0,he,f0⟩:=fQ underlying3 hy
  exact⟨n0,he,f0⟩
theorem mg (hval:Value.okWide Tryz.prog W r b0 26 v) (hw:Wt Tryz.prog 26 d) (hd0:DataW.Trod enc Tryz.prog W base sp hd 26 v d ps):
  ∃(n0:Int) (v1:Value) (xv1:List Pr2) (v2:Value) (xv2:List Nin) (v3:Value) (xv3:List Int),v=.agg #[jv n0,v1,v2,v3]∧(i64 n0)∧(SlAt W v1 2 (xv1.map Pr2.cells))∧(∀a∈xv1,a.wt)∧(SlAt W v2 8 (xv2.map Nin.cells))∧(∀a∈xv2,a.wt W)∧(SlAt W v3 1 (xv3.map (λz:Int=>[jv z])))∧(∀a∈xv3,i64 a):=by
 obtain⟨csA,rfl,hsz,hrow⟩:=j8 kr hval
 obtain⟨fuel,hf⟩:=hd0
 have hc:Tryz.prog.cellsOf 26=4:=by kernel_rfl
 obtain⟨n0,v1,v2,v3,he,g0,g1,g2,g3⟩:=xf (cs:=csA.toList) (by rw[Bn,hsz,hc]) hw hf
 obtain rfl:csA=#[jv n0,v1,v2,v3]:=by
  have he2:csA.toList=[jv n0,v1,v2,v3]:=he
  cases csA; simp only at he2; rw[he2]
 obtain⟨n1_,z1_,h1_,w1_⟩:=g1
 obtain⟨xv1,k1_,q1_⟩:=tG (lR (i:=1) (ts:=[3,22,23,24]) kr rfl hrow rfl) w1_ h1_
 obtain⟨n2_,z2_,h2_,w2_⟩:=g2
 obtain⟨xv2,k2_,q2_⟩:=uI (lR (i:=2) (ts:=[3,22,23,24]) kr rfl hrow rfl) w2_ h2_
 obtain⟨n3_,z3_,h3_,w3_⟩:=g3
 obtain⟨xv3,k3_,q3_⟩:=uu (lR (i:=3) (ts:=[3,22,23,24]) kr rfl hrow rfl) w3_ h3_
 exact⟨n0,v1,xv1,v2,xv2,v3,xv3,O,g0,k1_,q1_,k2_,q2_,k3_,q3_⟩
theorem wx {fuel:Nat} {cs:List Value} {x:DataW H × List MemPlace} (hl:cs.length=4) (hw:Wt Tryz.prog 27 x.1) (h:DataW.trod enc Tryz.prog W base sp hd fuel 27 cs=some x):
  ∃(n0:Int) (n1:Int) (n2:Int) (n3:Int),cs=[jv n0,jv n1,jv n2,jv n3]∧(i64 n0)∧(i64 n1)∧(i64 n2)∧(i64 n3):=by
 obtain⟨zs,hz,he,hy⟩:=gN 4 underlying27 underlying3 kr h hl
 obtain⟨n0,n1,n2,n3,rfl⟩:=len4 hz
 exact⟨n0,n1,n2,n3,he,hy n0 sm,hy n1 sm,hy n2 sm,hy n3 sm⟩
theorem rX (hval:Value.okWide Tryz.prog W r b0 27 v) (hw:Wt Tryz.prog 27 d) (hd0:DataW.Trod enc Tryz.prog W base sp hd 27 v d ps):
  ∃(n0:Int) (n1:Int) (n2:Int) (n3:Int),v=.agg #[jv n0,jv n1,jv n2,jv n3]∧(i64 n0)∧(i64 n1)∧(i64 n2)∧(i64 n3):=by
 obtain⟨csA,rfl,hsz,hrow⟩:=j8 kr hval
 obtain⟨fuel,hf⟩:=hd0
 have hc:Tryz.prog.cellsOf 27=4:=by kernel_rfl
 obtain⟨n0,n1,n2,n3,he,g0,g1,g2,g3⟩:=wx (cs:=csA.toList) (by rw[Bn,hsz,hc]) hw hf
 obtain rfl:csA=#[jv n0,jv n1,jv n2,jv n3]:=by
  have he2:csA.toList=[jv n0,jv n1,jv n2,jv n3]:=he
  cases csA; simp only at he2; rw[he2]
 exact⟨n0,n1,n2,n3,O,g0,g1,g2,g3⟩
theorem len3 {α:Type} {l:List α} (h:l.length=3):∃a0 a1 a2,l=[a0,a1,a2]:=by
 match l,h with
 | [a0,a1,a2],_=>exact⟨_,_,_,rfl⟩
theorem uL {fuel:Nat} {cs:List Value} {x:DataW H × List MemPlace} (hl:cs.length=3) (hw:Wt Tryz.prog 112 x.1) (h:DataW.trod enc Tryz.prog W base sp hd fuel 112 cs=some x):
  ∃(n0:Int) (n1:Int) (n2:Int),cs=[jv n0,jv n1,jv n2]∧(i64 n0)∧(i64 n1)∧(i64 n2):=by
 obtain⟨zs,hz,he,hy⟩:=gN 3 underlying112 underlying3 kr h hl
 obtain⟨n0,n1,n2,rfl⟩:=len3 hz
 exact⟨n0,n1,n2,he,hy n0 sm,hy n1 sm,hy n2 sm⟩
theorem tu {fuel:Nat} {v:Value} {x:DataW H × List MemPlace} (hok:Cell.okWide Tryz.prog W r b0 28 v) (hw:Wt Tryz.prog 28 x.1) (h:DataW.trod enc Tryz.prog W base sp hd fuel 28 [v]=some x):
  ∃xs:List Pr3,SlAt W v 3 (xs.map Pr3.cells)∧∀a∈xs,a.wt:=by
 obtain⟨els,h1,h2⟩:=kn 3 underlying28 kr de (of_decide_eq_true kr) hok hw h
 exact nV (f:=Pr3.cells) (q:=λa=>a.wt) h1 λi hi=>by
  obtain⟨n,y,hy,hwy⟩:=h2 i hi
  obtain⟨n0,n1,n2,he,hf⟩:=uL (h1.1 _ (AM hi)) hwy hy
  exact⟨⟨n0,n1,n2⟩,he,hf⟩
theorem mf (hval:Value.okWide Tryz.prog W r b0 28 v) (hw:Wt Tryz.prog 28 d) (hd0:DataW.Trod enc Tryz.prog W base sp hd 28 v d ps):
  ∃xs:List Pr3,SlAt W v 3 (xs.map Pr3.cells)∧∀a∈xs,a.wt:=by
 obtain⟨fuel,hf⟩:=hd0
 have hcs:v.cells.toList=[v]:=by
  rcases kR (by rw[underlying28]) hval with h
  have:∃a n c,v=.slice a n c:=by
   unfold Cell.okWide Cell.ok at h
   rw[underlying28] at h
   cases v<;>simp_all
  obtain⟨a,n,c,rfl⟩:=this
  rfl
 rw[hcs] at hf
 exact tu (kR (by rw[underlying28]) hval) hw hf
end
end Go.Proofs.YtliklcmddmpdfaaGreatDoor
namespace Go.Proofs.YtliklcmddmpdfaaGreatDoor
open Go.RowKit Go.PW _root_.Go.Proofs.Tryz
theorem sn {key:By} {lim t:Int} {q:Chg} {n:Nat} (hk:key.length=32) (hq:(0≤q.n∧q.n≤99999999)∧(0≤q.h∧q.h≤63)∧(0≤q.c∧q.c≤7)∧0≤q.t∧q.t≤q.a∧q.a≤10000000) (hl:1≤lim∧lim≤1000000) (hn:n≤10) (ht:q.a≤t∧t≤11000000):fk key lim q n t=true:=by
 simp only[fk,Chg.ok,inB,zT,zZ]
 omega
theorem wZ {w:World} {v:Value} {R:List Rpw} (h:SlAt w v 6 (R.map Rpw.cells)) (h2:(repsE R).ok w):RepAt w v R:=⟨h,h2⟩
def SubR (F:List Rpw) (r:Rpw):Prop:=∃z∈F,r.iv=z.iv∧r.L=z.L
section
variable {w:World} {v:Value} {R B F G:List Rpw} {r:Rpw} {k:Nat}
theorem py (h:r∈F):SubR F r:=⟨r,h,rfl,rfl⟩
theorem sr (h:(repsE F).ok w) (hr:SubR F r):ItsAt w r.iv r.L:=by
 obtain⟨z,hz,e1,e2⟩:=hr
 rw[e1,e2]; exact h z hz
theorem ya {n:Nat} (h:∀r∈F,∀x∈r.L,x.m.pf.length≤n) (hr:SubR F r):∀x∈r.L,x.m.pf.length≤n:=by
 obtain⟨z,hz,_,e2⟩:=hr
 rw[e2]; exact h z hz
theorem va {n:Nat} (h:∀r∈R,∀x∈r.L,x.m.pf.length≤n) (hF:∀r∈F,∀x∈r.L,x.m.pf.length≤n) (hB:∀r∈B,SubR F r):∀r∈R++B,∀x∈r.L,x.m.pf.length≤n:=λr hr=>by
 rcases AJ.1 hr with hr|hr
 ·exact h r hr
 ·exact ya hF (hB r hr)
theorem sF (h:SlAt w v 6 ((R++B).map Rpw.cells)) (hR:(repsE R).ok w) (hF:(repsE F).ok w) (hB:∀r∈B,SubR F r):RepAt w v (R++B):=⟨h,λr hr=>by
 rcases AJ.1 hr with hr|hr
 ·exact hR r hr
 ·exact sr hF (hB r hr)⟩
theorem wR (h:ItsAt w r.iv r.L):∀u∈r.cells,u.oneCell'=true:=nW h.1 _ (Aq.2 rfl)
theorem sH (h:(repsE R).ok w):∀e∈R.map Rpw.cells,∀u∈e,u.oneCell'=true:=by
 intro e he
 obtain⟨r,hr,rfl⟩:=AB.1 he
 exact wR (h r hr)
theorem sE (h:(repsE F).ok w) (hr:SubR F r):∀e∈[r.cells],∀u∈e,u.oneCell'=true:=nW (sr h hr).1
theorem zk {n:Int} {e:Rpw} (hk:k<(G.map Rpw.cells).length) (he:(⟨n,(G.getD k Rpw.z).hd,(G.getD k Rpw.z).iv,(G.getD k Rpw.z).L⟩:Rpw)=e):(G.map Rpw.cells).set k (splice ((G.map Rpw.cells)[k]) 0 [jv n])=(G.set k e).map Rpw.cells:=by
 rw[aX Rpw.z,Bx,←he]; rfl
theorem yU (h:∀r∈G,SubR F r) {e:Rpw} (he:SubR F e):∀r∈G.set k e,SubR F r:=λr hr=>by
 rcases List.mem_or_eq_of_mem_set hr with hr|rfl
 ·exact h r hr
 ·exact he
theorem xN {P:Rpw→Prop} (h:∀r∈G,P r) {e:Rpw} (he:P e):∀r∈G.set k e,P r:=λr hr=>by
 rcases List.mem_or_eq_of_mem_set hr with hr|rfl
 ·exact h r hr
 ·exact he
theorem yl (h:k<G.length) {e:Rpw}:(G.set k e).getD k Rpw.z=e:=by
 rw[z6,List.getElem?_set_self h]; rfl
end
section
variable {ks:List By} {kk:By} {q:Chg} {R B:List Rpw} {lim early late t s1 u1 s2 u2:Int}
theorem mK (R B:List Rpw):repsM (R++B)=repsM R++repsM B:=by unfold repsM; rw[AH]
theorem rM (hB:∀r∈B,early<r.at_) (hl:early≤late) (hlim:1≤lim) (hq:q.a≤early) (h1:stateH sha ks kk lim q (repsM R) early=(s1,u1)) (h2:stateH sha ks kk lim q (repsM (R++B)) late=(s2,u2)) (hs:¬s1=1):s2=s1∧u2=u1∧q.a≤u1∧u1≤early:=by
 have g:=qK (S:=sha) (ks:=ks) (key:=kk) (m:=repsM B) (late:=late) Dr hl hlim hq (l:=repsM R) (by rw[h1]; exact hs)
 rw[←mK,h1,h2] at g
 have g1:=Ap Prod.fst g.1
 have g2:=Ap Prod.snd g.1
 exact⟨g1,g2,g.2.1,g.2.2⟩
theorem kV (h1:stateH sha ks kk lim q (repsM R) t=(s1,u1)) (hs:s1=1):u1=q.a∧t<q.a+lim:=by
 have g:=rj (S:=sha) (ks:=ks) (key:=kk) (q:=q) (lim:=lim) (t:=t) (l:=repsM R) (by rw[h1]; exact hs)
 rw[h1] at g; exact g
theorem o0 (hB:∀r∈B,q.a+lim≤r.at_) (h1:stateH sha ks kk lim q (repsM (R++B)) t=(s1,u1)) (h2:stateH sha ks kk lim q (repsM R) t=(s2,u2)):s1=s2∧u1=u2:=by
 have g:=pd (S:=sha) (ks:=ks) (key:=kk) (t:=t) (l:=repsM R) (m:=repsM B) (lim:=lim) (q:=q) Dr
 rw[←mK,h1,h2] at g
 exact⟨Ap Prod.fst g,Ap Prod.snd g⟩
end
theorem rQ (cr:Int) (v1:Value) (cs:List Pr2) (v2:Value) (ns:List Nin) (v3:Value) (hs:List Int) (cr2:Int) (v12:Value) (cs2:List Pr2) (v22:Value) (ns2:List Nin) (v32:Value) (hs2:List Int) (x0 x1 x2 x3:Int) (xv:Value) (xs:List Pr3) (yv_:Value) (ys:List Pr3) (limit t more:Int) (w0:World) (hv1:SlAt w0 v1 2 (cs.map Pr2.cells)) (hv2:SlAt w0 v2 8 (ns.map Nin.cells)) (hns:∀u∈ns,u.wt w0) (hv3:SlAt w0 v3 1 (hs.map λz:Int=>[jv z])) (hcr:i64 cr) (hcs:∀y∈cs,y.wt) (hhs:∀z∈hs,i64 z) (hv12:SlAt w0 v12 2 (cs2.map Pr2.cells)) (hv22:SlAt w0 v22 8 (ns2.map Nin.cells)) (hns2:∀u∈ns2,u.wt w0) (hv32:SlAt w0 v32 1 (hs2.map λz:Int=>[jv z])) (hcr2:i64 cr2) (hcs2:∀y∈cs2,y.wt) (hhs2:∀z∈hs2,i64 z) (hx0:i64 x0) (hx1:i64 x1) (hx2:i64 x2) (hx3:i64 x3) (hxv:SlAt w0 xv 3 (xs.map Pr3.cells)) (hxs:∀y∈xs,y.wt) (hyv:SlAt w0 yv_ 3 (ys.map Pr3.cells)) (hys:∀y∈ys,y.wt) (h_limit:i64 limit) (h_t:i64 t) (h_more:i64 more) (hk0:(blk 0 (kOf.map wv) 258).ok w0):
  Ret Tryz.prog 3 #[.agg #[jv cr,v1,v2,v3],.agg #[jv cr2,v12,v22,v32],.agg #[jv x0,jv x1,jv x2,jv x3],xv,yv_,jv limit,jv t,jv more] w0 λv w=>v=.bool true∧Ext No w0 w:=by
 have wlimit:=h_limit
 unfold i64 at wlimit
 have wt:=h_t
 unfold i64 at wt
 have wmore:=h_more
 unfold i64 at wmore
 have hplb:=ba limit (n:=60) de
 obtain⟨pl,hpl⟩:∃z,pickI limit 60=z:=⟨_,rfl⟩
 rw[hpl] at hplb
 have hptb:=ba t (n:=70) de
 obtain⟨pt,hpt⟩:∃z,pickI t 70=z:=⟨_,rfl⟩
 rw[hpt] at hptb
 have hpmob:=ba more (n:=70) de
 obtain⟨pmo,hpmo⟩:∃z,pickI more 70=z:=⟨_,rfl⟩
 rw[hpmo] at hpmob
 refine BL func3 O ntmps3 (lb O) λa Y U=>?_
 refine aa λ_ G1=>aS Y U O [jv cr,v1,v2,v3] O λa w1 Y U=>aS Y U O [jv cr2,v12,v22,v32] O λa w2 Y U=>aS Y U O [jv x0,jv x1,jv x2,jv x3] O λa w3 Y U=>wla Y O λa Y=>G1<|aa λ_ G2=>?_
 refine ax Y U call11 O (yA _ (U.keepb hk0)) λa w4 Y U=>wla Y O λa Y=>G2<|ah λ_ G3=>?_
 refine aa λ_ G4=>nv Y<|zN O<|zM ((bB O).asb (b':=false) O)<|λa Y=>G4 ?_
 replace Y:=Y.p10 3 4 5 6 7 8 9 10 16 44 O
 refine aG Y O ?_
 refine ar<|G3<|aa λ_ G5=>wlv Y (ap (U.g 2 O) O (isAgg26 _) (sizeOf26 _)) λa Y=>bf Y U call12 O (jF cr v1 cs v2 ns v3 hs _ (U.arg hv1) (U.arg hv2) (λu h=>(hns u h).grow U.ext) (U.arg hv3) hcr hcs hhs) λa w5 x1 hp Y U=>?_
 obtain⟨dc,dv,dl⟩:=x1
 have hD:=hp
 try dsimp only at U
 replace U:=U.n4 O
 refine aE Y U (zeroValue32 _) [jv 0,.slice none 0 0] O λa w6 Y U=>bj (us:=[jv dc,dv]) 0 Y U O O O (sizeOf32 _) CY (lb O) (ds:=[jv dc,dv]) O O λa w7 Y U=>?_
 refine G5 ?_
 have hD:Doc dc dl:=hD
 obtain⟨hdok,hdl,hdb⟩:=id hD
 have hcb:=hD.car
 obtain⟨kk,hkk⟩:∃k,keyG dc=k:=⟨_,rfl⟩
 have hk32:kk.length=32:=by rw[←hkk]; exact fJ _
 obtain⟨hd,hhd⟩:∃h,hdOf sha kk dc (entC dl) dl.length=h:=⟨_,rfl⟩
 have hreg:=gb hD.1
 have hel:=dG dl
 refine aa λ_ G6=>nv Y<|zM (ac (v:=pq w5.hz) O kr)<|zM (ld U 0 O O (isAgg3 _) O)<|λa Y=>ax Y U call13 O (eL (by rw[hkk]) (jd dc _ om)) λa w8 Y U=>wla Y O λa Y=>G6 ?_
 replace U:=U.k4 15 O
 refine aa λ_ G7=>nv (Y.p10 3 4 5 6 7 9 10 16 18 19 O)<|zM (ap (U.g 0 O) O (isAgg32 _) (sizeOf32 _))<|zM (ap (U.g 2 O) O (isAgg27 _) (sizeOf27 _))<|λa Y=>bf Y U call14 O (ww dc dv dl x0 x1 x2 x3 _ (U.ow 1 O) hD hx0 hx1 hx2 hx3) λa w9 x2 hp Y U=>?_
 revert x2 hp Y U; rintro cg hp Y U
 have hcg:=hp
 replace U:=U.n4 O
 refine aE Y U (zeroValue36 _) [jv 0,jv 0,jv 0,jv 0,jv 0] O λa w10 Y U=>aB 0 Y U [jv cg.n,jv cg.h,jv cg.c,jv cg.t,jv cg.a] O (sizeOf36 _) λa w11 Y U=>G7<|ah λ_ G8=>?_
 obtain⟨hgn,hgh,hgc,hgt,hga,hgb⟩:=id hcg
 refine aH (aI λw12 hxz=>?_)
 replace U:=U.grow hxz
 refine aQ (k:=0) 5 [0,2,3,4] Y ?_
 replace Y:=Y.p14 3 4 5 6 7 9 10 16 18 19 50 51 52 20 O
 refine bn [2] (λi=>match i with|2=>pm (λx:Int × Value × List Cas=>.agg #[jv x.1,x.2.1]) (λx=>[own x.2.1 55 3 (x.2.2.map Cas.cells)]) (λx=>Doc x.1 x.2.2)|_=>λ_ _=>False) 5 [[],[],[1],[],[]] [.agg #[jv dc,dv],.agg #[jv cr2,v12,v22,v32],undef,.agg #[jv cg.n,jv cg.h,jv cg.c,jv cg.t,jv cg.a],xv] Y U ?_ ?_ ?_
 ·exact BO<|hqw (λU=>ap (U.g 1 rfl) rfl (isAgg32 _) (sizeOf32 _))<|hqw (λU=>ap (U.g 4 rfl) rfl (isAgg26 _) (sizeOf26 _))<|BM (λh=>absurd sm h)<|hqw (λU=>ap (U.g 0 rfl) rfl (isAgg36 _) (sizeOf36 _))<|hqv (au rfl)<|BN
 ·intro i hi
  simp only[zY,Ab,As] at hi
  subst hi
  ·intro w U
   exact dt call12 O (jF cr2 v12 cs2 v22 ns2 v32 hs2 _ (U.arg hv12) (U.arg hv22) (λu h=>(hns2 u h).grow U.ext) (U.arg hv32) hcr2 hcs2 hhs2)
 clear Y U
 rintro _ _ ⟨⟨dc93,dv93,dl93⟩,rfl,hD93,rfl⟩ a w13 Y U
 replace Y:=Y.p13 53 55 56 57 4 5 6 7 9 16 18 19 20 O
 try dsimp only at U
 replace U:=U.n6 O
 refine ab<|aJ (k:=5) 7 [6] ?_
 refine bf Y U call15 O (lq dc dv dl dc93 dv93 dl93 cg xv xs _ (U.ow 3 O) hD (U.ow 0 O) hD93 hcg (U.arg hxv) hxs) λa w14 x4 hp Y U=>?_
 obtain⟨rv,R⟩:=x4
 obtain⟨hRl,hRp6,hRa⟩:=hp
 try dsimp only at U
 replace U:=U.n8 O
 refine wla Y O λa Y=>ab<|aR<|G8 ?_
 replace Y:=Y.p10 4 5 6 7 9 16 18 19 20 21 O
 replace U:=U.k6 187 O
 have hRl:R.length≤5:=hRl
 have hRp:∀r∈R,∀x∈r.L,x.m.pf.length≤1000:=λr h x hx=>AD (hRp6 r h x hx) de
 refine aa λ_ G9=>wlm Y O λa Y=>ax Y U call16 O (g7 hpl (ge limit 60 _ ⟨om,om⟩ ⟨om,om⟩)) λa w15 Y U=>nv Y<|zM (aL O O ⟨om,om⟩)<|zO O<|λa Y=>G9<|ah λ_ G10=>?_
 refine aH (aI λw16 hxz=>?_)
 replace U:=U.grow hxz
 refine aQ (k:=0) 4 [1,3] Y ?_
 refine bI 4 (Y.p14 4 5 6 7 9 16 18 19 20 21 59 60 61 22 O) U<|pl_v (ac (v:=po w9.hz 4) O kr)<|pl_w (λU=>ld U 2 O O (isAgg3 _) O)<|pl_m O<|pl_r (λU=>bD call16 O (g7 hpt (ge t 70 _ ⟨om,om⟩ ⟨om,om⟩))) λa w17 Y U=>?_
 replace Y:=Y.p11 4 7 9 16 18 19 20 21 22 63 65 O
 refine ab<|aJ (k:=4) 6 [5] ?_
 refine nv Y<|zM (aL O O ⟨om,om⟩)<|zO O<|λa Y=>ab<|aR<|G10<|aa λ_ G11=>nv Y<|zN O<|zN O<|λa Y=>ax Y U call16 O (g7 hpmo (ge more 70 _ ⟨om,om⟩ ⟨om,om⟩)) λa w18 Y U=>nv Y<|zM (aL O O ⟨om,om⟩)<|zO O<|λa Y=>G11 ?_
 replace Y:=Y.p10 4 9 16 18 19 20 21 22 23 24 O
 refine ah λ_ G12=>?_
 obtain⟨s1,u1,hs1⟩:∃a b,stateH sha keysH kk (1+pl) cg (repsM R) (cg.a+pt)=(a,b):=⟨_,_,rfl⟩
 refine aH (aI λw19 hxz=>?_)
 replace U:=U.grow hxz
 refine aQ (k:=0) 6 [0,1,2,3,4,5] Y ?_
 replace Y:=Y.p10 4 9 16 18 19 20 21 22 23 24 O
 refine bn [0] (λi=>match i with|0=>pm (λv:Value=>v) (λv=>[own v 9 1 (keysH.map λs=>[sv s])]) (λ_=>True)|_=>λ_ _=>False) 6 [[],[],[],[],[],[]] [undef,sv kk,jv (1+pl),.agg #[jv cg.n,jv cg.h,jv cg.c,jv cg.t,jv cg.a],rv,jv (cg.a+pt)] Y U ?_ ?_ ?_
 ·exact BO<|BM (λh=>absurd sm h)<|hqv (au rfl)<|hqv (au rfl)<|hqw (λU=>ap (U.g 2 rfl) rfl (isAgg36 _) (sizeOf36 _))<|hqv (au rfl)<|hqv (au rfl)<|BN
 ·intro i hi
  simp only[zY,Ab,As] at hi
  subst hi
  ·intro w U
   exact dt call18 O (iO _)
 clear Y U
 rintro kv5 _ ⟨_,rfl, -,rfl⟩ a w20 Y U
 replace Y:=Y.p16 72 73 74 75 76 77 4 9 16 18 19 20 21 22 23 24 O
 replace U:=U.n7 O
 refine ab<|aJ (k:=6) 8 [7] ?_
 refine ax Y U call17 O (eL (by rw[hs1]) (fU kv5 rv keysH kk (1+pl) cg R (cg.a+pt) _ (U.ow 0 O) (wZ (U.ow 1 O) (U.g 2 O)) hRp (sn (q:=cg) hk32 om om C2 om) (U.keepb hk0))) λa w21 Y U=>wlm Y O λa Y=>ab<|aQ (k:=8) 13 [10,12] Y ?_
 replace Y:Fr 251 [(4,_),(9,_),(16,_),(18,_),(19,_),(20,_),(21,_),(22,_),(23,_),(24,_),(72,_),(73,_),(74,_),(75,_),(76,_),(77,_),(78,_),(71,_)] [] a:=Y.pick [4,9,16,18,19,20,21,22,23,24,72,73,74,75,76,77,78,71]
 refine bI 5 Y U<|pl_v (ak O O)<|pl_v (ak O O)<|pl_v (ak O O)<|pl_v (bX O)<|pl_v (bX O) λa w22 Y U=>?_
 replace Y:=Y.p13 4 9 16 18 19 20 21 22 23 24 81 25 26 O
 refine ab<|aJ (k:=13) 14 [13] ?_
 refine wla Y O λa Y=>ab<|aR<|G12<|aa λ_ G13=>aD (E:=52) (sz:=6) O [] kr sm O de de Y U λa w23 Y U=>wlm Y O λa Y=>fE (i:=0) (sT:=38) (inf:=Tryz.t52) (z:=.agg #[jv 0,jv 0,jv 0,.string (⟨#[]⟩),.string (⟨#[]⟩),.slice none 0 0]) O O O (U.ow 2 O) underlying38 O O O O de (by exact sH (U.g 3 O)) B0 B0 de Y U λa w24 s6 Y U=>?_
 replace U:St No w0 [own s6 52 6 ((R).map Rpw.cells),own kv5 9 1 (keysH.map λs=>[sv s]),own rv 52 6 ((R).map Rpw.cells),repsE R,blk w9.hz [jv cg.n,jv cg.h,jv cg.c,jv cg.t,jv cg.a] 36,blk w5.hz [jv dc,dv] 32,own dv 55 3 ((dl).map Cas.cells),blk w1.hz [jv cr2,v12,v22,v32] 26] w24:=by rw[show ((R).map Rpw.cells)=([])++((R).map Rpw.cells) from (Az _).symm]; exact U
 refine wla Y O λa Y=>G13<|ah λ_ G14=>?_
 refine aH (aI λw25 hxz=>?_)
 replace U:=U.grow hxz
 refine aQ (k:=0) 5 [0,2,3,4] Y ?_
 replace Y:Fr 251 [(4,_),(9,_),(16,_),(18,_),(19,_),(20,_),(21,_),(22,_),(23,_),(24,_),(81,_),(25,_),(26,_),(27,_),(82,_),(83,_),(84,_),(28,_)] [] a:=Y.pick [4,9,16,18,19,20,21,22,23,24,81,25,26,27,82,83,84,28]
 refine bn [2] (λi=>match i with|2=>pm (λx:Int × Value × List Cas=>.agg #[jv x.1,x.2.1]) (λx=>[own x.2.1 55 3 (x.2.2.map Cas.cells)]) (λx=>Doc x.1 x.2.2)|_=>λ_ _=>False) 5 [[],[],[1],[],[]] [.agg #[jv dc,dv],.agg #[jv cr2,v12,v22,v32],undef,.agg #[jv cg.n,jv cg.h,jv cg.c,jv cg.t,jv cg.a],yv_] Y U ?_ ?_ ?_
 ·exact BO<|hqw (λU=>ap (U.g 5 rfl) rfl (isAgg32 _) (sizeOf32 _))<|hqw (λU=>ap (U.g 7 rfl) rfl (isAgg26 _) (sizeOf26 _))<|BM (λh=>absurd sm h)<|hqw (λU=>ap (U.g 4 rfl) rfl (isAgg36 _) (sizeOf36 _))<|hqv (au rfl)<|BN
 ·intro i hi
  simp only[zY,Ab,As] at hi
  subst hi
  ·intro w U
   exact dt call12 O (jF cr2 v12 cs2 v22 ns2 v32 hs2 _ (U.arg hv12) (U.arg hv22) (λu h=>(hns2 u h).grow U.ext) (U.arg hv32) hcr2 hcs2 hhs2)
 clear Y U
 rintro _ _ ⟨⟨dc97,dv97,dl97⟩,rfl,hD97,rfl⟩ a w26 Y U
 replace Y:=Y.p15 85 87 88 89 16 19 20 21 22 23 24 25 26 27 28 O
 try dsimp only at U
 replace U:=U.n9 O
 refine ab<|aJ (k:=5) 7 [6] ?_
 refine bf Y U call15 O (lq dc dv dl dc97 dv97 dl97 cg yv_ ys _ (U.ow 7 O) hD (U.ow 0 O) hD97 hcg (U.arg hyv) hys) λa w27 x8 hp Y U=>?_
 obtain⟨fv,F⟩:=x8
 obtain⟨hFl,hFp6,hFa⟩:=hp
 try dsimp only at U
 replace U:=U.n11 O
 refine wla Y O λa Y=>ab<|aR<|G14 ?_
 replace Y:=Y.p12 16 19 20 21 22 23 24 25 26 27 28 29 O
 replace U:=U.k7 747 O
 refine ah λ_ G15=>?_
 have hFl:F.length≤5:=hFl
 have hFp:∀r∈F,∀x∈r.L,x.m.pf.length≤1000:=λr h x hx=>AD (hFp6 r h x hx) de
 refine aa λ_ G16=>wla Y O λa Y=>G16<|aw ?_
 replace U:St No w0 [own fv 52 6 ((F).map Rpw.cells),repsE F,own s6 52 6 (((R++([]:List Rpw))).map Rpw.cells),own rv 52 6 ((R).map Rpw.cells),repsE R,blk w9.hz [jv cg.n,jv cg.h,jv cg.c,jv cg.t,jv cg.a] 36,own dv 55 3 ((dl).map Cas.cells)] w27:=by rw[A0]; exact U
 refine aZ (λm a w=>∃(k:Nat) (v:Value) (B:List Rpw),m=F.length- k∧(k≤F.length)∧(B.length≤k)∧(∀r∈B,cg.a+pt<r.at_)∧(∀r∈B,SubR F r)∧Fr 251 [(16,.bool false),(19,sv kk),(20,pq w9.hz),(21,rv),(22,jv (1+pl)),(23,jv (cg.a+pt)),(24,jv ((cg.a+pt)+pmo)),(25,jv s1),(26,jv u1),(27,jv 0),(29,fv),(28,v),(30,jv (k:Int))] [] a∧St No w0 [own fv 52 6 ((F).map Rpw.cells),repsE F,own v 52 6 (((R++B)).map Rpw.cells),own rv 52 6 ((R).map Rpw.cells),repsE R,blk w9.hz [jv cg.n,jv cg.h,jv cg.c,jv cg.t,jv cg.a] 36,own dv 55 3 ((dl).map Cas.cells)] w) _ ⟨0,s6,[],O,Ah _,Ay 0,sm,sm,Y.pick [16,19,20,21,22,23,24,25,26,27,29,28,30],U.select [0,1,2,3,4,5,6] de⟩ ?_
 rintro _ a w28 ⟨k,v,B,rfl,hk,hBl,hBe,hBs,Y,U⟩
 refine ah λ_ G17=>aa λ_ G18=>nv Y<|zN O<|zN O<|zM ((aK (sT:=38) (U.ow 0 O) O O (runUnderlying38 _)).asi (m':=(F.length:Int)) B9)<|zM (v_lt O O)<|λa Y=>G18<|az Y O (λhc9=>?_) (λhc9=>?_)
 ·have hkx:k<F.length:=by omega
  refine ar<|G17<|ah λ_ G19=>aw<|aa λ_ G20=>nv Y<|zN O<|zN O<|zM ((ai (i:=(k:Int)) (sT:=38) (U.ow 0 O) O O (runUnderlying38 _) (sizeOf52 _) om BQ).as (v':=slAddr fv (k*6)) O)<|zM (bA (k:=k*6) (j:=0) (U.ow 0 O) (i:=k) BQ O (λ_ _=>by kernel_rfl))<|zM (aA (u:=jv ((F.getD k Rpw.z).at_)) (i:=k) (j:=0) (U.ow 0 O) BQ O (isAgg3 _) (by rw[aX Rpw.z]; rfl))<|zN O<|zM (v_gt O O)<|λa Y=>G20 ?_
  replace Y:=Y.p14 16 19 20 21 22 23 24 25 26 27 29 28 30 103 O
  refine az Y O (λhc10=>?_) (λhc10=>?_)
  ·have hlt:cg.a+pt<(F.getD k Rpw.z).at_:=hc10
   have hes:SubR F (F.getD k Rpw.z):=py (bC hkx)
   refine aj<|nv Y<|zN O<|zN O<|zN O<|zM ((ai (i:=(k:Int)) (sT:=38) (U.ow 0 O) O O (runUnderlying38 _) (sizeOf52 _) om BQ).as (v':=slAddr fv (k*6)) O)<|zM ((bN (U.ow 0 O) (i:=k) BQ O (isAgg52 _) (sizeOf52 _)).as (v':=.agg #[jv ((F.getD k Rpw.z).at_),jv ((F.getD k Rpw.z).hd.c),jv ((F.getD k Rpw.z).hd.n),sv ((F.getD k Rpw.z).hd.root),sv ((F.getD k Rpw.z).hd.tag),(F.getD k Rpw.z).iv]) (by rw[aX Rpw.z]; rfl))<|λa Y=>aD (E:=52) (sz:=6) O [[jv ((F.getD k Rpw.z).at_),jv ((F.getD k Rpw.z).hd.c),jv ((F.getD k Rpw.z).hd.n),sv ((F.getD k Rpw.z).hd.root),sv ((F.getD k Rpw.z).hd.tag),(F.getD k Rpw.z).iv]] kr sm O de de Y U λa w29 Y U=>?_
   refine aY (i:=3) (sT:=38) (inf:=Tryz.t52) (z:=.agg #[jv 0,jv 0,jv 0,.string (⟨#[]⟩),.string (⟨#[]⟩),.slice none 0 0]) (b:=0) (off:=0) (m:=0) (c:=0) O O O (U.ow 0 O) sm underlying38 O O O O de (by exact sE (U.g 2 O) hes) B0 B0 de Y U λa w30 s11 Y U _=>?_
   replace U:St No w0 [own (.slice (some ⟨w28.hz,0,none⟩) 1 1) 52 6 ([[jv ((F.getD k Rpw.z).at_),jv ((F.getD k Rpw.z).hd.c),jv ((F.getD k Rpw.z).hd.n),sv ((F.getD k Rpw.z).hd.root),sv ((F.getD k Rpw.z).hd.tag),(F.getD k Rpw.z).iv]]),own fv 52 6 ((F).map Rpw.cells),repsE F,own s11 52 6 (((R++(B++[(F.getD k Rpw.z)]))).map Rpw.cells),own rv 52 6 ((R).map Rpw.cells),repsE R,blk w9.hz [jv cg.n,jv cg.h,jv cg.c,jv cg.t,jv cg.a] 36,own dv 55 3 ((dl).map Cas.cells)] w30:=by rw[show (((R++(B++[(F.getD k Rpw.z)]))).map Rpw.cells)=(((R++B)).map Rpw.cells)++([[jv ((F.getD k Rpw.z).at_),jv ((F.getD k Rpw.z).hd.c),jv ((F.getD k Rpw.z).hd.n),sv ((F.getD k Rpw.z).hd.root),sv ((F.getD k Rpw.z).hd.tag),(F.getD k Rpw.z).iv]]) from by rw[←Aw,AH (l₂:=[(F.getD k Rpw.z)])]; rfl]; exact U
   refine wla Y O λa Y=>ab<|G19 ?_
   replace U:=U.k7 254 O
   refine aj<|nv (Y.p13 16 19 20 21 22 23 24 25 26 27 29 30 28 O)<|zN O<|zM (aL O O ⟨om,om⟩)<|zO O<|λa Y=>ab ?_
   refine⟨_,?_,k+1,s11,(B++[(F.getD k Rpw.z)]),O,om,(by rw[zS]; show B.length+1≤k+1; omega),bT hBe hlt,bT hBs hes,Y.pick [16,19,20,21,22,23,24,25,26,27,29,28,30],U.select [0,1,2,3,4,5,6] de⟩
   omega
  refine ar<|G19<|aj<|nv Y<|zN O<|zM (aL O O ⟨om,om⟩)<|zO O<|λa Y=>ab ?_
  refine⟨_,?_,k+1,v,B,O,om,om,hBe,hBs,Y.pick [16,19,20,21,22,23,24,25,26,27,29,28,30],U.select [0,1,2,3,4,5,6] de⟩
  omega
 refine aP<|G15<|ah λ_ G21=>?_
 obtain⟨s2,u2,hs2⟩:∃a b,stateH sha keysH kk (1+pl) cg (repsM (R++B)) ((cg.a+pt)+pmo)=(a,b):=⟨_,_,rfl⟩
 refine aH (aI λw31 hxz=>?_)
 replace U:=U.grow hxz
 refine aQ (k:=0) 6 [0,1,2,3,4,5] Y ?_
 replace Y:=Y.p16 16 19 20 21 22 23 24 25 26 27 29 28 30 91 92 93 O
 refine bn [0] (λi=>match i with|0=>pm (λv:Value=>v) (λv=>[own v 9 1 (keysH.map λs=>[sv s])]) (λ_=>True)|_=>λ_ _=>False) 6 [[],[],[],[],[],[]] [undef,sv kk,jv (1+pl),.agg #[jv cg.n,jv cg.h,jv cg.c,jv cg.t,jv cg.a],v,jv ((cg.a+pt)+pmo)] Y U ?_ ?_ ?_
 ·exact BO<|BM (λh=>absurd sm h)<|hqv (au rfl)<|hqv (au rfl)<|hqw (λU=>ap (U.g 5 rfl) rfl (isAgg36 _) (sizeOf36 _))<|hqv (au rfl)<|hqv (au rfl)<|BN
 ·intro i hi
  simp only[zY,Ab,As] at hi
  subst hi
  ·intro w U
   exact dt call18 O (iO _)
 clear Y U
 rintro kv12 _ ⟨_,rfl, -,rfl⟩ a w32 Y U
 replace Y:=Y.p17 112 113 114 115 116 117 16 19 20 21 22 23 24 25 26 27 29 O
 replace U:=U.n8 O
 refine ab<|aJ (k:=6) 8 [7] ?_
 refine ax Y U call17 O (eL (by rw[hs2]) (fU kv12 v keysH kk (1+pl) cg (R++B) ((cg.a+pt)+pmo) _ (U.ow 0 O) (sF (U.ow 3 O) (U.g 5 O) (U.g 2 O) hBs) (va hRp hFp hBs) (sn (q:=cg) hk32 om om C2 om) (U.keepb hk0))) λa w33 Y U=>wlm Y O λa Y=>ab<|aQ (k:=8) 13 [10,12] Y ?_
 replace Y:Fr 251 [(16,_),(19,_),(20,_),(21,_),(22,_),(23,_),(24,_),(25,_),(26,_),(27,_),(29,_),(112,_),(113,_),(114,_),(115,_),(116,_),(117,_),(118,_),(111,_)] [] a:=Y.pick [16,19,20,21,22,23,24,25,26,27,29,112,113,114,115,116,117,118,111]
 refine bI 5 Y U<|pl_v (ak O O)<|pl_v (ak O O)<|pl_v (ak O O)<|pl_v (bX O)<|pl_v (bX O) λa w34 Y U=>?_
 replace Y:=Y.p14 16 19 20 21 22 23 24 25 26 27 29 121 31 32 O
 refine ab<|aJ (k:=13) 14 [13] ?_
 refine wla Y O λa Y=>ab<|aR<|G21<|ah λ_ G22=>aa λ_ G23=>nv Y<|zN O<|zM ((v_ne O O).asb (b':=false) O)<|zN O<|zP (au O)<|zP ((v_ne O O).asb (b':=false) O)<|zM (al O O)<|λa Y=>G23 ?_
 replace Y:=Y.p13 16 19 20 21 22 23 24 25 26 29 31 32 127 O
 replace U:=U.k7 254 O
 refine aG Y O ?_
 refine ar<|G22<|ah λ_ G24=>aa λ_ G25=>nv Y<|zN O<|zM (v_eq O O)<|λa Y=>G25<|az Y O (λhc13=>?_) (λhc13=>?_)
 ·obtain⟨hp1,hp2⟩:=kV hs1 hc13
  refine aa λ_ G26=>nv Y<|zN O<|zM (ac (v:=po w9.hz 4) O kr)<|zM (ld U 5 O O (isAgg3 _) O)<|zM ((v_eq O O).asb (b':=true) Db)<|zN O<|zP (au O)<|zP (ac (v:=po w9.hz 4) O kr)<|zP (ld U 5 O O (isAgg3 _) O)<|zP (au O)<|zP (aL O O ⟨om,om⟩)<|zP ((v_lt O O).asb (b':=true) Db)<|zM (ay O O)<|zN O<|λa Y=>?_
  rcases Decidable.em (s2=1) with hb14|hb14
  ·obtain⟨hp3,hp4⟩:=kV hs2 hb14
   refine nv Y<|zP (au O)<|zP ((v_eq O O).asb (b':=true) Db)<|zP (au O)<|zP (ac (v:=po w9.hz 4) O kr)<|zP (ld U 5 O O (isAgg3 _) O)<|zP ((v_eq O O).asb (b':=true) Db)<|zP (au O)<|zP (au O)<|zP (ac (v:=po w9.hz 4) O kr)<|zP (ld U 5 O O (isAgg3 _) O)<|zP (au O)<|zP (aL O O ⟨om,om⟩)<|zP ((v_lt O O).asb (b':=true) Db)<|zP (ay O O)<|zP (au O)<|zP (au O)<|zP ((v_eq O O).asb (b':=true) Db)<|zP (ay O O)<|zP ((gM O O underlying4).asb (b':=true) sm)<|zM (ay O O)<|zO O<|λa Y=>G26 ?_
   replace Y:=Y.p12 19 20 21 22 23 24 25 26 29 31 32 16 O
   refine aq<|am Y results3 (ae O ag) ?_
   exact⟨O,U.ext⟩
  have hp5:¬s2=1:=hb14
  refine nv Y<|zP (au O)<|zP ((v_eq O O).asb (b':=false) (by exact zW hp5))<|zP (au O)<|zP (ac (v:=po w9.hz 4) O kr)<|zP (ld U 5 O O (isAgg3 _) O)<|zP (v_eq O O)<|zP (au O)<|λa Y=>?_
  rcases Decidable.em (u2=cg.a) with hb15|hb15
  ·rw[zU hb15] at Y
   refine nv Y<|zP (au O)<|zP (ac (v:=po w9.hz 4) O kr)<|zP (ld U 5 O O (isAgg3 _) O)<|zP (au O)<|zP (aL O O ⟨om,om⟩)<|zP (v_lt O O)<|zP (ay O O)<|zP (au O)<|λa Y=>?_
   rcases Decidable.em ((cg.a+pt)+pmo<cg.a+(1+pl)) with hb16|hb16
   ·rw[zU hb16] at Y
    refine nv Y<|zP (au O)<|zP ((v_eq O O).asb (b':=false) (by exact zW hp5))<|zP (ay O O)<|zP ((gM O O underlying4).asb (b':=true) sm)<|zM (ay O O)<|zO O<|λa Y=>G26 ?_
    replace Y:=Y.p12 19 20 21 22 23 24 25 26 29 31 32 16 O
    refine aq<|am Y results3 (ae O ag) ?_
    exact⟨O,U.ext⟩
   rw[zW hb16] at Y
   refine nv Y<|zQ<|zQ<|zP (al O O)<|zP ((gM O O underlying4).asb (b':=true) sm)<|zM (ay O O)<|zO O<|λa Y=>G26 ?_
   replace Y:=Y.p12 19 20 21 22 23 24 25 26 29 31 32 16 O
   refine aq<|am Y results3 (ae O ag) ?_
   exact⟨O,U.ext⟩
  rw[zW hb15] at Y
  refine nv Y<|zQ<|zQ<|zQ<|zQ<|zQ<|zQ<|zP (al O O)<|zP (au O)<|zQ<|zQ<|zP (al O O)<|zP ((gM O O underlying4).asb (b':=true) sm)<|zM (ay O O)<|zO O<|λa Y=>G26 ?_
  replace Y:=Y.p12 19 20 21 22 23 24 25 26 29 31 32 16 O
  refine aq<|am Y results3 (ae O ag) ?_
  exact⟨O,U.ext⟩
 obtain⟨hq1,hq2,hq3,hq4⟩:=rM hBe om om om hs1 hs2 hc13
 refine ar<|G24<|ah λ_ G27=>aa λ_ G28=>nv Y<|zN O<|zN O<|zM ((v_gt O O).asb (b':=false) CI)<|zN O<|zP (au O)<|zP (ac (v:=po w9.hz 4) O kr)<|zP (ld U 5 O O (isAgg3 _) O)<|zP ((v_lt O O).asb (b':=false) CI)<|zM (al O O)<|zN O<|zP (au O)<|zP (au O)<|zP ((v_ne O O).asb (b':=false) (by rw[hq1]; simp))<|zM (al O O)<|zN O<|zP (au O)<|zP (au O)<|zP ((v_ne O O).asb (b':=false) (by rw[hq2]; simp))<|zM (al O O)<|λa Y=>G28 ?_
 replace Y:=Y.p8 16 19 20 21 22 24 29 181 O
 refine aG Y O ?_
 refine ar<|G27<|aa λ_ G29=>aD (E:=52) (sz:=6) O [] kr sm O de de Y U λa w35 Y U=>wlm Y O λa Y=>fE (i:=0) (sT:=38) (inf:=Tryz.t52) (z:=.agg #[jv 0,jv 0,jv 0,.string (⟨#[]⟩),.string (⟨#[]⟩),.slice none 0 0]) O O O (U.ow 4 O) underlying38 O O O O de (by exact sH (U.g 5 O)) B0 B0 de Y U λa w36 s17 Y U=>?_
 replace U:St No w0 [own s17 52 6 ((R).map Rpw.cells),own fv 52 6 ((F).map Rpw.cells),repsE F,own v 52 6 (((R++B)).map Rpw.cells),own rv 52 6 ((R).map Rpw.cells),repsE R,blk w9.hz [jv cg.n,jv cg.h,jv cg.c,jv cg.t,jv cg.a] 36,own dv 55 3 ((dl).map Cas.cells)] w36:=by rw[show ((R).map Rpw.cells)=([])++((R).map Rpw.cells) from (Az _).symm]; exact U
 refine wla Y O λa Y=>G29<|ah λ_ G30=>?_
 refine aa λ_ G31=>wla Y O λa Y=>G31<|aw ?_
 replace U:St No w0 [own s17 52 6 (((R++([]:List Rpw))).map Rpw.cells),own fv 52 6 ((F).map Rpw.cells),repsE F,own v 52 6 (((R++B)).map Rpw.cells),own rv 52 6 ((R).map Rpw.cells),repsE R,blk w9.hz [jv cg.n,jv cg.h,jv cg.c,jv cg.t,jv cg.a] 36,own dv 55 3 ((dl).map Cas.cells)] w36:=by rw[A0]; exact U
 refine aZ (λm a w=>∃(k:Nat) (v:Value) (B:List Rpw) (G:List Rpw),m=F.length- k∧(k≤F.length)∧(G.length=F.length)∧(B.length≤k)∧(∀r∈B,cg.a+(1+pl)≤r.at_)∧(∀r∈B,SubR F r)∧(∀r∈G,SubR F r)∧(∀r∈G, -5≤r.at_∧r.at_≤30000000)∧Fr 251 [(16,.bool false),(19,sv kk),(20,pq w9.hz),(21,rv),(22,jv (1+pl)),(24,jv ((cg.a+pt)+pmo)),(29,fv),(34,v),(35,jv (k:Int))] [] a∧St No w0 [own v 52 6 (((R++B)).map Rpw.cells),own fv 52 6 ((G).map Rpw.cells),repsE F,own rv 52 6 ((R).map Rpw.cells),repsE R,blk w9.hz [jv cg.n,jv cg.h,jv cg.c,jv cg.t,jv cg.a] 36,own dv 55 3 ((dl).map Cas.cells)] w) _ ⟨0,s17,[],F,O,Ah _,O,Ay 0,sm,sm,(λr h=>py h),(λr h=>by have:=hFa r h; omega),Y.pick [16,19,20,21,22,24,29,34,35],U.select [0,1,2,4,5,6,7] de⟩ ?_
 rintro _ a w37 ⟨k,v,B,G,rfl,hk,hGl,hBl,hBt,hBs,hGs,hGa,Y,U⟩
 refine ah λ_ G32=>aa λ_ G33=>nv Y<|zN O<|zN O<|zM ((aK (sT:=38) (U.ow 1 O) O O (runUnderlying38 _)).asi (m':=(G.length:Int)) B9)<|zM (v_lt O O)<|λa Y=>G33<|az Y O (λhc18=>?_) (λhc18=>?_)
 ·have hkx:k<F.length:=by omega
  refine ar<|G32<|ah λ_ G34=>aw<|ah λ_ G35=>?_
  obtain⟨⟨ga,ghd,giv,gL⟩,hge⟩:∃r,G.getD k Rpw.z=r:=⟨_,rfl⟩
  have hgm:=bC (d:=Rpw.z) (l:=G) (i:=k) om
  rw[hge] at hgm
  have hgsr:=hGs _ hgm
  have hga64: -5≤ga∧ga≤30000000:=hGa _ hgm
  have hg5:=ba ga (n:=5) de
  obtain⟨na,hna⟩:∃z,cg.a+(1+pl)+pickI ga 5=z:=⟨_,rfl⟩
  have hes:SubR F (⟨na,ghd,giv,gL⟩:Rpw):=hgsr
  have hge2:(G.set k (⟨na,ghd,giv,gL⟩:Rpw)).getD k Rpw.z=(⟨na,ghd,giv,gL⟩:Rpw):=yl om
  refine aH (aI λw38 hxz=>?_)
  replace U:=U.grow hxz
  refine aQ (k:=0) 13 [0,1,12] Y ?_
  replace Y:=Y.p12 16 19 20 21 22 24 29 34 35 185 186 187 O
  refine bI 13 Y U<|pl_m O<|pl_m O<|pl_v (ac (v:=po w9.hz 4) O kr)<|pl_w (λU=>ld U 5 O O (isAgg3 _) O)<|pl_m O<|pl_v (aL O O ⟨om,om⟩)<|pl_m O<|pl_m O<|pl_w (λU=>(ai (i:=(k:Int)) (sT:=38) (U.ow 1 O) O O (runUnderlying38 _) (sizeOf52 _) om BQ).as (v':=slAddr fv (k*6)) O)<|pl_w (λU=>bA (k:=k*6) (j:=0) (U.ow 1 O) (i:=k) BQ O (λ_ _=>by kernel_rfl))<|pl_w (λU=>aA (u:=jv ga) (i:=k) (j:=0) (U.ow 1 O) BQ O (isAgg3 _) (by rw[aX Rpw.z,hge]; rfl)) ?_
  refine pl_r (λU=>bD call16 O (ge ga 5 _ ⟨om,om⟩ ⟨om,om⟩))<|pl_v (aL O O ⟨om,om⟩) λa w39 Y U=>?_
  replace Y:=Y.p12 16 19 20 21 22 24 29 34 35 191 192 203 O
  refine ab<|aJ (k:=13) 16 [15] ?_
  refine nv Y<|zM ((ai (i:=(k:Int)) (sT:=38) (U.ow 1 O) O O (runUnderlying38 _) (sizeOf52 _) om BQ).as (v':=slAddr fv (k*6)) O)<|zM (bA (k:=k*6) (j:=0) (U.ow 1 O) (i:=k) BQ O (λ_ _=>by kernel_rfl))<|λa Y=>eM (u:=jv na) (k:=k) (j:=0) (els':=(((G.set k (⟨na,ghd,giv,gL⟩:Rpw))).map Rpw.cells)) 1 Y U O (by rw[←hna]; rfl) O BQ om (sizeOf3 _) DA (lb O) (zk (e:=(⟨na,ghd,giv,gL⟩:Rpw)) _ (by rw[hge])) O λa w40 Y U=>?_
  have hgl2:(G.set k (⟨na,ghd,giv,gL⟩:Rpw)).length=F.length:=by rw[Bl]; exact hGl
  have hgs2:=yU (k:=k) hGs hes
  have hga2:∀r∈(G.set k (⟨na,ghd,giv,gL⟩:Rpw)), -5≤r.at_∧r.at_≤30000000:=xN hGa (show-5≤na∧na≤30000000 by omega)
  refine ab<|aR<|G35<|aj<|nv Y<|zN O<|zN O<|zN O<|zM ((ai (i:=(k:Int)) (sT:=38) (U.ow 1 O) O O (runUnderlying38 _) (sizeOf52 _) om BQ).as (v':=slAddr fv (k*6)) O)<|zM ((bN (U.ow 1 O) (i:=k) BQ O (isAgg52 _) (sizeOf52 _)).as (v':=.agg #[jv na,jv ghd.c,jv ghd.n,sv ghd.root,sv ghd.tag,giv]) (by rw[aX Rpw.z,hge2]; rfl))<|λa Y=>aD (E:=52) (sz:=6) O [[jv na,jv ghd.c,jv ghd.n,sv ghd.root,sv ghd.tag,giv]] kr sm O de de Y U λa w41 Y U=>?_
  refine aY (i:=1) (sT:=38) (inf:=Tryz.t52) (z:=.agg #[jv 0,jv 0,jv 0,.string (⟨#[]⟩),.string (⟨#[]⟩),.slice none 0 0]) (b:=0) (off:=0) (m:=0) (c:=0) O O O (U.ow 0 O) sm underlying38 O O O O de (by exact sE (U.g 3 O) hes) B0 B0 de Y U λa w42 s19 Y U _=>?_
  replace U:St No w0 [own (.slice (some ⟨w40.hz,0,none⟩) 1 1) 52 6 ([[jv na,jv ghd.c,jv ghd.n,sv ghd.root,sv ghd.tag,giv]]),own s19 52 6 (((R++(B++[(⟨na,ghd,giv,gL⟩:Rpw)]))).map Rpw.cells),own fv 52 6 (((G.set k (⟨na,ghd,giv,gL⟩:Rpw))).map Rpw.cells),repsE F,own rv 52 6 ((R).map Rpw.cells),repsE R,blk w9.hz [jv cg.n,jv cg.h,jv cg.c,jv cg.t,jv cg.a] 36,own dv 55 3 ((dl).map Cas.cells)] w42:=by rw[show (((R++(B++[(⟨na,ghd,giv,gL⟩:Rpw)]))).map Rpw.cells)=(((R++B)).map Rpw.cells)++([[jv na,jv ghd.c,jv ghd.n,sv ghd.root,sv ghd.tag,giv]]) from by rw[←Aw,AH (l₂:=[(⟨na,ghd,giv,gL⟩:Rpw)])]; rfl]; exact U
  refine wla Y O λa Y=>ab<|G34 ?_
  replace U:=U.k7 254 O
  refine aj<|nv (Y.p9 16 19 20 21 22 24 29 35 34 O)<|zN O<|zM (aL O O ⟨om,om⟩)<|zO O<|λa Y=>ab ?_
  refine⟨_,?_,k+1,s19,(B++[(⟨na,ghd,giv,gL⟩:Rpw)]),(G.set k (⟨na,ghd,giv,gL⟩:Rpw)),O,om,hgl2,(by rw[zS]; show B.length+1≤k+1; omega),bT hBt (show cg.a+(1+pl)≤na from by omega),bT hBs hes,hgs2,hga2,Y.pick [16,19,20,21,22,24,29,34,35],U.select [0,1,2,3,4,5,6] de⟩
  omega
 refine aP<|G30<|ah λ_ G36=>?_
 obtain⟨s3,u3,hs3⟩:∃a b,stateH sha keysH kk (1+pl) cg (repsM (R++B)) ((cg.a+pt)+pmo)=(a,b):=⟨_,_,rfl⟩
 refine aH (aI λw43 hxz=>?_)
 replace U:=U.grow hxz
 refine aQ (k:=0) 6 [0,1,2,3,4,5] Y ?_
 replace Y:=Y.p12 16 19 20 21 22 24 29 34 35 185 186 187 O
 refine bn [0] (λi=>match i with|0=>pm (λv:Value=>v) (λv=>[own v 9 1 (keysH.map λs=>[sv s])]) (λ_=>True)|_=>λ_ _=>False) 6 [[],[],[],[],[],[]] [undef,sv kk,jv (1+pl),.agg #[jv cg.n,jv cg.h,jv cg.c,jv cg.t,jv cg.a],v,jv ((cg.a+pt)+pmo)] Y U ?_ ?_ ?_
 ·exact BO<|BM (λh=>absurd sm h)<|hqv (au rfl)<|hqv (au rfl)<|hqw (λU=>ap (U.g 5 rfl) rfl (isAgg36 _) (sizeOf36 _))<|hqv (au rfl)<|hqv (au rfl)<|BN
 ·intro i hi
  simp only[zY,Ab,As] at hi
  subst hi
  ·intro w U
   exact dt call18 O (iO _)
 clear Y U
 rintro kv20 _ ⟨_,rfl, -,rfl⟩ a w44 Y U
 replace Y:=Y.p12 214 215 216 217 218 219 16 19 20 21 22 24 O
 replace U:=U.n8 O
 refine ab<|aJ (k:=6) 8 [7] ?_
 refine ax Y U call17 O (eL (by rw[hs3]) (fU kv20 v keysH kk (1+pl) cg (R++B) ((cg.a+pt)+pmo) _ (U.ow 0 O) (sF (U.ow 1 O) (U.g 5 O) (U.g 3 O) hBs) (va hRp hFp hBs) (sn (q:=cg) hk32 om om C2 om) (U.keepb hk0))) λa w45 Y U=>wlm Y O λa Y=>ab<|aQ (k:=8) 13 [10,12] Y ?_
 refine bI 5 (Y.p14 16 19 20 21 22 24 214 215 216 217 218 219 220 213 O) U<|pl_v (ak O O)<|pl_v (ak O O)<|pl_v (ak O O)<|pl_v (bX O)<|pl_v (bX O) λa w46 Y U=>?_
 replace Y:=Y.p9 16 19 20 21 22 24 223 36 37 O
 refine ab<|aJ (k:=13) 14 [13] ?_
 refine wla Y O λa Y=>ab<|aR<|G36<|ah λ_ G37=>?_
 obtain⟨s4,u4,hs4⟩:∃a b,stateH sha keysH kk (1+pl) cg (repsM R) ((cg.a+pt)+pmo)=(a,b):=⟨_,_,rfl⟩
 obtain⟨he1,he2⟩:=o0 hBt hs3 hs4
 refine aH (aI λw47 hxz=>?_)
 replace U:=U.grow hxz
 refine aQ (k:=0) 6 [0,1,2,3,4,5] Y ?_
 replace Y:=Y.p10 16 19 20 21 22 24 223 36 37 38 O
 refine bn [0] (λi=>match i with|0=>pm (λv:Value=>v) (λv=>[own v 9 1 (keysH.map λs=>[sv s])]) (λ_=>True)|_=>λ_ _=>False) 6 [[],[],[],[],[],[]] [undef,sv kk,jv (1+pl),.agg #[jv cg.n,jv cg.h,jv cg.c,jv cg.t,jv cg.a],rv,jv ((cg.a+pt)+pmo)] Y U ?_ ?_ ?_
 ·exact BO<|BM (λh=>absurd sm h)<|hqv (au rfl)<|hqv (au rfl)<|hqw (λU=>ap (U.g 6 rfl) rfl (isAgg36 _) (sizeOf36 _))<|hqv (au rfl)<|hqv (au rfl)<|BN
 ·intro i hi
  simp only[zY,Ab,As] at hi
  subst hi
  ·intro w U
   exact dt call18 O (iO _)
 clear Y U
 rintro kv21 _ ⟨_,rfl, -,rfl⟩ a w48 Y U
 replace Y:=Y.p10 225 226 227 228 229 230 16 36 37 38 O
 replace U:=U.n9 O
 refine ab<|aJ (k:=6) 8 [7] ?_
 refine ax Y U call17 O (eL (by rw[hs4]) (fU kv21 rv keysH kk (1+pl) cg R ((cg.a+pt)+pmo) _ (U.ow 0 O) (wZ (U.ow 5 O) (U.g 6 O)) hRp (sn (q:=cg) hk32 om om C2 om) (U.keepb hk0))) λa w49 Y U=>wlm Y O λa Y=>ab<|aQ (k:=8) 13 [10,12] Y ?_
 refine bI 5 (Y.p12 16 36 37 38 225 226 227 228 229 230 231 224 O) U<|pl_v (ak O O)<|pl_v (ak O O)<|pl_v (ak O O)<|pl_v (bX O)<|pl_v (bX O) λa w50 Y U=>?_
 replace Y:=Y.p7 16 36 37 38 234 39 40 O
 refine ab<|aJ (k:=13) 14 [13] ?_
 refine wla Y O λa Y=>ab<|aR<|G37<|aa λ_ G38=>nv Y<|zN O<|zM ((v_eq O O).asb (b':=true) O)<|zN O<|zP (au O)<|zP ((v_eq O O).asb (b':=true) O)<|zM (ay O O)<|zN O<|zP (au O)<|zP (au O)<|zP ((v_eq O O).asb (b':=true) (by rw[he1]; simp))<|zM (ay O O)<|zN O<|zP (au O)<|zP (au O)<|zP ((v_eq O O).asb (b':=true) (by rw[he2]; simp))<|zM (ay O O)<|zO O<|λa Y=>G38 ?_
 replace Y:=Y.p1 16 O
 replace U:=U.k6 380 O
 refine aq<|am Y results3 (ae O ag) ?_
 exact⟨O,U.ext⟩
end Go.Proofs.YtliklcmddmpdfaaGreatDoor
