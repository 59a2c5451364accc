/- Texts joined: RclE, RclF, RclG, RclH. -/
import Derived.Test.YtliklcmddmpdfaaGreatDoorPSH
import Derived.Test.YtliklcmddmpdfaaGreatDoorPSC
import Derived.Test.YtliklcmddmpdfaaGreatDoorPSD
import Derived.Test.YtliklcmddmpdfaaGreatDoorPSA
set_option linter.unusedVariables false
set_option linter.unusedSimpArgs false
set_option maxRecDepth 4000
set_option maxHeartbeats 4000000
namespace Go.Proofs.YtliklcmddmpdfaaGreatDoor
open Go.RowKit Go.PW _root_.Go.Proofs.Tryz
theorem ew {p:Rpl→Bool} {o:Option Int} {r:Rpl} (h:p r=false):nextO p o r=o:=by unfold nextO; rw[h]; rfl
theorem wo {p:Rpl→Bool} {o:Option Int} {r:Rpl} (h:p r=true) (ho:o.isSome=false):nextO p o r=some r.at_:=by
 cases o with
 | none=>unfold nextO; rw[h]; rfl
 | some b=>cases ho
theorem uV {p:Rpl→Bool} {o:Option Int} {r:Rpl} (h:p r=true) (hl:r.at_<o.getD 0):nextO p o r=some r.at_:=by
 cases o with
 | none=>unfold nextO; rw[h]; rfl
 | some b=>
  have hl:r.at_<b:=hl;unfold nextO; rw[h,show lessO (some b) r.at_=true from AQ hl]; rfl
theorem zj {p:Rpl→Bool} {o:Option Int} {r:Rpl} (ho:o.isSome=true) (hl:¬r.at_<o.getD 0):nextO p o r=o:=by
 cases o with
 | none=>cases ho
 | some b=>
  have hl:¬r.at_<b:=hl;unfold nextO; rw[show lessO (some b) r.at_=false from AV hl,Bx]; rfl
def repsM (R:List Rpw):List Rpl:=R.map Rpw.m
theorem ve {R:List Rpw} {k:Nat} (h:k<R.length):(repsM R).drop k=(R.getD k Rpw.z).m::(repsM R).drop (k+1):=by
 unfold repsM;have h':k<(R.map Rpw.m).length:=by rw[AP]; exact h
 rw[BK h',Ch,AY,A2 h]; rfl
theorem cN {p:Rpl→Bool} {o o2:Option Int} {R:List Rpw} {k:Nat} {r:Rpw} (hk:k<R.length) (hx:R.getD k Rpw.z=r) (hf:firstF p none (repsM R)=firstF p o ((repsM R).drop k)) (hn:nextO p o r.m=o2):firstF p none (repsM R)=firstF p o2 ((repsM R).drop (k+1)):=by
 rw[hf,ve hk,hx,←hn]; rfl
section
variable {ko bo:Option Int} {q:Chg} {en t:Int}
theorem fC (h:bo.isSome=true) (h2:ko.isSome=false):pickS ko bo q en t=(3,bo.getD 0):=by cases bo<;>cases ko<;>simp_all [pickS]
theorem fJ (h:bo.isSome=true) (h2:ko.isSome=true) (h3:bo.getD 0≤ko.getD 0):pickS ko bo q en t=(3,bo.getD 0):=by cases bo<;>cases ko<;>simp_all [pickS]
theorem fI (h:bo.isSome=false) (h2:ko.isSome=true):pickS ko bo q en t=(2,ko.getD 0):=by cases bo<;>cases ko<;>simp_all [pickS]
theorem fG (h:bo.isSome=true) (h2:ko.isSome=true) (h3:¬bo.getD 0≤ko.getD 0):pickS ko bo q en t=(2,ko.getD 0):=by
 cases bo<;>cases ko<;>simp_all [pickS]
theorem gI (h:bo.isSome=false) (h2:ko.isSome=false) (h3:en≤t):pickS ko bo q en t=(3,en):=by cases bo<;>cases ko<;>simp_all [pickS]
theorem gF (h:bo.isSome=false) (h2:ko.isSome=false) (h3:¬en≤t):pickS ko bo q en t=(1,q.a):=by
 cases bo<;>cases ko<;>simp_all [pickS]
end
theorem tF {q:Chg} (h:q.ok=true):(0≤q.h∧q.h≤63)∧(0≤q.c∧q.c≤7)∧(0≤q.n∧q.n≤99999999)∧(0≤q.a∧q.a≤10000000)∧0≤q.t∧q.t≤q.a:=by
 simp only[Chg.ok,inB,AU,AZ] at h; omega
theorem na {key:By} {lim t:Int} {q:Chg} {n:Nat} (h:dV key lim q n t=true):key.length=32∧(1≤lim∧lim≤1000000)∧q.ok=true∧n≤10∧q.a≤t∧t≤11000000:=by
 simp only[dV,inB,AU,AZ] at h;exact⟨h.1.1.1.1,h.1.1.1.2,h.1.1.2,h.1.2,h.2⟩
theorem uQ (key:By) (hd:Hd) (c:Int) (lv:Value) (l:List Cas) (w0:World) (hlv:SlAt w0 lv 3 (l.map Cas.cells)) (hk32:key.length=32) (hdoc:docOk c l=true) (hhd:hdOf sha key c (entC l) l.length=hd) (hk0:(blk 0 (kOf.map wv) 258).ok w0):
  Ff 23 #[sv key,.agg #[jv c,lv]] w0 (.tuple #[.agg #[jv hd.c,jv hd.n,sv hd.root,sv hd.tag],jv 0]):=by
 have hll:=hU hdoc;have hcb:=eZ hdoc;have hreg:=gu hdoc;refine Cx func23 O ntmps23 (lb O) λa Y U=>aa λG1=>aR Y U O [jv c,lv] O λa w1 Y U=>aE Y U (zeroValue47 _) [jv 0,jv 0,.string (⟨#[]⟩),.string (⟨#[]⟩)] O λa w2 Y U=>wla Y O λa Y=>G1<|ah λG2=>aa λG3=>wlv Y (ar (U.g 1 O) O (isAgg32 _) (sizeOf32 _)) λa Y=>au Y U call31 O (cj hdoc (ll c lv l _ (U.arg hlv))) λa w3 Y U=>wlv Y ((bd O).asb (b':=false) O) λa Y=>G3<|aJ Y O ?_;refine ap<|G2<|ah λG4=>aL (aM λw4 hxz=>?_);replace U:=U.grow hxz;refine aP (k:=0) 12 [9,11] Y ?_;replace Y:=Y.p8 0 1 3 4 5 8 9 10 O;refine eL 10 11 47 [jv 0,jv 0,.string (⟨#[]⟩),.string (⟨#[]⟩)] [jv hd.c,jv hd.n,sv hd.root,sv hd.tag] 12 [[],[],[1],[],[3],[4],[0,2,5],[6],[7],[7],[],[8,10]] (λi=>match i with|0=>pv (sv key)|1=>pv (.agg #[jv c,lv])|2=>pm (λv:Value=>.agg #[jv c,v]) (λv=>[own v 9 1 ((entC l).map λs=>[sv s])]) (λ_=>True)|3=>pv (po w0.hz 1)|4=>pv (lv)|5=>pv (jv (l.length:Int))|6=>pv (.tuple #[.agg #[jv hd.c,jv hd.n,sv hd.root,sv hd.tag],jv 0])|7=>pv (.tuple #[.agg #[jv hd.c,jv hd.n,sv hd.root,sv hd.tag],jv 0])|8=>pv (.agg #[jv hd.c,jv hd.n,sv hd.root,sv hd.tag])|9=>pv (jv 0)|10=>λv E=>∃b,v=ptr b∧E=[]|11=>λv E=>v=undef∧E=[]|_=>λ_ _=>False) Y (H:=[blk w1.hz [jv 0,jv 0,.string (⟨#[]⟩),.string (⟨#[]⟩)] 47,blk w0.hz [jv c,lv] 32]) U kr kr kr kr de de de de de ?_ (λv E h=>h) ⟨O,O⟩ (λv E=>Iff.rfl) ?_ ?_ ?_ ?_
 ·intro i v E h
  match i,h with
  | 0,_=>exact by decide
  | 1,_=>exact by decide
  | 2,_=>exact by decide
  | 3,_=>exact by decide
  | 4,_=>exact by decide
  | 5,_=>exact by decide
  | 6,_=>exact by decide
  | 7,_=>exact by decide
  | 8,_=>exact by decide
  | 9,_=>exact by decide
  | 10,_=>exact by decide
  | 11,_=>exact by decide
  | i+12,h=>exact h.elim
 ·intro i hi hia hij e
  match i,hi,hia,hij with
  | 0,_,_,_=>exact λw U=>OpV.g (ax O)
  | 1,_,_,_=>exact λw U=>OpV.g (ar (U.g 2 O) O (isAgg32 _) (sizeOf32 _))
  | 2,_,_,_=>
   rintro _ _ ⟨rfl,rfl⟩;intro w U;exact eo call72 O (tH c lv l _ (U.arg hlv) om)
  | 3,_,_,_=>exact λw U=>OpV.g (ac (v:=po w0.hz 1) O kr)
  | 4,_,_,_=>
   rintro _ _ ⟨rfl,rfl⟩;intro w U;exact OpV.g (ld U 2 O O (isAgg30 _) O)
  | 5,_,_,_=>
   rintro _ _ ⟨rfl,rfl⟩;intro w U;exact OpV.g ((aH (sT:=30) (U.arg hlv) O O (runUnderlying30 _)).asi (m':=(l.length:Int)) CU)
  | 6,_,_,_=>
   rintro _ _ ⟨rfl,rfl⟩ _ _ ⟨ev2,rfl, -,rfl⟩ _ _ ⟨rfl,rfl⟩;intro w U;exact bu call73 O (nS key l.length hd c ev2 (entC l) _ (U.ow 0 O) hk32 hreg Ev hhd (U.keepb hk0))
  | 7,_,_,_=>
   rintro _ _ ⟨rfl,rfl⟩;intro w U;exact OpV.g (ax O)
  | 8,_,_,_=>
   rintro _ _ ⟨rfl,rfl⟩;intro w U;exact OpV.g (aj O O)
  | 9,_,_,_=>
   rintro _ _ ⟨rfl,rfl⟩;intro w U;exact OpV.g (aj O O)
  | 10,_,h,_=>exact absurd O h
  | 11,_,_,h=>exact absurd O h
  | i+12,h,_,_=>exact absurd h om
 ·exact λLv w=>eY (zeroValue47 _)
 ·rintro _ _ ⟨rfl,rfl⟩ _ _ ⟨b1,rfl,rfl⟩;intro b hb w h;have hb:some (ptr b1)=some (ptr b):=hb;cases hb;exact dG O O h (sizeOf47 _) O (lb O) O
 clear Y U;rintro bq _ _ ⟨⟨rfl,rfl⟩, -⟩ _ _ ⟨⟨rfl,rfl⟩, -⟩ _ _ ⟨⟨ev2,rfl, -,rfl⟩, -⟩ _ _ ⟨⟨rfl,rfl⟩, -⟩ _ _ ⟨⟨rfl,rfl⟩, -⟩ _ _ ⟨⟨rfl,rfl⟩, -⟩ _ _ ⟨⟨rfl,rfl⟩, -⟩ _ _ ⟨⟨rfl,rfl⟩, -⟩ _ _ ⟨⟨rfl,rfl⟩, -⟩ _ _ ⟨⟨rfl,rfl⟩, -⟩ _ _ ⟨⟨b1,rfl,rfl⟩,hva⟩ a w5 Y U;obtain rfl:b1=bq:=gp (hva rfl);replace Y:Fr 26 [(13,_),(14,_),(15,_),(16,_),(17,_),(18,_),(19,_),(12,_),(20,_),(21,_),(6,_),(0,_),(1,_),(3,_),(4,_),(5,_),(8,_),(9,_),(10,_)] [] a:=Y
 try dsimp only at U
 replace U:=U.n4 O;refine ab<|aI (k:=12) 13 [12] ?_;refine wla Y O λa Y=>ab<|aO<|G4 ?_;replace U:=U.k2 6 O;refine ah λG5=>aa λG6=>nv (Y.p4 4 5 6 7 O)<|AL O<|AK ((v_ne O O).asb (b':=false) O)<|λa Y=>G6<|aJ Y O ?_;refine ap<|G5<|aa λG7=>wlv Y (ar (U.g 0 O) O (isAgg47 _) (sizeOf47 _)) λa Y=>aA 1 Y U [jv hd.c,jv hd.n,sv hd.root,sv hd.tag] O (sizeOf47 _) λa w6 Y U=>wla Y O λa Y=>G7<|ao<|am Y results23 (aB O (bA (U.g 1 O) (isAgg47 _) (sizeOf47 _)) (ae O ag)) ?_;exact⟨by rfl,U.ext⟩
theorem f7 (key:By) (hd:Hd) (c:Int) (lv:Value) (l:List Cas) (num:Int) (w0:World) (hlv:SlAt w0 lv 3 (l.map Cas.cells)) (hk32:key.length=32) (hdoc:docOk c l=true) (hhd:hdOf sha key c (entC l) l.length=hd) (hnum:0≤num∧num≤99999999) (hk0:(blk 0 (kOf.map wv) 258).ok w0):
  Ret Tryz.prog 22 #[sv key,.agg #[jv c,lv],jv num] w0 (MemR w0 (λx:Value × List Itw=>.tuple #[(EU hd x.1),jv 0]) (λx=>[itsE x.1 x.2]) (λx=>itsM x.2=showIs sha (entC l) l.length (ansIx l num))):=by
 have hll:=hU hdoc;have hcb:=eZ hdoc;have hreg:=gu hdoc;have hle:=ic num l;have hle9:=tU l num;refine CB func22 O ntmps22 (lb O) λa Y U=>aa λG1=>aR Y U O [jv c,lv] O λa w1 Y U=>aE Y U (zeroValue50 _) E8 O λa w2 Y U=>wla Y O λa Y=>G1<|ah λG2=>aa λG3=>wlv Y (ar (U.g 1 O) O (isAgg32 _) (sizeOf32 _)) λa Y=>au Y U call31 O (cj hdoc (ll c lv l _ (U.arg hlv))) λa w3 Y U=>nv Y<|AK ((bd O).asb (b':=false) O)<|AL O<|AN (ax O)<|λa Y=>aF Y U call49 O (cj (show inB num 0 99999999=true from by simp only[inB,AU,AZ]; omega) (da num 0 99999999 _)) λa w4 Y U=>nv Y<|AN ((bd O).asb (b':=false) O)<|AK (ak O O)<|λa Y=>G3 ?_;replace Y:=Y.p6 0 2 4 6 7 22 O;refine aJ Y O ?_;refine ap<|G2<|aa λG4=>nv Y<|AK (ac (v:=po w0.hz 1) O kr)<|AK (ld U 1 O O (isAgg30 _) O)<|AL O<|λa Y=>au Y U call70 O (sB lv l num _ (U.arg hlv) (ie hdoc) hnum) λa w5 Y U=>nv Y<|AL O<|AK (aj O O)<|AK (aj O O)<|AM O<|AM O<|λa Y=>G4 ?_;refine aa λG5=>wla (Y.p6 0 4 6 7 8 9 O) O λa Y=>G5<|ah λG6=>aa λG7=>wlm Y O λa Y=>G7<|dQ (λa w=>∃(av:Value),Fr 67 [(0,sv key),(4,pq w0.hz),(6,pq w1.hz),(7,jv 0),(10,av)] [] a∧St No w0 [own av 3 1 ((ansIx l num).map λn=>[jv n]),blk w1.hz E8 50,blk w0.hz [jv c,lv] 32] w) ?_ ?_
 ·refine bn Y O (λhc1=>?_) (λhc1=>?_)
  ·have hhit:=hc1;refine al<|wlm Y O λa Y=>aG (E:=3) (sz:=1) O [[jv (lowC num l:Int)]] kr sm O de de Y U λa w6 Y U=>wla Y O λa Y=>ab ?_;replace U:St No w0 [own (.slice (some ⟨w5.hz,0,none⟩) 1 1) 3 1 ((ansIx l num).map λn=>[jv n]),blk w1.hz E8 50,blk w0.hz [jv c,lv] 32] w6:=by rw[show ansIx l num=[(lowC num l:Int)] from Bi hhit]; exact U
   exact⟨(.slice (some ⟨w5.hz,0,none⟩) 1 1),Y.pick [0,4,6,7,10],U.select [0,1,2] de⟩
  have hhit:=hc1;refine aa λG8=>nv Y<|AL O<|AK (bF O O ⟨om,om⟩)<|AL O<|AK (aW (v:=.agg #[jv ((lowC num l:Int)- 1),jv (lowC num l:Int)]) O kr)<|AL O<|λa Y=>G8 ?_;replace Y:=Y.p7 0 4 6 7 10 37 38 O;refine aw<|eA 4 ?_;refine bS<|aa λG9=>wlv Y ((v_lt O O).asb (b':=true) O) λa Y=>G9<|ah λG10=>aC Y O ?_;refine ap<|G10<|ah λG11=>aw<|aa λG12=>nv Y<|AK (cy (v:=jv ((lowC num l:Int)- 1)) O O kr)<|AM O<|λa Y=>G12<|aa λG13=>nv Y<|AL O<|AK (ac (v:=po w0.hz 1) O kr)<|AK (ld U 1 O O (isAgg30 _) O)<|AK ((aH (sT:=30) (U.arg hlv) O O (runUnderlying30 _)).asi (m':=(l.length:Int)) CU)<|AK (bF O O ⟨om,om⟩)<|λa Y=>au Y U call49 O (da ((lowC num l:Int)- 1) 0 ((l.length:Int)- 1) _) λa w7 Y U=>G13 ?_;replace Y:=Y.p9 0 4 6 7 10 37 38 12 46 O;refine bn Y O (λhc2=>?_) (λhc2=>?_)
  ·have hb1:0<lowC num l:=by have h9:=hc2; simp only[inB,AU,AZ] at h9; omega
   refine al<|nv Y<|AL O<|AL O<|λa Y=>aG (E:=3) (sz:=1) O [[jv ((lowC num l:Int)- 1)]] kr sm O de de Y U λa w8 Y U=>?_;replace U:St No w0 (own (.slice none 0 0) 3 1 []::[_,_,_]) w8:=U.nil_own;refine bc (i:=0) (sT:=24) (inf:=Tryz.t3) (z:=jv 0) (b:=0) (off:=0) (m:=0) (c:=0) O O O (U.ow 1 O) sm underlying24 O O O O de CK CM CM de Y U λa w9 s3 Y U _=>wla Y O λa Y=>ab<|G11 ?_;replace U:=U.k3 13 O;refine al<|nv (Y.p7 0 4 6 7 37 38 10 O)<|AK ((aK O O de).asi (m':=1) O)<|AL O<|λa Y=>ab<|bS<|aa λG14=>wlv Y ((v_lt O O).asb (b':=true) O) λa Y=>G14<|ah λG15=>aC Y O ?_;refine ap<|G15<|ah λG16=>aw<|aa λG17=>nv Y<|AK (cy (v:=jv (lowC num l:Int)) O O kr)<|AM O<|λa Y=>G17<|aa λG18=>nv Y<|AL O<|AK (ac (v:=po w0.hz 1) O kr)<|AK (ld U 2 O O (isAgg30 _) O)<|AK ((aH (sT:=30) (U.arg hlv) O O (runUnderlying30 _)).asi (m':=(l.length:Int)) CU)<|AK (bF O O ⟨om,om⟩)<|λa Y=>au Y U call49 O (da (lowC num l:Int) 0 ((l.length:Int)- 1) _) λa w10 Y U=>G18 ?_;replace Y:=Y.p9 0 4 6 7 37 10 38 12 46 O;refine bn Y O (λhc4=>?_) (λhc4=>?_)
   ·have hb2:lowC num l<l.length:=by have h9:=hc4; simp only[inB,AU,AZ] at h9; omega
    refine al<|nv Y<|AL O<|AL O<|λa Y=>aG (E:=3) (sz:=1) O [[jv (lowC num l:Int)]] kr sm O de de Y U λa w11 Y U=>bc (i:=1) (sT:=24) (inf:=Tryz.t3) (z:=jv 0) (b:=0) (off:=0) (m:=0) (c:=0) O O O (U.ow 0 O) sm underlying24 O O O O de CK CM CM de Y U λa w12 s5 Y U _=>wla Y O λa Y=>ab<|G16 ?_;replace U:=U.k3 14 O;refine al<|nv (Y.p7 0 4 6 7 37 38 10 O)<|AK ((aK O O de).asi (m':=2) O)<|AL O<|λa Y=>ab<|bS<|aa λG19=>wlv Y ((v_lt O O).asb (b':=false) O) λa Y=>G19<|ah λG20=>aJ Y O ?_;refine aN ?_;replace U:St No w0 [own s5 3 1 ((ansIx l num).map λn=>[jv n]),blk w1.hz E8 50,blk w0.hz [jv c,lv] 32] w12:=by rw[show ansIx l num=[((lowC num l:Int)- 1),(lowC num l:Int)] from by unfold ansIx; rw[Bc (by rw[hhit]; decide),Bi hb1,Bi hb2]; rfl]; exact U
    exact⟨s5,Y.pick [0,4,6,7,10],U.select [0,1,2] de⟩
   have hb2:¬lowC num l<l.length:=by have h9:=hc4; simp only[inB,A7,Bn] at h9; omega
   refine ap<|G16<|al<|nv Y<|AK ((aK O O de).asi (m':=2) O)<|AL O<|λa Y=>ab<|bS<|aa λG21=>wlv Y ((v_lt O O).asb (b':=false) O) λa Y=>G21<|ah λG22=>aJ Y O ?_;refine aN ?_;replace U:St No w0 [own s3 3 1 ((ansIx l num).map λn=>[jv n]),blk w1.hz E8 50,blk w0.hz [jv c,lv] 32] w10:=by rw[show ansIx l num=[((lowC num l:Int)- 1)] from by unfold ansIx; rw[Bc (by rw[hhit]; decide),Bi hb1,Bc hb2]; rfl]; exact U
   exact⟨s3,Y.pick [0,4,6,7,10],U.select [0,1,2] de⟩
  have hb1:¬0<lowC num l:=by have h9:=hc2; simp only[inB,A7,Bn] at h9; omega
  refine ap<|G11<|al<|nv Y<|AK ((aK O O de).asi (m':=1) O)<|AL O<|λa Y=>ab<|bS<|aa λG23=>wlv Y ((v_lt O O).asb (b':=true) O) λa Y=>G23<|ah λG24=>aC Y O ?_;refine ap<|G24<|ah λG25=>aw<|aa λG26=>nv Y<|AK (cy (v:=jv (lowC num l:Int)) O O kr)<|AM O<|λa Y=>G26<|aa λG27=>nv Y<|AL O<|AK (ac (v:=po w0.hz 1) O kr)<|AK (ld U 1 O O (isAgg30 _) O)<|AK ((aH (sT:=30) (U.arg hlv) O O (runUnderlying30 _)).asi (m':=(l.length:Int)) CU)<|AK (bF O O ⟨om,om⟩)<|λa Y=>au Y U call49 O (da (lowC num l:Int) 0 ((l.length:Int)- 1) _) λa w13 Y U=>G27 ?_;replace Y:=Y.p9 0 4 6 7 10 37 38 12 46 O;refine bn Y O (λhc6=>?_) (λhc6=>?_)
  ·have hb2:lowC num l<l.length:=by have h9:=hc6; simp only[inB,AU,AZ] at h9; omega
   refine al<|nv Y<|AL O<|AL O<|λa Y=>aG (E:=3) (sz:=1) O [[jv (lowC num l:Int)]] kr sm O de de Y U λa w14 Y U=>?_;replace U:St No w0 (own (.slice none 0 0) 3 1 []::[_,_,_]) w14:=U.nil_own;refine bc (i:=0) (sT:=24) (inf:=Tryz.t3) (z:=jv 0) (b:=0) (off:=0) (m:=0) (c:=0) O O O (U.ow 1 O) sm underlying24 O O O O de CK CM CM de Y U λa w15 s7 Y U _=>wla Y O λa Y=>ab<|G25 ?_;replace U:=U.k3 13 O;refine al<|nv (Y.p7 0 4 6 7 37 38 10 O)<|AK ((aK O O de).asi (m':=2) O)<|AL O<|λa Y=>ab<|bS<|aa λG28=>wlv Y ((v_lt O O).asb (b':=false) O) λa Y=>G28<|ah λG29=>aJ Y O ?_;refine aN ?_;replace U:St No w0 [own s7 3 1 ((ansIx l num).map λn=>[jv n]),blk w1.hz E8 50,blk w0.hz [jv c,lv] 32] w15:=by rw[show ansIx l num=[(lowC num l:Int)] from by unfold ansIx; rw[Bc (by rw[hhit]; decide),Bc hb1,Bi hb2]; rfl]; exact U
   exact⟨s7,Y.pick [0,4,6,7,10],U.select [0,1,2] de⟩
  have hb2:¬lowC num l<l.length:=by have h9:=hc6; simp only[inB,A7,Bn] at h9; omega
  refine ap<|G25<|al<|nv Y<|AK ((aK O O de).asi (m':=2) O)<|AL O<|λa Y=>ab<|bS<|aa λG30=>wlv Y ((v_lt O O).asb (b':=false) O) λa Y=>G30<|ah λG31=>aJ Y O ?_;refine aN ?_;replace U:St No w0 [own (.slice none 0 0) 3 1 ([]),blk w1.hz E8 50,blk w0.hz [jv c,lv] 32] w13:=U.nil_own;replace U:St No w0 [own (.slice none 0 0) 3 1 ((ansIx l num).map λn=>[jv n]),blk w1.hz E8 50,blk w0.hz [jv c,lv] 32] w13:=by rw[show ansIx l num=[] from by unfold ansIx; rw[Bc (by rw[hhit]; decide),Bc hb1,Bc hb2]; rfl]; exact U
  exact⟨.slice none 0 0,Y.pick [0,4,6,7,10],U.select [0,1,2] de⟩
 rintro a w16 ⟨av,Y,U⟩;refine G6<|ah λG32=>aL (aM λw17 hxz=>?_);replace U:=U.grow hxz;refine aP (k:=0) 13 [10,12] Y ?_;replace Y:=Y.p5 0 4 6 7 10 O;refine fp 11 12 9 [(8,7,λu=>u),(9,8,λu=>tupAt u 0)] 50 E8 (λu=>u.cells.toList) 13 [[],[],[1],[],[3],[4],[],[0,2,5,6],[7],[8],[8],[],[9,11]] (λi=>match i with|0=>pv (sv key)|1=>pv (.agg #[jv c,lv])|2=>pm (λv:Value=>.agg #[jv c,v]) (λv=>[own v 9 1 ((entC l).map λs=>[sv s])]) (λ_=>True)|3=>pv (po w0.hz 1)|4=>pv (lv)|5=>pv (jv (l.length:Int))|6=>pv (av)|7=>pm (λx:Value × List Itw=>.tuple #[(EU hd x.1),jv 0]) (λx=>[itsE x.1 x.2]) (λx=>itsM x.2=showIs sha (entC l) l.length (ansIx l num))|8=>λv E=>(∃sa0 sn0 sc0,v=.tuple #[.agg #[jv hd.c,jv hd.n,sv hd.root,sv hd.tag,(.slice sa0 sn0 sc0)],jv 0])∧E=[]|9=>λv E=>(∃sa0 sn0 sc0,v=.agg #[jv hd.c,jv hd.n,sv hd.root,sv hd.tag,(.slice sa0 sn0 sc0)])∧E=[]|10=>pv (jv 0)|11=>λv E=>∃b,v=ptr b∧E=[]|12=>λv E=>v=undef∧E=[]|_=>λ_ _=>False) Y (H:=[own av 3 1 ((ansIx l num).map λn=>[jv n]),blk w1.hz E8 50,blk w0.hz [jv c,lv] 32]) U kr kr kr kr de de de de de de de kr DM ?_ (λ_ _ h=>h) ⟨O,O⟩ (λ_ _=>Iff.rfl) ?_ ?_ ?_ ?_ ?_
 ·intro i v E h
  match i,h with
  | 0,_=>exact by decide
  | 1,_=>exact by decide
  | 2,_=>exact by decide
  | 3,_=>exact by decide
  | 4,_=>exact by decide
  | 5,_=>exact by decide
  | 6,_=>exact by decide
  | 7,_=>exact by decide
  | 8,_=>exact by decide
  | 9,_=>exact by decide
  | 10,_=>exact by decide
  | 11,_=>exact by decide
  | 12,_=>exact by decide
  | i+13,h=>exact h.elim
 ·intro i hi hia hij hil e
  match i,hi,hia,hij,hil with
  | 0,_,_,_,_=>
   intro hl9 w U;exact OpV.g (ax O)
  | 1,_,_,_,_=>
   intro hl9 w U;exact OpV.g (ar (U.g 3 O) O (isAgg32 _) (sizeOf32 _))
  | 2,_,_,_,_=>
   rintro _ _ ⟨rfl,rfl⟩;intro hl9 w U;exact eo call72 O (tH c lv l _ (U.arg hlv) om)
  | 3,_,_,_,_=>
   intro hl9 w U;exact OpV.g (ac (v:=po w0.hz 1) O kr)
  | 4,_,_,_,_=>
   rintro _ _ ⟨rfl,rfl⟩;intro hl9 w U;exact OpV.g (ld U 3 O O (isAgg30 _) O)
  | 5,_,_,_,_=>
   rintro _ _ ⟨rfl,rfl⟩;intro hl9 w U;exact OpV.g ((aH (sT:=30) (U.arg hlv) O O (runUnderlying30 _)).asi (m':=(l.length:Int)) CU)
  | 6,_,_,_,_=>
   intro hl9 w U;exact OpV.g (ax O)
  | 7,_,_,_,_=>
   rintro _ _ ⟨rfl,rfl⟩ _ _ ⟨ev9,rfl, -,rfl⟩ _ _ ⟨rfl,rfl⟩ _ _ ⟨rfl,rfl⟩;intro hl9 w U;exact eo call26 O (oA key l.length hd av (ansIx l num) c ev9 (entC l) _ (U.ow 0 O) (U.ow 2 O) hk32 hreg Ev (dw l num) (Br (tU l num) de) hhd (U.keepb hk0))
  | 8,_,_,_,h=>exact absurd de h
  | 9,_,_,_,h=>exact absurd de h
  | 10,_,_,_,_=>
   rintro _ _ ⟨⟨sa0,sn0,sc0,rfl⟩,rfl⟩;intro hl9 w U;exact OpV.g (aj O O)
  | 11,_,h,_,_=>exact absurd O h
  | 12,_,_,h,_=>exact absurd O h
  | i+13,h,_,_,_=>exact absurd h om
 ·intro x hx e;simp only[A0,A4,Bm] at hx;rcases hx with rfl|rfl
  ·rintro _ _ ⟨⟨iv10,Liv10⟩,rfl,hL,rfl⟩;intro w U;obtain⟨sa0,sn0,sc0,rfl⟩:=cQ (bG (k:=0) U rfl).1;exact OpV.hopv (OpV.g (ax O)) ⟨⟨_,_,_,O⟩,O⟩
  ·rintro _ _ ⟨⟨sa0,sn0,sc0,rfl⟩,rfl⟩;intro w U;exact OpV.hopv (OpV.g (aj O O)) ⟨⟨_,_,_,O⟩,O⟩
 ·exact λLv w=>eY (zeroValue50 _)
 ·rintro _ _ ⟨⟨sa0,sn0,sc0,rfl⟩,rfl⟩ _ _ ⟨b8,rfl,rfl⟩;intro b hb u hu w h;have hb:some (ptr b8)=some (ptr b):=hb;cases hb;have hu:some (.agg #[jv hd.c,jv hd.n,sv hd.root,sv hd.tag,(.slice sa0 sn0 sc0)])=some u:=hu;cases hu;exact dG O O h (sizeOf50 _) O (lb O) O
 clear Y U;rintro V bq hva hlk _ _ ⟨⟨rfl,rfl⟩, -⟩ _ _ ⟨⟨rfl,rfl⟩, -⟩ _ _ ⟨⟨ev9,rfl, -,rfl⟩, -⟩ _ _ ⟨⟨rfl,rfl⟩, -⟩ _ _ ⟨⟨rfl,rfl⟩, -⟩ _ _ ⟨⟨rfl,rfl⟩, -⟩ _ _ ⟨⟨rfl,rfl⟩, -⟩ _ _ ⟨⟨⟨iv10,Liv10⟩,rfl,hL,rfl⟩,hv7_⟩ v8_ _ ⟨⟨-,rfl⟩,hv8_⟩ v9_ _ ⟨⟨-,rfl⟩,hv9_⟩ _ _ ⟨⟨rfl,rfl⟩, -⟩ _ _ ⟨⟨b8,rfl,rfl⟩,hva9⟩ a w18 Y U;obtain rfl:b8=bq:=gp (hva9.trans hva);obtain rfl:v8_=.tuple #[(EU hd iv10),jv 0]:=hv8_.trans ((hlk 0 _ rfl).trans (Bh (λu=>u) hv7_.symm));obtain rfl:v9_=(EU hd iv10):=hv9_.trans ((hlk 1 _ rfl).trans (Bh (λu=>tupAt u 0) hv8_.symm));rw[←hv9_] at U;replace Y:=Y.p17 53 54 55 56 57 58 59 60 52 61 62 13 0 4 6 7 10 O
 try dsimp only at U
 replace U:=U.n6 O;clear hva9 hva hlk hv9_ hv8_ hv7_;refine ab<|aI (k:=13) 14 [13] ?_;refine wla Y O λa Y=>ab<|aO<|G32 ?_;replace U:=U.k4 30 O;refine ah λG33=>aa λG34=>nv (Y.p4 6 7 13 14 O)<|AL O<|AK ((v_ne O O).asb (b':=false) O)<|λa Y=>G34<|aJ Y O ?_;refine ap<|G33<|aa λG35=>wlv Y (ar (U.g 1 O) O (isAgg50 _) (sizeOf50 _)) λa Y=>bj (us:=(ET hd iv10)) 3 Y U O O O (sizeOf50 _) C8 (lb O) (ds:=(ET hd iv10)) O O λa w19 Y U=>wla Y O λa Y=>G35<|ao<|am Y results22 (aB O (bA (U.g 3 O) (isAgg50 _) (sizeOf50 _)) (ae O ag)) ?_;exact⟨(iv10,Liv10),O,hL,U.ext,St.out (E:=[itsE iv10 Liv10]) (H:=[]) (U.select [0] de)⟩
theorem rK (r:Rpw) (w0:World):
  Ff 53 #[.agg #[jv r.at_,jv r.hd.c,jv r.hd.n,sv r.hd.root,sv r.hd.tag,r.iv]] w0 (jv r.at_):=by
 refine Cy func53 O ntmps53 (lb O) λa Y U=>aa λG1=>aR Y U O [jv r.at_,jv r.hd.c,jv r.hd.n,sv r.hd.root,sv r.hd.tag,r.iv] O λa w1 Y U=>wla Y O λa Y=>G1<|aa λG2=>nv Y<|AK (ac (v:=pq w0.hz) O kr)<|AK (ld U 0 O O (isAgg3 _) O)<|AM O<|λa Y=>G2<|ao<|am Y results53 (ae O ag) ?_;exact⟨by rfl,U.ext⟩
theorem rn (lv:Value) (R:List Rpw) (p:Rpl→Bool) (g:FuncId) (caps:List Value) (w0:World) (hen:∀args w,(callFunc g args).run Tryz.prog w=.ok (.enter g args) w) (hlv:RepAt w0 lv R) (hcl:∀(r:Rpw) (w:World),r∈R→Ext No w0 w→Ret Tryz.prog g (.agg r.cells.toArray::caps).toArray w λv w'=>v=.bool (p r.m)∧Ext No w w'):
  Ff 54 #[lv,.func (.func 53) #[] #[],.func (.func g) #[] caps.toArray] w0 (.tuple #[jv ((firstF p none (repsM R)).getD 0),.bool ((firstF p none (repsM R)).isSome)]):=by
 have hxb:=hlv.len;refine CB func54 O ntmps54 (lb O) λa Y U=>aa λG1=>nv Y<|AM O<|AM O<|λa Y=>G1<|aa λG2=>nv Y<|AM O<|AM O<|λa Y=>G2<|ah λG3=>aa λG4=>nv Y<|AL O<|AK ((aH (sT:=38) (U.arg hlv.1) O O (runUnderlying38 _)).asi (m':=(R.length:Int)) CU)<|AL O<|λa Y=>G4<|aw<|aV (λm a w=>∃(k:Nat) (o:Option Int),m=R.length- k∧(k≤R.length)∧(firstF p none (repsM R)=firstF p o ((repsM R).drop k))∧Fr 38 [(1,.func (.func 53) #[] #[]),(2,.func (.func g) #[] caps.toArray),(6,jv 0),(7,.bool false),(12,lv),(13,jv (R.length:Int)),(14,jv (k:Int)),(8,jv (o.getD 0)),(9,.bool o.isSome)] [] a∧St No w0 [] w) _ ⟨0,none,O,A8 _,O,Y.pick [1,2,6,7,12,13,14,8,9],U.select [] de⟩ ?_;rintro _ a w1 ⟨k,o,rfl,hk,hf,Y,U⟩;refine aa λG5=>wlv Y (v_lt O O) λa Y=>G5<|ah λG6=>ay Y O (λhc1=>?_) (λhc1=>?_)
 ·have hkx:k<R.length:=by omega
  refine ap<|G6<|ah λG7=>aw ?_;obtain⟨⟨ra,hd,iv,L⟩,hxr⟩:∃r,R.getD k Rpw.z=r:=⟨_,rfl⟩;have hxm:=bf (d:=Rpw.z) hkx;rw[hxr] at hxm;refine aa λG8=>nv Y<|AK ((ai (i:=(k:Int)) (sT:=38) (U.arg hlv.1) O O (runUnderlying38 _) (sizeOf52 _) om CH).as (v':=slAddr lv (k*6)) O)<|AK ((bI (U.arg hlv.1) (i:=k) CH O (isAgg52 _) (sizeOf52 _)).as (v':=.agg #[jv ra,jv hd.c,jv hd.n,sv hd.root,sv hd.tag,iv]) (by rw[aU Rpw.z,hxr]; rfl))<|λa Y=>aE Y U (zeroValue52 _) [jv 0,jv 0,jv 0,.string (⟨#[]⟩),.string (⟨#[]⟩),.slice none 0 0] O λa w2 Y U=>bj (us:=[jv ra,jv hd.c,jv hd.n,sv hd.root,sv hd.tag,iv]) 0 Y U O O O (sizeOf52 _) DJ (lb O) (ds:=[jv ra,jv hd.c,jv hd.n,sv hd.root,sv hd.tag,iv]) O O λa w3 Y U=>G8<|aa λG9=>nv Y<|AL O<|AK (ar (U.g 0 O) O (isAgg52 _) (sizeOf52 _))<|λa Y=>wl_r (g7 (cap:=caps) O hen O (hcl ⟨ra,hd,iv,L⟩ _ hxm U.ext)) O O Y λa v w4 hR Y=>?_;obtain⟨rfl,hx⟩:=hR;have U:=U.grow hx;clear hx;refine wlm Y O λa Y=>?_;rcases AR (p (Rpw.m (⟨ra,hd,iv,L⟩:Rpw))) with hb2|hb2
  ·rw[hb2] at Y;have hp:=hb2;refine nv Y<|AN (ax O)<|AN (bd O)<|AN (ax O)<|λa Y=>?_;rcases AR (!o.isSome) with hb3|hb3
   ·rw[hb3] at Y
    try simp only[qz] at hb3
    have hnx:=wo hp hb3;refine nv Y<|AO<|AO<|AO<|AO<|AO<|AN (aq O O)<|AK (aq O O)<|λa Y=>G9 ?_;replace Y:=Y.p11 1 2 6 7 12 13 14 8 9 11 31 O;refine aC Y O ?_;refine al<|nv Y<|AL O<|AK (ar (U.g 0 O) O (isAgg52 _) (sizeOf52 _))<|λa Y=>dO Y U O call53 O (rK ⟨ra,hd,iv,L⟩ _) λa w5 Y U=>nv Y<|AM O<|AM O<|λa Y=>ab<|G7<|al<|nv Y<|AK (aK O O ⟨om,om⟩)<|AL O<|λa Y=>ab ?_;refine⟨_,?_,k+1,some ra,O,om,(cN hkx hxr hf hnx),Y.pick [1,2,6,7,12,13,14,8,9],U.select [] de⟩;omega
   rw[hb3] at Y
   try simp only[qz] at hb3
   have hos:=hb3;refine nv Y<|AN (ax O)<|AN (ar (U.g 0 O) O (isAgg52 _) (sizeOf52 _))<|λa Y=>eX Y ?_;refine dO Y U O call53 O (rK ⟨ra,hd,iv,L⟩ _) λa w6 Y U=>nv Y<|AN (ax O)<|AN (v_lt O O)<|AN (ak O O)<|AK (aq O O)<|λa Y=>G9 ?_;replace Y:=Y.p11 1 2 6 7 12 13 14 8 9 11 31 O;refine ay Y O (λhc4=>?_) (λhc4=>?_)
   ·have hnx:=uV hp (show (Rpw.m (⟨ra,hd,iv,L⟩:Rpw)).at_<o.getD 0 from hc4);refine al<|nv Y<|AL O<|AK (ar (U.g 0 O) O (isAgg52 _) (sizeOf52 _))<|λa Y=>dO Y U O call53 O (rK ⟨ra,hd,iv,L⟩ _) λa w7 Y U=>nv Y<|AM O<|AM O<|λa Y=>ab<|G7<|al<|nv Y<|AK (aK O O ⟨om,om⟩)<|AL O<|λa Y=>ab ?_;refine⟨_,?_,k+1,some ra,O,om,(cN hkx hxr hf hnx),Y.pick [1,2,6,7,12,13,14,8,9],U.select [] de⟩;omega
   have hnx:=zj (p:=p) hos (show ¬(Rpw.m (⟨ra,hd,iv,L⟩:Rpw)).at_<o.getD 0 by show ¬ra<_; omega);refine ap<|G7<|al<|nv Y<|AK (aK O O ⟨om,om⟩)<|AL O<|λa Y=>ab ?_;refine⟨_,?_,k+1,o,O,om,(cN hkx hxr hf hnx),Y.pick [1,2,6,7,12,13,14,8,9],U.select [] de⟩;omega
  rw[hb2] at Y;have hnx:=ew (o:=o) (show p (Rpw.m (⟨ra,hd,iv,L⟩:Rpw))=false from hb2);refine nv Y<|AO<|AO<|AO<|λa Y=>bO Y λa Y=>bO Y λa Y=>bO Y λa Y=>bO Y λa Y=>bO Y λa Y=>nv Y<|AO<|AK (ak O O)<|λa Y=>G9 ?_;replace Y:=Y.p11 1 2 6 7 12 13 14 8 9 11 31 O;refine aJ Y O ?_;refine ap<|G7<|al<|nv Y<|AK (aK O O ⟨om,om⟩)<|AL O<|λa Y=>ab ?_;refine⟨_,?_,k+1,o,O,om,(cN hkx hxr hf hnx),Y.pick [1,2,6,7,12,13,14,8,9],U.select [] de⟩;omega
 have hkd:(repsM R).drop k=[]:=List.drop_eq_nil_of_le (by unfold repsM; rw[AP]; omega);rw[hkd] at hf;refine aN<|G3<|aa λG10=>nv Y<|AL O<|AL O<|AM O<|AM O<|λa Y=>G10 ?_;replace Y:=Y.p2 6 7 O;refine ao<|am Y results54 (ae O (ae O ag)) ?_;exact⟨by simp only[retv]; rw[hf]; rfl,U.ext⟩
theorem wm (r:Rpw) (q:Chg) (en t:Int) (key:By) (b9 b15 b11 b7:Nat) (w0:World) (hiv:ItsAt w0 r.iv r.L) (hpf:∀x∈r.L,x.m.pf.length≤1000) (hen:0≤en∧en≤12000000) (h9:(blk b9 (EZ q) 36).ok w0) (h15:(blk b15 [jv en] 3).ok w0) (h11:(blk b11 [jv t] 3).ok w0) (h7:(blk b7 [sv key] 9).ok w0) (hk0:(blk 0 (kOf.map wv) 258).ok w0):
  Ff 51 #[.agg #[jv r.at_,jv r.hd.c,jv r.hd.n,sv r.hd.root,sv r.hd.tag,r.iv],pq b9,pq b15,pq b11,pq b7] w0 (.bool (countB sha key q en t r.m)):=by
 refine CA func51 O ntmps51 (lb O) λa Y U=>aa λG1=>aR Y U O [jv r.at_,jv r.hd.c,jv r.hd.n,sv r.hd.root,sv r.hd.tag,r.iv] O λa w1 Y U=>wla Y O λa Y=>G1<|aa λG2=>nv Y<|AK (ac (v:=pq w0.hz) O kr)<|AK (ld U 0 O O (isAgg3 _) O)<|AK (ac (v:=po b9 4) O kr)<|AK (bX (U.keepb h9) O (isAgg3 _) O)<|AK (bX (U.keepb h15) O (isAgg3 _) O)<|AK (bF O O ⟨om,om⟩)<|AK (bX (U.keepb h11) O (isAgg3 _) O)<|AK (so O O)<|λa Y=>au Y U call49 O (da r.at_ q.a (min (en- 1) t) _) λa w2 Y U=>wlm Y O λa Y=>?_;rcases AR (inB r.at_ q.a (min (en- 1) t)) with hb1|hb1
 ·rw[hb1] at Y;refine nv Y<|AN (ac (v:=po w0.hz 1) O kr)<|AN (ac (v:=po w0.hz 1) O kr)<|AN (ac (v:=po w0.hz 1) O kr)<|AN (ld U 0 O O (isAgg3 _) O)<|AN (ac (v:=po b9 2) O kr)<|AN (bX (U.keepb h9) O (isAgg3 _) O)<|AN (v_eq O O)<|AK (aq O O)<|AL O<|λa Y=>?_;rcases Decidable.em (r.hd.c=q.c) with hb2|hb2
  ·rw[AQ hb2] at Y;refine nv Y<|AN (bX (U.keepb h7) O (isAgg9 _) O)<|AN (ac (v:=po w0.hz 1) O kr)<|AN (bJ (ds:=(ET r.hd r.iv)) (U.g 0 O) O (isAgg50 _) (sizeOf50 _) O)<|λa Y=>aF Y U call52 O (ft key r.hd r.iv r.L _ (cw U hiv) hpf (U.keepb hk0)) λa w3 Y U=>nv Y<|AK (aq O O)<|AM O<|λa Y=>G2 ?_;replace Y:=Y.p1 6 O;replace U:=U.k0 0 O;refine ao<|am Y results51 (ae O ag) ?_;refine⟨?_,U.ext⟩;simp only[retv];refine Bh Value.bool ?_;unfold countB;show _=(inB r.at_ q.a (min (en- 1) t)&&decide (r.hd.c=q.c)&&checkP sha key r.hd (itsM r.L));rw[hb1,AQ (by omega:r.hd.c=q.c)]; rfl
  rw[AV hb2] at Y;refine nv Y<|AO<|AO<|AO<|AO<|AK (ak O O)<|AM O<|λa Y=>G2 ?_;replace Y:=Y.p1 6 O;replace U:=U.k0 0 O;refine ao<|am Y results51 (ae O ag) ?_;refine⟨?_,U.ext⟩;simp only[retv];refine Bh Value.bool ?_;unfold countB;show _=(inB r.at_ q.a (min (en- 1) t)&&decide (r.hd.c=q.c)&&checkP sha key r.hd (itsM r.L));rw[hb1,AV (by omega:¬r.hd.c=q.c)]; rfl
 rw[hb1] at Y;refine nv Y<|AO<|AO<|AO<|AO<|AO<|AO<|AO<|AK (ak O O)<|AL O<|AO<|AO<|AO<|AO<|AK (ak O O)<|AM O<|λa Y=>G2 ?_;replace Y:=Y.p1 6 O;replace U:=U.k0 0 O;refine ao<|am Y results51 (ae O ag) ?_;refine⟨?_,U.ext⟩;simp only[retv];refine Bh Value.bool ?_;unfold countB;show _=(inB r.at_ q.a (min (en- 1) t)&&decide (r.hd.c=q.c)&&checkP sha key r.hd (itsM r.L));rw[hb1]; rfl
theorem zr (kv:Value) (ks:List By) (b16 b6:Nat) (r:Rpw) (q:Chg) (en t:Int) (key:By) (b9 b15 b11 b7:Nat) (w0:World) (hiv:ItsAt w0 r.iv r.L) (hpf:∀x∈r.L,x.m.pf.length≤1000) (hen:0≤en∧en≤12000000) (h9:(blk b9 (EZ q) 36).ok w0) (h15:(blk b15 [jv en] 3).ok w0) (h11:(blk b11 [jv t] 3).ok w0) (h7:(blk b7 [sv key] 9).ok w0) (h16:(blk b16 [.func (.func 51) #[] #[pq b9,pq b15,pq b11,pq b7]] 116).ok w0) (h6:(blk b6 [kv] 44).ok w0) (hkv:SlAt w0 kv 1 (ks.map λs=>[sv s])) (hk0:(blk 0 (kOf.map wv) 258).ok w0):
  Ff 55 #[.agg #[jv r.at_,jv r.hd.c,jv r.hd.n,sv r.hd.root,sv r.hd.tag,r.iv],pq b16,pq b6,pq b9] w0 (.bool (keptB sha ks key q en t r.m)):=by
 refine Cz func55 O ntmps55 (lb O) λa Y U=>aa λG1=>aR Y U O [jv r.at_,jv r.hd.c,jv r.hd.n,sv r.hd.root,sv r.hd.tag,r.iv] O λa w1 Y U=>wla Y O λa Y=>G1<|aa λG2=>nv Y<|AK (bX (U.keepb h16) O (isAgg116 _) O)<|AK (ar (U.g 0 O) O (isAgg52 _) (sizeOf52 _))<|λa Y=>dO Y U O call51 O (wm r q en t key b9 b15 b11 b7 _ (cw U hiv) hpf hen (U.keepb h9) (U.keepb h15) (U.keepb h11) (U.keepb h7) (U.keepb hk0)) λa w2 Y U=>wlm Y O λa Y=>?_;rcases AR (countB sha key q en t r.m) with hb1|hb1
 ·rw[hb1] at Y;have hok:OkP r.hd.n r.L:=gJ (key:=key) (by have h9:=hb1; unfold countB at h9; rw[AU] at h9; exact h9.2);refine nv Y<|AN (bX (U.keepb h6) O (isAgg44 _) O)<|AN (ar (U.keepb h9) O (isAgg36 _) (sizeOf36 _))<|AN (ac (v:=po w0.hz 1) O kr)<|AN (bJ (ds:=(ET r.hd r.iv)) (U.g 0 O) O (isAgg50 _) (sizeOf50 _) O)<|λa Y=>aF Y U call56 O (yu kv ks q r.hd r.iv r.L _ (U.arg hkv) (cw U hiv) hok (U.keepb hk0)) λa w3 Y U=>nv Y<|AK (aq O O)<|AM O<|λa Y=>G2 ?_;replace Y:=Y.p1 5 O;replace U:=U.k0 0 O;refine ao<|am Y results55 (ae O ag) ?_;refine⟨?_,U.ext⟩;simp only[retv];refine Bh Value.bool ?_;unfold keptB;rw[hb1]; rfl
 rw[hb1] at Y;refine nv Y<|AO<|AO<|AO<|AO<|AO<|AK (ak O O)<|AM O<|λa Y=>G2 ?_;replace Y:=Y.p1 5 O;replace U:=U.k0 0 O;refine ao<|am Y results55 (ae O ag) ?_;refine⟨?_,U.ext⟩;simp only[retv];refine Bh Value.bool ?_;unfold keptB;rw[hb1]; rfl
theorem xL (b16:Nat) (r:Rpw) (q:Chg) (en t:Int) (key:By) (b9 b15 b11 b7:Nat) (w0:World) (hiv:ItsAt w0 r.iv r.L) (hpf:∀x∈r.L,x.m.pf.length≤1000) (hen:0≤en∧en≤12000000) (h9:(blk b9 (EZ q) 36).ok w0) (h15:(blk b15 [jv en] 3).ok w0) (h11:(blk b11 [jv t] 3).ok w0) (h7:(blk b7 [sv key] 9).ok w0) (h16:(blk b16 [.func (.func 51) #[] #[pq b9,pq b15,pq b11,pq b7]] 116).ok w0) (hk0:(blk 0 (kOf.map wv) 258).ok w0):
  Ff 57 #[.agg #[jv r.at_,jv r.hd.c,jv r.hd.n,sv r.hd.root,sv r.hd.tag,r.iv],pq b16,pq b9] w0 (.bool (backB sha key q en t r.m)):=by
 refine CB func57 O ntmps57 (lb O) λa Y U=>aa λG1=>aR Y U O [jv r.at_,jv r.hd.c,jv r.hd.n,sv r.hd.root,sv r.hd.tag,r.iv] O λa w1 Y U=>wla Y O λa Y=>G1<|aa λG2=>nv Y<|AK (bX (U.keepb h16) O (isAgg116 _) O)<|AK (ar (U.g 0 O) O (isAgg52 _) (sizeOf52 _))<|λa Y=>dO Y U O call51 O (wm r q en t key b9 b15 b11 b7 _ (cw U hiv) hpf hen (U.keepb h9) (U.keepb h15) (U.keepb h11) (U.keepb h7) (U.keepb hk0)) λa w2 Y U=>wlm Y O λa Y=>?_;rcases AR (countB sha key q en t r.m) with hb1|hb1
 ·rw[hb1] at Y;have hok:OkP r.hd.n r.L:=gJ (key:=key) (by have h9:=hb1; unfold countB at h9; rw[AU] at h9; exact h9.2);refine nv Y<|AN (ac (v:=po w0.hz 1) O kr)<|AN (bJ (ds:=(ET r.hd r.iv)) (U.g 0 O) O (isAgg50 _) (sizeOf50 _) O)<|AN (ac (v:=pq b9) O kr)<|AN (bX (U.keepb h9) O (isAgg3 _) O)<|λa Y=>aF Y U call58 O (qZ r.hd r.iv r.L q.n _ (cw U hiv) hok) λa w3 Y U=>nv Y<|AK (aq O O)<|AM O<|λa Y=>G2 ?_;replace Y:=Y.p1 4 O;replace U:=U.k0 0 O;refine ao<|am Y results57 (ae O ag) ?_;refine⟨?_,U.ext⟩;simp only[retv];refine Bh Value.bool ?_;unfold backB;rw[hb1]; rfl
 rw[hb1] at Y;refine nv Y<|AO<|AO<|AO<|AO<|AO<|AK (ak O O)<|AM O<|λa Y=>G2 ?_;replace Y:=Y.p1 4 O;replace U:=U.k0 0 O;refine ao<|am Y results57 (ae O ag) ?_;refine⟨?_,U.ext⟩;simp only[retv];refine Bh Value.bool ?_;unfold backB;rw[hb1]; rfl
end Go.Proofs.YtliklcmddmpdfaaGreatDoor
namespace Go.Proofs.YtliklcmddmpdfaaGreatDoor
open Go.RowKit Go.PW _root_.Go.Proofs.Tryz
theorem xq (q:Chg) (w0:World):
  Ff 50 #[(E0 q)] w0 (.bool q.ok):=by
 refine Cy func50 O ntmps50 (lb O) λa Y U=>aa λG1=>aR Y U O (EZ q) O λa w1 Y U=>wla Y O λa Y=>G1<|aa λG2=>nv Y<|AK (ac (v:=po w0.hz 1) O kr)<|AK (ld U 0 O O (isAgg3 _) O)<|λa Y=>au Y U call49 O (da q.h 0 63 _) λa w2 Y U=>wlm Y O λa Y=>?_;rcases AR (inB q.h 0 63) with hb1|hb1
 ·rw[hb1] at Y;refine nv Y<|AN (ac (v:=po w0.hz 2) O kr)<|AN (ld U 0 O O (isAgg3 _) O)<|λa Y=>aF Y U call49 O (da q.c 0 7 _) λa w3 Y U=>nv Y<|AK (aq O O)<|AM O<|λa Y=>G2 ?_;refine aa λG3=>nv (Y.p3 1 2 3 O)<|AL O<|AL O<|λa Y=>?_;rcases AR (inB q.c 0 7) with hb2|hb2
  ·rw[hb2] at Y;refine nv Y<|AN (ac (v:=pq w0.hz) O kr)<|AN (ld U 0 O O (isAgg3 _) O)<|λa Y=>aF Y U call49 O (da q.n 0 99999999 _) λa w4 Y U=>nv Y<|AK (aq O O)<|AL O<|λa Y=>?_;rcases AR (inB q.n 0 99999999) with hb3|hb3
   ·rw[hb3] at Y;refine nv Y<|AN (ac (v:=po w0.hz 4) O kr)<|AN (ld U 0 O O (isAgg3 _) O)<|λa Y=>aF Y U call49 O (da q.a 0 10000000 _) λa w5 Y U=>nv Y<|AK (aq O O)<|AL O<|λa Y=>?_;rcases AR (inB q.a 0 10000000) with hb4|hb4
    ·rw[hb4] at Y;refine nv Y<|AN (ac (v:=po w0.hz 3) O kr)<|AN (ld U 0 O O (isAgg3 _) O)<|AN (ac (v:=po w0.hz 4) O kr)<|AN (ld U 0 O O (isAgg3 _) O)<|λa Y=>aF Y U call49 O (da q.t 0 q.a _) λa w6 Y U=>nv Y<|AK (aq O O)<|AM O<|λa Y=>G3 ?_;replace Y:=Y.p1 2 O;replace U:=U.k0 0 O;refine ao<|am Y results50 (ae O ag) ?_;exact⟨by simp only[retv]; unfold Chg.ok; simp[hb1,hb2,hb3,hb4],U.ext⟩
    rw[hb4] at Y;refine nv Y<|AO<|AO<|AO<|AO<|AO<|AK (ak O O)<|AM O<|λa Y=>G3 ?_;replace Y:=Y.p1 2 O;replace U:=U.k0 0 O;refine ao<|am Y results50 (ae O ag) ?_;exact⟨by simp only[retv]; unfold Chg.ok; simp[hb1,hb2,hb3,hb4],U.ext⟩
   rw[hb3] at Y;refine nv Y<|AO<|AO<|AO<|AK (ak O O)<|AL O<|AO<|AO<|AO<|AO<|AO<|AK (ak O O)<|AM O<|λa Y=>G3 ?_;replace Y:=Y.p1 2 O;replace U:=U.k0 0 O;refine ao<|am Y results50 (ae O ag) ?_;exact⟨by simp only[retv]; unfold Chg.ok; simp[hb1,hb2,hb3],U.ext⟩
  rw[hb2] at Y;refine nv Y<|AO<|AO<|AO<|AK (ak O O)<|AL O<|AO<|AO<|AO<|AK (ak O O)<|AL O<|AO<|AO<|AO<|AO<|AO<|AK (ak O O)<|AM O<|λa Y=>G3 ?_;replace Y:=Y.p1 2 O;replace U:=U.k0 0 O;refine ao<|am Y results50 (ae O ag) ?_;exact⟨by simp only[retv]; unfold Chg.ok; simp[hb1,hb2],U.ext⟩
 rw[hb1] at Y;refine nv Y<|AO<|AO<|AO<|AK (ak O O)<|AM O<|λa Y=>G2 ?_;refine aa λG4=>nv (Y.p3 1 2 3 O)<|AL O<|AL O<|AO<|AO<|AO<|AK (ak O O)<|AL O<|AO<|AO<|AO<|AK (ak O O)<|AL O<|AO<|AO<|AO<|AO<|AO<|AK (ak O O)<|AM O<|λa Y=>G4 ?_;replace Y:=Y.p1 2 O;replace U:=U.k0 0 O;refine ao<|am Y results50 (ae O ag) ?_;exact⟨by simp only[retv]; unfold Chg.ok; simp[hb1],U.ext⟩
theorem nk (kv lv:Value) (ks:List By) (key:By) (lim:Int) (q:Chg) (R:List Rpw) (t:Int) (w0:World) (hkv:SlAt w0 kv 1 (ks.map λs=>[sv s])) (hlv:RepAt w0 lv R) (hRp:∀r∈R,∀x∈r.L,x.m.pf.length≤1000) (hso:dV key lim q R.length t=true) (hk0:(blk 0 (kOf.map wv) 258).ok w0):
  Ff 17 #[kv,sv key,jv lim,(E0 q),lv,jv t] w0 (.tuple #[jv ((stateH sha ks key lim q (repsM R) t).1),jv ((stateH sha ks key lim q (repsM R) t).2),jv 0]):=by
 obtain⟨hk32,hlim,hqo,hrl,hta,htb⟩:=na hso;obtain⟨hq1,hq2,hq3,hq4,hq5,hq6⟩:=tF hqo;have hxb:=hlv.len;obtain⟨ko,hko⟩:∃o,firstF (keptB sha ks key q (q.a+lim) t) none (repsM R)=o:=⟨_,rfl⟩;obtain⟨bo,hbo⟩:∃o,firstF (backB sha key q (q.a+lim) t) none (repsM R)=o:=⟨_,rfl⟩;refine CC func17 O ntmps17 (lb O) λa Y U=>aa λG1=>aR Y U O [kv] (by rw[(U.arg hkv).cells]) λa w1 Y U=>aR Y U O [sv key] O λa w2 Y U=>aR Y U O (EZ q) O λa w3 Y U=>aR Y U O [jv t] O λa w4 Y U=>nv Y<|AM O<|AM O<|AM O<|λa Y=>G1<|ah λG2=>aa λG3=>nv Y<|AK (ld U 2 O O (isAgg9 _) O)<|AK (aZ O O (runUnderlying9 _))<|AK (v_ne O O)<|AL O<|λa Y=>?_;rcases (Decidable.em ((key.length:Int)=32)).symm with hb1|hb1
 ·rw[AV hb1] at Y;exfalso; omega
 rw[AQ hb1] at Y;refine wly Y (ax O) λa Y=>aF Y U call49 O (da lim 1 1000000 _) λa w5 Y U=>nv Y<|AN (bd O)<|AK (ak O O)<|AL O<|λa Y=>?_;rcases AR (!(inB lim 1 1000000)) with hb2|hb2
 ·rw[hb2] at Y
  try simp only[qz] at hb2
  exfalso; simp only[inB,A7,Bn] at hb2; omega
 rw[hb2] at Y
 try simp only[qz] at hb2
 refine wly Y (ar (U.g 1 O) O (isAgg36 _) (sizeOf36 _)) λa Y=>aF Y U call50 O (xq q _) λa w6 Y U=>nv Y<|AN (bd O)<|AK (ak O O)<|AL O<|λa Y=>?_;rcases AR (!q.ok) with hb3|hb3
 ·rw[hb3] at Y
  try simp only[qz] at hb3
  rw[hqo] at hb3; cases hb3
 rw[hb3] at Y
 try simp only[qz] at hb3
 refine nv Y<|AN (ax O)<|AN ((aH (sT:=38) (U.arg hlv.1) O O (runUnderlying38 _)).asi (m':=(R.length:Int)) CU)<|AN (v_gt O O)<|AK (ak O O)<|AL O<|λa Y=>?_;rcases Decidable.em (10<(R.length:Int)) with hb4|hb4
 ·rw[AQ hb4] at Y;exfalso; omega
 rw[AV hb4] at Y;refine nv Y<|AN (ld U 0 O O (isAgg3 _) O)<|AN (ac (v:=po w2.hz 4) O kr)<|AN (ld U 1 O O (isAgg3 _) O)<|λa Y=>aF Y U call49 O (da t q.a 11000000 _) λa w7 Y U=>nv Y<|AN (bd O)<|AK (ak O O)<|λa Y=>G3 ?_;replace Y:=Y.p10 2 4 6 7 9 11 12 13 14 46 O;refine bn Y O (λhc5=>?_) (λhc5=>?_)
 ·try simp only[qz] at hc5
  exfalso; simp only[inB,A7,Bn] at hc5; omega
 try simp only[qz] at hc5
 refine ap<|G2<|aa λG4=>nv Y<|AK (ac (v:=po w2.hz 4) O kr)<|AK (ld U 1 O O (isAgg3 _) O)<|AL O<|AK (aK O O ⟨om,om⟩)<|λa Y=>aE Y U (zeroValue3 _) [jv 0] O λa w8 Y U=>aA 0 Y U [jv (q.a+lim)] O (sizeOf3 _) λa w9 Y U=>G4 ?_;refine aa λG5=>wlv (Y.p9 4 6 7 9 11 12 13 14 15 O) (ct O O) λa Y=>aE Y U (zeroValue116 _) [.nilFunc] O λa w10 Y U=>aA 0 Y U [.func (.func 51) #[] #[pq w2.hz,pq w7.hz,pq w3.hz,pq w1.hz]] O (sizeOf116 _) λa w11 Y U=>G5<|aa λG6=>wla Y O λa Y=>G6<|aa λG7=>nv Y<|AL O<|AL O<|AK (ct O O)<|λa Y=>au Y U call54 O (wd (by rw[hko]) (rn lv R (keptB sha ks key q (q.a+lim) t) 55 [pq w9.hz,pq w0.hz,pq w2.hz] _ call55 (jU U hlv) (λr wq hm hx=>zr kv ks w9.hz w0.hz r q (q.a+lim) t key w2.hz w7.hz w3.hz w1.hz wq (((jU U hlv).2 r hm).grow hx) (hRp r hm) om (dm (U.g 3 O) hx) (dm (U.g 1 O) hx) (dm (U.g 2 O) hx) (dm (U.g 4 O) hx) (dm (U.g 0 O) hx) (dm (U.g 5 O) hx) ((U.arg hkv).grow hx) (dm (U.keepb hk0) hx)))) λa w12 Y U=>nv Y<|AL O<|AK (aj O O)<|AK (aj O O)<|AM O<|AM O<|λa Y=>G7 ?_;replace U:=U.k5 31 O;refine aa λG8=>nv (Y.p11 4 9 11 12 13 14 15 16 17 18 19 O)<|AL O<|AL O<|AK (ct O O)<|λa Y=>au Y U call54 O (wd (by rw[hbo]) (rn lv R (backB sha key q (q.a+lim) t) 57 [pq w9.hz,pq w2.hz] _ call57 (jU U hlv) (λr wq hm hx=>xL w9.hz r q (q.a+lim) t key w2.hz w7.hz w3.hz w1.hz wq (((jU U hlv).2 r hm).grow hx) (hRp r hm) om (dm (U.g 3 O) hx) (dm (U.g 1 O) hx) (dm (U.g 2 O) hx) (dm (U.g 4 O) hx) (dm (U.g 0 O) hx) (dm (U.keepb hk0) hx)))) λa w13 Y U=>nv Y<|AL O<|AK (aj O O)<|AK (aj O O)<|AM O<|AM O<|λa Y=>G8 ?_;replace U:=U.k4 30 O;refine ah λG9=>aw<|aa λG10=>nv (Y.p10 9 11 12 13 14 15 18 19 20 21 O)<|AL O<|AL O<|λa Y=>?_;rcases AR (bo.isSome) with hb6|hb6
 ·rw[hb6] at Y;refine nv Y<|AN (ax O)<|AN (bd O)<|AN (ax O)<|λa Y=>?_;rcases AR (!ko.isSome) with hb7|hb7
  ·rw[hb7] at Y
   try simp only[qz] at hb7
   refine nv Y<|AO<|AO<|AO<|AN (aq O O)<|AK (aq O O)<|AM O<|λa Y=>G10 ?_;replace Y:=Y.p10 9 11 12 13 14 15 18 19 20 66 O;replace U:=U.k3 7 O;refine aC Y O ?_;refine aa λG11=>nv Y<|AL O<|AM O<|AM O<|AM O<|λa Y=>G11 ?_;replace Y:=Y.p4 9 12 13 14 O;replace U:=U.k1 4 O;refine ao<|am Y results17 (ae O (ae O (ae O ag))) ?_;refine⟨?_,U.ext⟩;simp only[retv];unfold stateH;rw[hko,hbo,show pickS ko bo q (q.a+lim) t=(3,bo.getD 0) from by first|exact fC (ko:=ko) (bo:=bo) CL CL|exact fJ (ko:=ko) (bo:=bo) CL CL om|exact fI (ko:=ko) (bo:=bo) CL CL|exact fG (ko:=ko) (bo:=bo) CL CL om|exact gI (ko:=ko) (bo:=bo) CL CL om|exact gF (ko:=ko) (bo:=bo) CL CL om|exact Bool.noConfusion ((show ko.isSome=true by assumption).symm.trans (show ko.isSome=false by assumption))]
   try rfl
  rw[hb7] at Y
  try simp only[qz] at hb7
  refine nv Y<|AN (ax O)<|AN (ax O)<|AN (v_le O O)<|AN (ak O O)<|AK (aq O O)<|AM O<|λa Y=>G10 ?_;replace Y:=Y.p10 9 11 12 13 14 15 18 19 20 66 O;replace U:=U.k3 7 O;refine ay Y O (λhc8=>?_) (λhc8=>?_)
  ·refine aa λG12=>nv Y<|AL O<|AM O<|AM O<|AM O<|λa Y=>G12 ?_;replace Y:=Y.p4 9 12 13 14 O;replace U:=U.k1 4 O;refine ao<|am Y results17 (ae O (ae O (ae O ag))) ?_;refine⟨?_,U.ext⟩;simp only[retv];unfold stateH;rw[hko,hbo,show pickS ko bo q (q.a+lim) t=(3,bo.getD 0) from by first|exact fC (ko:=ko) (bo:=bo) CL CL|exact fJ (ko:=ko) (bo:=bo) CL CL om|exact fI (ko:=ko) (bo:=bo) CL CL|exact fG (ko:=ko) (bo:=bo) CL CL om|exact gI (ko:=ko) (bo:=bo) CL CL om|exact gF (ko:=ko) (bo:=bo) CL CL om|exact Bool.noConfusion ((show ko.isSome=true by assumption).symm.trans (show ko.isSome=false by assumption))]
   try rfl
  refine aa λG13=>nv Y<|AL O<|AM O<|λa Y=>G13<|bn Y O (λhc9=>?_) (λhc9=>?_)
  ·refine aa λG14=>nv Y<|AL O<|AM O<|AM O<|AM O<|λa Y=>G14 ?_;replace Y:=Y.p4 9 12 13 14 O;replace U:=U.k1 4 O;refine ao<|am Y results17 (ae O (ae O (ae O ag))) ?_;refine⟨?_,U.ext⟩;simp only[retv];unfold stateH;rw[hko,hbo,show pickS ko bo q (q.a+lim) t=(2,ko.getD 0) from by first|exact fC (ko:=ko) (bo:=bo) CL CL|exact fJ (ko:=ko) (bo:=bo) CL CL om|exact fI (ko:=ko) (bo:=bo) CL CL|exact fG (ko:=ko) (bo:=bo) CL CL om|exact gI (ko:=ko) (bo:=bo) CL CL om|exact gF (ko:=ko) (bo:=bo) CL CL om|exact Bool.noConfusion ((show ko.isSome=true by assumption).symm.trans (show ko.isSome=false by assumption))]
   try rfl
  refine aa λG15=>nv Y<|AK (ld U 1 O O (isAgg3 _) O)<|AK (ld U 0 O O (isAgg3 _) O)<|AK (v_ge O O)<|AM O<|λa Y=>G15 ?_;replace Y:=Y.p6 9 12 13 14 15 81 O;replace U:=U.k2 5 O;refine ay Y O (λhc10=>?_) (λhc10=>?_)
  ·refine ah λG16=>aL (aM λw14 hxz=>?_);replace U:=U.grow hxz;refine aP (k:=0) 2 [0,1] Y ?_;refine bB 2 (Y.p4 9 13 14 15 O) U<|pl_w (λU=>ld U 0 O O (isAgg3 _) O)<|pl_v (cH O) λa w15 Y U=>?_;replace Y:=Y.p3 9 85 12 O;refine ab<|aI (k:=2) 4 [3] ?_;refine nv Y<|AM O<|AM O<|λa Y=>ab<|aO<|G16<|ao<|am Y results17 (ae O (ae O (ae O ag))) ?_;refine⟨?_,U.ext⟩;simp only[retv];unfold stateH;rw[hko,hbo,show pickS ko bo q (q.a+lim) t=(3,q.a+lim) from by first|exact fC (ko:=ko) (bo:=bo) CL CL|exact fJ (ko:=ko) (bo:=bo) CL CL om|exact fI (ko:=ko) (bo:=bo) CL CL|exact fG (ko:=ko) (bo:=bo) CL CL om|exact gI (ko:=ko) (bo:=bo) CL CL om|exact gF (ko:=ko) (bo:=bo) CL CL om|exact Bool.noConfusion ((show ko.isSome=true by assumption).symm.trans (show ko.isSome=false by assumption))]
   try rfl
  refine ap<|G9<|ah λG17=>aL (aM λw16 hxz=>?_);replace U:=U.grow hxz;refine aP (k:=0) 3 [1,2] Y ?_;refine bB 3 (Y.p4 9 13 14 15 O) U<|pl_v (ac (v:=po w2.hz 4) O kr)<|pl_w (λU=>ld U 1 O O (isAgg3 _) O)<|pl_v (cH O) λa w17 Y U=>?_;replace Y:=Y.p2 87 12 O;refine ab<|aI (k:=3) 5 [4] ?_;refine nv Y<|AM O<|AM O<|λa Y=>ab<|aO<|G17<|ao<|am Y results17 (ae O (ae O (ae O ag))) ?_;refine⟨?_,U.ext⟩;simp only[retv];unfold stateH;rw[hko,hbo,show pickS ko bo q (q.a+lim) t=(1,q.a) from by first|exact fC (ko:=ko) (bo:=bo) CL CL|exact fJ (ko:=ko) (bo:=bo) CL CL om|exact fI (ko:=ko) (bo:=bo) CL CL|exact fG (ko:=ko) (bo:=bo) CL CL om|exact gI (ko:=ko) (bo:=bo) CL CL om|exact gF (ko:=ko) (bo:=bo) CL CL om|exact Bool.noConfusion ((show ko.isSome=true by assumption).symm.trans (show ko.isSome=false by assumption))]
  try rfl
 rw[hb6] at Y;refine nv Y<|AO<|AO<|AO<|λa Y=>bO Y λa Y=>bO Y λa Y=>bO Y λa Y=>nv Y<|AO<|AK (ak O O)<|AM O<|λa Y=>G10 ?_;replace Y:=Y.p10 9 11 12 13 14 15 18 19 20 66 O;replace U:=U.k3 7 O;refine aJ Y O ?_;refine aa λG18=>nv Y<|AL O<|AM O<|λa Y=>G18<|bn Y O (λhc11=>?_) (λhc11=>?_)
 ·refine aa λG19=>nv Y<|AL O<|AM O<|AM O<|AM O<|λa Y=>G19 ?_;replace Y:=Y.p4 9 12 13 14 O;replace U:=U.k1 4 O;refine ao<|am Y results17 (ae O (ae O (ae O ag))) ?_;refine⟨?_,U.ext⟩;simp only[retv];unfold stateH;rw[hko,hbo,show pickS ko bo q (q.a+lim) t=(2,ko.getD 0) from by first|exact fC (ko:=ko) (bo:=bo) CL CL|exact fJ (ko:=ko) (bo:=bo) CL CL om|exact fI (ko:=ko) (bo:=bo) CL CL|exact fG (ko:=ko) (bo:=bo) CL CL om|exact gI (ko:=ko) (bo:=bo) CL CL om|exact gF (ko:=ko) (bo:=bo) CL CL om|exact Bool.noConfusion ((show ko.isSome=true by assumption).symm.trans (show ko.isSome=false by assumption))]
  try rfl
 refine aa λG20=>nv Y<|AK (ld U 1 O O (isAgg3 _) O)<|AK (ld U 0 O O (isAgg3 _) O)<|AK (v_ge O O)<|AM O<|λa Y=>G20 ?_;replace Y:=Y.p6 9 12 13 14 15 81 O;replace U:=U.k2 5 O;refine ay Y O (λhc12=>?_) (λhc12=>?_)
 ·refine ah λG21=>aL (aM λw18 hxz=>?_);replace U:=U.grow hxz;refine aP (k:=0) 2 [0,1] Y ?_;refine bB 2 (Y.p4 9 13 14 15 O) U<|pl_w (λU=>ld U 0 O O (isAgg3 _) O)<|pl_v (cH O) λa w19 Y U=>?_;replace Y:=Y.p3 9 85 12 O;refine ab<|aI (k:=2) 4 [3] ?_;refine nv Y<|AM O<|AM O<|λa Y=>ab<|aO<|G21<|ao<|am Y results17 (ae O (ae O (ae O ag))) ?_;refine⟨?_,U.ext⟩;simp only[retv];unfold stateH;rw[hko,hbo,show pickS ko bo q (q.a+lim) t=(3,q.a+lim) from by first|exact fC (ko:=ko) (bo:=bo) CL CL|exact fJ (ko:=ko) (bo:=bo) CL CL om|exact fI (ko:=ko) (bo:=bo) CL CL|exact fG (ko:=ko) (bo:=bo) CL CL om|exact gI (ko:=ko) (bo:=bo) CL CL om|exact gF (ko:=ko) (bo:=bo) CL CL om|exact Bool.noConfusion ((show ko.isSome=true by assumption).symm.trans (show ko.isSome=false by assumption))]
  try rfl
 refine ap<|G9<|ah λG22=>aL (aM λw20 hxz=>?_);replace U:=U.grow hxz;refine aP (k:=0) 3 [1,2] Y ?_;refine bB 3 (Y.p4 9 13 14 15 O) U<|pl_v (ac (v:=po w2.hz 4) O kr)<|pl_w (λU=>ld U 1 O O (isAgg3 _) O)<|pl_v (cH O) λa w21 Y U=>?_;replace Y:=Y.p2 87 12 O;refine ab<|aI (k:=3) 5 [4] ?_;refine nv Y<|AM O<|AM O<|λa Y=>ab<|aO<|G22<|ao<|am Y results17 (ae O (ae O (ae O ag))) ?_;refine⟨?_,U.ext⟩;simp only[retv];unfold stateH;rw[hko,hbo,show pickS ko bo q (q.a+lim) t=(1,q.a) from by first|exact fC (ko:=ko) (bo:=bo) CL CL|exact fJ (ko:=ko) (bo:=bo) CL CL om|exact fI (ko:=ko) (bo:=bo) CL CL|exact fG (ko:=ko) (bo:=bo) CL CL om|exact gI (ko:=ko) (bo:=bo) CL CL om|exact gF (ko:=ko) (bo:=bo) CL CL om|exact Bool.noConfusion ((show ko.isSome=true by assumption).symm.trans (show ko.isSome=false by assumption))]
 try rfl
def keyG (c:Int):By:=List.replicate 32 (UInt8.ofNat ((100+c)%256).toNat)
theorem fR (c:Int):(keyG c).length=32:=by unfold keyG; simp
theorem nh {n m:Int} (hm:m<n):∀{l:List Int} {p:Int},p<m→ascI m p l=true→ascI n p (l++[m])=true
 | [],p,hp,h=>by rw[Bw,ascI,AQ hp,AQ hm]; rfl
 | i::l,p,hp,h=>by
  rw[ascI,AU,AU,AZ,AZ] at h;rw[BH,ascI,AQ h.1.1,AQ (by omega:i<n),nh hm h.1.2 h.2]; rfl
theorem oe {n m:Int} (hm:m≤n):∀{l:List Int} {p:Int},ascI m p l=true→ascI n p l=true
 | [],p,h=>rfl
 | i::l,p,h=>by
  rw[ascI,AU,AU,AZ,AZ] at h;rw[ascI,AQ h.1.1,AQ (by omega:i<n),oe hm h.2]; rfl
theorem zA {es:List By} {k:Nat} (hk:k<es.length) (h:¬1000<(es.getD k []).length) (ha:∀s∈es.take k,s.length≤1000):∀s∈es.take (k+1),s.length≤1000:=by
 rw[cI [] hk];exact ch ha om
theorem vJ (n m:Int) (w0:World) (hn: -9223372036854775808≤n∧n≤9223372036854775807) (hm:0<m∧m≤9223372036854775807):
  Ff 77 #[jv n,jv m] w0 (jv (pickI n m)):=by
 refine Cx func77 O ntmps77 (lb O) λa Y U=>aa λG1=>wla Y O λa Y=>G1<|ah λG2=>aa λG3=>nv Y<|AL O<|AK (v_lt O O)<|λa Y=>G3<|ay Y O (λhc1=>?_) (λhc1=>?_)
 ·refine al<|nv Y<|AL O<|AK (aK O O ⟨om,om⟩)<|AK (kD O om om)<|AM O<|λa Y=>ab<|G2<|aa λG4=>nv Y<|AL O<|AL O<|AK (fH O O om om)<|AM O<|λa Y=>G4 ?_;replace Y:=Y.p1 4 O;refine ao<|am Y results77 (ae O ag) ?_;exact⟨by simp only[retv,pickI]; simp[hc1],U.ext⟩
 refine ap<|G2<|aa λG5=>nv Y<|AL O<|AL O<|AK (fH O O om om)<|AM O<|λa Y=>G5 ?_;replace Y:=Y.p1 4 O;refine ao<|am Y results77 (ae O ag) ?_;exact⟨by simp only[retv,pickI]; simp[hc1],U.ext⟩
theorem bP (n m:Int) (w0:World) (hn: -9223372036854775808≤n∧n≤9223372036854775807) (hm:0<m∧m≤9223372036854775807):
  Ff 44 #[jv n,jv m] w0 (jv (pickI n m)):=by
 refine Cx func44 O ntmps44 (lb O) λa Y U=>aa λG1=>wla Y O λa Y=>G1<|ah λG2=>aa λG3=>nv Y<|AL O<|AK (v_lt O O)<|λa Y=>G3<|ay Y O (λhc1=>?_) (λhc1=>?_)
 ·refine al<|nv Y<|AL O<|AK (aK O O ⟨om,om⟩)<|AK (kD O om om)<|AM O<|λa Y=>ab<|G2<|aa λG4=>nv Y<|AL O<|AL O<|AK (fH O O om om)<|AM O<|λa Y=>G4 ?_;replace Y:=Y.p1 4 O;refine ao<|am Y results44 (ae O ag) ?_;exact⟨by simp only[retv,pickI]; simp[hc1],U.ext⟩
 refine ap<|G2<|aa λG5=>nv Y<|AL O<|AL O<|AK (fH O O om om)<|AM O<|λa Y=>G5 ?_;replace Y:=Y.p1 4 O;refine ao<|am Y results44 (ae O ag) ?_;exact⟨by simp only[retv,pickI]; simp[hc1],U.ext⟩
theorem ga (n m:Int) (w0:World) (hn: -9223372036854775808≤n∧n≤9223372036854775807) (hm:0<m∧m≤9223372036854775807):
  Ff 16 #[jv n,jv m] w0 (jv (pickI n m)):=by
 refine Cx func16 O ntmps16 (lb O) λa Y U=>aa λG1=>wla Y O λa Y=>G1<|ah λG2=>aa λG3=>nv Y<|AL O<|AK (v_lt O O)<|λa Y=>G3<|ay Y O (λhc1=>?_) (λhc1=>?_)
 ·refine al<|nv Y<|AL O<|AK (aK O O ⟨om,om⟩)<|AK (kD O om om)<|AM O<|λa Y=>ab<|G2<|aa λG4=>nv Y<|AL O<|AL O<|AK (fH O O om om)<|AM O<|λa Y=>G4 ?_;replace Y:=Y.p1 4 O;refine ao<|am Y results16 (ae O ag) ?_;exact⟨by simp only[retv,pickI]; simp[hc1],U.ext⟩
 refine ap<|G2<|aa λG5=>nv Y<|AL O<|AL O<|AK (fH O O om om)<|AM O<|λa Y=>G5 ?_;replace Y:=Y.p1 4 O;refine ao<|am Y results16 (ae O ag) ?_;exact⟨by simp only[retv,pickI]; simp[hc1],U.ext⟩
theorem jw (h:Int) (w0:World) (hb:0≤h∧h≤1000):
  Ff 13 #[jv h] w0 (sv (keyG h)):=by
 refine Cy func13 O ntmps13 (lb O) λa Y U=>aa λG1=>wla Y O λa Y=>G1<|aa λG2=>jR (n:=32) (E:=5) (sz:=1) O O ((kfill (UInt8.ofNat ((100+h)%256).toNat) 0).map λb=>[yv b]) kr D9 (by simp[kfill]) de de Y U λa w1 Y U=>wla Y O λa Y=>G2<|ah λG3=>aa λG4=>wla Y O λa Y=>G4<|aw<|aV (λm a w=>∃(k:Nat),m=32- k∧(k≤32)∧Fr 20 [(0,jv h),(2,sv ([])),(3,(.slice (some ⟨w0.hz,0,none⟩) 32 32)),(4,jv (k:Int))] [] a∧St No w0 [own (.slice (some ⟨w0.hz,0,none⟩) 32 32) 5 1 ((kfill (UInt8.ofNat ((100+h)%256).toNat) k).map λb=>[yv b])] w) _ ⟨0,O,A8 _,Y.pick [0,2,3,4],U⟩ ?_;rintro _ a w2 ⟨k,rfl,hk,Y,U⟩;refine ah λG5=>aa λG6=>nv Y<|AL O<|AL O<|AK ((aH (sT:=60) (U.ow 0 O) O O (runUnderlying60 _)).asi (m':=32) (by rw[AP,fb om]; rfl))<|AK (v_lt O O)<|λa Y=>G6<|ay Y O (λhc1=>?_) (λhc1=>?_)
 ·have hk2:k<32:=by omega
  refine ap<|G5<|ah λG7=>aw<|al<|nv Y<|AL O<|AL O<|AL O<|AK (aK O O ⟨om,om⟩)<|AK (mA (n:=100+h) O kr underlying5)<|AK ((ai (i:=(k:Int)) (sT:=60) (U.ow 0 O) O O (runUnderlying60 _) (sizeOf5 _) om EM).as (v':=slAddr (.slice (some ⟨w0.hz,0,none⟩) 32 32) (k*1)) O)<|λa Y=>kN (k:=k) (us:=[yv (UInt8.ofNat ((100+h)%256).toNat)]) 0 Y U O O O EM om (sizeOf5 _) O (by first|rfl|simp[Value.oneCell',yv,wv,sv]) O O λa w3 Y U=>ab<|G7<|al<|nv (Y.p4 0 2 3 4 O)<|AL O<|AK (aK O O ⟨om,om⟩)<|AM O<|λa Y=>ab ?_;rw[show ((kfill (UInt8.ofNat ((100+h)%256).toNat) k).map λb=>[yv b]).set k [yv (UInt8.ofNat ((100+h)%256).toNat)]=((kfill (UInt8.ofNat ((100+h)%256).toNat) (k+1)).map λb=>[yv b]) from by rw[←nL hk2,Cu]] at U;refine⟨_,?_,k+1,O,om,Y.pick [0,2,3,4],U⟩;omega
 obtain rfl:k=32:=by omega
 refine aN<|G3<|aa λG8=>nv Y<|AL O<|AK (fm (U.ow 0 O) O underlying60 underlying5 underlying9)<|AM O<|λa Y=>G8 ?_;replace Y:=Y.p1 2 O;replace U:=U.k0 0 O;refine ao<|am Y results13 (ae O ag) ?_;exact⟨by rw[nR]; rfl,U.ext⟩
theorem qN (bits:Int) (n:Nat) (w0:World) (hbi:i64 bits) (hn:n≤60):
  Ret Tryz.prog 28 #[jv bits,jv (n:Int)] w0 (MemR w0 (λx:Value × List Int=>x.1) (λx=>[own x.1 3 1 (x.2.map λz:Int=>[jv z])]) (λx=>ascI (n:Int) (-1) x.2=true∧x.2.length≤n)):=by
 obtain⟨pb,hpb⟩:∃m:Nat,pickI bits 65536=(m:Int):=⟨_,(B2 (ba bits (n:=65536) de).1).symm⟩;refine Cx func28 O ntmps28 (lb O) λa Y U=>aa λG1=>wla Y O λa Y=>G1<|aa λG2=>wla Y O λa Y=>G2<|ah λG3=>aa λG4=>wla Y O λa Y=>G4<|aw ?_;replace U:St No w0 [own (.slice none 0 0) 3 1 (([]).map λn=>[jv n])] w0:=U.nil_own;refine aV (λm a w=>∃(k:Nat) (v:Value) (l:List Int),m=n- k∧(k≤n)∧(ascI (k:Int) (-1) l=true)∧(l.length≤k)∧Fr 23 [(0,jv bits),(1,jv (n:Int)),(4,.slice none 0 0),(5,v),(6,jv (k:Int))] [] a∧St No w0 [own v 3 1 ((l).map λn=>[jv n])] w) _ ⟨0,.slice none 0 0,[],O,A8 _,O,Bs _,Y.pick [0,1,4,5,6],U.select [0] de⟩ ?_;rintro _ a w1 ⟨k,v,l,rfl,hk,hl,hll,Y,U⟩;refine ah λG5=>aa λG6=>nv Y<|AL O<|AL O<|AK (v_lt O O)<|λa Y=>G6<|ay Y O (λhc1=>?_) (λhc1=>?_)
 ·refine ap<|G5<|ah λG7=>aw<|aa λG8=>wlm Y O λa Y=>au Y U call77 O (ig hpb (vJ bits 65536 _ hbi de)) λa w2 Y U=>nv Y<|AL O<|AK (rH (m:=pb) (n:=k) O O om)<|AK (fH O O (Int.natCast_nonneg _) de)<|AK (v_eq O O)<|λa Y=>G8 ?_;replace Y:=Y.p6 0 1 4 5 6 17 O;refine ay Y O (λhc2=>?_) (λhc2=>?_)
  ·refine al<|nv Y<|AL O<|AL O<|λa Y=>aG (E:=3) (sz:=1) O [[jv (k:Int)]] kr sm O de de Y U λa w3 Y U=>bc (i:=1) (sT:=24) (inf:=Tryz.t3) (z:=jv 0) (b:=0) (off:=0) (m:=0) (c:=0) O O O (U.ow 0 O) sm underlying24 O O O O de CK CM CM de Y U λa w4 s3 Y U _=>wla Y O λa Y=>ab<|G7<|al<|nv Y<|AL O<|AK (aK O O ⟨om,om⟩)<|AM O<|λa Y=>ab ?_;replace U:St No w0 [own (.slice (some ⟨w2.hz,0,none⟩) 1 1) 3 1 ([[jv (k:Int)]]),own s3 3 1 (((l++[(k:Int)])).map λn=>[jv n])] w4:=by rw[show (((l++[(k:Int)])).map λn=>[jv n])=((l).map λn=>[jv n])++([[jv (k:Int)]]) from by rw[BI]; rfl]; exact U
   refine⟨_,?_,k+1,s3,(l++[(k:Int)]),O,om,(nh om om hl),(by rw[AW]; simp; omega),Y.pick [0,1,4,5,6],U.select [1] de⟩;omega
  refine ap<|G7<|al<|nv Y<|AL O<|AK (aK O O ⟨om,om⟩)<|AM O<|λa Y=>ab ?_;refine⟨_,?_,k+1,v,l,O,om,(oe om hl),om,Y.pick [0,1,4,5,6],U.select [0] de⟩;omega
 refine aN<|G3<|aa λG9=>nv Y<|AL O<|AM O<|λa Y=>G9 ?_;replace Y:=Y.p1 4 O;refine ao<|am Y results28 (ae O ag) ?_;have hkn:k=n:=by omega
 subst hkn;exact⟨(v,l),O,⟨hl,hll⟩,U.ext,St.out (E:=[own v 3 1 (l.map λz:Int=>[jv z])]) (H:=[]) U⟩
theorem gK (n lo hi:Int) (w0:World):
  Ff 111 #[jv n,jv lo,jv hi] w0 (.bool (inB n lo hi)):=by
 refine CB func111 O ntmps111 (lb O) λa Y U=>aa λG1=>wla Y O λa Y=>G1<|aa λG2=>nv Y<|AL O<|AL O<|AK (v_ge O O)<|AL O<|λa Y=>cP (N:=15) (df:=[]) 4 [(14,.bool ((decide (lo≤n))&&(decide (n≤hi)))),(0,jv n),(1,jv lo),(2,jv hi),(6,.bool false)] ?_ (λhj=>?_)
 rotate_left
 ·rcases AR (decide (lo≤n)) with hb1|hb1
  ·rw[hb1] at Y;have hb1b:=hb1
   try simp only[qz,AU,Bg,A7,Bf] at hb1
   refine nv Y<|AN (ax O)<|AN (ax O)<|AN (v_le O O)<|AK (aq O O)<|λa Y=>hj _ ?_
   try rw[hb1b]
   exact Y.pick [14,0,1,2,6]
  rw[hb1] at Y;have hb1b:=hb1
  try simp only[qz,AU,Bg,A7,Bf] at hb1
  refine nv Y<|AO<|AO<|AO<|AK (ak O O)<|λa Y=>hj _ ?_
  try rw[hb1b]
  exact Y.pick [14,0,1,2,6]
 intro a Y;refine wla Y O λa Y=>G2<|ao<|am Y results111 (ae O ag) ?_;exact⟨by simp only[retv]; unfold inB; rfl,U.ext⟩
theorem pX {c:Int} {es:List By} (h1:inB c 0 7=true) (h2:es.length≤60) (h3:∀s∈es,s.length≤1000):regOk c es=true:=by
 unfold regOk;rw[h1,AQ h2];simp only[BN,BE,BV,longE,AZ];exact λs hs=>by have:=h3 s hs; omega
theorem tu {c:Int} {es:List By} {s:By} (h:s∈es) (hl:1000<s.length):regOk c es=false:=by
 rw[Bool.eq_false_iff]; intro hr; have:=(dA hr).2.2.2 s h; omega
theorem sy {c:Int} {es:List By} (h:60<es.length):regOk c es=false:=by
 rw[Bool.eq_false_iff]; intro hr; have:=(dA hr).2.2.1; omega
theorem uw {c:Int} {es:List By} (h:inB c 0 7=false):regOk c es=false:=by unfold regOk; rw[h]; rfl
theorem qG (c:Int) (ev:Value) (es:List By) (w0:World) (hev:SlAt w0 ev 1 (es.map λs=>[sv s])):
  Ff 154 #[.agg #[jv c,ev]] w0 (.bool (regOk c es)):=by
 have hxb:=hev.2.1;simp only[AP,big] at hxb;refine Cy func154 O ntmps154 (lb O) λa Y U=>aa λG1=>aR Y U O [jv c,ev] O λa w1 Y U=>wla Y O λa Y=>G1<|ah λG2=>aa λG3=>nv Y<|AK (ac (v:=pq w0.hz) O kr)<|AK (ld U 0 O O (isAgg3 _) O)<|λa Y=>au Y U call111 O (gK c 0 7 _) λa w2 Y U=>nv Y<|AK (bd O)<|AL O<|λa Y=>?_;rcases AR (!(inB c 0 7)) with hb1|hb1
 ·rw[hb1] at Y
  try simp only[qz] at hb1
  refine nv Y<|AO<|AO<|AO<|AO<|AK (aq O O)<|λa Y=>G3 ?_;replace Y:=Y.p3 1 2 13 O;refine aC Y O ?_;refine aa λG4=>wla Y O λa Y=>G4<|ao<|am Y results154 (ae O ag) ?_;refine⟨?_,U.ext⟩;simp only[retv];refine Bh Value.bool ?_;symm;exact uw EO
 rw[hb1] at Y
 try simp only[qz] at hb1
 refine nv Y<|AN (ac (v:=po w0.hz 1) O kr)<|AN (ld U 0 O O (isAgg44 _) O)<|AN ((aH (sT:=44) (U.arg hev) O O (runUnderlying44 _)).asi (m':=(es.length:Int)) CU)<|AN (v_gt O O)<|AK (ak O O)<|λa Y=>G3 ?_;replace Y:=Y.p3 1 2 13 O;refine ay Y O (λhc2=>?_) (λhc2=>?_)
 ·refine aa λG5=>wla Y O λa Y=>G5<|ao<|am Y results154 (ae O ag) ?_;refine⟨?_,U.ext⟩;simp only[retv];refine Bh Value.bool ?_;symm;exact sy om
 refine ap<|G2<|ah λG6=>aa λG7=>wla Y O λa Y=>G7<|aw<|aV (λm a w=>∃(k:Nat),m=es.length- k∧(k≤es.length)∧(∀s∈es.take k,s.length≤1000)∧Fr 28 [(1,pq w0.hz),(3,jv (k:Int))] [] a∧St No w0 [blk w0.hz [jv c,ev] 75] w) _ ⟨0,O,A8 _,sm,Y.pick [1,3],U.select [0] de⟩ ?_;rintro _ a w3 ⟨k,rfl,hk,ha,Y,U⟩;refine ah λG8=>aa λG9=>nv Y<|AL O<|AK (ac (v:=po w0.hz 1) O kr)<|AK (ld U 0 O O (isAgg44 _) O)<|AK ((aH (sT:=44) (U.arg hev) O O (runUnderlying44 _)).asi (m':=(es.length:Int)) CU)<|AK (v_lt O O)<|λa Y=>G9<|ay Y O (λhc3=>?_) (λhc3=>?_)
 ·have hkx:k<es.length:=by omega
  refine ap<|G8<|ah λG10=>aw<|aa λG11=>nv Y<|AK (ac (v:=po w0.hz 1) O kr)<|AK (ld U 0 O O (isAgg44 _) O)<|AL O<|AK ((ai (i:=(k:Int)) (sT:=44) (U.arg hev) O O (runUnderlying44 _) (sizeOf9 _) om CH).as (v':=slAddr ev (k*1)) O)<|AK (az (u:=sv ((es).getD k [])) (i:=k) (j:=0) (U.arg hev) CH O (isAgg9 _) Dt)<|AK (aZ O O (runUnderlying9 _))<|AK (v_gt O O)<|λa Y=>G11 ?_;replace Y:=Y.p3 1 3 27 O;refine ay Y O (λhc4=>?_) (λhc4=>?_)
  ·refine aa λG12=>wla Y O λa Y=>G12<|ao<|am Y results154 (ae O ag) ?_;refine⟨?_,U.ext⟩;simp only[retv];refine Bh Value.bool ?_;symm;exact tu (bf (d:=([]:By)) hkx) om
  refine ap<|G10<|al<|nv Y<|AL O<|AK (aK O O ⟨om,om⟩)<|AM O<|λa Y=>ab ?_;refine⟨_,?_,k+1,O,om,(zA hkx om ha),Y.pick [1,3],U.select [0] de⟩;omega
 have hke:k=es.length:=by omega
 rw[hke,List.take_length] at ha;refine aN<|G6<|aa λG13=>wla Y O λa Y=>G13 ?_;replace Y:=Y.p1 2 O;replace U:=U.k0 0 O;refine ao<|am Y results154 (ae O ag) ?_;refine⟨?_,U.ext⟩;simp only[retv];refine Bh Value.bool ?_;symm;refine pX EO om ha
theorem sY (hd:Hd) (w0:World) (hc:0≤hd.c∧hd.c≤1000) (hn:0≤hd.n∧hd.n≤1000) (hr:hd.root.length≤1000):
  Ff 186 #[.agg #[jv hd.c,jv hd.n,sv hd.root,sv hd.tag]] w0 (sv (hdText hd.c hd.n hd.root)):=by
 have hp4:=bQ 4;have hpc:=bQ hd.c;have hpn:=bQ hd.n;refine Cy func186 O ntmps186 (lb O) λa Y U=>aa λG1=>aR Y U O [jv hd.c,jv hd.n,sv hd.root,sv hd.tag] O λa w1 Y U=>wla Y O λa Y=>G1<|aa λG2=>au Y U call129 O (dL 4 _ CW) λa w2 Y U=>nv Y<|AL O<|AK (aj O O)<|AK (aj O O)<|AM O<|AM O<|λa Y=>G2 ?_;refine aa λG3=>nv (Y.p3 1 2 3 O)<|AK (ac (v:=pq w0.hz) O kr)<|AK (ld U 0 O O (isAgg3 _) O)<|λa Y=>au Y U call129 O (dL hd.c _ CW) λa w3 Y U=>nv Y<|AL O<|AK (aj O O)<|AK (aj O O)<|AM O<|AM O<|λa Y=>G3 ?_;refine aa λG4=>nv (Y.p4 1 2 3 5 O)<|AK (ac (v:=po w0.hz 1) O kr)<|AK (ld U 0 O O (isAgg3 _) O)<|λa Y=>au Y U call129 O (dL hd.n _ CW) λa w4 Y U=>nv Y<|AL O<|AK (aj O O)<|AK (aj O O)<|AM O<|AM O<|λa Y=>G4 ?_;refine aa λG5=>nv (Y.p5 1 2 3 5 7 O)<|AL O<|AL O<|AK (dJ O O Dm)<|AL O<|AK (dJ O O Dm)<|AK (ac (v:=po w0.hz 2) O kr)<|AK (ld U 0 O O (isAgg9 _) O)<|AK (dJ O O Dm)<|AM O<|λa Y=>G5 ?_;replace Y:=Y.p1 2 O;replace U:=U.k0 0 O;refine ao<|am Y results186 (ae O ag) ?_;exact⟨by simp only[retv]; simp[hdText,puts],U.ext⟩
theorem tq (c n:Int) (root:By):(hdText c n root).length≤27+root.length:=by
 have h1:=bQ 4;have h2:=bQ c;have h3:=bQ n;simp only[hdText,puts,Bv,Cn,AW,A5];omega
theorem mV (key:By) (hd:Hd) (w0:World) (hc:0≤hd.c∧hd.c≤1000) (hn:0≤hd.n∧hd.n≤1000) (hr:hd.root.length≤1000) (hk:key.length≤40000000):
  Ff 156 #[sv key,.agg #[jv hd.c,jv hd.n,sv hd.root,sv hd.tag]] w0 (sv (sealR sha key hd.c hd.n hd.root)):=by
 have hxl:=tq hd.c hd.n hd.root;refine Cx func156 O ntmps156 (lb O) λa Y U=>aa λG1=>aR Y U O [jv hd.c,jv hd.n,sv hd.root,sv hd.tag] O λa w1 Y U=>wla Y O λa Y=>G1<|aa λG2=>nv Y<|AL O<|AK (ar (U.g 0 O) O (isAgg47 _) (sizeOf47 _))<|λa Y=>au Y U call186 O (sY hd _ hc hn om) λa w2 Y U=>au Y U call36 O (jh (hdText hd.c hd.n hd.root) _ om) λa w3 Y U=>au Y U call175 O (g6 key (leafH sha (hdText hd.c hd.n hd.root)) _ om (by rw[gP cV]; decide)) λa w4 Y U=>wla Y O λa Y=>G2 ?_;replace Y:=Y.p1 4 O;replace U:=U.k0 0 O;refine ao<|am Y results156 (ae O ag) ?_;exact⟨by rfl,U.ext⟩
theorem sF (key:By) (n:Nat) (hd:Hd) (c:Int) (ev:Value) (es:List By) (w0:World) (hev:SlAt w0 ev 1 (es.map λs=>[sv s])) (hk32:key.length=32) (hr:regOk c es=true) (hn:n≤es.length) (hhd:hdOf sha key c es n=hd):
  Ff 110 #[sv key,.agg #[jv c,ev],jv (n:Int)] w0 (.tuple #[.agg #[jv hd.c,jv hd.n,sv hd.root,sv hd.tag],jv 0]):=by
 obtain⟨hrc0,hrc1,hrl,hel⟩:=dA hr;refine CB func110 O ntmps110 (lb O) λa Y U=>aa λG1=>aR Y U O [jv c,ev] O λa w1 Y U=>aE Y U (zeroValue47 _) [jv 0,jv 0,.string (⟨#[]⟩),.string (⟨#[]⟩)] O λa w2 Y U=>wla Y O λa Y=>G1<|ah λG2=>aa λG3=>nv Y<|AL O<|AK (aZ O O (runUnderlying9 _))<|AK (v_ne O O)<|AL O<|λa Y=>?_;rcases (Decidable.em ((key.length:Int)=32)).symm with hb1|hb1
 ·rw[AV hb1] at Y;exfalso; omega
 rw[AQ hb1] at Y;refine wly Y (ar (U.g 1 O) O (isAgg75 _) (sizeOf75 _)) λa Y=>aF Y U call154 O (cj hr (qG c ev es _ (U.arg hev))) λa w3 Y U=>nv Y<|AN ((bd O).asb (b':=false) O)<|AK (ak O O)<|AL O<|AN (ax O)<|AN (ac (v:=po w0.hz 1) O kr)<|AN (ld U 1 O O (isAgg44 _) O)<|AN ((aH (sT:=44) (U.arg hev) O O (runUnderlying44 _)).asi (m':=(es.length:Int)) CU)<|λa Y=>aF Y U call111 O (gK (n:Int) 0 (es.length:Int) _) λa w4 Y U=>nv Y<|AN (bd O)<|AK (ak O O)<|λa Y=>G3 ?_;replace Y:=Y.p6 0 2 4 6 7 24 O;refine bn Y O (λhc2=>?_) (λhc2=>?_)
 ·try simp only[qz] at hc2
  rw[show inB (n:Int) 0 (es.length:Int)=true from by simp[inB]; omega] at hc2; cases hc2
 try simp only[qz] at hc2
 refine ap<|G2<|ah λG4=>aL (aM λw5 hxz=>?_);replace U:=U.grow hxz;refine aP (k:=0) 10 [8,9] Y ?_;replace Y:=Y.p5 0 2 4 6 7 O;refine bE [9] (λi=>match i with|9=>pm (λb:Nat=>pq b) (λb=>[blk b [jv 0,jv 0,.string (⟨#[]⟩),.string (⟨#[]⟩)] 47]) (λ_=>True)|_=>λ_ _=>False) 10 [[],[0],[],[],[3],[],[4,5],[6],[1,2,7],[]] [pq w0.hz,jv c,jv (n:Int),po w0.hz 1,ev,jv (n:Int),(cut ev 1 0 n (slCap ev)),sv (rootH sha (es.take n)),.agg #[jv c,jv (n:Int),sv (rootH sha (es.take n)),sv ([]:By)],undef] Y U ?_ ?_ ?_
 ·exact CG<|hqv (ac (v:=pq w0.hz) rfl kr)<|hqw (λU=>ld U 1 rfl rfl (isAgg3 _) rfl)<|hqv (ax rfl)<|hqv (ac (v:=po w0.hz 1) rfl kr)<|hqw (λU=>ld U 1 rfl rfl (isAgg44 _) rfl)<|hqv (ax rfl)<|hqw (λU=>bT (l:=0) (h:=n) (U.arg hev) rfl rfl rfl underlying44 kr (.inl ⟨rfl,rfl⟩) (.inr rfl) (A8 _) CS)<|CE (λ_ _ U=>bu call155 rfl (mu _ (cut ev 1 0 n (slCap ev)) (es.take n) _ rfl ((U.arg hev).cut0 (h:=n) CP) De (λs h=>Br (hel _ (BB h)) de)))<|hqv (aW (v:=.agg #[jv c,jv (n:Int),sv (rootH sha (es.take n)),sv ([]:By)]) rfl kr)<|CE (λh=>absurd sm h)<|CF
 ·intro i hi;simp only[A0,A4,Bm] at hi;subst hi
  ·intro w U;exact fD (zeroValue47 _) (cs:=[jv 0,jv 0,.string (⟨#[]⟩),.string (⟨#[]⟩)]) O
 clear Y U;rintro _ _ ⟨b3,rfl, -,rfl⟩ a w6 Y U;replace Y:=Y.p5 34 8 0 6 7 O;replace U:=U.n3 O;refine ab<|aI (k:=10) 11 [10] ?_;refine aA 0 Y U [jv c,jv (n:Int),sv (rootH sha (es.take n)),sv ([]:By)] O (sizeOf47 _) λa w7 Y U=>ab<|aO<|G4 ?_;replace U:=U.k2 3 O;refine aa λG5=>nv (Y.p4 0 6 7 8 O)<|AL O<|AK (ar (U.g 0 O) O (isAgg47 _) (sizeOf47 _))<|λa Y=>au Y U call156 O (mV key (⟨c,(n:Int),rootH sha (es.take n),([]:By)⟩:Hd) _ (show 0≤c∧c≤1000 by omega) (show 0≤(n:Int)∧(n:Int)≤1000 by omega) (by first|exact Br (Nat.le_of_eq (eg cV _)) de|omega) om) λa w8 Y U=>wlv Y (ac (v:=po b3 3) O kr) λa Y=>aA 0 Y U [jv c,jv (n:Int),sv (rootH sha (es.take n)),sv (sealR sha key c (n:Int) (rootH sha (es.take n)))] O (sizeOf9 _) λa w9 Y U=>G5<|aa λG6=>wlv Y (ar (U.g 0 O) O (isAgg47 _) (sizeOf47 _)) λa Y=>aA 1 Y U [jv c,jv (n:Int),sv (rootH sha (es.take n)),sv (sealR sha key c (n:Int) (rootH sha (es.take n)))] O (sizeOf47 _) λa w10 Y U=>wla Y O λa Y=>G6 ?_;replace Y:=Y.p2 6 7 O;replace U:=U.k1 2 O;refine ao<|am Y results110 (aB O (bA (U.g 0 O) (isAgg47 _) (sizeOf47 _)) (ae O ag)) ?_;subst hhd;exact⟨O,U.ext⟩
theorem iI (key:By) (n:Nat) (hd:Hd) (lv:Value) (ix:List Int) (c:Int) (ev:Value) (es:List By) (w0:World) (hev:SlAt w0 ev 1 (es.map λs=>[sv s])) (hlv:SlAt w0 lv 1 ((ix).map λn=>[jv n])) (hk32:key.length=32) (hr:regOk c es=true) (hn:n≤es.length) (hix:ascI (n:Int) (-1) ix=true) (hil:ix.length≤1000) (hhd:hdOf sha key c es n=hd):
  Ret Tryz.prog 48 #[sv key,.agg #[jv c,ev],jv (n:Int),lv] w0 (MemR w0 (λx:Value × List Itw=>.tuple #[(EU hd x.1),jv 0]) (λx=>[itsE x.1 x.2]) (λx=>itsM x.2=showIs sha es n ix)):=by
 obtain⟨hrc0,hrc1,hrl,hel⟩:=dA hr;have hxb:=hlv.2.1;simp only[AP,big] at hxb;refine Cz func48 O ntmps48 (lb O) λa Y U=>aa λG1=>aR Y U O [jv c,ev] O λa w1 Y U=>aE Y U (zeroValue50 _) E8 O λa w2 Y U=>wla Y O λa Y=>G1<|aa λG2=>nv Y<|AL O<|AK (ar (U.g 1 O) O (isAgg75 _) (sizeOf75 _))<|AL O<|λa Y=>au Y U call110 O (sF key n hd c ev es _ (U.arg hev) hk32 hr hn hhd) λa w3 Y U=>nv Y<|AL O<|AK (aj O O)<|AK (aj O O)<|λa Y=>aE Y U (zeroValue47 _) [jv 0,jv 0,.string (⟨#[]⟩),.string (⟨#[]⟩)] O λa w4 Y U=>aA 0 Y U [jv hd.c,jv hd.n,sv hd.root,sv hd.tag] O (sizeOf47 _) λa w5 Y U=>wla Y O λa Y=>G2 ?_;refine ah λG3=>aa λG4=>nv (Y.p7 2 3 5 8 9 10 11 O)<|AL O<|AK ((v_ne O O).asb (b':=false) O)<|λa Y=>G4<|aJ Y O ?_;refine ap<|G3<|aa λG5=>nv Y<|AK (ar (U.g 0 O) O (isAgg47 _) (sizeOf47 _))<|AK (aW (v:=(EU hd (.slice none 0 0))) O kr)<|λa Y=>aE Y U (zeroValue50 _) E8 O λa w6 Y U=>aA 0 Y U (ET hd (.slice none 0 0)) O (sizeOf50 _) λa w7 Y U=>G5 ?_;replace U:=U.k3 13 O;refine ah λG6=>aa λG7=>wla (Y.p6 2 3 5 8 9 12 O) O λa Y=>G7<|aw ?_;replace U:St No w0 [own (.slice none 0 0) 110 3 (([]).map Itw.cells),blk w5.hz (ET hd (.slice none 0 0)) 50,blk w1.hz E8 50,blk w0.hz [jv c,ev] 75] w7:=U.nil_own;replace U:St No w0 [pfsE ([]),own (.slice none 0 0) 110 3 (([]).map Itw.cells),blk w5.hz (ET hd (.slice none 0 0)) 50,blk w1.hz E8 50,blk w0.hz [jv c,ev] 75] w7:=tA U;refine aV (λm a w=>∃(k:Nat) (vi:Value) (L:List Itw),m=ix.length- k∧(k≤ix.length)∧(itsM L=showIs sha es n (ix.take k))∧Fr 91 [(2,jv (n:Int)),(3,lv),(5,pq w0.hz),(8,pq w1.hz),(12,pq w5.hz),(13,jv (k:Int))] [] a∧St No w0 [own vi 110 3 ((L).map Itw.cells),pfsE L,blk w5.hz (ET hd vi) 50,blk w1.hz E8 50,blk w0.hz [jv c,ev] 75] w) _ ⟨0,.slice none 0 0,[],O,A8 _,O,Y.pick [2,3,5,8,12,13],U.select [1,0,2,3,4] de⟩ ?_;rintro _ a w8 ⟨k,vi,L,rfl,hk,hL,Y,U⟩;refine ah λG8=>aa λG9=>nv Y<|AL O<|AL O<|AK ((aH (sT:=24) (U.arg hlv) O O (runUnderlying24 _)).asi (m':=(ix.length:Int)) CU)<|AK (v_lt O O)<|λa Y=>G9<|ay Y O (λhc1=>?_) (λhc1=>?_)
 ·have hkx:k<ix.length:=by omega
  refine ap<|G8<|ah λG10=>aw<|ah λG11=>ah λG12=>?_;obtain⟨hia,hib,hic⟩:=px hix (k:=k) hkx;obtain⟨iq,hki⟩:∃iq:Nat,ix.getD k 0=(iq:Int):=⟨(ix.getD k 0).toNat,by omega⟩;rw[hki] at hia hib hic;refine aL (aM λw9 hxz=>?_);replace U:=U.grow hxz;refine aP (k:=0) 6 [3,5] Y ?_;refine bB 6 (Y.p9 2 3 5 8 12 13 28 29 30 O) U<|pl_m O<|pl_m O<|pl_w (λU=>(ai (i:=(k:Int)) (sT:=24) (U.arg hlv) O O (runUnderlying24 _) (sizeOf3 _) om CH).as (v':=slAddr lv (k*1)) O)<|pl_w (λU=>az (u:=jv (iq:Int)) (i:=k) (j:=0) (U.arg hlv) CH O (isAgg3 _) Dq)<|pl_m O<|pl_v (bF O O ⟨om,om⟩) λa w10 Y U=>?_;replace Y:=Y.p8 2 3 5 8 12 13 37 39 O;refine ab<|aI (k:=6) 12 [11] ?_;refine au Y U call111 O (cj (show inB (iq:Int) 0 ((n:Int)- 1)=true from by simp only[inB,AU,AZ]; omega) (gK (iq:Int) 0 ((n:Int)- 1) _)) λa w11 Y U=>nv Y<|AK ((bd O).asb (b':=false) O)<|AL O<|AN (ax O)<|AN (v_gt O O)<|AN (ax O)<|λa Y=>ab ?_;rcases Decidable.em (0<(k:Int)) with hb2|hb2
  ·rw[AQ hb2] at Y;have hic:=hic om;refine aP (k:=12) 21 [15,20] Y ?_;replace Y:=Y.p14 2 3 5 8 12 13 37 39 40 41 42 43 44 45 O;refine bB 9 Y U<|pl_m O<|pl_m O<|pl_w (λU=>(ai (i:=(k:Int)) (sT:=24) (U.arg hlv) O O (runUnderlying24 _) (sizeOf3 _) om CH).as (v':=slAddr lv (k*1)) O)<|pl_w (λU=>az (u:=jv (iq:Int)) (i:=k) (j:=0) (U.arg hlv) CH O (isAgg3 _) Dq)<|pl_m O<|pl_m O<|pl_v (bF O O ⟨om,om⟩)<|pl_w (λU=>(ai (i:=(k:Int)- 1) (sT:=24) (U.arg hlv) O O (runUnderlying24 _) (sizeOf3 _) om CH).as (v':=slAddr lv ((k- 1)*1)) C6) ?_;refine pl_w (λU=>az (u:=jv (ix.getD (k- 1) 0)) (i:=(k- 1)) (j:=0) (U.arg hlv) CH O (isAgg3 _) C0) λa w12 Y U=>?_;replace Y:=Y.p10 2 3 5 8 12 13 42 45 49 54 O;refine ab<|aI (k:=21) 24 [23] ?_;refine nv Y<|AN ((v_le O O).asb (b':=false) DA)<|AN (aq O O)<|AK (ak O O)<|λa Y=>ab<|aO<|G12 ?_;replace Y:=Y.p7 2 3 5 8 12 13 57 O;refine aJ Y O ?_;refine ap<|G11<|ah λG13=>aL (aM λw13 hxz=>?_);replace U:=U.grow hxz;refine aP (k:=0) 8 [3,7] Y ?_;refine bB 8 (Y.p7 2 3 5 8 12 13 57 O) U<|pl_v (ac (v:=po w0.hz 1) O kr)<|pl_w (λU=>ld U 4 O O (isAgg44 _) O)<|pl_m O<|pl_w (λU=>bT (l:=0) (h:=n) (U.arg hev) O O O underlying44 kr (.inl ⟨O,O⟩) (.inr O) (A8 _) CS)<|pl_m O<|pl_m O<|pl_w (λU=>(ai (i:=(k:Int)) (sT:=24) (U.arg hlv) O O (runUnderlying24 _) (sizeOf3 _) om CH).as (v':=slAddr lv (k*1)) O)<|pl_w (λU=>az (u:=jv (iq:Int)) (i:=k) (j:=0) (U.arg hlv) CH O (isAgg3 _) Dq) λa w14 Y U=>?_;replace Y:=Y.p8 2 3 5 8 12 13 63 67 O;refine ab<|aI (k:=8) 10 [9] ?_;refine bp Y U call112 O (nO _ (cut ev 1 0 n (slCap ev)) (es.take n) iq _ O ((U.arg hev).cut0 (h:=n) CP) De De (λs h=>Br (hel _ (BB h)) de)) λa w15 x4 hp Y U=>?_;revert x4 hp Y U; rintro pv3 hp Y U;clear hp;replace U:=U.n6 O;refine wlm Y O λa Y=>ab<|aP (k:=10) 13 [11,12] Y ?_;refine bB 3 (Y.p10 2 3 5 8 12 13 63 67 68 59 O) U<|pl_v (aj O O)<|pl_v (aj O O)<|pl_v (cH O) λa w16 Y U=>?_;replace Y:=Y.p8 2 3 5 8 12 13 70 14 O;refine ab<|aI (k:=13) 14 [13] ?_;refine wla Y O λa Y=>ab<|aO<|G13<|aL (aM λw17 hxz=>?_);replace U:=U.grow hxz;refine aP (k:=0) 17 [1,16] Y ?_;replace Y:=Y.p9 2 3 5 8 12 13 70 14 15 O;refine bE [16] (λi=>match i with|16=>pm (λb:Nat=>.slice (some ⟨b,0,none⟩) 1 1) (λb=>[own (.slice (some ⟨b,0,none⟩) 1 1) 110 3 [[jv (iq:Int),sv ((es).getD iq []),pv3]]]) (λ_=>True)|_=>λ_ _=>False) 17 [[],[0],[],[],[2,3],[4],[],[6],[],[],[8,9],[10],[7,11],[12],[],[5,13,14],[15]] [po w5.hz 4,vi,lv,jv (k:Int),slAddr lv (k*1),jv (iq:Int),po w0.hz 1,ev,lv,jv (k:Int),slAddr lv (k*1),jv (iq:Int),slAddr ev (iq*1),sv ((es).getD iq []),pv3,.agg #[jv (iq:Int),sv ((es).getD iq []),pv3],undef] Y U ?_ ?_ ?_
   ·exact CG<|hqv (ac (v:=po w5.hz 4) rfl kr)<|hqw (λU=>ld U 3 rfl rfl (isAgg48 _) rfl)<|hqv (ax rfl)<|hqv (ax rfl)<|hqw (λU=>(ai (i:=(k:Int)) (sT:=24) (U.arg hlv) rfl rfl (runUnderlying24 _) (sizeOf3 _) om CH).as (v':=slAddr lv (k*1)) rfl)<|hqw (λU=>az (u:=jv (iq:Int)) (i:=k) (j:=0) (U.arg hlv) CH rfl (isAgg3 _) Dq)<|hqv (ac (v:=po w0.hz 1) rfl kr)<|hqw (λU=>ld U 5 rfl rfl (isAgg44 _) rfl)<|hqv (ax rfl)<|hqv (ax rfl)<|hqw (λU=>(ai (i:=(k:Int)) (sT:=24) (U.arg hlv) rfl rfl (runUnderlying24 _) (sizeOf3 _) om CH).as (v':=slAddr lv (k*1)) rfl)<|hqw (λU=>az (u:=jv (iq:Int)) (i:=k) (j:=0) (U.arg hlv) CH rfl (isAgg3 _) Dq)<|
     hqw (λU=>(ai (i:=(iq:Int)) (sT:=44) (U.arg hev) rfl rfl (runUnderlying44 _) (sizeOf9 _) om CH).as (v':=slAddr ev (iq*1)) Dw)<|hqw (λU=>az (u:=sv ((es).getD iq [])) (i:=iq) (j:=0) (U.arg hev) CH rfl (isAgg9 _) Dt)<|hqv (ax rfl)<|hqw (λU=>aW (v:=.agg #[jv (iq:Int),sv ((es).getD iq []),pv3]) rfl Du)<|CE (λh=>absurd sm h)<|CF
   ·intro i hi;simp only[A0,A4,Bm] at hi;subst hi
    ·intro w U;exact bL (E:=110) (sz:=3) O [[jv (iq:Int),sv ((es).getD iq []),pv3]] (λ_=>by obtain⟨_,_,_,e0_⟩:=cQ (U.ow 0 rfl); rw[e0_]; kernel_rfl) sm O de
   clear Y U;rintro _ _ ⟨b5,rfl, -,rfl⟩ a w18 Y U;replace Y:=Y.p8 72 87 2 3 5 8 12 13 O;replace U:=U.n7 O;refine ab<|aI (k:=17) 20 [19] ?_;refine bc (i:=2) (sT:=48) (inf:=Tryz.t110) (z:=.agg #[jv 0,.string (⟨#[]⟩),.slice none 0 0]) (b:=0) (off:=0) (m:=0) (c:=0) O O O (U.ow 0 O) sm underlying48 O O O O de Di CO CO de Y U λa w19 s6 Y U _=>?_;replace U:St No w0 [own (.slice (some ⟨b5,0,none⟩) 1 1) 110 3 ([[jv (iq:Int),sv ((es).getD iq []),pv3]]),own pv3 9 1 ((proofH sha (es.take n) iq).map λs=>[sv s]),own s6 110 3 (((L++[(⟨⟨(iq:Int),es.getD iq [],proofH sha (es.take n) iq⟩,pv3⟩:Itw)])).map Itw.cells),pfsE L,blk w5.hz (ET hd vi) 50,blk w1.hz E8 50,blk w0.hz [jv c,ev] 75] w19:=by rw[show (((L++[(⟨⟨(iq:Int),es.getD iq [],proofH sha (es.take n) iq⟩,pv3⟩:Itw)])).map Itw.cells)=((L).map Itw.cells)++([[jv (iq:Int),sv ((es).getD iq []),pv3]]) from by rw[BI]; rfl]; exact U
   refine wlv Y (ac (v:=po w5.hz 4) O kr) λa Y=>ce 4 Y U (U.ow 2 O) O O O (sizeOf48 _) (lb O) (ds:=(ET hd s6)) O O λa w20 Y U=>ab<|aO<|G10 ?_;replace U:=U.k6 126 O;refine al<|nv (Y.p6 2 3 5 8 12 13 O)<|AL O<|AK (aK O O ⟨om,om⟩)<|AM O<|λa Y=>ab ?_;replace U:=U.s6 [0,2,1,3,4,5] de rfl;replace U:St No w0 [pfsE (L++[(⟨⟨(iq:Int),es.getD iq [],proofH sha (es.take n) iq⟩,pv3⟩:Itw)]),own s6 110 3 (((L++[(⟨⟨(iq:Int),es.getD iq [],proofH sha (es.take n) iq⟩,pv3⟩:Itw)])).map Itw.cells),blk w5.hz (ET hd s6) 50,blk w1.hz E8 50,blk w0.hz [jv c,ev] 75] w20:=jM ⟨⟨(iq:Int),es.getD iq [],proofH sha (es.take n) iq⟩,pv3⟩ U;refine⟨_,?_,k+1,s6,(L++[(⟨⟨(iq:Int),es.getD iq [],proofH sha (es.take n) iq⟩,pv3⟩:Itw)]),O,om,(hT hL hkx hki),Y.pick [2,3,5,8,12,13],U.select [1,0,2,3,4] de⟩;omega
  rw[AV hb2] at Y;refine bR (k:=12) 21 [15,20] (Y.p14 2 3 5 8 12 13 37 39 40 41 42 43 44 45 O) λa Y=>?_;replace Y:Fr 91 [(46,undef),(47,undef),(48,undef),(49,undef),(50,undef),(51,undef),(52,undef),(53,undef),(54,undef),(2,jv (n:Int)),(3,lv),(5,pq w0.hz),(8,pq w1.hz),(12,pq w5.hz),(13,jv (k:Int)),(37,jv (iq:Int)),(39,jv ((n:Int)- 1)),(40,.bool true),(41,.bool false),(42,.bool false),(43,jv (k:Int)),(44,.bool false),(45,.bool false)] [] a:=Y;refine aI (k:=21) 24 [23] ?_;refine nv Y<|AO<|AN (ak O O)<|AK (ak O O)<|λa Y=>ab<|aO<|G12 ?_;replace Y:=Y.p7 2 3 5 8 12 13 57 O;refine aJ Y O ?_;refine ap<|G11<|ah λG14=>aL (aM λw21 hxz=>?_);replace U:=U.grow hxz;refine aP (k:=0) 8 [3,7] Y ?_;refine bB 8 (Y.p7 2 3 5 8 12 13 57 O) U<|pl_v (ac (v:=po w0.hz 1) O kr)<|pl_w (λU=>ld U 4 O O (isAgg44 _) O)<|pl_m O<|pl_w (λU=>bT (l:=0) (h:=n) (U.arg hev) O O O underlying44 kr (.inl ⟨O,O⟩) (.inr O) (A8 _) CS)<|pl_m O<|pl_m O<|pl_w (λU=>(ai (i:=(k:Int)) (sT:=24) (U.arg hlv) O O (runUnderlying24 _) (sizeOf3 _) om CH).as (v':=slAddr lv (k*1)) O)<|pl_w (λU=>az (u:=jv (iq:Int)) (i:=k) (j:=0) (U.arg hlv) CH O (isAgg3 _) Dq) λa w22 Y U=>?_;replace Y:=Y.p8 2 3 5 8 12 13 63 67 O;refine ab<|aI (k:=8) 10 [9] ?_;refine bp Y U call112 O (nO _ (cut ev 1 0 n (slCap ev)) (es.take n) iq _ O ((U.arg hev).cut0 (h:=n) CP) De De (λs h=>Br (hel _ (BB h)) de)) λa w23 x8 hp Y U=>?_;revert x8 hp Y U; rintro pv7 hp Y U;clear hp;replace U:=U.n6 O;refine wlm Y O λa Y=>ab<|aP (k:=10) 13 [11,12] Y ?_;refine bB 3 (Y.p10 2 3 5 8 12 13 63 67 68 59 O) U<|pl_v (aj O O)<|pl_v (aj O O)<|pl_v (cH O) λa w24 Y U=>?_;replace Y:=Y.p8 2 3 5 8 12 13 70 14 O;refine ab<|aI (k:=13) 14 [13] ?_;refine wla Y O λa Y=>ab<|aO<|G14<|aL (aM λw25 hxz=>?_);replace U:=U.grow hxz;refine aP (k:=0) 17 [1,16] Y ?_;replace Y:=Y.p9 2 3 5 8 12 13 70 14 15 O;refine bE [16] (λi=>match i with|16=>pm (λb:Nat=>.slice (some ⟨b,0,none⟩) 1 1) (λb=>[own (.slice (some ⟨b,0,none⟩) 1 1) 110 3 [[jv (iq:Int),sv ((es).getD iq []),pv7]]]) (λ_=>True)|_=>λ_ _=>False) 17 [[],[0],[],[],[2,3],[4],[],[6],[],[],[8,9],[10],[7,11],[12],[],[5,13,14],[15]] [po w5.hz 4,vi,lv,jv (k:Int),slAddr lv (k*1),jv (iq:Int),po w0.hz 1,ev,lv,jv (k:Int),slAddr lv (k*1),jv (iq:Int),slAddr ev (iq*1),sv ((es).getD iq []),pv7,.agg #[jv (iq:Int),sv ((es).getD iq []),pv7],undef] Y U ?_ ?_ ?_
  ·exact CG<|hqv (ac (v:=po w5.hz 4) rfl kr)<|hqw (λU=>ld U 3 rfl rfl (isAgg48 _) rfl)<|hqv (ax rfl)<|hqv (ax rfl)<|hqw (λU=>(ai (i:=(k:Int)) (sT:=24) (U.arg hlv) rfl rfl (runUnderlying24 _) (sizeOf3 _) om CH).as (v':=slAddr lv (k*1)) rfl)<|hqw (λU=>az (u:=jv (iq:Int)) (i:=k) (j:=0) (U.arg hlv) CH rfl (isAgg3 _) Dq)<|hqv (ac (v:=po w0.hz 1) rfl kr)<|hqw (λU=>ld U 5 rfl rfl (isAgg44 _) rfl)<|hqv (ax rfl)<|hqv (ax rfl)<|hqw (λU=>(ai (i:=(k:Int)) (sT:=24) (U.arg hlv) rfl rfl (runUnderlying24 _) (sizeOf3 _) om CH).as (v':=slAddr lv (k*1)) rfl)<|hqw (λU=>az (u:=jv (iq:Int)) (i:=k) (j:=0) (U.arg hlv) CH rfl (isAgg3 _) Dq)<|
    hqw (λU=>(ai (i:=(iq:Int)) (sT:=44) (U.arg hev) rfl rfl (runUnderlying44 _) (sizeOf9 _) om CH).as (v':=slAddr ev (iq*1)) Dw)<|hqw (λU=>az (u:=sv ((es).getD iq [])) (i:=iq) (j:=0) (U.arg hev) CH rfl (isAgg9 _) Dt)<|hqv (ax rfl)<|hqw (λU=>aW (v:=.agg #[jv (iq:Int),sv ((es).getD iq []),pv7]) rfl Du)<|CE (λh=>absurd sm h)<|CF
  ·intro i hi;simp only[A0,A4,Bm] at hi;subst hi
   ·intro w U;exact bL (E:=110) (sz:=3) O [[jv (iq:Int),sv ((es).getD iq []),pv7]] (λ_=>by obtain⟨_,_,_,e0_⟩:=cQ (U.ow 0 rfl); rw[e0_]; kernel_rfl) sm O de
  clear Y U;rintro _ _ ⟨b9,rfl, -,rfl⟩ a w26 Y U;replace Y:=Y.p8 72 87 2 3 5 8 12 13 O;replace U:=U.n7 O;refine ab<|aI (k:=17) 20 [19] ?_;refine bc (i:=2) (sT:=48) (inf:=Tryz.t110) (z:=.agg #[jv 0,.string (⟨#[]⟩),.slice none 0 0]) (b:=0) (off:=0) (m:=0) (c:=0) O O O (U.ow 0 O) sm underlying48 O O O O de Di CO CO de Y U λa w27 s10 Y U _=>?_;replace U:St No w0 [own (.slice (some ⟨b9,0,none⟩) 1 1) 110 3 ([[jv (iq:Int),sv ((es).getD iq []),pv7]]),own pv7 9 1 ((proofH sha (es.take n) iq).map λs=>[sv s]),own s10 110 3 (((L++[(⟨⟨(iq:Int),es.getD iq [],proofH sha (es.take n) iq⟩,pv7⟩:Itw)])).map Itw.cells),pfsE L,blk w5.hz (ET hd vi) 50,blk w1.hz E8 50,blk w0.hz [jv c,ev] 75] w27:=by rw[show (((L++[(⟨⟨(iq:Int),es.getD iq [],proofH sha (es.take n) iq⟩,pv7⟩:Itw)])).map Itw.cells)=((L).map Itw.cells)++([[jv (iq:Int),sv ((es).getD iq []),pv7]]) from by rw[BI]; rfl]; exact U
  refine wlv Y (ac (v:=po w5.hz 4) O kr) λa Y=>ce 4 Y U (U.ow 2 O) O O O (sizeOf48 _) (lb O) (ds:=(ET hd s10)) O O λa w28 Y U=>ab<|aO<|G10 ?_;replace U:=U.k6 126 O;refine al<|nv (Y.p6 2 3 5 8 12 13 O)<|AL O<|AK (aK O O ⟨om,om⟩)<|AM O<|λa Y=>ab ?_;replace U:=U.s6 [0,2,1,3,4,5] de rfl;replace U:St No w0 [pfsE (L++[(⟨⟨(iq:Int),es.getD iq [],proofH sha (es.take n) iq⟩,pv7⟩:Itw)]),own s10 110 3 (((L++[(⟨⟨(iq:Int),es.getD iq [],proofH sha (es.take n) iq⟩,pv7⟩:Itw)])).map Itw.cells),blk w5.hz (ET hd s10) 50,blk w1.hz E8 50,blk w0.hz [jv c,ev] 75] w28:=jM ⟨⟨(iq:Int),es.getD iq [],proofH sha (es.take n) iq⟩,pv7⟩ U;refine⟨_,?_,k+1,s10,(L++[(⟨⟨(iq:Int),es.getD iq [],proofH sha (es.take n) iq⟩,pv7⟩:Itw)]),O,om,(hT hL hkx hki),Y.pick [2,3,5,8,12,13],U.select [1,0,2,3,4] de⟩;omega
 obtain rfl:k=ix.length:=by omega
 rw[List.take_length] at hL;refine aN<|G6<|aa λG15=>wlv Y (ar (U.g 2 O) O (isAgg50 _) (sizeOf50 _)) λa Y=>bj (us:=(ET hd vi)) 3 Y U O O O (sizeOf50 _) DP (lb O) (ds:=(ET hd vi)) O O λa w29 Y U=>wla Y O λa Y=>G15 ?_;replace Y:=Y.p2 8 9 O;replace U:=U.k3 11 O;refine ao<|am Y results48 (aB O (bA (U.g 2 O) (isAgg50 _) (sizeOf50 _)) (ae O ag)) ?_;replace U:=U.s3 [0,1,2] de rfl;replace U:St No w0 [itsE vi L,blk w1.hz (ET hd vi) 50] w29:=wD U;exact⟨(vi,L),O,hL,U.ext,St.out (E:=[itsE vi L]) (H:=[]) (U.select [0] de)⟩
section
variable {l:List Cas} {k:Nat} {num:Int} {p:Cas→Prop}
def IxP (l:List Cas) (k:Nat) (P:Int→Prop) (i:Int):Prop:=i= -1∨(0≤i∧i<(k:Int)∧P (l.getD i.toNat Cas.z).n)
theorem xV {P:Int→Prop}:IxP l 0 P (-1):=.inl rfl
theorem cB {P:Int→Prop} {i:Int} (h:IxP l k P i):IxP l (k+1) P i:=h.elim .inl λh=>.inr ⟨h.1,by omega,h.2.2⟩
theorem dt {P:Int→Prop} (h:P (l.getD k Cas.z).n):IxP l (k+1) P (k:Int):=.inr ⟨by omega,by omega,by rw[BD]; exact h⟩
theorem tv {P:Int→Prop} {i:Int} (h:IxP l k P i) (h0:0≤i):i<(k:Int):=h.elim (λh=>by omega) λh=>h.2.1
theorem pi {n i:Int} (h0:0≤i) (h1:i<n):ascI n (-1) [i]=true:=by rw[ascI,AQ (by omega: -1<i),AQ h1]; rfl
theorem y7 {c:Int} (hd:docOk c l=true) {i j:Int} (hi:IxP l l.length (λz=>z<num) i) (hj:IxP l l.length (λz=>num<z) j) (h0:0≤i) (h1:0≤j):ascI (l.length:Int) (-1) [i,j]=true:=by
 rcases hi with hi|⟨_,hi,hip⟩
 ·omega
 ·rcases hj with hj|⟨_,hj,hjp⟩
  ·omega
  ·have hlt:i<j:=by
    rcases Int.lt_or_le i j with h|h
    ·exact h
    ·exfalso;rcases Int.lt_or_eq_of_le h with h|h
     ·have:=jn (ie hd) j.toNat i.toNat om om; omega
     ·subst h; omega
   rw[ascI,AQ (by omega: -1<i),AQ hi,ascI,AQ hlt,AQ hj]; rfl
end
theorem dH (n lo hi:Int) (w0:World):
  Ff 66 #[jv n,jv lo,jv hi] w0 (.bool (inB n lo hi)):=by
 refine CB func66 O ntmps66 (lb O) λa Y U=>aa λG1=>wla Y O λa Y=>G1<|aa λG2=>nv Y<|AL O<|AL O<|AK (v_ge O O)<|AL O<|λa Y=>cP (N:=15) (df:=[]) 4 [(14,.bool ((decide (lo≤n))&&(decide (n≤hi)))),(0,jv n),(1,jv lo),(2,jv hi),(6,.bool false)] ?_ (λhj=>?_)
 rotate_left
 ·rcases AR (decide (lo≤n)) with hb1|hb1
  ·rw[hb1] at Y;have hb1b:=hb1
   try simp only[qz,AU,Bg,A7,Bf] at hb1
   refine nv Y<|AN (ax O)<|AN (ax O)<|AN (v_le O O)<|AK (aq O O)<|λa Y=>hj _ ?_
   try rw[hb1b]
   exact Y.pick [14,0,1,2,6]
  rw[hb1] at Y;have hb1b:=hb1
  try simp only[qz,AU,Bg,A7,Bf] at hb1
  refine nv Y<|AO<|AO<|AO<|AK (ak O O)<|λa Y=>hj _ ?_
  try rw[hb1b]
  exact Y.pick [14,0,1,2,6]
 intro a Y;refine wla Y O λa Y=>G2<|ao<|am Y results66 (ae O ag) ?_;exact⟨by simp only[retv]; unfold inB; rfl,U.ext⟩
theorem iV (x:Cas) (w0:World):
  Ff 128 #[(E3 x)] w0 (.bool x.ok):=by
 refine Cy func128 O ntmps128 (lb O) λa Y U=>aa λG1=>aR Y U O (E1 x) O λa w1 Y U=>wla Y O λa Y=>G1<|aa λG2=>nv Y<|AK (ac (v:=pq w0.hz) O kr)<|AK (ld U 0 O O (isAgg3 _) O)<|λa Y=>au Y U call66 O (dH x.n 0 99999999 _) λa w2 Y U=>wlm Y O λa Y=>?_;rcases AR (inB x.n 0 99999999) with hb1|hb1
 ·rw[hb1] at Y;refine nv Y<|AN (ac (v:=po w0.hz 1) O kr)<|AN (ld U 0 O O (isAgg3 _) O)<|λa Y=>aF Y U call66 O (dH x.t 0 10000000 _) λa w3 Y U=>nv Y<|AK (aq O O)<|AL O<|λa Y=>?_;rcases AR (inB x.t 0 10000000) with hb2|hb2
  ·rw[hb2] at Y;refine nv Y<|AN (ac (v:=po w0.hz 2) O kr)<|AN (ld U 0 O O (isAgg9 _) O)<|AN (aZ O O (runUnderlying9 _))<|AN (v_le O O)<|AK (aq O O)<|AM O<|λa Y=>G2 ?_;replace Y:=Y.p1 2 O;replace U:=U.k0 0 O;refine ao<|am Y results128 (ae O ag) ?_;refine⟨?_,U.ext⟩;simp only[retv];refine Bh Value.bool ?_;unfold Cas.ok;simp only[hb1,hb2,BN];exact decide_eq_decide.2 om
  rw[hb2] at Y;refine nv Y<|AO<|AO<|AO<|AO<|AK (ak O O)<|AM O<|λa Y=>G2 ?_;replace Y:=Y.p1 2 O;replace U:=U.k0 0 O;refine ao<|am Y results128 (ae O ag) ?_;refine⟨?_,U.ext⟩;simp only[retv];refine Bh Value.bool ?_;unfold Cas.ok;simp only[hb1,hb2,BN,B4]
 rw[hb1] at Y;refine nv Y<|AO<|AO<|AO<|AK (ak O O)<|AL O<|AO<|AO<|AO<|AO<|AK (ak O O)<|AM O<|λa Y=>G2 ?_;replace Y:=Y.p1 2 O;replace U:=U.k0 0 O;refine ao<|am Y results128 (ae O ag) ?_;refine⟨?_,U.ext⟩;simp only[retv];refine Bh Value.bool ?_;unfold Cas.ok;simp only[hb1,BN,B4]
theorem xE (x:Cas) (w0:World):
  Ff 76 #[(E3 x)] w0 (.tuple #[sv (encP x),jv (cE x)]):=by
 refine Cy func76 O ntmps76 (lb O) λa Y U=>aa λG1=>aR Y U O (E1 x) O λa w1 Y U=>nv Y<|AM O<|AM O<|λa Y=>G1<|ah λG2=>aa λG3=>wlv Y (ar (U.g 0 O) O (isAgg55 _) (sizeOf55 _)) λa Y=>au Y U call128 O (iV x _) λa w2 Y U=>wlv Y (bd O) λa Y=>G3<|bn Y O (λhc1=>?_) (λhc1=>?_)
 ·try simp only[qz] at hc1
  refine aa λG4=>nv Y<|AM O<|AM O<|λa Y=>G4<|ao<|am Y results76 (ae O (ae O ag)) ?_;exact⟨by simp only[retv]; unfold encP cE; rw[Bc (by rw[hc1]; decide),Bc (by rw[hc1]; decide)]; rfl,U.ext⟩
 try simp only[qz] at hc1
 have hbd:=Cas.bnd hc1;have hl1:=bQ x.n;have hl2:=bQ x.t;have hl3:=bQ (x.ev.length:Int);have hl4:(putS x.ev).length≤1000:=by unfold putS; rw[AW]; omega
 refine ap<|G2<|aa λG5=>nv Y<|AK (ac (v:=pq w0.hz) O kr)<|AK (ld U 0 O O (isAgg3 _) O)<|λa Y=>au Y U call129 O (dL x.n _ CW) λa w3 Y U=>nv Y<|AL O<|AK (aj O O)<|AK (aj O O)<|AM O<|AM O<|λa Y=>G5 ?_;refine aa λG6=>nv (Y.p4 1 2 3 4 O)<|AK (ac (v:=po w0.hz 1) O kr)<|AK (ld U 0 O O (isAgg3 _) O)<|λa Y=>au Y U call129 O (dL x.t _ CW) λa w4 Y U=>nv Y<|AL O<|AK (aj O O)<|AK (aj O O)<|AM O<|AM O<|λa Y=>G6 ?_;refine aa λG7=>nv (Y.p5 1 2 3 4 6 O)<|AK (ac (v:=po w0.hz 2) O kr)<|AK (ld U 0 O O (isAgg9 _) O)<|λa Y=>au Y U call130 O (nb x.ev _ om) λa w5 Y U=>nv Y<|AL O<|AK (aj O O)<|AK (aj O O)<|AM O<|AM O<|λa Y=>G7 ?_;replace U:=U.k0 0 O;refine aa λG8=>nv (Y.p5 2 3 4 6 8 O)<|AL O<|AL O<|AK (dJ O O Dm)<|AL O<|AK (dJ O O Dm)<|AM O<|AM O<|λa Y=>G8 ?_;replace Y:=Y.p2 2 3 O;refine ao<|am Y results76 (ae O (ae O ag)) ?_;exact⟨by simp only[retv]; unfold encP cE; rw[Bi hc1,Bi hc1]; simp[Cas.enc,puts],U.ext⟩
theorem pG (c:Int) (lv:Value) (l:List Cas) (w0:World) (hlv:SlAt w0 lv 3 (l.map Cas.cells)) (hle:l.length≤1000):
  Ret Tryz.prog 27 #[.agg #[jv c,lv]] w0 (MemR w0 (λv:Value=>.agg #[jv c,v]) (λv=>[own v 9 1 ((entC (l)).map λs=>[sv s])]) (λ_=>True)):=by
 have hxb:=hlv.2.1;simp only[AP,big] at hxb;refine Cy func27 O ntmps27 (lb O) λa Y U=>aa λG1=>aR Y U O [jv c,lv] O λa w1 Y U=>aE Y U (zeroValue75 _) [jv 0,.slice none 0 0] O λa w2 Y U=>G1<|aa λG2=>nv Y<|AK (ac (v:=pq w0.hz) O kr)<|AK (ld U 1 O O (isAgg3 _) O)<|AK (aW (v:=.agg #[jv c,.slice none 0 0]) O kr)<|λa Y=>aE Y U (zeroValue75 _) [jv 0,.slice none 0 0] O λa w3 Y U=>aA 0 Y U [jv c,.slice none 0 0] O (sizeOf75 _) λa w4 Y U=>G2<|ah λG3=>aa λG4=>wla Y O λa Y=>G4<|aw ?_;replace U:St No w0 [own (.slice none 0 0) 9 1 ((entC (l.take 0)).map λs=>[sv s]),blk w2.hz [jv c,.slice none 0 0] 75,blk w1.hz [jv 0,.slice none 0 0] 75,blk w0.hz [jv c,lv] 32] w4:=U.nil_own;refine aV (λm a w=>∃(k:Nat) (v:Value),m=l.length- k∧(k≤l.length)∧Fr 33 [(1,pq w0.hz),(2,pq w1.hz),(3,pq w2.hz),(4,jv (k:Int))] [] a∧St No w0 [own v 9 1 ((entC (l.take k)).map λs=>[sv s]),blk w2.hz [jv c,v] 75,blk w1.hz [jv 0,.slice none 0 0] 75,blk w0.hz [jv c,lv] 32] w) _ ⟨0,.slice none 0 0,O,A8 _,Y.pick [1,2,3,4],U.select [0,1,2,3] de⟩ ?_;rintro _ a w5 ⟨k,v,rfl,hk,Y,U⟩;refine ah λG5=>aa λG6=>nv Y<|AL O<|AK (ac (v:=po w0.hz 1) O kr)<|AK (ld U 3 O O (isAgg30 _) O)<|AK ((aH (sT:=30) (U.arg hlv) O O (runUnderlying30 _)).asi (m':=(l.length:Int)) CU)<|AK (v_lt O O)<|λa Y=>G6<|ay Y O (λhc1=>?_) (λhc1=>?_)
 ·have hkx:k<l.length:=by omega
  refine ap<|G5<|ah λG7=>aw<|aa λG8=>nv Y<|AK (ac (v:=po w0.hz 1) O kr)<|AK (ld U 3 O O (isAgg30 _) O)<|AL O<|AK ((ai (i:=(k:Int)) (sT:=30) (U.arg hlv) O O (runUnderlying30 _) (sizeOf55 _) om CH).as (v':=slAddr lv (k*3)) O)<|AK ((bI (U.arg hlv) (i:=k) CH O (isAgg55 _) (sizeOf55 _)).as (v':=.agg #[jv ((l.getD k Cas.z).n),jv ((l.getD k Cas.z).t),sv ((l.getD k Cas.z).ev)]) Dh)<|λa Y=>au Y U call76 O (xE (l.getD k Cas.z) _) λa w6 Y U=>nv Y<|AL O<|AK (aj O O)<|AK (aj O O)<|AM O<|AM O<|λa Y=>G8 ?_;refine al<|nv (Y.p5 1 2 3 4 5 O)<|AK (ac (v:=po w2.hz 1) O kr)<|AK (ld U 1 O O (isAgg44 _) O)<|AL O<|λa Y=>aG (E:=9) (sz:=1) O [[sv (encP (l.getD k Cas.z))]] kr sm O de de Y U λa w7 Y U=>bc (i:=1) (sT:=44) (inf:=Tryz.t9) (z:=.string (⟨#[]⟩)) (b:=0) (off:=0) (m:=0) (c:=0) O O O (U.ow 0 O) sm underlying44 O O O O de CK Dl Dl de Y U λa w8 s2 Y U _=>?_;rw[show ((entC (l.take k)).map λs=>[sv s])++([[sv (encP (l.getD k Cas.z))]])=((entC (l.take (k+1))).map λs=>[sv s]) from by rw[nX hkx,BI]; rfl] at U;refine wlv Y (ac (v:=po w2.hz 1) O kr) λa Y=>ce 2 Y U (U.ow 1 O) O O O (sizeOf44 _) (lb O) (ds:=[jv c,s2]) O O λa w9 Y U=>ab<|G7 ?_;replace U:=U.k4 30 O;refine al<|nv (Y.p4 1 2 3 4 O)<|AL O<|AK (aK O O ⟨om,om⟩)<|AM O<|λa Y=>ab ?_;refine⟨_,?_,k+1,s2,O,om,Y.pick [1,2,3,4],U.select [0,1,2,3] de⟩;omega
 obtain rfl:k=l.length:=by omega
 rw[List.take_length] at U;refine aN<|G3<|aa λG9=>wlv Y (ar (U.g 1 O) O (isAgg75 _) (sizeOf75 _)) λa Y=>bj (us:=[jv c,v]) 2 Y U O O O (sizeOf75 _) Dc (lb O) (ds:=[jv c,v]) O O λa w10 Y U=>G9 ?_;replace Y:=Y.p1 2 O;replace U:=U.k2 5 O;refine ao<|am Y results27 (aB O (bA (U.g 1 O) (isAgg75 _) (sizeOf75 _)) ag) ?_;exact⟨v,O,trivial,U.ext,St.out (E:=[own v 9 1 ((entC (l)).map λs=>[sv s])]) (H:=[]) (U.select [0] de)⟩
theorem xK (c:Int) (lv:Value) (l:List Cas) (w0:World) (hlv:SlAt w0 lv 3 (l.map Cas.cells)):
  Ff 109 #[.agg #[jv c,lv]] w0 (.bool (docOk c l)):=by
 have hxb:=hlv.2.1;simp only[AP,big] at hxb;refine Cy func109 O ntmps109 (lb O) λa Y U=>aa λG1=>aR Y U O [jv c,lv] O λa w1 Y U=>wla Y O λa Y=>G1<|ah λG2=>aa λG3=>nv Y<|AK (ac (v:=pq w0.hz) O kr)<|AK (ld U 0 O O (isAgg3 _) O)<|λa Y=>au Y U call66 O (dH c 0 7 _) λa w2 Y U=>nv Y<|AK (bd O)<|AL O<|λa Y=>?_;rcases AR (!(inB c 0 7)) with hb1|hb1
 ·rw[hb1] at Y
  try simp only[qz] at hb1
  have hbad:docOk c l=false:=by unfold docOk; rw[show inB c 0 7=false from by simpa using hb1]; simp
  refine nv Y<|AO<|AO<|AO<|AO<|AK (aq O O)<|λa Y=>G3 ?_;replace Y:=Y.p3 1 2 13 O;refine aC Y O ?_;refine aa λG4=>wla Y O λa Y=>G4<|ao<|am Y results109 (ae O ag) ?_;refine⟨?_,U.ext⟩;simp only[retv];refine Bh Value.bool ?_;rw[hbad]
 rw[hb1] at Y
 try simp only[qz] at hb1
 have hib:inB c 0 7=true:=by simpa using hb1
 refine nv Y<|AN (ac (v:=po w0.hz 1) O kr)<|AN (ld U 0 O O (isAgg30 _) O)<|AN ((aH (sT:=30) (U.arg hlv) O O (runUnderlying30 _)).asi (m':=(l.length:Int)) CU)<|AN (v_gt O O)<|AK (ak O O)<|λa Y=>G3 ?_;replace Y:=Y.p3 1 2 13 O;refine ay Y O (λhc2=>?_) (λhc2=>?_)
 ·have hbad:docOk c l=false:=by unfold docOk; rw[AV (by omega:¬l.length≤60)]; simp
  refine aa λG5=>wla Y O λa Y=>G5<|ao<|am Y results109 (ae O ag) ?_;refine⟨?_,U.ext⟩;simp only[retv];refine Bh Value.bool ?_;rw[hbad]
 refine ap<|G2<|ah λG6=>aa λG7=>wla Y O λa Y=>G7<|aw<|aV (λm a w=>∃(k:Nat),m=l.length- k∧(k≤l.length)∧(ascC (-1) l=ascC (prevN l k) (l.drop k))∧Fr 48 [(1,pq w0.hz),(3,jv (k:Int))] [] a∧St No w0 [blk w0.hz [jv c,lv] 32] w) _ ⟨0,O,A8 _,O,Y.pick [1,3],U.select [0] de⟩ ?_;rintro _ a w3 ⟨k,rfl,hk,hs,Y,U⟩;refine ah λG8=>aa λG9=>nv Y<|AL O<|AK (ac (v:=po w0.hz 1) O kr)<|AK (ld U 0 O O (isAgg30 _) O)<|AK ((aH (sT:=30) (U.arg hlv) O O (runUnderlying30 _)).asi (m':=(l.length:Int)) CU)<|AK (v_lt O O)<|λa Y=>G9<|ay Y O (λhc3=>?_) (λhc3=>?_)
 ·have hkx:k<l.length:=by omega
  refine ap<|G8<|ah λG10=>aw<|ah λG11=>aL (aM λw4 hxz=>?_);replace U:=U.grow hxz;refine aP (k:=0) 3 [1,2] Y ?_;refine bB 3 (Y.p6 1 3 14 15 16 17 O) U<|pl_v (ac (v:=po w0.hz 1) O kr)<|pl_w (λU=>ld U 0 O O (isAgg30 _) O)<|pl_m O λa w5 Y U=>?_;replace Y:=Y.p4 1 3 22 23 O;refine ab<|aI (k:=3) 11 [10] ?_;refine nv Y<|AK ((ai (i:=(k:Int)) (sT:=30) (U.arg hlv) O O (runUnderlying30 _) (sizeOf55 _) om CH).as (v':=slAddr lv (k*3)) O)<|AK ((bI (U.arg hlv) (i:=k) CH O (isAgg55 _) (sizeOf55 _)).as (v':=.agg #[jv ((l.getD k Cas.z).n),jv ((l.getD k Cas.z).t),sv ((l.getD k Cas.z).ev)]) Dh)<|λa Y=>au Y U call128 O (iV (l.getD k Cas.z) _) λa w6 Y U=>nv Y<|AK (bd O)<|AL O<|λa Y=>?_;rcases AR (!((l.getD k Cas.z).ok)) with hb4|hb4
  ·rw[hb4] at Y
   try simp only[qz] at hb4
   have hbad:docOk c l=false:=by unfold docOk; rw[show ascC (-1) l=false from by rw[hs]; exact wy hkx (by simpa using hb4)]; rfl
   refine nv Y<|AO<|AO<|AO<|λa Y=>ab<|bR (k:=11) 24 [16,23] (Y.p12 1 3 22 23 24 25 26 27 28 29 30 31 O) λa Y=>?_;replace Y:Fr 48 [(32,undef),(33,undef),(34,undef),(35,undef),(36,undef),(37,undef),(38,undef),(39,undef),(40,undef),(41,undef),(42,undef),(43,undef),(44,undef),(1,pq w0.hz),(3,jv (k:Int)),(22,lv),(23,jv (k:Int)),(24,slAddr lv (k*3)),(25,.agg #[jv ((l.getD k Cas.z).n),jv ((l.getD k Cas.z).t),sv ((l.getD k Cas.z).ev)]),(26,.bool ((l.getD k Cas.z).ok)),(27,.bool true),(28,.bool true),(29,undef),(30,undef),(31,undef)] [] a:=Y;refine aI (k:=24) 27 [26] ?_;refine bO Y λa Y=>nv Y<|AO<|AK (aq O O)<|λa Y=>ab<|aO<|G11 ?_;replace Y:=Y.p3 1 3 47 O;refine aC Y O ?_;refine aa λG12=>wla Y O λa Y=>G12<|ao<|am Y results109 (ae O ag) ?_;refine⟨?_,U.ext⟩;simp only[retv];refine Bh Value.bool ?_;rw[hbad]
  rw[hb4] at Y
  try simp only[qz] at hb4
  have hok:(l.getD k Cas.z).ok=true:=by simpa using hb4
  have hbn:=Cas.bnd hok;refine nv Y<|AN (ax O)<|AN (v_gt O O)<|AN (ax O)<|λa Y=>ab ?_;rcases Decidable.em (0<(k:Int)) with hb5|hb5
  ·rw[AQ hb5] at Y;have hpv:=nJ (l:=l) (k:=k) om;refine aP (k:=11) 24 [16,23] Y ?_;replace Y:=Y.p12 1 3 22 23 24 25 26 27 28 29 30 31 O;refine bB 13 Y U<|pl_v (ac (v:=po w0.hz 1) O kr)<|pl_w (λU=>ld U 0 O O (isAgg30 _) O)<|pl_m O<|pl_w (λU=>(ai (i:=(k:Int)) (sT:=30) (U.arg hlv) O O (runUnderlying30 _) (sizeOf55 _) om CH).as (v':=slAddr lv (k*3)) O)<|pl_w (λU=>aQ (k:=k*3) (j:=0) (U.arg hlv) (i:=k) CH O (λ_ _=>by kernel_rfl))<|pl_w (λU=>az (u:=jv ((l.getD k Cas.z).n)) (i:=k) (j:=0) (U.arg hlv) CH O (isAgg3 _) Dh)<|pl_v (ac (v:=po w0.hz 1) O kr) ?_;refine pl_w (λU=>ld U 0 O O (isAgg30 _) O)<|pl_m O<|pl_v (bF O O ⟨om,om⟩)<|pl_w (λU=>(ai (i:=(k:Int)- 1) (sT:=30) (U.arg hlv) O O (runUnderlying30 _) (sizeOf55 _) om CH).as (v':=slAddr lv ((k- 1)*3)) C6)<|pl_w (λU=>aQ (k:=(k- 1)*3) (j:=0) (U.arg hlv) (i:=(k- 1)) CH O (λ_ _=>by kernel_rfl))<|pl_w (λU=>az (u:=jv ((l.getD (k- 1) Cas.z).n)) (i:=(k- 1)) (j:=0) (U.arg hlv) CH O (isAgg3 _) Dh) λa w7 Y U=>?_;replace Y:=Y.p6 1 3 28 31 37 44 O;refine ab<|aI (k:=24) 27 [26] ?_;refine nv Y<|AN (v_le O O)<|AN (aq O O)<|AK (ak O O)<|λa Y=>ab<|aO<|G11 ?_;replace Y:=Y.p3 1 3 47 O;refine ay Y O (λhc6=>?_) (λhc6=>?_)
   ·have hbad:docOk c l=false:=by unfold docOk; rw[show ascC (-1) l=false from by rw[hs]; exact xg hkx (by rw[hpv]; omega)]; rfl
    refine aa λG13=>wla Y O λa Y=>G13<|ao<|am Y results109 (ae O ag) ?_;refine⟨?_,U.ext⟩;simp only[retv];refine Bh Value.bool ?_;rw[hbad]
   have hgo:prevN l k<(l.getD k Cas.z).n:=by rw[hpv]; omega
   refine ap<|G10<|al<|nv Y<|AL O<|AK (aK O O ⟨om,om⟩)<|AM O<|λa Y=>ab ?_;refine⟨_,?_,k+1,O,om,Ea,Y.pick [1,3],U.select [0] de⟩;omega
  rw[AV hb5] at Y
  have hgo:prevN l k<(l.getD k Cas.z).n:=by
   have h0:k=0:=by omega
   rw[h0] at hbn⊢; show-1<_; omega
  refine bR (k:=11) 24 [16,23] (Y.p12 1 3 22 23 24 25 26 27 28 29 30 31 O) λa Y=>?_;replace Y:Fr 48 [(32,undef),(33,undef),(34,undef),(35,undef),(36,undef),(37,undef),(38,undef),(39,undef),(40,undef),(41,undef),(42,undef),(43,undef),(44,undef),(1,pq w0.hz),(3,jv (k:Int)),(22,lv),(23,jv (k:Int)),(24,slAddr lv (k*3)),(25,.agg #[jv ((l.getD k Cas.z).n),jv ((l.getD k Cas.z).t),sv ((l.getD k Cas.z).ev)]),(26,.bool ((l.getD k Cas.z).ok)),(27,.bool false),(28,.bool false),(29,jv (k:Int)),(30,.bool false),(31,.bool false)] [] a:=Y;refine aI (k:=24) 27 [26] ?_;refine nv Y<|AO<|AN (ak O O)<|AK (ak O O)<|λa Y=>ab<|aO<|G11 ?_;replace Y:=Y.p3 1 3 47 O;refine aJ Y O ?_;refine ap<|G10<|al<|nv Y<|AL O<|AK (aK O O ⟨om,om⟩)<|AM O<|λa Y=>ab ?_;refine⟨_,?_,k+1,O,om,Ea,Y.pick [1,3],U.select [0] de⟩;omega
 have hall:ascC (-1) l=true:=by rw[hs,show k=l.length by omega,List.drop_length]; rfl
 refine aN<|G6<|aa λG14=>wla Y O λa Y=>G14 ?_;replace Y:=Y.p1 2 O;replace U:=U.k0 0 O;refine ao<|am Y results109 (ae O ag) ?_;refine⟨?_,U.ext⟩;simp only[retv];refine Bh Value.bool ?_;unfold docOk; rw[hall,hib,show decide (l.length≤60)=true from AQ om]; rfl
theorem l8 (key:By) (hd:Hd) (c:Int) (lv:Value) (l:List Cas) (num:Int) (w0:World) (hlv:SlAt w0 lv 3 (l.map Cas.cells)) (hk32:key.length=32) (hdoc:docOk c l=true) (hhd:hdOf sha key c (entC l) l.length=hd) (hnum:0≤num∧num≤99999999):
  Ret Tryz.prog 47 #[sv key,.agg #[jv c,lv],jv num] w0 (MemR w0 (λx:Value × List Itw=>.tuple #[(EU hd x.1),jv 0]) (λx=>[itsE x.1 x.2]) (λx=>∃ix,ascI (l.length:Int) (-1) ix=true∧ix.length≤60∧itsM x.2=showIs sha (entC l) l.length ix)):=by
 have hxb:=hlv.2.1;simp only[AP,big] at hxb;have hll:=hU hdoc;have hcb:=eZ hdoc;have hreg:=gu hdoc;refine CB func47 O ntmps47 (lb O) λa Y U=>aa λG1=>aR Y U O [jv c,lv] O λa w1 Y U=>aE Y U (zeroValue50 _) E8 O λa w2 Y U=>wla Y O λa Y=>G1<|ah λG2=>aa λG3=>wlv Y (ar (U.g 1 O) O (isAgg32 _) (sizeOf32 _)) λa Y=>au Y U call109 O (cj hdoc (xK c lv l _ (U.arg hlv))) λa w3 Y U=>nv Y<|AK ((bd O).asb (b':=false) O)<|AL O<|AN (ax O)<|λa Y=>aF Y U call66 O (cj (show inB num 0 99999999=true from by simp only[inB,AU,AZ]; omega) (dH num 0 99999999 _)) λa w4 Y U=>nv Y<|AN ((bd O).asb (b':=false) O)<|AK (ak O O)<|λa Y=>G3 ?_;replace Y:=Y.p6 0 2 4 6 7 22 O;refine aJ Y O ?_;refine ap<|G2<|aa λG4=>wla Y O λa Y=>G4<|aa λG5=>wla Y O λa Y=>G5<|aa λG6=>wla Y O λa Y=>G6<|ah λG7=>aa λG8=>wla Y O λa Y=>G8<|aw<|aV (λm a w=>∃(k:Nat) (be:Int) (th:Int) (af:Int),m=l.length- k∧(k≤l.length)∧(IxP l k (λz=>z<num) be)∧(IxP l k (λz=>z=num) th)∧(IxP l k (λz=>num<z) af)∧Fr 93 [(0,sv key),(2,jv num),(4,pq w0.hz),(6,pq w1.hz),(7,jv 0),(8,jv be),(9,jv th),(10,jv af),(11,jv (k:Int))] [] a∧St No w0 [blk w1.hz E8 50,blk w0.hz [jv c,lv] 32] w) _ ⟨0, -1, -1, -1,O,A8 _,xV,xV,xV,Y.pick [0,2,4,6,7,8,9,10,11],U.select [0,1] de⟩ ?_;rintro _ a w5 ⟨k,be,th,af,rfl,hk,h0,h1,h2,Y,U⟩;refine ah λG9=>aa λG10=>nv Y<|AL O<|AK (ac (v:=po w0.hz 1) O kr)<|AK (ld U 1 O O (isAgg30 _) O)<|AK ((aH (sT:=30) (U.arg hlv) O O (runUnderlying30 _)).asi (m':=(l.length:Int)) CU)<|AK (v_lt O O)<|λa Y=>G10<|ay Y O (λhc1=>?_) (λhc1=>?_)
 ·have hkx:k<l.length:=by omega
  refine ap<|G9<|ah λG11=>aw<|ah λG12=>aa λG13=>nv Y<|AK (ac (v:=po w0.hz 1) O kr)<|AK (ld U 1 O O (isAgg30 _) O)<|AL O<|AK ((ai (i:=(k:Int)) (sT:=30) (U.arg hlv) O O (runUnderlying30 _) (sizeOf55 _) om CH).as (v':=slAddr lv (k*3)) O)<|AK (aQ (k:=k*3) (j:=0) (U.arg hlv) (i:=k) CH O (λ_ _=>by kernel_rfl))<|AK (az (u:=jv ((l.getD k Cas.z).n)) (i:=k) (j:=0) (U.arg hlv) CH O (isAgg3 _) Dh)<|AL O<|AK (v_lt O O)<|λa Y=>G13 ?_;replace Y:=Y.p10 0 2 4 6 7 8 9 10 11 38 O;refine ay Y O (λhc2=>?_) (λhc2=>?_)
  ·refine al<|nv Y<|AL O<|AM O<|λa Y=>ab<|G12<|ah λG14=>aa λG15=>nv Y<|AK (ac (v:=po w0.hz 1) O kr)<|AK (ld U 1 O O (isAgg30 _) O)<|AL O<|AK ((ai (i:=(k:Int)) (sT:=30) (U.arg hlv) O O (runUnderlying30 _) (sizeOf55 _) om CH).as (v':=slAddr lv (k*3)) O)<|AK (aQ (k:=k*3) (j:=0) (U.arg hlv) (i:=k) CH O (λ_ _=>by kernel_rfl))<|AK (az (u:=jv ((l.getD k Cas.z).n)) (i:=k) (j:=0) (U.arg hlv) CH O (isAgg3 _) Dh)<|AL O<|AK (v_eq O O)<|λa Y=>G15 ?_;replace Y:=Y.p10 0 2 4 6 7 9 10 11 8 47 O;refine ay Y O (λhc3=>?_) (λhc3=>?_)
   ·refine al<|nv Y<|AL O<|AM O<|λa Y=>ab<|G14<|aa λG16=>nv Y<|AK (ac (v:=po w0.hz 1) O kr)<|AK (ld U 1 O O (isAgg30 _) O)<|AL O<|AK ((ai (i:=(k:Int)) (sT:=30) (U.arg hlv) O O (runUnderlying30 _) (sizeOf55 _) om CH).as (v':=slAddr lv (k*3)) O)<|AK (aQ (k:=k*3) (j:=0) (U.arg hlv) (i:=k) CH O (λ_ _=>by kernel_rfl))<|AK (az (u:=jv ((l.getD k Cas.z).n)) (i:=k) (j:=0) (U.arg hlv) CH O (isAgg3 _) Dh)<|AL O<|AK (v_gt O O)<|AL O<|λa Y=>?_;rcases Decidable.em (num<(l.getD k Cas.z).n) with hb4|hb4
    ·rw[AQ hb4] at Y;refine nv Y<|AN (ax O)<|AN (v_lt O O)<|AK (aq O O)<|λa Y=>G16 ?_;replace Y:=Y.p10 0 2 4 6 7 10 11 8 9 60 O;refine ay Y O (λhc5=>?_) (λhc5=>?_)
     ·refine al<|nv Y<|AL O<|AM O<|λa Y=>ab<|G11<|al<|nv Y<|AL O<|AK (aK O O ⟨om,om⟩)<|AM O<|λa Y=>ab ?_;refine⟨_,?_,k+1,(k:Int),(k:Int),(k:Int),O,om,dt om,dt om,dt om,Y.pick [0,2,4,6,7,8,9,10,11],U.select [0,1] de⟩;omega
     refine ap<|G11<|al<|nv Y<|AL O<|AK (aK O O ⟨om,om⟩)<|AM O<|λa Y=>ab ?_;refine⟨_,?_,k+1,(k:Int),(k:Int),af,O,om,dt om,dt om,cB h2,Y.pick [0,2,4,6,7,8,9,10,11],U.select [0,1] de⟩;omega
    rw[AV hb4] at Y;refine nv Y<|AO<|AO<|AK (ak O O)<|λa Y=>G16 ?_;replace Y:=Y.p10 0 2 4 6 7 10 11 8 9 60 O;refine aJ Y O ?_;refine ap<|G11<|al<|nv Y<|AL O<|AK (aK O O ⟨om,om⟩)<|AM O<|λa Y=>ab ?_;refine⟨_,?_,k+1,(k:Int),(k:Int),af,O,om,dt om,dt om,cB h2,Y.pick [0,2,4,6,7,8,9,10,11],U.select [0,1] de⟩;omega
   refine ap<|G14<|aa λG17=>nv Y<|AK (ac (v:=po w0.hz 1) O kr)<|AK (ld U 1 O O (isAgg30 _) O)<|AL O<|AK ((ai (i:=(k:Int)) (sT:=30) (U.arg hlv) O O (runUnderlying30 _) (sizeOf55 _) om CH).as (v':=slAddr lv (k*3)) O)<|AK (aQ (k:=k*3) (j:=0) (U.arg hlv) (i:=k) CH O (λ_ _=>by kernel_rfl))<|AK (az (u:=jv ((l.getD k Cas.z).n)) (i:=k) (j:=0) (U.arg hlv) CH O (isAgg3 _) Dh)<|AL O<|AK (v_gt O O)<|AL O<|λa Y=>?_;rcases Decidable.em (num<(l.getD k Cas.z).n) with hb6|hb6
   ·rw[AQ hb6] at Y;refine nv Y<|AN (ax O)<|AN (v_lt O O)<|AK (aq O O)<|λa Y=>G17 ?_;replace Y:=Y.p10 0 2 4 6 7 9 10 11 8 60 O;refine ay Y O (λhc7=>?_) (λhc7=>?_)
    ·refine al<|nv Y<|AL O<|AM O<|λa Y=>ab<|G11<|al<|nv Y<|AL O<|AK (aK O O ⟨om,om⟩)<|AM O<|λa Y=>ab ?_;refine⟨_,?_,k+1,(k:Int),th,(k:Int),O,om,dt om,cB h1,dt om,Y.pick [0,2,4,6,7,8,9,10,11],U.select [0,1] de⟩;omega
    refine ap<|G11<|al<|nv Y<|AL O<|AK (aK O O ⟨om,om⟩)<|AM O<|λa Y=>ab ?_;refine⟨_,?_,k+1,(k:Int),th,af,O,om,dt om,cB h1,cB h2,Y.pick [0,2,4,6,7,8,9,10,11],U.select [0,1] de⟩;omega
   rw[AV hb6] at Y;refine nv Y<|AO<|AO<|AK (ak O O)<|λa Y=>G17 ?_;replace Y:=Y.p10 0 2 4 6 7 9 10 11 8 60 O;refine aJ Y O ?_;refine ap<|G11<|al<|nv Y<|AL O<|AK (aK O O ⟨om,om⟩)<|AM O<|λa Y=>ab ?_;refine⟨_,?_,k+1,(k:Int),th,af,O,om,dt om,cB h1,cB h2,Y.pick [0,2,4,6,7,8,9,10,11],U.select [0,1] de⟩;omega
  refine ap<|G12<|ah λG18=>aa λG19=>nv Y<|AK (ac (v:=po w0.hz 1) O kr)<|AK (ld U 1 O O (isAgg30 _) O)<|AL O<|AK ((ai (i:=(k:Int)) (sT:=30) (U.arg hlv) O O (runUnderlying30 _) (sizeOf55 _) om CH).as (v':=slAddr lv (k*3)) O)<|AK (aQ (k:=k*3) (j:=0) (U.arg hlv) (i:=k) CH O (λ_ _=>by kernel_rfl))<|AK (az (u:=jv ((l.getD k Cas.z).n)) (i:=k) (j:=0) (U.arg hlv) CH O (isAgg3 _) Dh)<|AL O<|AK (v_eq O O)<|λa Y=>G19 ?_;replace Y:=Y.p10 0 2 4 6 7 8 9 10 11 47 O;refine ay Y O (λhc8=>?_) (λhc8=>?_)
  ·refine al<|nv Y<|AL O<|AM O<|λa Y=>ab<|G18<|aa λG20=>nv Y<|AK (ac (v:=po w0.hz 1) O kr)<|AK (ld U 1 O O (isAgg30 _) O)<|AL O<|AK ((ai (i:=(k:Int)) (sT:=30) (U.arg hlv) O O (runUnderlying30 _) (sizeOf55 _) om CH).as (v':=slAddr lv (k*3)) O)<|AK (aQ (k:=k*3) (j:=0) (U.arg hlv) (i:=k) CH O (λ_ _=>by kernel_rfl))<|AK (az (u:=jv ((l.getD k Cas.z).n)) (i:=k) (j:=0) (U.arg hlv) CH O (isAgg3 _) Dh)<|AL O<|AK (v_gt O O)<|AL O<|λa Y=>?_;rcases Decidable.em (num<(l.getD k Cas.z).n) with hb9|hb9
   ·rw[AQ hb9] at Y;refine nv Y<|AN (ax O)<|AN (v_lt O O)<|AK (aq O O)<|λa Y=>G20 ?_;replace Y:=Y.p10 0 2 4 6 7 8 10 11 9 60 O;refine ay Y O (λhc10=>?_) (λhc10=>?_)
    ·refine al<|nv Y<|AL O<|AM O<|λa Y=>ab<|G11<|al<|nv Y<|AL O<|AK (aK O O ⟨om,om⟩)<|AM O<|λa Y=>ab ?_;refine⟨_,?_,k+1,be,(k:Int),(k:Int),O,om,cB h0,dt om,dt om,Y.pick [0,2,4,6,7,8,9,10,11],U.select [0,1] de⟩;omega
    refine ap<|G11<|al<|nv Y<|AL O<|AK (aK O O ⟨om,om⟩)<|AM O<|λa Y=>ab ?_;refine⟨_,?_,k+1,be,(k:Int),af,O,om,cB h0,dt om,cB h2,Y.pick [0,2,4,6,7,8,9,10,11],U.select [0,1] de⟩;omega
   rw[AV hb9] at Y;refine nv Y<|AO<|AO<|AK (ak O O)<|λa Y=>G20 ?_;replace Y:=Y.p10 0 2 4 6 7 8 10 11 9 60 O;refine aJ Y O ?_;refine ap<|G11<|al<|nv Y<|AL O<|AK (aK O O ⟨om,om⟩)<|AM O<|λa Y=>ab ?_;refine⟨_,?_,k+1,be,(k:Int),af,O,om,cB h0,dt om,cB h2,Y.pick [0,2,4,6,7,8,9,10,11],U.select [0,1] de⟩;omega
  refine ap<|G18<|aa λG21=>nv Y<|AK (ac (v:=po w0.hz 1) O kr)<|AK (ld U 1 O O (isAgg30 _) O)<|AL O<|AK ((ai (i:=(k:Int)) (sT:=30) (U.arg hlv) O O (runUnderlying30 _) (sizeOf55 _) om CH).as (v':=slAddr lv (k*3)) O)<|AK (aQ (k:=k*3) (j:=0) (U.arg hlv) (i:=k) CH O (λ_ _=>by kernel_rfl))<|AK (az (u:=jv ((l.getD k Cas.z).n)) (i:=k) (j:=0) (U.arg hlv) CH O (isAgg3 _) Dh)<|AL O<|AK (v_gt O O)<|AL O<|λa Y=>?_;rcases Decidable.em (num<(l.getD k Cas.z).n) with hb11|hb11
  ·rw[AQ hb11] at Y;refine nv Y<|AN (ax O)<|AN (v_lt O O)<|AK (aq O O)<|λa Y=>G21 ?_;replace Y:=Y.p10 0 2 4 6 7 8 9 10 11 60 O;refine ay Y O (λhc12=>?_) (λhc12=>?_)
   ·refine al<|nv Y<|AL O<|AM O<|λa Y=>ab<|G11<|al<|nv Y<|AL O<|AK (aK O O ⟨om,om⟩)<|AM O<|λa Y=>ab ?_;refine⟨_,?_,k+1,be,th,(k:Int),O,om,cB h0,cB h1,dt om,Y.pick [0,2,4,6,7,8,9,10,11],U.select [0,1] de⟩;omega
   refine ap<|G11<|al<|nv Y<|AL O<|AK (aK O O ⟨om,om⟩)<|AM O<|λa Y=>ab ?_;refine⟨_,?_,k+1,be,th,af,O,om,cB h0,cB h1,cB h2,Y.pick [0,2,4,6,7,8,9,10,11],U.select [0,1] de⟩;omega
  rw[AV hb11] at Y;refine nv Y<|AO<|AO<|AK (ak O O)<|λa Y=>G21 ?_;replace Y:=Y.p10 0 2 4 6 7 8 9 10 11 60 O;refine aJ Y O ?_;refine ap<|G11<|al<|nv Y<|AL O<|AK (aK O O ⟨om,om⟩)<|AM O<|λa Y=>ab ?_;refine⟨_,?_,k+1,be,th,af,O,om,cB h0,cB h1,cB h2,Y.pick [0,2,4,6,7,8,9,10,11],U.select [0,1] de⟩;omega
 obtain rfl:k=l.length:=by omega
 have hz0:=tv h0;have hz1:=tv h1;have hz2:=tv h2;refine aN<|G7<|aa λG22=>wla Y O λa Y=>G22 ?_;replace Y:=Y.p8 0 4 6 7 8 9 10 12 O;refine ah λG23=>aa λG24=>nv Y<|AL O<|AK (v_ge O O)<|λa Y=>G24<|dQ (λa w=>∃(av:Value),∃(ix:List Int),(ascI (l.length:Int) (-1) ix=true)∧(ix.length≤2)∧Fr 93 [(0,sv key),(4,pq w0.hz),(6,pq w1.hz),(7,jv 0),(12,av)] [] a∧St No w0 [own av 3 1 ((ix).map λn=>[jv n]),blk w1.hz E8 50,blk w0.hz [jv c,lv] 32] w) ?_ ?_
 ·refine ay Y O (λhc13=>?_) (λhc13=>?_)
  ·refine al<|wlm Y O λa Y=>aG (E:=3) (sz:=1) O [[jv th]] kr sm O de de Y U λa w6 Y U=>wla Y O λa Y=>ab ?_;replace U:=U.n3 O;exact⟨(.slice (some ⟨w5.hz,0,none⟩) 1 1),([th]:List Int),pi om om,sm,Y.pick [0,4,6,7,12],U.select [0,1,2] de⟩
  refine ah λG25=>aa λG26=>nv Y<|AL O<|AK (v_ge O O)<|λa Y=>G26<|ay Y O (λhc14=>?_) (λhc14=>?_)
  ·refine al<|nv Y<|AL O<|AL O<|λa Y=>aG (E:=3) (sz:=1) O [[jv be]] kr sm O de de Y U λa w7 Y U=>?_;replace U:St No w0 (own (.slice none 0 0) 3 1 []::[_,_,_]) w7:=U.nil_own;refine bc (i:=0) (sT:=24) (inf:=Tryz.t3) (z:=jv 0) (b:=0) (off:=0) (m:=0) (c:=0) O O O (U.ow 1 O) sm underlying24 O O O O de CK CM CM de Y U λa w8 s15 Y U _=>wla Y O λa Y=>ab<|G25 ?_;replace Y:=Y.p6 0 4 6 7 10 12 O;replace U:=U.k3 13 O;refine aa λG27=>nv Y<|AL O<|AK (v_ge O O)<|λa Y=>G27<|ay Y O (λhc16=>?_) (λhc16=>?_)
   ·refine al<|nv Y<|AL O<|AL O<|λa Y=>aG (E:=3) (sz:=1) O [[jv af]] kr sm O de de Y U λa w9 Y U=>bc (i:=1) (sT:=24) (inf:=Tryz.t3) (z:=jv 0) (b:=0) (off:=0) (m:=0) (c:=0) O O O (U.ow 0 O) sm underlying24 O O O O de CK CM CM de Y U λa w10 s17 Y U _=>wla Y O λa Y=>ab ?_;replace U:=U.n4 O;exact⟨s17,([be,af]:List Int),y7 hdoc h0 h2 om om,sm,Y.pick [0,4,6,7,12],U.select [1,2,3] de⟩
   refine ap ?_;replace U:=U.n3 O;exact⟨s15,([be]:List Int),pi om om,sm,Y.pick [0,4,6,7,12],U.select [0,1,2] de⟩
  refine ap<|G25<|aa λG28=>nv Y<|AL O<|AK (v_ge O O)<|λa Y=>G28 ?_;replace Y:=Y.p7 0 4 6 7 10 12 73 O;refine ay Y O (λhc18=>?_) (λhc18=>?_)
  ·refine al<|nv Y<|AL O<|AL O<|λa Y=>aG (E:=3) (sz:=1) O [[jv af]] kr sm O de de Y U λa w11 Y U=>?_;replace U:St No w0 (own (.slice none 0 0) 3 1 []::[_,_,_]) w11:=U.nil_own;refine bc (i:=0) (sT:=24) (inf:=Tryz.t3) (z:=jv 0) (b:=0) (off:=0) (m:=0) (c:=0) O O O (U.ow 1 O) sm underlying24 O O O O de CK CM CM de Y U λa w12 s19 Y U _=>wla Y O λa Y=>ab ?_;replace U:=U.n4 O;exact⟨s19,([af]:List Int),pi om om,sm,Y.pick [0,4,6,7,12],U.select [0,2,3] de⟩
  refine ap ?_;replace U:St No w0 [own (.slice none 0 0) 3 1 ([]),blk w1.hz E8 50,blk w0.hz [jv c,lv] 32] w5:=U.nil_own;replace U:=U.n3 O;exact⟨.slice none 0 0,([]:List Int),O,sm,Y.pick [0,4,6,7,12],U.select [0,1,2] de⟩
 rintro a w13 ⟨av,ix,hix,hxl2,Y,U⟩;refine G23<|ah λG29=>aL (aM λw14 hxz=>?_);replace U:=U.grow hxz;refine aP (k:=0) 13 [10,12] Y ?_;replace Y:=Y.p5 0 4 6 7 12 O;refine fp 11 12 9 [(8,7,λu=>u),(9,8,λu=>tupAt u 0)] 50 E8 (λu=>u.cells.toList) 13 [[],[],[1],[],[3],[4],[],[0,2,5,6],[7],[8],[8],[],[9,11]] (λi=>match i with|0=>pv (sv key)|1=>pv (.agg #[jv c,lv])|2=>pm (λv:Value=>.agg #[jv c,v]) (λv=>[own v 9 1 ((entC l).map λs=>[sv s])]) (λ_=>True)|3=>pv (po w0.hz 1)|4=>pv (lv)|5=>pv (jv (l.length:Int))|6=>pv (av)|7=>pm (λx:Value × List Itw=>.tuple #[(EU hd x.1),jv 0]) (λx=>[itsE x.1 x.2]) (λx=>itsM x.2=showIs sha (entC l) l.length ix)|8=>λv E=>(∃sa0 sn0 sc0,v=.tuple #[.agg #[jv hd.c,jv hd.n,sv hd.root,sv hd.tag,(.slice sa0 sn0 sc0)],jv 0])∧E=[]|9=>λv E=>(∃sa0 sn0 sc0,v=.agg #[jv hd.c,jv hd.n,sv hd.root,sv hd.tag,(.slice sa0 sn0 sc0)])∧E=[]|10=>pv (jv 0)|11=>λv E=>∃b,v=ptr b∧E=[]|12=>λv E=>v=undef∧E=[]|_=>λ_ _=>False) Y (H:=[own av 3 1 ((ix).map λn=>[jv n]),blk w1.hz E8 50,blk w0.hz [jv c,lv] 32]) U kr kr kr kr de de de de de de de kr DM ?_ (λ_ _ h=>h) ⟨O,O⟩ (λ_ _=>Iff.rfl) ?_ ?_ ?_ ?_ ?_
 ·intro i v E h
  match i,h with
  | 0,_=>exact by decide
  | 1,_=>exact by decide
  | 2,_=>exact by decide
  | 3,_=>exact by decide
  | 4,_=>exact by decide
  | 5,_=>exact by decide
  | 6,_=>exact by decide
  | 7,_=>exact by decide
  | 8,_=>exact by decide
  | 9,_=>exact by decide
  | 10,_=>exact by decide
  | 11,_=>exact by decide
  | 12,_=>exact by decide
  | i+13,h=>exact h.elim
 ·intro i hi hia hij hil e
  match i,hi,hia,hij,hil with
  | 0,_,_,_,_=>
   intro hl9 w U;exact OpV.g (ax O)
  | 1,_,_,_,_=>
   intro hl9 w U;exact OpV.g (ar (U.g 3 O) O (isAgg32 _) (sizeOf32 _))
  | 2,_,_,_,_=>
   rintro _ _ ⟨rfl,rfl⟩;intro hl9 w U;exact eo call27 O (pG c lv l _ (U.arg hlv) om)
  | 3,_,_,_,_=>
   intro hl9 w U;exact OpV.g (ac (v:=po w0.hz 1) O kr)
  | 4,_,_,_,_=>
   rintro _ _ ⟨rfl,rfl⟩;intro hl9 w U;exact OpV.g (ld U 3 O O (isAgg30 _) O)
  | 5,_,_,_,_=>
   rintro _ _ ⟨rfl,rfl⟩;intro hl9 w U;exact OpV.g ((aH (sT:=30) (U.arg hlv) O O (runUnderlying30 _)).asi (m':=(l.length:Int)) CU)
  | 6,_,_,_,_=>
   intro hl9 w U;exact OpV.g (ax O)
  | 7,_,_,_,_=>
   rintro _ _ ⟨rfl,rfl⟩ _ _ ⟨ev21,rfl, -,rfl⟩ _ _ ⟨rfl,rfl⟩ _ _ ⟨rfl,rfl⟩;intro hl9 w U;exact eo call48 O (iI key l.length hd av ix c ev21 (entC l) _ (U.ow 0 O) (U.ow 2 O) hk32 hreg Ev hix (Br hxl2 de) hhd)
  | 8,_,_,_,h=>exact absurd de h
  | 9,_,_,_,h=>exact absurd de h
  | 10,_,_,_,_=>
   rintro _ _ ⟨⟨sa0,sn0,sc0,rfl⟩,rfl⟩;intro hl9 w U;exact OpV.g (aj O O)
  | 11,_,h,_,_=>exact absurd O h
  | 12,_,_,h,_=>exact absurd O h
  | i+13,h,_,_,_=>exact absurd h om
 ·intro x hx e;simp only[A0,A4,Bm] at hx;rcases hx with rfl|rfl
  ·rintro _ _ ⟨⟨iv22,Liv22⟩,rfl,hL,rfl⟩;intro w U;obtain⟨sa0,sn0,sc0,rfl⟩:=cQ (bG (k:=0) U rfl).1;exact OpV.hopv (OpV.g (ax O)) ⟨⟨_,_,_,O⟩,O⟩
  ·rintro _ _ ⟨⟨sa0,sn0,sc0,rfl⟩,rfl⟩;intro w U;exact OpV.hopv (OpV.g (aj O O)) ⟨⟨_,_,_,O⟩,O⟩
 ·exact λLv w=>eY (zeroValue50 _)
 ·rintro _ _ ⟨⟨sa0,sn0,sc0,rfl⟩,rfl⟩ _ _ ⟨b20,rfl,rfl⟩;intro b hb u hu w h;have hb:some (ptr b20)=some (ptr b):=hb;cases hb;have hu:some (.agg #[jv hd.c,jv hd.n,sv hd.root,sv hd.tag,(.slice sa0 sn0 sc0)])=some u:=hu;cases hu;exact dG O O h (sizeOf50 _) O (lb O) O
 clear Y U;rintro V bq hva hlk _ _ ⟨⟨rfl,rfl⟩, -⟩ _ _ ⟨⟨rfl,rfl⟩, -⟩ _ _ ⟨⟨ev21,rfl, -,rfl⟩, -⟩ _ _ ⟨⟨rfl,rfl⟩, -⟩ _ _ ⟨⟨rfl,rfl⟩, -⟩ _ _ ⟨⟨rfl,rfl⟩, -⟩ _ _ ⟨⟨rfl,rfl⟩, -⟩ _ _ ⟨⟨⟨iv22,Liv22⟩,rfl,hL,rfl⟩,hv7_⟩ v8_ _ ⟨⟨-,rfl⟩,hv8_⟩ v9_ _ ⟨⟨-,rfl⟩,hv9_⟩ _ _ ⟨⟨rfl,rfl⟩, -⟩ _ _ ⟨⟨b20,rfl,rfl⟩,hva9⟩ a w15 Y U;obtain rfl:b20=bq:=gp (hva9.trans hva);obtain rfl:v8_=.tuple #[(EU hd iv22),jv 0]:=hv8_.trans ((hlk 0 _ rfl).trans (Bh (λu=>u) hv7_.symm));obtain rfl:v9_=(EU hd iv22):=hv9_.trans ((hlk 1 _ rfl).trans (Bh (λu=>tupAt u 0) hv8_.symm));rw[←hv9_] at U;replace Y:=Y.p17 79 80 81 82 83 84 85 86 78 87 88 13 0 4 6 7 12 O
 try dsimp only at U
 replace U:=U.n6 O;clear hva9 hva hlk hv9_ hv8_ hv7_;refine ab<|aI (k:=13) 14 [13] ?_;refine wla Y O λa Y=>ab<|aO<|G29 ?_;replace U:=U.k4 30 O;refine ah λG30=>aa λG31=>nv (Y.p4 6 7 13 14 O)<|AL O<|AK ((v_ne O O).asb (b':=false) O)<|λa Y=>G31<|aJ Y O ?_;refine ap<|G30<|aa λG32=>wlv Y (ar (U.g 1 O) O (isAgg50 _) (sizeOf50 _)) λa Y=>bj (us:=(ET hd iv22)) 3 Y U O O O (sizeOf50 _) C8 (lb O) (ds:=(ET hd iv22)) O O λa w16 Y U=>wla Y O λa Y=>G32<|ao<|am Y results47 (aB O (bA (U.g 3 O) (isAgg50 _) (sizeOf50 _)) (ae O ag)) ?_;exact⟨(iv22,Liv22),O,⟨ix,hix,Br hxl2 de,hL⟩,U.ext,St.out (E:=[itsE iv22 Liv22]) (H:=[]) (U.select [0] de)⟩
end Go.Proofs.YtliklcmddmpdfaaGreatDoor
