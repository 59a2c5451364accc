/- Texts joined: WshC, WshD, BldA, BldB, WshE, WshF, WshG, WshH, WshI, WshJ. -/
import Derived.Test.YtliklcmddmpdfaaGreatDoorPSD
import Derived.Test.YtliklcmddmpdfaaGreatDoorPSA
import Derived.Test.YtliklcmddmpdfaaGreatDoorPSB
import Derived.Laws.StructEq
set_option linter.unusedVariables false
set_option linter.unusedSimpArgs false
set_option maxRecDepth 4000
set_option maxHeartbeats 4000000
namespace Go.Proofs.YtliklcmddmpdfaaGreatDoor
open Go.RowKit Go.PW _root_.Go.Proofs.Tryz
def Pxy.cells (x:Pxy):List Value:=(EX x)
def Pxy.z:Pxy:=⟨0,0,0,0,0,0,[]⟩
def Wsh.cells (x:Wsh):List Value:=(EV x)
def Cin.cells (y:Cin):List Value:=[jv y.y0,jv y.y1,jv y.y2,jv y.y3,jv y.y4]
def Cin.z:Cin:=⟨0,0,0,0,0⟩
def i64 (n:Int):Prop:= -9223372036854775808≤n∧n≤9223372036854775807
def Cin.wt (y:Cin):Prop:=i64 y.y0∧i64 y.y1∧i64 y.y2∧i64 y.y3∧i64 y.y4
theorem kH:∀(l:List Cin) (o:Left) (y:Cin),leftOf o (l++[y])=(leftOf o l).next y
 | [],o,y=>rfl
 | x::l,o,y=>kH l (o.next x) y
theorem kV:∀(l:List Cin) (o:Left) (y:Cin),pxysOf o (l++[y])=pxysOf o l++[(leftOf o l).pxy y]
 | [],o,y=>rfl
 | x::l,o,y=>by rw[BH,pxysOf,kV l (o.next x) y]; rfl
theorem qS {o:Left} (h:o.ok) (holder carrier serial:Int):(bareW o holder carrier serial).ok=true:=by
 obtain⟨a1,a2,a3,a4,a5,a6,a7,a8⟩:=h;have h1:=ba holder (n:=10) om;have h2:=ba carrier (n:=8) om;have h3:=ba serial (n:=1000) om;show (Wsh.mk o.who (pickI holder 10) o.rf o.rt (pickI carrier 8) (pickI serial 1000) o.sf o.st []).ok=true;simp only[Wsh.ok,inB,cG,di,AU,AZ];omega
theorem nC {α:Type} (l:List α):l.take (min 4 l.length)=l.take 4:=by
 rw[Nat.min_def];split
 ·rfl
 ·rw[BS (Bs _),BS om]
theorem yQ (holder r0 r1 s0 s1 carrier serial:Int) (cv:Value) (ys:List Cin) (w0:World) (hcv:SlAt w0 cv 5 (ys.map Cin.cells)) (hys:∀y∈ys,y.wt) (h0:i64 holder) (h1:i64 r0) (h2:i64 r1) (h3:i64 s0) (h4:i64 s1) (h5:i64 carrier) (h6:i64 serial):
  Ret Tryz.prog 32 #[.agg #[jv holder,jv r0,jv r1,jv s0,jv s1,jv carrier,jv serial,cv]] w0 (MemR w0 (λv:Value=>.tuple #[.agg (madeW holder r0 r1 s0 s1 carrier serial ys).cells.toArray,v]) (λv=>[own v 144 7 ((madeL holder r0 r1 s0 s1 ys).map Pxy.cells)]) (λ_=>True)):=by
 have hp0:=ba holder (n:=10) om;have hp1:=ba r0 (n:=10000) om;have hp2:=ba r1 (n:=1000) om;have hp3:=ba s0 (n:=10000) om;have hp4:=ba s1 (n:=1000) om;have hp5:=ba carrier (n:=8) om;have hp6:=ba serial (n:=1000) om;refine Cy func32 O ntmps32 (lb O) λa Y U=>aa λG1=>aR Y U O [jv holder,jv r0,jv r1,jv s0,jv s1,jv carrier,jv serial,cv] O λa w1 Y U=>aE Y U (zeroValue90 _) E4 O λa w2 Y U=>wla Y O λa Y=>G1<|aa λG2=>nv Y<|AK (ac (v:=po w0.hz 1) O kr)<|AK (aS (v:=po w0.hz 1) O O kr)<|AK (ld U 1 O O (isAgg3 _) O)<|λa Y=>au Y U call80 O (dy r0 10000 _ CQ om) λa w3 Y U=>wla Y O λa Y=>G2<|aa λG3=>nv Y<|AL O<|AL O<|AK (aK O O ⟨om,om⟩)<|AK (ac (v:=po w0.hz 1) O kr)<|AK (aS (v:=po w0.hz 2) O O kr)<|AK (ld U 1 O O (isAgg3 _) O)<|λa Y=>au Y U call80 O (dy r1 1000 _ CQ om) λa w4 Y U=>nv Y<|AK (aK O O ⟨om,om⟩)<|AK (aW (v:=.agg #[jv (pickI r0 10000),jv (((pickI r0 10000)+1)+(pickI r1 1000))]) O kr)<|λa Y=>aE Y U (zeroValue87 _) [jv 0,jv 0] O λa w5 Y U=>aA 0 Y U [jv (pickI r0 10000),jv (((pickI r0 10000)+1)+(pickI r1 1000))] O (sizeOf87 _) λa w6 Y U=>G3 ?_;refine aa λG4=>nv (Y.p4 1 2 3 5 O)<|AK (ac (v:=po w0.hz 3) O kr)<|AK (aS (v:=po w0.hz 3) O O kr)<|AK (ld U 2 O O (isAgg3 _) O)<|λa Y=>au Y U call80 O (dy s0 10000 _ CQ om) λa w7 Y U=>wla Y O λa Y=>G4<|aa λG5=>nv Y<|AL O<|AL O<|AK (aK O O ⟨om,om⟩)<|AK (ac (v:=po w0.hz 3) O kr)<|AK (aS (v:=po w0.hz 4) O O kr)<|AK (ld U 2 O O (isAgg3 _) O)<|λa Y=>au Y U call80 O (dy s1 1000 _ CQ om) λa w8 Y U=>nv Y<|AK (aK O O ⟨om,om⟩)<|AK (aW (v:=.agg #[jv (pickI s0 10000),jv (((pickI s0 10000)+1)+(pickI s1 1000))]) O kr)<|λa Y=>aE Y U (zeroValue88 _) [jv 0,jv 0] O λa w9 Y U=>aA 0 Y U [jv (pickI s0 10000),jv (((pickI s0 10000)+1)+(pickI s1 1000))] O (sizeOf88 _) λa w10 Y U=>G5 ?_;refine aa λG6=>nv (Y.p5 1 2 3 5 7 O)<|AK (ac (v:=pq w0.hz) O kr)<|AK (ld U 3 O O (isAgg3 _) O)<|λa Y=>au Y U call80 O (dy holder 10 _ CQ om) λa w11 Y U=>wla Y O λa Y=>G6<|ah λG7=>aL (aM λw12 hxz=>?_);replace U:=U.grow hxz;refine aP (k:=0) 9 [7,8] Y ?_;replace Y:=Y.p9 1 2 3 5 7 44 45 46 8 O;refine bE [8] (λi=>match i with|8=>pm (λb:Nat=>pq b) (λb=>[blk b E4 90]) (λ_=>True)|_=>λ_ _=>False) 9 [[],[],[1],[2],[],[4],[5],[0,3,6],[]] [jv (pickI holder 10),po w0.hz 5,jv carrier,jv (pickI carrier 8),po w0.hz 6,jv serial,jv (pickI serial 1000),.agg #[jv 0,jv (pickI holder 10),jv 0,jv 0,jv (pickI carrier 8),jv (pickI serial 1000),jv 0,jv 0,.string (⟨#[]⟩)],undef] Y U ?_ ?_ ?_
 ·exact CG<|hqv (ax rfl)<|hqv (ac (v:=po w0.hz 5) rfl kr)<|hqw (λU=>ld U 3 rfl rfl (isAgg3 _) rfl)<|CE (λ_ _ _=>bu call80 rfl (dy carrier 8 _ CQ om))<|hqv (ac (v:=po w0.hz 6) rfl kr)<|hqw (λU=>ld U 3 rfl rfl (isAgg3 _) rfl)<|CE (λ_ _ _=>bu call80 rfl (dy serial 1000 _ CQ om))<|hqv (aW (v:=.agg #[jv 0,jv (pickI holder 10),jv 0,jv 0,jv (pickI carrier 8),jv (pickI serial 1000),jv 0,jv 0,.string (⟨#[]⟩)]) rfl kr)<|CE (λh=>absurd sm h)<|CF
 ·intro i hi;simp only[A0,A4,Bm] at hi;subst hi
  ·intro w U;exact fD (zeroValue90 _) (cs:=E4) O
 clear Y U;rintro _ _ ⟨b1,rfl, -,rfl⟩ a w13 Y U;replace Y:=Y.p8 54 9 1 2 3 5 7 8 O;replace U:=U.n5 O;refine ab<|aI (k:=9) 10 [9] ?_;refine aA 0 Y U [jv 0,jv (pickI holder 10),jv 0,jv 0,jv (pickI carrier 8),jv (pickI serial 1000),jv 0,jv 0,.string (⟨#[]⟩)] O (sizeOf90 _) λa w14 Y U=>ab<|aO<|G7<|aa λG8=>wla (Y.p7 1 2 3 5 7 8 9 O) O λa Y=>G8<|ah λG9=>aa λG10=>wla Y O λa Y=>G10<|aw ?_;replace U:St No w0 [own (.slice none 0 0) 144 7 ((pxysOf (cx holder r0 r1 s0 s1) (ys.take 0)).map Pxy.cells),blk b1 [jv 0,jv (pickI holder 10),jv 0,jv 0,jv (pickI carrier 8),jv (pickI serial 1000),jv 0,jv 0,.string (⟨#[]⟩)] 90,blk w8.hz [jv (pickI s0 10000),jv (((pickI s0 10000)+1)+(pickI s1 1000))] 88,blk w4.hz [jv (pickI r0 10000),jv (((pickI r0 10000)+1)+(pickI r1 1000))] 87,blk w1.hz E4 90,blk w0.hz [jv holder,jv r0,jv r1,jv s0,jv s1,jv carrier,jv serial,cv] 84] w14:=U.nil_own;refine aV (λm a w=>∃(k:Nat) (o:Left) (v:Value),m=4- k∧(k≤min 4 ys.length)∧(leftOf (cx holder r0 r1 s0 s1) (ys.take k)=o)∧(o.ok)∧Fr 138 [(1,pq w0.hz),(2,pq w1.hz),(3,.slice none 0 0),(5,pq w4.hz),(7,pq w8.hz),(9,pq b1),(8,jv o.who),(10,v),(11,jv (k:Int))] [] a∧St No w0 [blk w0.hz [jv holder,jv r0,jv r1,jv s0,jv s1,jv carrier,jv serial,cv] 84,blk w1.hz E4 90,blk w4.hz [jv o.rf,jv o.rt] 87,blk w8.hz [jv o.sf,jv o.st] 88,blk b1 [jv 0,jv (pickI holder 10),jv 0,jv 0,jv (pickI carrier 8),jv (pickI serial 1000),jv 0,jv 0,.string (⟨#[]⟩)] 90,own v 144 7 ((pxysOf (cx holder r0 r1 s0 s1) (ys.take k)).map Pxy.cells)] w) _ ⟨0,(cx holder r0 r1 s0 s1),.slice none 0 0,O,(A8 _),O,iX _ _ _ _ _,Y.pick [1,2,3,5,7,9,8,10,11],U.select [5,4,3,2,1,0] de⟩ ?_;rintro _ a w15 ⟨k,o,v,rfl,hk,ho,hok,Y,U⟩;refine ah λG11=>aa λG12=>nv Y<|AL O<|AK (ac (v:=po w0.hz 7) O kr)<|AK (ld U 0 O O (isAgg82 _) O)<|AK ((aH (sT:=82) (U.arg hcv) O O (runUnderlying82 _)).asi (m':=(ys.length:Int)) CU)<|AK (v_lt O O)<|AL O<|λa Y=>?_;rcases Decidable.em ((k:Int)<(ys.length:Int)) with hb2|hb2
 ·rw[AQ hb2] at Y;have hky:k<ys.length:=by omega
  obtain⟨y,hy⟩:∃y,ys.getD k Cin.z=y:=⟨_,rfl⟩;obtain⟨hy0,hy1,hy2,hy3,hy4⟩:y.wt:=by rw[←hy]; exact hys _ (bf hky)
  obtain⟨ho1,ho2,ho3,ho4,ho5,ho6,ho7,ho8⟩:=id hok;have hp9:=ba y.y0 (n:=9) om;refine nv Y<|AN (ax O)<|AN (v_lt O O)<|AK (aq O O)<|λa Y=>G12 ?_;replace Y:=Y.p10 1 2 3 5 7 9 8 10 11 63 O;refine ay Y O (λhc3=>?_) (λhc3=>?_)
  ·refine ap<|G11<|ah λG13=>aw<|aa λG14=>nv Y<|AK (ac (v:=po w0.hz 7) O kr)<|AK (ld U 0 O O (isAgg82 _) O)<|AL O<|AK ((ai (i:=(k:Int)) (sT:=82) (U.arg hcv) O O (runUnderlying82 _) (sizeOf142 _) om (by rw[AP]; exact hky)).as (v':=slAddr cv (k*5)) O)<|AK ((bI (U.arg hcv) (i:=k) (by rw[AP]; exact hky) O (isAgg142 _) (sizeOf142 _)).as (v':=.agg #[jv y.y0,jv y.y1,jv y.y2,jv y.y3,jv y.y4]) (by rw[aU Cin.z,hy]; rfl))<|λa Y=>aE Y U (zeroValue142 _) [jv 0,jv 0,jv 0,jv 0,jv 0] O λa w16 Y U=>aA 0 Y U [jv y.y0,jv y.y1,jv y.y2,jv y.y3,jv y.y4] O (sizeOf142 _) λa w17 Y U=>G14 ?_;replace Y:=Y.p10 1 2 3 5 7 9 8 10 11 12 O;refine ah λG15=>aL (aM λw18 hxz=>?_);replace U:=U.grow hxz;refine aP (k:=0) 12 [10,11] Y ?_;replace Y:=Y.p10 1 2 3 5 7 9 8 10 11 12 O;refine bE [11] (λi=>match i with|11=>pm (λb:Nat=>pq b) (λb=>[blk b E6 144]) (λ_=>True)|_=>λ_ _=>False) 12 [[],[],[1],[],[3],[4],[2,5],[6],[],[],[0,7,8,9],[]] [jv o.who,jv o.who,jv (o.who+1),pq w15.hz,jv y.y0,jv (pickI y.y0 9),jv ((o.who+1)+(pickI y.y0 9)),jv (((o.who+1)+(pickI y.y0 9))%10),.agg #[jv o.rf,jv o.rt],.agg #[jv o.sf,jv o.st],.agg #[jv o.who,jv (((o.who+1)+(pickI y.y0 9))%10),jv o.rf,jv o.rt,jv o.sf,jv o.st,.string (⟨#[]⟩)],undef] Y U ?_ ?_ ?_
   ·exact CG<|hqv (ax rfl)<|hqv (ax rfl)<|hqv (aK rfl rfl ⟨om,om⟩)<|hqv (aS (v:=pq w15.hz) rfl rfl kr)<|hqw (λU=>ld U 0 rfl rfl (isAgg3 _) rfl)<|CE (λ_ _ _=>bu call80 rfl (dy y.y0 9 _ CQ om))<|hqv (aK rfl rfl ⟨om,om⟩)<|hqv (fH rfl rfl om om)<|hqw (λU=>ar (U.g 3 rfl) rfl (isAgg87 _) (sizeOf87 _))<|hqw (λU=>ar (U.g 4 rfl) rfl (isAgg88 _) (sizeOf88 _))<|hqv (aW (v:=.agg #[jv o.who,jv (((o.who+1)+(pickI y.y0 9))%10),jv o.rf,jv o.rt,jv o.sf,jv o.st,.string (⟨#[]⟩)]) rfl kr)<|CE (λh=>absurd sm h)<|CF
   ·intro i hi;simp only[A0,A4,Bm] at hi;subst hi
    ·intro w U;exact fD (zeroValue144 _) (cs:=E6) O
   clear Y U;rintro _ _ ⟨b4,rfl, -,rfl⟩ a w19 Y U;replace Y:=Y.p12 81 13 1 2 3 5 7 9 8 10 11 12 O;replace U:=U.n8 O;refine ab<|aI (k:=12) 13 [12] ?_;refine aA 0 Y U [jv o.who,jv (((o.who+1)+(pickI y.y0 9))%10),jv o.rf,jv o.rt,jv o.sf,jv o.st,.string (⟨#[]⟩)] O (sizeOf144 _) λa w20 Y U=>ab<|aO<|G15 ?_;replace Y:=Y.p11 1 2 3 5 7 9 8 10 11 12 13 O;refine ah λG16=>aL (aM λw21 hxz=>?_);replace U:=U.grow hxz;refine aP (k:=0) 9 [6,8] Y ?_;replace Y:=Y.p11 1 2 3 5 7 9 8 10 11 12 13 O;refine eL 7 8 144 E6 [jv o.who,jv ((o.who+1+pickI y.y0 9)%10),jv o.rf,jv o.rt,jv o.sf,jv o.st,sv (sealH (keyH o.who) (o.bare y).content)] 9 [[],[0],[],[1,2],[3],[4],[4],[],[5,7]] (λi=>match i with|0=>pv (jv o.who)|1=>pv (sv (keyH o.who))|2=>pv (.agg #[jv o.who,jv (((o.who+1)+(pickI y.y0 9))%10),jv o.rf,jv o.rt,jv o.sf,jv o.st,.string (⟨#[]⟩)])|3=>pv (.tuple #[.agg #[jv o.who,jv ((o.who+1+pickI y.y0 9)%10),jv o.rf,jv o.rt,jv o.sf,jv o.st,sv (sealH (keyH o.who) (o.bare y).content)],jv 0])|4=>pv (.tuple #[.agg #[jv o.who,jv ((o.who+1+pickI y.y0 9)%10),jv o.rf,jv o.rt,jv o.sf,jv o.st,sv (sealH (keyH o.who) (o.bare y).content)],jv 0])|5=>pv (.agg #[jv o.who,jv ((o.who+1+pickI y.y0 9)%10),jv o.rf,jv o.rt,jv o.sf,jv o.st,sv (sealH (keyH o.who) (o.bare y).content)])|6=>pv (jv 0)|7=>λv E=>∃b,v=ptr b∧E=[]|8=>λv E=>v=undef∧E=[]|_=>λ_ _=>False) Y (H:=[blk b4 [jv o.who,jv (((o.who+1)+(pickI y.y0 9))%10),jv o.rf,jv o.rt,jv o.sf,jv o.st,.string (⟨#[]⟩)] 144,blk w15.hz [jv y.y0,jv y.y1,jv y.y2,jv y.y3,jv y.y4] 142,blk w0.hz [jv holder,jv r0,jv r1,jv s0,jv s1,jv carrier,jv serial,cv] 84,blk w1.hz E4 90,blk w4.hz [jv o.rf,jv o.rt] 87,blk w8.hz [jv o.sf,jv o.st] 88,blk b1 [jv 0,jv (pickI holder 10),jv 0,jv 0,jv (pickI carrier 8),jv (pickI serial 1000),jv 0,jv 0,.string (⟨#[]⟩)] 90,own v 144 7 ((pxysOf (cx holder r0 r1 s0 s1) (ys.take k)).map Pxy.cells)]) U kr kr kr kr de de de de de ?_ (λv E h=>h) ⟨O,O⟩ (λv E=>Iff.rfl) ?_ ?_ ?_ ?_
   ·intro i v E h
    match i,h with
    | 0,_=>exact by decide
    | 1,_=>exact by decide
    | 2,_=>exact by decide
    | 3,_=>exact by decide
    | 4,_=>exact by decide
    | 5,_=>exact by decide
    | 6,_=>exact by decide
    | 7,_=>exact by decide
    | 8,_=>exact by decide
    | i+9,h=>exact h.elim
   ·intro i hi hia hij e
    match i,hi,hia,hij with
    | 0,_,_,_=>exact λw U=>OpV.g (ax O)
    | 1,_,_,_=>
     rintro _ _ ⟨rfl,rfl⟩;intro w U;exact bu call33 O (kn o.who _)
    | 2,_,_,_=>exact λw U=>OpV.g (ar (U.g 1 O) O (isAgg144 _) (sizeOf144 _))
    | 3,_,_,_=>
     rintro _ _ ⟨rfl,rfl⟩ _ _ ⟨rfl,rfl⟩;intro w U;exact bu call81 O (m7 (keyH o.who) (o.bare y) _ (gU _) (Left.pxy_ok hok y))
    | 4,_,_,_=>
     rintro _ _ ⟨rfl,rfl⟩;intro w U;exact OpV.g (ax O)
    | 5,_,_,_=>
     rintro _ _ ⟨rfl,rfl⟩;intro w U;exact OpV.g (aj O O)
    | 6,_,_,_=>
     rintro _ _ ⟨rfl,rfl⟩;intro w U;exact OpV.g (aj O O)
    | 7,_,h,_=>exact absurd O h
    | 8,_,_,h=>exact absurd O h
   ·exact λLv w=>eY (zeroValue144 _)
   ·rintro _ _ ⟨rfl,rfl⟩ _ _ ⟨b5,rfl,rfl⟩;intro b hb w h;have hb:some (ptr b5)=some (ptr b):=hb;cases hb;exact dG O O h (sizeOf144 _) O (lb O) O
   clear Y U;rintro bq _ _ ⟨⟨rfl,rfl⟩, -⟩ _ _ ⟨⟨rfl,rfl⟩, -⟩ _ _ ⟨⟨rfl,rfl⟩, -⟩ _ _ ⟨⟨rfl,rfl⟩, -⟩ _ _ ⟨⟨rfl,rfl⟩, -⟩ _ _ ⟨⟨rfl,rfl⟩, -⟩ _ _ ⟨⟨rfl,rfl⟩, -⟩ _ _ ⟨⟨b5,rfl,rfl⟩,hva⟩ a w22 Y U;obtain rfl:b5=bq:=gp (hva rfl);replace Y:Fr 138 [(83,_),(84,_),(85,_),(86,_),(82,_),(87,_),(88,_),(14,_),(1,_),(2,_),(3,_),(5,_),(7,_),(9,_),(8,_),(10,_),(11,_),(12,_),(13,_)] [] a:=Y
   try dsimp only at U
   replace U:=U.n9 O;refine ab<|aI (k:=9) 10 [9] ?_;refine wla Y O λa Y=>ab<|aO<|G16<|aa λG17=>nv (Y.p11 1 2 3 5 7 9 10 11 12 13 14 O)<|AL O<|AK (ar (U.g 0 O) O (isAgg144 _) (sizeOf144 _))<|λa Y=>aG (E:=144) (sz:=7) O [[jv o.who,jv ((o.who+1+pickI y.y0 9)%10),jv o.rf,jv o.rt,jv o.sf,jv o.st,sv (sealH (keyH o.who) (o.bare y).content)]] kr sm O de de Y U λa w23 Y U=>bc (i:=9) (sT:=91) (inf:=Tryz.t144) (z:=E7) (b:=0) (off:=0) (m:=0) (c:=0) O O O (U.ow 0 O) sm underlying91 O O O O de CK EN EN de Y U λa w24 s6 Y U _=>?_;rw[show ((pxysOf (cx holder r0 r1 s0 s1) (ys.take k)).map Pxy.cells)++([[jv o.who,jv ((o.who+1+pickI y.y0 9)%10),jv o.rf,jv o.rt,jv o.sf,jv o.st,sv (sealH (keyH o.who) (o.bare y).content)]])=((pxysOf (cx holder r0 r1 s0 s1) (ys.take (k+1))).map Pxy.cells) from by rw[cI Cin.z hky,kV,ho,hy,BI]; rfl] at U;refine wla Y O λa Y=>G17<|aa λG18=>nv Y<|AK (ac (v:=po b4 1) O kr)<|AK (ld U 2 O O (isAgg3 _) O)<|AM O<|λa Y=>G18 ?_;replace U:=U.k7 1016 O;refine aa λG19=>nv (Y.p10 1 2 3 5 7 9 11 12 10 8 O)<|AK (ac (v:=pq w4.hz) O kr)<|AK (ld U 3 O O (isAgg3 _) O)<|AK (ac (v:=po w4.hz 1) O kr)<|AK (ld U 3 O O (isAgg3 _) O)<|AK (aS (v:=po w15.hz 1) O O kr)<|AK (ld U 0 O O (isAgg3 _) O)<|AK (aS (v:=po w15.hz 2) O O kr)<|AK (ld U 0 O O (isAgg3 _) O)<|λa Y=>au Y U call82 O (kI o.rf o.rt y.y1 y.y2 _ om om om CL CL) λa w25 Y U=>nv Y<|AL O<|AK (aj O O)<|AK (aj O O)<|AK (ac (v:=pq w4.hz) O kr)<|λa Y=>aA 3 Y U [jv (o.rf+pickI y.y1 (o.rt- o.rf)),jv o.rt] O (sizeOf3 _) λa w26 Y U=>wlv Y (ac (v:=po w4.hz 1) O kr) λa Y=>aA 3 Y U [jv (o.rf+pickI y.y1 (o.rt- o.rf)),jv (o.rt- pickI y.y2 (o.rt- (o.rf+pickI y.y1 (o.rt- o.rf))))] O (sizeOf3 _) λa w27 Y U=>G19 ?_;refine al<|nv (Y.p10 1 2 3 5 7 9 11 12 10 8 O)<|AK (ac (v:=pq w8.hz) O kr)<|AK (ld U 4 O O (isAgg3 _) O)<|AK (ac (v:=po w8.hz 1) O kr)<|AK (ld U 4 O O (isAgg3 _) O)<|AK (aS (v:=po w15.hz 3) O O kr)<|AK (ld U 0 O O (isAgg3 _) O)<|AK (aS (v:=po w15.hz 4) O O kr)<|AK (ld U 0 O O (isAgg3 _) O)<|λa Y=>au Y U call82 O (kI o.sf o.st y.y3 y.y4 _ om om om CL CL) λa w28 Y U=>nv Y<|AL O<|AK (aj O O)<|AK (aj O O)<|AK (ac (v:=pq w8.hz) O kr)<|λa Y=>aA 4 Y U [jv (o.sf+pickI y.y3 (o.st- o.sf)),jv o.st] O (sizeOf3 _) λa w29 Y U=>wlv Y (ac (v:=po w8.hz 1) O kr) λa Y=>aA 4 Y U [jv (o.sf+pickI y.y3 (o.st- o.sf)),jv (o.st- pickI y.y4 (o.st- (o.sf+pickI y.y3 (o.st- o.sf))))] O (sizeOf3 _) λa w30 Y U=>ab<|G13 ?_;replace U:=U.k6 126 O;refine al<|nv (Y.p9 1 2 3 5 7 9 11 10 8 O)<|AL O<|AK (aK O O ⟨om,om⟩)<|AM O<|λa Y=>ab ?_;refine⟨_,?_,k+1,o.next y,s6,O,om,(by rw[cI Cin.z hky,kH,ho,hy]),(Left.next_ok hok y).1,Y.pick [1,2,3,5,7,9,8,10,11],U.select [0,1,2,3,4,5] de⟩;omega
  refine aN<|G9 ?_;obtain⟨ho1,ho2,ho3,ho4,ho5,ho6,ho7,ho8⟩:=id hok;have hwok:=qS hok holder carrier serial;have hkm:k=min 4 ys.length:=by omega
  have hk4:ys.take k=ys.take 4:=by rw[hkm]; exact nC ys
  refine aa λG20=>nv Y<|AL O<|AK (ac (v:=pq b1) O kr)<|λa Y=>aA 4 Y U [jv o.who,jv (pickI holder 10),jv 0,jv 0,jv (pickI carrier 8),jv (pickI serial 1000),jv 0,jv 0,.string (⟨#[]⟩)] O (sizeOf3 _) λa w31 Y U=>G20<|aa λG21=>nv Y<|AK (ar (U.g 2 O) O (isAgg87 _) (sizeOf87 _))<|AK (ac (v:=po b1 2) O kr)<|λa Y=>aA 4 Y U [jv o.who,jv (pickI holder 10),jv o.rf,jv o.rt,jv (pickI carrier 8),jv (pickI serial 1000),jv 0,jv 0,.string (⟨#[]⟩)] O (sizeOf87 _) λa w32 Y U=>G21 ?_;replace U:=U.k4 58 O;refine aa λG22=>nv (Y.p6 2 3 7 9 8 10 O)<|AK (ar (U.g 1 O) O (isAgg88 _) (sizeOf88 _))<|AK (ac (v:=po b1 6) O kr)<|λa Y=>aA 2 Y U [jv o.who,jv (pickI holder 10),jv o.rf,jv o.rt,jv (pickI carrier 8),jv (pickI serial 1000),jv o.sf,jv o.st,.string (⟨#[]⟩)] O (sizeOf88 _) λa w33 Y U=>G22<|ah λG23=>aL (aM λw34 hxz=>?_);replace U:=U.grow hxz;refine aP (k:=0) 9 [6,8] Y ?_;replace Y:=Y.p8 2 3 7 9 8 10 127 128 O;refine eL 7 8 90 E4 [jv o.who,jv (pickI holder 10),jv o.rf,jv o.rt,jv (pickI carrier 8),jv (pickI serial 1000),jv o.sf,jv o.st,sv (sealH (keyH o.who) (bareW o holder carrier serial).content)] 9 [[],[0],[],[1,2],[3],[4],[4],[],[5,7]] (λi=>match i with|0=>pv (jv o.who)|1=>pv (sv (keyH o.who))|2=>pv (.agg #[jv o.who,jv (pickI holder 10),jv o.rf,jv o.rt,jv (pickI carrier 8),jv (pickI serial 1000),jv o.sf,jv o.st,.string (⟨#[]⟩)])|3=>pv (.tuple #[.agg #[jv o.who,jv (pickI holder 10),jv o.rf,jv o.rt,jv (pickI carrier 8),jv (pickI serial 1000),jv o.sf,jv o.st,sv (sealH (keyH o.who) (bareW o holder carrier serial).content)],jv 0])|4=>pv (.tuple #[.agg #[jv o.who,jv (pickI holder 10),jv o.rf,jv o.rt,jv (pickI carrier 8),jv (pickI serial 1000),jv o.sf,jv o.st,sv (sealH (keyH o.who) (bareW o holder carrier serial).content)],jv 0])|5=>pv (.agg #[jv o.who,jv (pickI holder 10),jv o.rf,jv o.rt,jv (pickI carrier 8),jv (pickI serial 1000),jv o.sf,jv o.st,sv (sealH (keyH o.who) (bareW o holder carrier serial).content)])|6=>pv (jv 0)|7=>λv E=>∃b,v=ptr b∧E=[]|8=>λv E=>v=undef∧E=[]|_=>λ_ _=>False) Y (H:=[blk w1.hz E4 90,blk w8.hz [jv o.sf,jv o.st] 88,blk b1 [jv o.who,jv (pickI holder 10),jv o.rf,jv o.rt,jv (pickI carrier 8),jv (pickI serial 1000),jv o.sf,jv o.st,.string (⟨#[]⟩)] 90,own v 144 7 ((pxysOf (cx holder r0 r1 s0 s1) (ys.take k)).map Pxy.cells)]) U kr kr kr kr de de de de de ?_ (λv E h=>h) ⟨O,O⟩ (λv E=>Iff.rfl) ?_ ?_ ?_ ?_
  ·intro i v E h
   match i,h with
   | 0,_=>exact by decide
   | 1,_=>exact by decide
   | 2,_=>exact by decide
   | 3,_=>exact by decide
   | 4,_=>exact by decide
   | 5,_=>exact by decide
   | 6,_=>exact by decide
   | 7,_=>exact by decide
   | 8,_=>exact by decide
   | i+9,h=>exact h.elim
  ·intro i hi hia hij e
   match i,hi,hia,hij with
   | 0,_,_,_=>exact λw U=>OpV.g (ax O)
   | 1,_,_,_=>
    rintro _ _ ⟨rfl,rfl⟩;intro w U;exact bu call33 O (kn o.who _)
   | 2,_,_,_=>exact λw U=>OpV.g (ar (U.g 3 O) O (isAgg90 _) (sizeOf90 _))
   | 3,_,_,_=>
    rintro _ _ ⟨rfl,rfl⟩ _ _ ⟨rfl,rfl⟩;intro w U;exact bu call83 O (jB (keyH o.who) (bareW o holder carrier serial) _ (gU _) hwok)
   | 4,_,_,_=>
    rintro _ _ ⟨rfl,rfl⟩;intro w U;exact OpV.g (ax O)
   | 5,_,_,_=>
    rintro _ _ ⟨rfl,rfl⟩;intro w U;exact OpV.g (aj O O)
   | 6,_,_,_=>
    rintro _ _ ⟨rfl,rfl⟩;intro w U;exact OpV.g (aj O O)
   | 7,_,h,_=>exact absurd O h
   | 8,_,_,h=>exact absurd O h
  ·exact λLv w=>eY (zeroValue90 _)
  ·rintro _ _ ⟨rfl,rfl⟩ _ _ ⟨b7,rfl,rfl⟩;intro b hb w h;have hb:some (ptr b7)=some (ptr b):=hb;cases hb;exact dG O O h (sizeOf90 _) O (lb O) O
  clear Y U;rintro bq _ _ ⟨⟨rfl,rfl⟩, -⟩ _ _ ⟨⟨rfl,rfl⟩, -⟩ _ _ ⟨⟨rfl,rfl⟩, -⟩ _ _ ⟨⟨rfl,rfl⟩, -⟩ _ _ ⟨⟨rfl,rfl⟩, -⟩ _ _ ⟨⟨rfl,rfl⟩, -⟩ _ _ ⟨⟨rfl,rfl⟩, -⟩ _ _ ⟨⟨b7,rfl,rfl⟩,hva⟩ a w35 Y U;obtain rfl:b7=bq:=gp (hva rfl);replace Y:=Y.p16 130 131 132 133 129 134 135 16 2 3 7 9 8 10 127 128 O
  try dsimp only at U
  replace U:=U.n5 O;refine ab<|aI (k:=9) 10 [9] ?_;refine wla Y O λa Y=>ab<|aO<|G23 ?_;replace U:=U.k3 19 O;refine aa λG24=>nv (Y.p4 2 3 10 16 O)<|AK (ar (U.g 0 O) O (isAgg90 _) (sizeOf90 _))<|AL O<|λa Y=>aA 1 Y U [jv o.who,jv (pickI holder 10),jv o.rf,jv o.rt,jv (pickI carrier 8),jv (pickI serial 1000),jv o.sf,jv o.st,sv (sealH (keyH o.who) (bareW o holder carrier serial).content)] O (sizeOf90 _) λa w36 Y U=>wla Y O λa Y=>G24<|ao<|am Y results32 (aB O (bA (U.g 1 O) (isAgg90 _) (sizeOf90 _)) (ae O ag)) ?_;rw[hk4] at U ho;subst ho;exact⟨v,O,trivial,U.ext,St.out (E:=[own v 144 7 ((madeL holder r0 r1 s0 s1 ys).map Pxy.cells)]) (H:=[]) (U.select [2] de)⟩
 rw[AV hb2] at Y;refine nv Y<|AO<|AO<|AK (ak O O)<|λa Y=>G12 ?_;replace Y:=Y.p10 1 2 3 5 7 9 8 10 11 63 O;refine aJ Y O ?_;refine aN<|G9 ?_;obtain⟨ho1,ho2,ho3,ho4,ho5,ho6,ho7,ho8⟩:=id hok;have hwok:=qS hok holder carrier serial;have hkm:k=min 4 ys.length:=by omega
 have hk4:ys.take k=ys.take 4:=by rw[hkm]; exact nC ys
 refine aa λG25=>nv Y<|AL O<|AK (ac (v:=pq b1) O kr)<|λa Y=>aA 4 Y U [jv o.who,jv (pickI holder 10),jv 0,jv 0,jv (pickI carrier 8),jv (pickI serial 1000),jv 0,jv 0,.string (⟨#[]⟩)] O (sizeOf3 _) λa w37 Y U=>G25<|aa λG26=>nv Y<|AK (ar (U.g 2 O) O (isAgg87 _) (sizeOf87 _))<|AK (ac (v:=po b1 2) O kr)<|λa Y=>aA 4 Y U [jv o.who,jv (pickI holder 10),jv o.rf,jv o.rt,jv (pickI carrier 8),jv (pickI serial 1000),jv 0,jv 0,.string (⟨#[]⟩)] O (sizeOf87 _) λa w38 Y U=>G26 ?_;replace U:=U.k4 58 O;refine aa λG27=>nv (Y.p6 2 3 7 9 8 10 O)<|AK (ar (U.g 1 O) O (isAgg88 _) (sizeOf88 _))<|AK (ac (v:=po b1 6) O kr)<|λa Y=>aA 2 Y U [jv o.who,jv (pickI holder 10),jv o.rf,jv o.rt,jv (pickI carrier 8),jv (pickI serial 1000),jv o.sf,jv o.st,.string (⟨#[]⟩)] O (sizeOf88 _) λa w39 Y U=>G27<|ah λG28=>aL (aM λw40 hxz=>?_);replace U:=U.grow hxz;refine aP (k:=0) 9 [6,8] Y ?_;replace Y:=Y.p8 2 3 7 9 8 10 127 128 O;refine eL 7 8 90 E4 [jv o.who,jv (pickI holder 10),jv o.rf,jv o.rt,jv (pickI carrier 8),jv (pickI serial 1000),jv o.sf,jv o.st,sv (sealH (keyH o.who) (bareW o holder carrier serial).content)] 9 [[],[0],[],[1,2],[3],[4],[4],[],[5,7]] (λi=>match i with|0=>pv (jv o.who)|1=>pv (sv (keyH o.who))|2=>pv (.agg #[jv o.who,jv (pickI holder 10),jv o.rf,jv o.rt,jv (pickI carrier 8),jv (pickI serial 1000),jv o.sf,jv o.st,.string (⟨#[]⟩)])|3=>pv (.tuple #[.agg #[jv o.who,jv (pickI holder 10),jv o.rf,jv o.rt,jv (pickI carrier 8),jv (pickI serial 1000),jv o.sf,jv o.st,sv (sealH (keyH o.who) (bareW o holder carrier serial).content)],jv 0])|4=>pv (.tuple #[.agg #[jv o.who,jv (pickI holder 10),jv o.rf,jv o.rt,jv (pickI carrier 8),jv (pickI serial 1000),jv o.sf,jv o.st,sv (sealH (keyH o.who) (bareW o holder carrier serial).content)],jv 0])|5=>pv (.agg #[jv o.who,jv (pickI holder 10),jv o.rf,jv o.rt,jv (pickI carrier 8),jv (pickI serial 1000),jv o.sf,jv o.st,sv (sealH (keyH o.who) (bareW o holder carrier serial).content)])|6=>pv (jv 0)|7=>λv E=>∃b,v=ptr b∧E=[]|8=>λv E=>v=undef∧E=[]|_=>λ_ _=>False) Y (H:=[blk w1.hz E4 90,blk w8.hz [jv o.sf,jv o.st] 88,blk b1 [jv o.who,jv (pickI holder 10),jv o.rf,jv o.rt,jv (pickI carrier 8),jv (pickI serial 1000),jv o.sf,jv o.st,.string (⟨#[]⟩)] 90,own v 144 7 ((pxysOf (cx holder r0 r1 s0 s1) (ys.take k)).map Pxy.cells)]) U kr kr kr kr de de de de de ?_ (λv E h=>h) ⟨O,O⟩ (λv E=>Iff.rfl) ?_ ?_ ?_ ?_
 ·intro i v E h
  match i,h with
  | 0,_=>exact by decide
  | 1,_=>exact by decide
  | 2,_=>exact by decide
  | 3,_=>exact by decide
  | 4,_=>exact by decide
  | 5,_=>exact by decide
  | 6,_=>exact by decide
  | 7,_=>exact by decide
  | 8,_=>exact by decide
  | i+9,h=>exact h.elim
 ·intro i hi hia hij e
  match i,hi,hia,hij with
  | 0,_,_,_=>exact λw U=>OpV.g (ax O)
  | 1,_,_,_=>
   rintro _ _ ⟨rfl,rfl⟩;intro w U;exact bu call33 O (kn o.who _)
  | 2,_,_,_=>exact λw U=>OpV.g (ar (U.g 3 O) O (isAgg90 _) (sizeOf90 _))
  | 3,_,_,_=>
   rintro _ _ ⟨rfl,rfl⟩ _ _ ⟨rfl,rfl⟩;intro w U;exact bu call83 O (jB (keyH o.who) (bareW o holder carrier serial) _ (gU _) hwok)
  | 4,_,_,_=>
   rintro _ _ ⟨rfl,rfl⟩;intro w U;exact OpV.g (ax O)
  | 5,_,_,_=>
   rintro _ _ ⟨rfl,rfl⟩;intro w U;exact OpV.g (aj O O)
  | 6,_,_,_=>
   rintro _ _ ⟨rfl,rfl⟩;intro w U;exact OpV.g (aj O O)
  | 7,_,h,_=>exact absurd O h
  | 8,_,_,h=>exact absurd O h
 ·exact λLv w=>eY (zeroValue90 _)
 ·rintro _ _ ⟨rfl,rfl⟩ _ _ ⟨b8,rfl,rfl⟩;intro b hb w h;have hb:some (ptr b8)=some (ptr b):=hb;cases hb;exact dG O O h (sizeOf90 _) O (lb O) O
 clear Y U;rintro bq _ _ ⟨⟨rfl,rfl⟩, -⟩ _ _ ⟨⟨rfl,rfl⟩, -⟩ _ _ ⟨⟨rfl,rfl⟩, -⟩ _ _ ⟨⟨rfl,rfl⟩, -⟩ _ _ ⟨⟨rfl,rfl⟩, -⟩ _ _ ⟨⟨rfl,rfl⟩, -⟩ _ _ ⟨⟨rfl,rfl⟩, -⟩ _ _ ⟨⟨b8,rfl,rfl⟩,hva⟩ a w41 Y U;obtain rfl:b8=bq:=gp (hva rfl);replace Y:=Y.p16 130 131 132 133 129 134 135 16 2 3 7 9 8 10 127 128 O
 try dsimp only at U
 replace U:=U.n5 O;refine ab<|aI (k:=9) 10 [9] ?_;refine wla Y O λa Y=>ab<|aO<|G28 ?_;replace U:=U.k3 19 O;refine aa λG29=>nv (Y.p4 2 3 10 16 O)<|AK (ar (U.g 0 O) O (isAgg90 _) (sizeOf90 _))<|AL O<|λa Y=>aA 1 Y U [jv o.who,jv (pickI holder 10),jv o.rf,jv o.rt,jv (pickI carrier 8),jv (pickI serial 1000),jv o.sf,jv o.st,sv (sealH (keyH o.who) (bareW o holder carrier serial).content)] O (sizeOf90 _) λa w42 Y U=>wla Y O λa Y=>G29<|ao<|am Y results32 (aB O (bA (U.g 1 O) (isAgg90 _) (sizeOf90 _)) (ae O ag)) ?_;rw[hk4] at U ho;subst ho;exact⟨v,O,trivial,U.ext,St.out (E:=[own v 144 7 ((madeL holder r0 r1 s0 s1 ys).map Pxy.cells)]) (H:=[]) (U.select [2] de)⟩
theorem cM {P:Program} {w:World} {d:Nat} {xs ys:Array Value} {f:Field} {fs:List Field} {a b:Value} {r r':Bool} (hn:f.name≠ "_") (h1:(part f.type xs f.offset).run P w=.ok a w) (h2:(part f.type ys f.offset).run P w=.ok b w)
  (h3:(Op.equalIn d f.type a b).run P w=.ok r w) (h4:(Op.eqFields d xs ys fs).run P w=.ok r' w):(Op.eqFields d xs ys (f::fs)).run P w=.ok (r&&r') w:=by
 simp only[Op.eqFields,hn,ne_eq,not_false_eq_true,if_true,Bp,h1,h2,h3,Bj];cases r
 ·simp
 ·simpa using h4
theorem j4 {P:Program} {w:World} {d:Nat} {xs ys:Array Value}:(Op.eqFields d xs ys []).run P w=.ok true w:=by simp[Op.eqFields]
theorem eqI {w:World} (d:Nat) (a b:Int):(Op.equalIn (d+1) 3 (jv a) (jv b)).run Tryz.prog w=.ok (decide (a=b)) w:=by
 rw[run_equalIn_int w d 3 .i64 .i64 a b underlying3]; congr 1
theorem eqS {w:World} (d:Nat) (a b:By):(Op.equalIn (d+1) 9 (sv a) (sv b)).run Tryz.prog w=.ok (decide (a=b)) w:=by
 unfold sv;rw[run_equalIn_string w d 9 _ _ underlying9,ByteArray.toList_mk,ByteArray.toList_mk]; congr 1;rw[Bool.eq_iff_iff]; simp
theorem zG {w:World} (d:Nat) (a0 a1 c0 c1:Int):(Op.equalIn (d+1+1) 87 (.agg #[jv a0,jv a1]) (.agg #[jv c0,jv c1])).run Tryz.prog w=.ok (decide (a0=c0)&&(decide (a1=c1)&&true)) w:=by
 rw[run_equalIn_struct w (d+1) 87 _ _ kr kr];simp only[Program.fieldsOf,underlying87];refine cM (a:=jv a0) (b:=jv c0) (r:=decide (a0=c0)) de CX CX (eqI _ _ _) ?_;refine cM (a:=jv a1) (b:=jv c1) (r:=decide (a1=c1)) de CX CX (eqI _ _ _) ?_;exact j4
theorem yH {w:World} (d:Nat) (a0 a1 c0 c1:Int):(Op.equalIn (d+1+1) 88 (.agg #[jv a0,jv a1]) (.agg #[jv c0,jv c1])).run Tryz.prog w=.ok (decide (a0=c0)&&(decide (a1=c1)&&true)) w:=by
 rw[run_equalIn_struct w (d+1) 88 _ _ kr kr];simp only[Program.fieldsOf,underlying88];refine cM (a:=jv a0) (b:=jv c0) (r:=decide (a0=c0)) de CX CX (eqI _ _ _) ?_;refine cM (a:=jv a1) (b:=jv c1) (r:=decide (a1=c1)) de CX CX (eqI _ _ _) ?_;exact j4
theorem eqWsh (a0 a1 a2 a3 a4 a5 a6 a7:Int) (a8:By) (c0 c1 c2 c3 c4 c5 c6 c7:Int) (c8:By) (w:World):(Op.equal 90 (.agg #[jv a0,jv a1,jv a2,jv a3,jv a4,jv a5,jv a6,jv a7,sv a8]) (.agg #[jv c0,jv c1,jv c2,jv c3,jv c4,jv c5,jv c6,jv c7,sv c8])).run Tryz.prog w=.ok (decide (Wsh.mk a0 a1 a2 a3 a4 a5 a6 a7 a8=Wsh.mk c0 c1 c2 c3 c4 c5 c6 c7 c8)) w:=by
 have e:decide (Wsh.mk a0 a1 a2 a3 a4 a5 a6 a7 a8=Wsh.mk c0 c1 c2 c3 c4 c5 c6 c7 c8)=(decide (a0=c0)&&(decide (a1=c1)&&((decide (a2=c2)&&(decide (a3=c3)&&true))&&(decide (a4=c4)&&(decide (a5=c5)&&((decide (a6=c6)&&(decide (a7=c7)&&true))&&(decide (a8=c8)&&true))))))):=by
  rw[Bool.eq_iff_iff]; simp[and_assoc]
 rw[e];unfold Op.equal Op.maxDepth;obtain⟨dd,hd⟩:∃dd,10000=dd+1+1+1:=⟨9997,rfl⟩;rw[hd,run_equalIn_struct w (dd+1+1) 90 _ _ kr kr];simp only[Program.fieldsOf,underlying90];refine cM (a:=jv a0) (b:=jv c0) (r:=decide (a0=c0)) de CX CX (eqI _ _ _) ?_;refine cM (a:=jv a1) (b:=jv c1) (r:=decide (a1=c1)) de CX CX (eqI _ _ _) ?_;refine cM (a:=.agg #[jv a2,jv a3]) (b:=.agg #[jv c2,jv c3]) (r:=(decide (a2=c2)&&(decide (a3=c3)&&true))) de (by simp[part,isAgg87,sizeOf87]) (by simp[part,isAgg87,sizeOf87]) (zG _ _ _ _ _) ?_;refine cM (a:=jv a4) (b:=jv c4) (r:=decide (a4=c4)) de CX CX (eqI _ _ _) ?_;refine cM (a:=jv a5) (b:=jv c5) (r:=decide (a5=c5)) de CX CX (eqI _ _ _) ?_;refine cM (a:=.agg #[jv a6,jv a7]) (b:=.agg #[jv c6,jv c7]) (r:=(decide (a6=c6)&&(decide (a7=c7)&&true))) de (by simp[part,isAgg88,sizeOf88]) (by simp[part,isAgg88,sizeOf88]) (yH _ _ _ _ _) ?_;refine cM (a:=sv a8) (b:=sv c8) (r:=decide (a8=c8)) de DC DC (eqS _ _ _) ?_;exact j4
def bentW (x:Wsh) (how n:Int):Wsh:=
 if pickI how 9=0 then {x with signer:=n} else if pickI how 9=1 then {x with holder:=n} else if pickI how 9=2 then {x with rf:=n} else if pickI how 9=3 then {x with rt:=n} else
 if pickI how 9=4 then {x with carrier:=n} else if pickI how 9=5 then {x with serial:=n} else if pickI how 9=6 then {x with sf:=n} else if pickI how 9=7 then {x with st:=n} else {x with rt:=x.rt+1}
theorem zU (x:Wsh) (how n:Int) (w0:World) (hh: -9223372036854775808≤how∧how≤9223372036854775807) (hx:x.rt<9223372036854775807) (hx2: -9223372036854775808≤x.rt):
  Ff 105 #[(EW x),jv how,jv n] w0 (.tuple #[.agg (bentW x how n).cells.toArray,.bool (!(decide (bentW x how n=x)))]):=by
 refine CB func105 O ntmps105 (lb O) λa Y U=>aa λG1=>aR Y U O (EV x) O λa w1 Y U=>aE Y U (zeroValue90 _) E4 O λa w2 Y U=>wla Y O λa Y=>G1<|aa λG2=>wlv Y (ar (U.g 1 O) O (isAgg90 _) (sizeOf90 _)) λa Y=>aE Y U (zeroValue90 _) E4 O λa w3 Y U=>aA 0 Y U (EV x) O (sizeOf90 _) λa w4 Y U=>G2<|ah λG3=>aa λG4=>wlm Y O λa Y=>au Y U call80 O (dy how 9 _ CQ om) λa w5 Y U=>G4<|dQ (λa w=>∃(o:Wsh),(bentW x how n=o)∧Fr 58 [(3,pq w0.hz),(6,pq w1.hz),(7,.bool false),(8,pq w2.hz)] [] a∧St No w0 [blk w2.hz (EV o) 90,blk w1.hz E4 90,blk w0.hz (EV x) 90] w) ?_ ?_
 ·refine aw<|aa λG5=>nv Y<|AK (v_eq O O)<|AM O<|λa Y=>G5<|ay Y O (λhc1=>?_) (λhc1=>?_)
  ·refine al<|nv Y<|AL O<|AK (ac (v:=pq w2.hz) O kr)<|λa Y=>aA 0 Y U [jv n,jv x.holder,jv x.rf,jv x.rt,jv x.carrier,jv x.serial,jv x.sf,jv x.st,sv x.sig] O (sizeOf3 _) λa w6 Y U=>ab ?_;exact⟨⟨n,x.holder,x.rf,x.rt,x.carrier,x.serial,x.sf,x.st,x.sig⟩,(by unfold bentW; simp[hc1]),Y.pick [3,6,7,8],U.select [0,1,2] de⟩
  refine aa λG6=>nv Y<|AK (v_eq O O)<|AM O<|λa Y=>G6 ?_;replace Y:=Y.p7 2 3 6 7 8 11 22 O;refine ay Y O (λhc2=>?_) (λhc2=>?_)
  ·refine al<|nv Y<|AL O<|AK (ac (v:=po w2.hz 1) O kr)<|λa Y=>aA 0 Y U [jv x.signer,jv n,jv x.rf,jv x.rt,jv x.carrier,jv x.serial,jv x.sf,jv x.st,sv x.sig] O (sizeOf3 _) λa w7 Y U=>ab ?_;exact⟨⟨x.signer,n,x.rf,x.rt,x.carrier,x.serial,x.sf,x.st,x.sig⟩,(by unfold bentW; simp[hc1,hc2]),Y.pick [3,6,7,8],U.select [0,1,2] de⟩
  refine aa λG7=>nv Y<|AK (v_eq O O)<|AM O<|λa Y=>G7<|ay Y O (λhc3=>?_) (λhc3=>?_)
  ·refine al<|nv Y<|AL O<|AK (ac (v:=po w2.hz 2) O kr)<|AK (ac (v:=po w2.hz 2) O kr)<|λa Y=>aA 0 Y U [jv x.signer,jv x.holder,jv n,jv x.rt,jv x.carrier,jv x.serial,jv x.sf,jv x.st,sv x.sig] O (sizeOf3 _) λa w8 Y U=>ab ?_;exact⟨⟨x.signer,x.holder,n,x.rt,x.carrier,x.serial,x.sf,x.st,x.sig⟩,(by unfold bentW; simp[hc1,hc2,hc3]),Y.pick [3,6,7,8],U.select [0,1,2] de⟩
  refine aa λG8=>nv Y<|AK (v_eq O O)<|AM O<|λa Y=>G8<|ay Y O (λhc4=>?_) (λhc4=>?_)
  ·refine al<|nv Y<|AL O<|AK (ac (v:=po w2.hz 2) O kr)<|AK (ac (v:=po w2.hz 3) O kr)<|λa Y=>aA 0 Y U [jv x.signer,jv x.holder,jv x.rf,jv n,jv x.carrier,jv x.serial,jv x.sf,jv x.st,sv x.sig] O (sizeOf3 _) λa w9 Y U=>ab ?_;exact⟨⟨x.signer,x.holder,x.rf,n,x.carrier,x.serial,x.sf,x.st,x.sig⟩,(by unfold bentW; simp[hc1,hc2,hc3,hc4]),Y.pick [3,6,7,8],U.select [0,1,2] de⟩
  refine aa λG9=>nv Y<|AK (v_eq O O)<|AM O<|λa Y=>G9 ?_;replace Y:=Y.p7 2 3 6 7 8 11 36 O;refine ay Y O (λhc5=>?_) (λhc5=>?_)
  ·refine al<|nv Y<|AL O<|AK (ac (v:=po w2.hz 4) O kr)<|λa Y=>aA 0 Y U [jv x.signer,jv x.holder,jv x.rf,jv x.rt,jv n,jv x.serial,jv x.sf,jv x.st,sv x.sig] O (sizeOf3 _) λa w10 Y U=>ab ?_;exact⟨⟨x.signer,x.holder,x.rf,x.rt,n,x.serial,x.sf,x.st,x.sig⟩,(by unfold bentW; simp[hc1,hc2,hc3,hc4,hc5]),Y.pick [3,6,7,8],U.select [0,1,2] de⟩
  refine aa λG10=>nv Y<|AK (v_eq O O)<|AM O<|λa Y=>G10<|ay Y O (λhc6=>?_) (λhc6=>?_)
  ·refine al<|nv Y<|AL O<|AK (ac (v:=po w2.hz 5) O kr)<|λa Y=>aA 0 Y U [jv x.signer,jv x.holder,jv x.rf,jv x.rt,jv x.carrier,jv n,jv x.sf,jv x.st,sv x.sig] O (sizeOf3 _) λa w11 Y U=>ab ?_;exact⟨⟨x.signer,x.holder,x.rf,x.rt,x.carrier,n,x.sf,x.st,x.sig⟩,(by unfold bentW; simp[hc1,hc2,hc3,hc4,hc5,hc6]),Y.pick [3,6,7,8],U.select [0,1,2] de⟩
  refine aa λG11=>nv Y<|AK (v_eq O O)<|AM O<|λa Y=>G11<|ay Y O (λhc7=>?_) (λhc7=>?_)
  ·refine al<|nv Y<|AL O<|AK (ac (v:=po w2.hz 6) O kr)<|AK (ac (v:=po w2.hz 6) O kr)<|λa Y=>aA 0 Y U [jv x.signer,jv x.holder,jv x.rf,jv x.rt,jv x.carrier,jv x.serial,jv n,jv x.st,sv x.sig] O (sizeOf3 _) λa w12 Y U=>ab ?_;exact⟨⟨x.signer,x.holder,x.rf,x.rt,x.carrier,x.serial,n,x.st,x.sig⟩,(by unfold bentW; simp[hc1,hc2,hc3,hc4,hc5,hc6,hc7]),Y.pick [3,6,7,8],U.select [0,1,2] de⟩
  refine aa λG12=>nv Y<|AK (v_eq O O)<|AM O<|λa Y=>G12 ?_;replace Y:=Y.p6 2 3 6 7 8 49 O;refine ay Y O (λhc8=>?_) (λhc8=>?_)
  ·refine al<|nv Y<|AL O<|AK (ac (v:=po w2.hz 6) O kr)<|AK (ac (v:=po w2.hz 7) O kr)<|λa Y=>aA 0 Y U [jv x.signer,jv x.holder,jv x.rf,jv x.rt,jv x.carrier,jv x.serial,jv x.sf,jv n,sv x.sig] O (sizeOf3 _) λa w13 Y U=>ab ?_;exact⟨⟨x.signer,x.holder,x.rf,x.rt,x.carrier,x.serial,x.sf,n,x.sig⟩,(by unfold bentW; simp[hc1,hc2,hc3,hc4,hc5,hc6,hc7,hc8]),Y.pick [3,6,7,8],U.select [0,1,2] de⟩
  refine al<|nv Y<|AK (ac (v:=po w2.hz 2) O kr)<|AK (ac (v:=po w2.hz 3) O kr)<|AK (ld U 0 O O (isAgg3 _) O)<|AK (aK O O ⟨om,om⟩)<|AK (ac (v:=po w2.hz 2) O kr)<|AK (ac (v:=po w2.hz 3) O kr)<|λa Y=>aA 0 Y U [jv x.signer,jv x.holder,jv x.rf,jv (x.rt+1),jv x.carrier,jv x.serial,jv x.sf,jv x.st,sv x.sig] O (sizeOf3 _) λa w14 Y U=>ab ?_;exact⟨⟨x.signer,x.holder,x.rf,x.rt+1,x.carrier,x.serial,x.sf,x.st,x.sig⟩,(by unfold bentW; simp[hc1,hc2,hc3,hc4,hc5,hc6,hc7,hc8]),Y.pick [3,6,7,8],U.select [0,1,2] de⟩
 rintro a w15 ⟨o,ho,Y,U⟩;refine G3<|ah λG13=>aL (aM λw16 hxz=>?_);replace U:=U.grow hxz;refine aP (k:=0) 5 [3,4] Y ?_;replace Y:=Y.p4 3 6 7 8 O;replace U:=U.s3 [1,0,2] de rfl;refine eK [4] (λq=>if q=4 then blk w1.hz E4 90 else join []) (λq=>if q=4 then blk w1.hz (EV o) 90 else join []) 5 [[],[],[],[1,2],[0]] (λi=>match i with|0=>pv ((EW o))|1=>pv ((EW o))|2=>pv ((EW x))|3=>pv (.bool (!(decide (o=x))))|4=>λv E=>v=undef∧E=[]|_=>λ_ _=>False) (by intro q; by_cases h4:q=4; (subst h4; rfl); simp only[h4,if_false]) Y (H:=[blk w2.hz (EV o) 90,blk w0.hz (EV x) 90]) U kr kr kr kr de de ?_ ?_ ?_ ?_ ?_ ?_
 ·intro i v E h
  match i,h with
  | 0,_=>exact by decide
  | 1,_=>exact by decide
  | 2,_=>exact by decide
  | 3,_=>exact by decide
  | 4,_=>exact by decide
  | i+5,h=>exact h.elim
 ·intro q v E hq h;simp only[A0,A4,Bm] at hq;rcases hq with rfl<;>exact h
 ·intro q hq;simp only[A0,A4,Bm] at hq;rcases hq with rfl<;>exact⟨rfl,rfl⟩
 ·intro i hi hiq e
  match i,hi,hiq with
  | 0,_,_=>exact λw U=>OpV.g (ar (U.g 1 O) O (isAgg90 _) (sizeOf90 _))
  | 1,_,_=>exact λw U=>OpV.g (ar (U.g 1 O) O (isAgg90 _) (sizeOf90 _))
  | 2,_,_=>exact λw U=>OpV.g (ar (U.g 2 O) O (isAgg90 _) (sizeOf90 _))
  | 3,_,_=>
   rintro _ _ ⟨rfl,rfl⟩ _ _ ⟨rfl,rfl⟩;intro w U;exact OpV.g ((qQ O O kr (eqWsh o.signer o.holder o.rf o.rt o.carrier o.serial o.sf o.st o.sig x.signer x.holder x.rf x.rt x.carrier x.serial x.sf x.st x.sig _)).asb (b':=!(decide (o=x))) rfx)
  | 4,_,h=>exact absurd de h
 ·intro q hq;simp only[A0,A4,Bm] at hq;rcases hq with rfl
  ·rintro _ _ ⟨rfl,rfl⟩;intro w h;exact dG (cs:=E4) (ds:=(EV o)) O O h (sizeOf90 _) O (lb O) O
 clear Y U;rintro _ _ ⟨rfl,rfl⟩ _ _ ⟨rfl,rfl⟩ _ _ ⟨rfl,rfl⟩ _ _ ⟨rfl,rfl⟩ a w17 Y U;replace Y:=Y.p8 54 55 56 57 3 6 7 8 O
 try dsimp only at U
 replace U:=U.n3 O;refine ab<|aI (k:=5) 6 [5] ?_;refine wla Y O λa Y=>ab<|aO<|G13 ?_;replace Y:=Y.p2 6 7 O;replace U:=U.k1 1 O;refine ao<|am Y results105 (aB O (bA (U.g 0 O) (isAgg90 _) (sizeOf90 _)) (ae O ag)) ?_;rw[ho];exact⟨O,U.ext⟩
def bld (T:TypeId) (b:Nat) (ad v:Value) (bs:By):Ent:=join [blk b [ad,v] T,own v 5 1 ((bs).map λb=>[yv b])]
theorem lD {M:Nat→Prop} {w0 w:World} {T:TypeId} {b:Nat} {ad v:Value} {bs:By} {H:List Ent} (h:St M w0 (bld T b ad v bs::H) w):St M w0 ([blk b [ad,v] T,own v 5 1 ((bs).map λb=>[yv b])]++H) w:=St.unjoin _ _ h
theorem pZ (T:TypeId) (b:Nat) (v:Value) (w0:World) (hlie:liesAt Tryz.prog Tryz.prog.depth T (2 / Tryz.prog.cellsOf T) 0 160 1=true) (hb:(blk b [.pointer none,v] T).ok w0):
  Ret Tryz.prog 142 #[pq b] w0 λu w=>u=.tuple #[]∧Ext (·=b) w0 w∧(blk b [pq b,v] T).ok w:=by
 refine aD func142 O ntmps142 (lb O) λa Y=>?_;replace U:St (·=b) w0 [blk b [.pointer none,v] T] w0:=St.one hb;refine aa λG1=>nv (Y.p1 0 O)<|AL O<|AK (aX O)<|AK (ac (v:=pq b) O kr)<|AK (ld U 0 O O (isAgg158 _) O)<|AK (AF O O underlying158)<|λa Y=>G1<|aC Y O ?_;refine al<|nv Y<|AL O<|AL O<|AK (sI (j:=Tryz.t160) (U.g 0 O) O underlying158 underlying235 O O sm)<|AK (sW func179 kr kr kr kr O)<|AK (o8 (j:=Tryz.t160) (U.g 0 O) O underlying235 underlying158 O hlie)<|AK (aX O)<|AK (ac (v:=pq b) O kr)<|λa Y=>aA 0 Y U [pq b,v] O (sizeOf158 _) λa w2 Y U=>ab ?_;refine cY Y results142 ag ?_;exact⟨O,U.ext,U.g 0 O⟩
theorem sk (T:TypeId) (b:Nat) (v:Value) (w0:World) (hlie:liesAt Tryz.prog Tryz.prog.depth T (2 / Tryz.prog.cellsOf T) 0 160 1=true) (hb:(blk b [pq b,v] T).ok w0):
  Ret Tryz.prog 142 #[pq b] w0 λu w=>u=.tuple #[]∧Ext (·=b) w0 w∧(blk b [pq b,v] T).ok w:=by
 refine aD func142 O ntmps142 (lb O) λa Y=>?_;replace U:St (·=b) w0 [blk b [pq b,v] T] w0:=St.one hb;refine aa λG1=>nv (Y.p1 0 O)<|AL O<|AK (aX O)<|AK (ac (v:=pq b) O kr)<|AK (ld U 0 O O (isAgg158 _) O)<|AK (xH O O underlying158)<|λa Y=>G1<|aJ Y O ?_;refine aa λG2=>nv Y<|AL O<|AK (aX O)<|AK (ac (v:=pq b) O kr)<|AK (ld U 0 O O (isAgg158 _) O)<|AL O<|AK (zW (j:=Tryz.t160) O O underlying158 O)<|λa Y=>G2 ?_;replace Y:=Y.p1 19 O;refine aJ Y O ?_;refine ap<|cY Y results142 ag ?_;exact⟨O,U.ext,U.g 0 O⟩
theorem rE {M:Nat→Prop} {w0:World} (T:TypeId) (b:Nat) (v:Value) (bs:By) (s:By) (ws:World) (hlie:liesAt Tryz.prog Tryz.prog.depth T (2 / Tryz.prog.cellsOf T) 0 160 1=true) (hne:s≠[]) (hbn:bs.length+s.length≤1000000000) (U:St M w0 [bld T b (.pointer none) v bs] ws):
  Ret Tryz.prog 94 #[pq b,sv s] ws λu w=>u=.tuple #[jv (s.length:Int),.nilIface]∧∃v2,St M w0 [bld T b (pq b) v2 (bs++s)] w:=by
 refine aD func94 O ntmps94 (lb O) λa Y=>?_;replace U:St M w0 [blk b [.pointer none,v] T,own v 5 1 ((bs).map λb=>[yv b])] ws:=lD U;refine aa λG1=>nv (Y.p2 0 1 O)<|AM O<|AM O<|λa Y=>G1<|aa λG2=>wlm Y O λa Y=>lX 0 Y U de call142 O O (pZ T b _ _ hlie (U.g 0 O)) O λa w1 Y U=>G2<|aa λG3=>nv Y<|AL O<|AL O<|AK (aX O)<|AK (ac (v:=po b 1) O kr)<|AK (ld U 0 O O (isAgg60 _) O)<|AL O<|λa Y=>iD (i:=1) (sT:=60) (uT:=9) (inf:=Tryz.t5) (bs:=bs) (s:=s) O O O hne underlying60 underlying9 O O O O om de Y U λa w2 s1 Y U=>nv Y<|AK (aX O)<|AK (ac (v:=po b 1) O kr)<|λa Y=>ce 0 Y U (U.ow 1 O) O O O (sizeOf60 _) (lb O) (ds:=[pq b,s1]) O O λa w3 Y U=>G3 ?_;refine aa λG4=>nv (Y.p3 1 4 5 O)<|AL O<|AK (aZ O O (runUnderlying9 _))<|AM O<|AM O<|λa Y=>G4<|ao<|am Y results94 (ae O (ae O ag)) ?_;replace U:=U.s2 [0,1] de rfl;exact⟨O,s1,St.join [blk b [pq b,s1] T,own s1 5 1 ((bs++s).map λb=>[yv b])] [] U⟩
theorem vk {M:Nat→Prop} {w0:World} (T:TypeId) (b:Nat) (v:Value) (bs:By) (s:By) (ws:World) (hlie:liesAt Tryz.prog Tryz.prog.depth T (2 / Tryz.prog.cellsOf T) 0 160 1=true) (hne:s≠[]) (hbn:bs.length+s.length≤1000000000) (U:St M w0 [bld T b (pq b) v bs] ws):
  Ret Tryz.prog 94 #[pq b,sv s] ws λu w=>u=.tuple #[jv (s.length:Int),.nilIface]∧∃v2,St M w0 [bld T b (pq b) v2 (bs++s)] w:=by
 refine aD func94 O ntmps94 (lb O) λa Y=>?_;replace U:St M w0 [blk b [pq b,v] T,own v 5 1 ((bs).map λb=>[yv b])] ws:=lD U;refine aa λG1=>nv (Y.p2 0 1 O)<|AM O<|AM O<|λa Y=>G1<|aa λG2=>wlm Y O λa Y=>lX 0 Y U de call142 O O (sk T b _ _ hlie (U.g 0 O)) O λa w1 Y U=>G2<|aa λG3=>nv Y<|AL O<|AL O<|AK (aX O)<|AK (ac (v:=po b 1) O kr)<|AK (ld U 0 O O (isAgg60 _) O)<|AL O<|λa Y=>iD (i:=1) (sT:=60) (uT:=9) (inf:=Tryz.t5) (bs:=bs) (s:=s) O O O hne underlying60 underlying9 O O O O om de Y U λa w2 s1 Y U=>nv Y<|AK (aX O)<|AK (ac (v:=po b 1) O kr)<|λa Y=>ce 0 Y U (U.ow 1 O) O O O (sizeOf60 _) (lb O) (ds:=[pq b,s1]) O O λa w3 Y U=>G3 ?_;refine aa λG4=>nv (Y.p3 1 4 5 O)<|AL O<|AK (aZ O O (runUnderlying9 _))<|AM O<|AM O<|λa Y=>G4<|ao<|am Y results94 (ae O (ae O ag)) ?_;replace U:=U.s2 [0,1] de rfl;exact⟨O,s1,St.join [blk b [pq b,s1] T,own s1 5 1 ((bs++s).map λb=>[yv b])] [] U⟩
theorem zw {w:World} {E:TypeId} {v:Value} {bs:By} (h:(own v E 1 ((bs).map λb=>[yv b])).ok w) (hne:bs≠[]):∃g cap,v=.slice (some ⟨g,0,none⟩) bs.length cap∧cap≠0:=by
 obtain⟨h1,h2,h3,h4⟩:=h;have hn:bs.length≠0:=by simpa using hne
 rcases h4 with⟨_,h0⟩|⟨g,cap,cur,fz,hv,_,_,hnc,_⟩
 ·rw[AP] at h0; exact absurd h0 hn
 ·rw[AP] at hv hnc; exact⟨g,cap,hv,by omega⟩
theorem qM {M:Nat→Prop} {w0:World} (T:TypeId) (b g cap:Nat) (bs:By) (ws:World) (hne:bs≠[]) (hcap:cap≠0) (U:St M w0 [blk b [pq b,.slice (some ⟨g,0,none⟩) bs.length cap] T,own (.slice (some ⟨g,0,none⟩) bs.length cap) 5 1 ((bs).map λb=>[yv b])] ws):
  Ret Tryz.prog 95 #[pq b] ws λu w=>u=sv bs∧St M w0 [blk b [pq b,.slice (some ⟨g,0,none⟩) bs.length cap] T] w:=by
 refine aD func95 O ntmps95 (lb O) λa Y=>?_;replace Y:=Y.p1 0 O;skip;refine aa λG1=>wla Y O λa Y=>G1<|ah λG2=>aL ?_;replace Y:=Y.p2 0 2 O;replace U:St M w0 (own (.slice (some ⟨g,0,none⟩) bs.length cap) 5 1 ((bs).map λb=>[yv b])::[blk b [pq b,.slice (some ⟨g,0,none⟩) bs.length cap] T]) ws:=U.front (i:=1) rfl;refine nd 10 (own (.slice (some ⟨g,0,none⟩) bs.length cap) 5 1 ((bs).map λb=>[yv b])) (λ_=>sl (.slice (some ⟨g,0,none⟩) bs.length cap) 1 ((bs).map λb=>[yv b])) 11 [[],[0],[1],[2],[3],[],[5],[6],[7],[8],[4,9]] (λi=>match i with|0=>pv (pq b)|1=>pv (pq b)|2=>pv (po b 1)|3=>pv (.slice (some ⟨g,0,none⟩) bs.length cap)|4=>pv (pq g)|5=>pv (pq b)|6=>pv (pq b)|7=>pv (po b 1)|8=>pv (.slice (some ⟨g,0,none⟩) bs.length cap)|9=>pv (jv (bs.length:Int))|10=>λv E=>v=sv bs∧E=[]|_=>λ_ _=>False) Y U kr kr kr de ?_ ?_ ?_ ?_
 ·intro i v E h
  match i,h with
  | 0,_=>exact by decide
  | 1,_=>exact by decide
  | 2,_=>exact by decide
  | 3,_=>exact by decide
  | 4,_=>exact by decide
  | 5,_=>exact by decide
  | 6,_=>exact by decide
  | 7,_=>exact by decide
  | 8,_=>exact by decide
  | 9,_=>exact by decide
  | 10,_=>exact by decide
  | i+11,h=>exact h.elim
 ·intro i hi hiq e
  match i,hi,hiq with
  | 0,_,_=>exact λw U=>OpV.g (ax O)
  | 1,_,_=>
   rintro _ _ ⟨rfl,rfl⟩;intro w U;exact OpV.g (aX O)
  | 2,_,_=>
   rintro _ _ ⟨rfl,rfl⟩;intro w U;exact OpV.g (ac (v:=po b 1) O kr)
  | 3,_,_=>
   rintro _ _ ⟨rfl,rfl⟩;intro w U;exact OpV.g (ld U 1 O O (isAgg60 _) O)
  | 4,_,_=>
   rintro _ _ ⟨rfl,rfl⟩;intro w U;exact OpV.g (rA O hcap)
  | 5,_,_=>exact λw U=>OpV.g (ax O)
  | 6,_,_=>
   rintro _ _ ⟨rfl,rfl⟩;intro w U;exact OpV.g (aX O)
  | 7,_,_=>
   rintro _ _ ⟨rfl,rfl⟩;intro w U;exact OpV.g (ac (v:=po b 1) O kr)
  | 8,_,_=>
   rintro _ _ ⟨rfl,rfl⟩;intro w U;exact OpV.g (ld U 1 O O (isAgg60 _) O)
  | 9,_,_=>
   rintro _ _ ⟨rfl,rfl⟩;intro w U;exact OpV.g ((fc (v:=jv (bs.length:Int)) (vs:=[.slice (some ⟨g,0,none⟩) bs.length cap]) (by simp[evs]; rfl) (by simp[builtin,Builtin.len_,runUnderlying60]; rfl)).as O)
  | 10,_,h=>exact absurd O h
 ·rintro _ _ ⟨rfl,rfl⟩ _ _ ⟨rfl,rfl⟩;intro w U;exact (lM (U.g 0 O) hne O O underlying205 kr).mono λv w' ⟨h1,h2,h3,h4⟩=>⟨h2,h3,h4,⟨h1,O⟩⟩
 clear Y U;rintro vq _ _ ⟨⟨rfl,rfl⟩, -⟩ _ _ ⟨⟨rfl,rfl⟩, -⟩ _ _ ⟨⟨rfl,rfl⟩, -⟩ _ _ ⟨⟨rfl,rfl⟩, -⟩ _ _ ⟨⟨rfl,rfl⟩, -⟩ _ _ ⟨⟨rfl,rfl⟩, -⟩ _ _ ⟨⟨rfl,rfl⟩, -⟩ _ _ ⟨⟨rfl,rfl⟩, -⟩ _ _ ⟨⟨rfl,rfl⟩, -⟩ _ _ ⟨⟨rfl,rfl⟩, -⟩ _ _ ⟨⟨rfl,rfl⟩, -⟩ a w1 Y U;replace Y:=Y.p13 3 4 5 6 7 8 9 10 11 12 13 0 2 O
 try dsimp only at U
 replace U:=U.n2 O;refine wla Y O λa Y=>ab<|G2 ?_;replace Y:=Y.p1 2 O;refine ao<|am Y results95 (ae O ag) ?_;exact⟨O,U.select [1] de⟩
theorem i0 {M:Nat→Prop} {w0:World} (T:TypeId) (b:Nat) (v:Value) (bs:By) (ws:World) (hne:bs≠[]) (U:St M w0 [bld T b (pq b) v bs] ws):
  Ret Tryz.prog 95 #[pq b] ws λu w=>u=sv bs∧St M w0 [blk b [pq b,v] T] w:=by
 have U:St M w0 [blk b [pq b,v] T,own v 5 1 ((bs).map λb=>[yv b])] ws:=lD U;obtain⟨g,cap,rfl,hcap⟩:=zw (U.g 1 rfl) hne;exact qM T b g cap bs ws hne hcap U
theorem gO {M:Nat→Prop} {w0:World} (T:TypeId) (b:Nat) (ad v:Value) (bs s:By) (ws:World) (hlie:liesAt Tryz.prog Tryz.prog.depth T (2 / Tryz.prog.cellsOf T) 0 160 1=true) (had:ad=.pointer none∨ad=pq b) (hne:s≠[]) (hbn:bs.length+s.length≤1000000000) (U:St M w0 [bld T b ad v bs] ws):
  Ret Tryz.prog 94 #[pq b,sv s] ws λu w=>u=.tuple #[jv (s.length:Int),.nilIface]∧∃v2,St M w0 [bld T b (pq b) v2 (bs++s)] w:=by
 rcases had with rfl|rfl
 ·exact rE T b v bs s ws hlie hne hbn U
 ·exact vk T b v bs s ws hlie hne hbn U
theorem tX (n:Int):putI n≠[]:=λh=>by have:=(bQ n).1; rw[h] at this; simp at this
theorem iK {M:Nat→Prop} {w0:World} (T:TypeId) (b:Nat) (ad v lv:Value) (bs:By) (ns:List Int) (ws:World) (hlie:liesAt Tryz.prog Tryz.prog.depth T (2 / Tryz.prog.cellsOf T) 0 160 1=true) (had:ad=.pointer none∨ad=pq b) (hns:smalls ns) (hnn:ns≠[]) (hbn:bs.length+9*ns.length≤1000000000) (U:St M w0 [bld T b (ad) v bs,own lv 3 1 ((ns).map λn=>[jv n])] ws):
  Ret Tryz.prog 92 #[pq b,lv] ws λu w=>u=.tuple #[]∧∃v2,St M w0 [bld T b (pq b) v2 (bs++puts ns)] w:=by
 refine aD func92 O ntmps92 (lb O) λa Y=>?_;replace Y:=Y.p2 0 1 O;skip;refine aa λG1=>nv Y<|AL O<|AK ((aH (sT:=24) (U.ow 1 O) O O (runUnderlying24 _)).asi (m':=(ns.length:Int)) CU)<|AL O<|λa Y=>G1<|aw ?_;replace U:St M w0 [bld T b ad v (bs++puts (ns.take 0)),own lv 3 1 ((ns).map λn=>[jv n])] ws:=by rw[show bs++puts (ns.take 0)=bs from by simp[puts]]; exact U
 refine aV (λm a w=>∃(k:Nat) (ad:Value) (v:Value),m=ns.length- k∧(k≤ns.length)∧(ad=.pointer none∨ad=pq b)∧(0<k→ad=pq b)∧Fr 25 [(0,pq b),(8,lv),(9,jv (ns.length:Int)),(10,jv (k:Int))] [] a∧St M w0 [bld T b (ad) v (bs++puts (ns.take k)),own lv 3 1 ((ns).map λn=>[jv n])] w) _ ⟨0,ad,v,O,A8 _,had,(λh=>absurd h (Cf 0)),Y.pick [0,8,9,10],U⟩ ?_;rintro _ a w1 ⟨k,ad,v,rfl,hk,had,hak,Y,U⟩;refine aa λG2=>wlv Y (v_lt O O) λa Y=>G2<|ah λG3=>ay Y O (λhc1=>?_) (λhc1=>?_)
 ·refine ap<|G3<|ah λG4=>aw<|aa λG5=>nv Y<|AK ((ai (i:=(k:Int)) (sT:=24) (U.ow 1 O) O O (runUnderlying24 _) (sizeOf3 _) om CH).as (v':=slAddr lv (k*1)) O)<|AK (az (u:=jv (ns.getD k 0)) (i:=k) (j:=0) (U.ow 1 O) CH O (isAgg3 _) C0)<|AM O<|λa Y=>G5<|aa λG6=>wlm Y O λa Y=>au Y U call60 O (f8 (ns.getD k 0) _ (hns _ (bf om))) λa w2 Y U=>nv Y<|AL O<|AK (aj O O)<|AK (aj O O)<|AM O<|AM O<|λa Y=>G6 ?_;refine al<|nv (Y.p5 0 8 9 10 6 O)<|AL O<|AK (aX O)<|AK (ac (v:=pq b) O kr)<|AL O<|λa Y=>bZ (R:=λu e'=>u=.tuple #[jv ((putI (ns.getD k 0)).length:Int),.nilIface]∧∃v2,e'=bld T b (pq b) v2 ((bs++puts (ns.take k))++(putI (ns.getD k 0)))) 0 Y U O de call94 O (λh=>(gO T b _ _ _ _ _ hlie (had) (tX _) (by have h1:=ej (ns.take k); have h2:=(bQ (ns.getD k 0)).2; rw[AX] at h1; rw[AW]; omega) h).mono λu w ⟨h1,v2,h2⟩=>⟨_,⟨h1,v2,O⟩,h2⟩) ?_;clear Y U;rintro a w3 _ _ ⟨rfl,v2,rfl⟩ Y U
  try dsimp only at U
  replace U:=U.n2 O;refine ab<|G4<|al<|nv (Y.p4 0 8 9 10 O)<|AK (aK O O ⟨om,om⟩)<|AL O<|λa Y=>ab ?_;replace U:St M w0 [bld T b (pq b) v2 (bs++puts (ns.take (k+1))),own lv 3 1 ((ns).map λn=>[jv n])] w3:=by rw[show bs++puts (ns.take (k+1))=(bs++puts (ns.take k))++(putI (ns.getD k 0)) from by rw[cI 0 om,ny,Bu]]; exact U
  refine⟨_,?_,k+1,pq b,v2,O,om,(.inr O),(λ_=>O),Y.pick [0,8,9,10],U⟩;omega
 obtain rfl:k=ns.length:=by omega
 rw[List.take_length] at U;obtain rfl:=hak (List.length_pos_iff.2 hnn);refine aN<|cY Y results92 ag ?_;exact⟨O,_,U.select [0] de⟩
theorem lH {M:Nat→Prop} {w0:World} (T:TypeId) (b:Nat) (ad v:Value) (bs:By) (x:Wsh) (ws:World) (hlie:liesAt Tryz.prog Tryz.prog.depth T (2 / Tryz.prog.cellsOf T) 0 160 1=true) (had:ad=.pointer none∨ad=pq b) (hx:smalls x.nums) (hbn:bs.length≤1000000) (U:St M w0 [bld T b (ad) v bs] ws):
  Ret Tryz.prog 88 #[pq b,(EW x)] ws λu w=>u=.tuple #[]∧∃v2,St M w0 [bld T b (pq b) v2 (bs++x.content)] w:=by
 refine aD func88 O ntmps88 (lb O) λa Y=>?_;replace Y:=Y.p2 0 1 O;skip;refine aa λG1=>aR Y U O (EV x) O λa w1 Y U=>G1<|al<|nv Y<|AL O<|AK (ac (v:=pq ws.hz) O kr)<|AK (ld U 0 O O (isAgg3 _) O)<|AK (ac (v:=po ws.hz 1) O kr)<|AK (ld U 0 O O (isAgg3 _) O)<|AK (ac (v:=po ws.hz 2) O kr)<|AK (ac (v:=po ws.hz 2) O kr)<|AK (ld U 0 O O (isAgg3 _) O)<|AK (ac (v:=po ws.hz 2) O kr)<|AK (ac (v:=po ws.hz 3) O kr)<|λa Y=>nv Y<|AK (ld U 0 O O (isAgg3 _) O)<|AK (ac (v:=po ws.hz 4) O kr)<|AK (ld U 0 O O (isAgg3 _) O)<|AK (ac (v:=po ws.hz 5) O kr)<|AK (ld U 0 O O (isAgg3 _) O)<|AK (ac (v:=po ws.hz 6) O kr)<|AK (ac (v:=po ws.hz 6) O kr)<|AK (ld U 0 O O (isAgg3 _) O)<|AK (ac (v:=po ws.hz 6) O kr)<|AK (ac (v:=po ws.hz 7) O kr)<|AK (ld U 0 O O (isAgg3 _) O)<|λa Y=>aG (E:=3) (sz:=1) O [[jv 1],[jv x.signer],[jv x.holder],[jv x.rf],[jv x.rt],[jv x.carrier],[jv x.serial],[jv x.sf],[jv x.st]] kr sm O de de Y U λa w2 Y U=>?_;replace U:=U.s3 [2,0,1] de rfl;replace U:=St.join [bld T b (ad) v bs,own (.slice (some ⟨w1.hz,0,none⟩) 9 9) 3 1 ([[jv 1],[jv x.signer],[jv x.holder],[jv x.rf],[jv x.rt],[jv x.carrier],[jv x.serial],[jv x.sf],[jv x.st]])] [blk ws.hz (EV x) 90] U;refine bZ (R:=λu e'=>u=.tuple #[]∧∃v2,e'=bld T b (pq b) v2 (bs++puts [1,x.signer,x.holder,x.rf,x.rt,x.carrier,x.serial,x.sf,x.st])) 0 Y U O de call92 O (λh=>(iK T b _ _ _ _ [1,x.signer,x.holder,x.rf,x.rt,x.carrier,x.serial,x.sf,x.st] _ hlie (had) (hx) sm (by simp<;>omega) (St.unjoin [bld T b (ad) v bs,own (.slice (some ⟨w1.hz,0,none⟩) 9 9) 3 1 ([[jv 1],[jv x.signer],[jv x.holder],[jv x.rf],[jv x.rt],[jv x.carrier],[jv x.serial],[jv x.sf],[jv x.st]])] [] h)).mono λu w ⟨h1,v2,h2⟩=>⟨_,⟨h1,v2,O⟩,h2⟩) ?_;clear Y U;rintro a w3 _ _ ⟨rfl,v1,rfl⟩ Y U
 try dsimp only at U
 replace U:=U.n2 O;refine ab<|cY Y results88 ag ?_;exact⟨O,_,U.select [0] de⟩
theorem kg {M:Nat→Prop} {w0:World} (T:TypeId) (b:Nat) (ad v:Value) (bs:By) (x:Pxy) (ws:World) (hlie:liesAt Tryz.prog Tryz.prog.depth T (2 / Tryz.prog.cellsOf T) 0 160 1=true) (had:ad=.pointer none∨ad=pq b) (hx:smalls x.nums) (hbn:bs.length≤1000000) (U:St M w0 [bld T b (ad) v bs] ws):
  Ret Tryz.prog 93 #[pq b,(EY x)] ws λu w=>u=.tuple #[]∧∃v2,St M w0 [bld T b (pq b) v2 (bs++x.content)] w:=by
 refine aD func93 O ntmps93 (lb O) λa Y=>?_;replace Y:=Y.p2 0 1 O;skip;refine aa λG1=>aR Y U O (EX x) O λa w1 Y U=>G1<|al<|nv Y<|AL O<|AK (ac (v:=pq ws.hz) O kr)<|AK (ld U 0 O O (isAgg3 _) O)<|AK (ac (v:=po ws.hz 1) O kr)<|AK (ld U 0 O O (isAgg3 _) O)<|AK (ac (v:=po ws.hz 2) O kr)<|AK (ac (v:=po ws.hz 2) O kr)<|AK (ld U 0 O O (isAgg3 _) O)<|AK (ac (v:=po ws.hz 2) O kr)<|AK (ac (v:=po ws.hz 3) O kr)<|λa Y=>nv Y<|AK (ld U 0 O O (isAgg3 _) O)<|AK (ac (v:=po ws.hz 4) O kr)<|AK (ac (v:=po ws.hz 4) O kr)<|AK (ld U 0 O O (isAgg3 _) O)<|AK (ac (v:=po ws.hz 4) O kr)<|AK (ac (v:=po ws.hz 5) O kr)<|AK (ld U 0 O O (isAgg3 _) O)<|λa Y=>aG (E:=3) (sz:=1) O [[jv 2],[jv x.frm],[jv x.to],[jv x.rf],[jv x.rt],[jv x.sf],[jv x.st]] kr sm O de de Y U λa w2 Y U=>?_;replace U:=U.s3 [2,0,1] de rfl;replace U:=St.join [bld T b (ad) v bs,own (.slice (some ⟨w1.hz,0,none⟩) 7 7) 3 1 ([[jv 2],[jv x.frm],[jv x.to],[jv x.rf],[jv x.rt],[jv x.sf],[jv x.st]])] [blk ws.hz (EX x) 144] U;refine bZ (R:=λu e'=>u=.tuple #[]∧∃v2,e'=bld T b (pq b) v2 (bs++puts [2,x.frm,x.to,x.rf,x.rt,x.sf,x.st])) 0 Y U O de call92 O (λh=>(iK T b _ _ _ _ [2,x.frm,x.to,x.rf,x.rt,x.sf,x.st] _ hlie (had) (hx) sm (by simp<;>omega) (St.unjoin [bld T b (ad) v bs,own (.slice (some ⟨w1.hz,0,none⟩) 7 7) 3 1 ([[jv 2],[jv x.frm],[jv x.to],[jv x.rf],[jv x.rt],[jv x.sf],[jv x.st]])] [] h)).mono λu w ⟨h1,v2,h2⟩=>⟨_,⟨h1,v2,O⟩,h2⟩) ?_;clear Y U;rintro a w3 _ _ ⟨rfl,v1,rfl⟩ Y U
 try dsimp only at U
 replace U:=U.n2 O;refine ab<|cY Y results93 ag ?_;exact⟨O,_,U.select [0] de⟩
theorem pQ {M:Nat→Prop} {w0:World} (key content:By) (g:FuncId) (caps:List Value) (ec:Ent) (ws:World) (hen:∀args w,(callFunc g args).run Tryz.prog w=.ok (.enter g args) w)
  (hc:∀{M:Nat→Prop} {w0:World} (b:Nat) (v:Value) (ws:World),St M w0 [bld 162 b (.pointer none) v [],ec] ws→Ret Tryz.prog g ([pq b]++caps).toArray ws λu w=>u=.tuple #[]∧∃v2,St M w0 [bld 162 b (pq b) v2 content,ec] w)
  (hne:content≠[]) (hkl:key.length≤40000000) (hcl:content.length≤40000000) (U:St M w0 [blk 0 (kOf.map wv) 258,ec] ws):
  Ret Tryz.prog 86 #[sv key,.func (.func g) #[] caps.toArray] ws λu w=>u=sv (sealH key content)∧St M w0 [blk 0 (kOf.map wv) 258,ec] w:=by
 refine aD func86 O ntmps86 (lb O) λa Y=>?_;replace Y:=Y.p2 0 1 O;skip;refine aa λG1=>wla Y O λa Y=>G1<|aa λG2=>aE Y U (zeroValue162 _) [.pointer none,.slice none 0 0] O λa w1 Y U=>G2<|aa λG3=>wlm Y O λa Y=>?_;replace U:St M w0 (own (.slice none 0 0) 5 1 []::[blk ws.hz [.pointer none,.slice none 0 0] 162,blk 0 (kOf.map wv) 258,ec]) w1:=U.nil_own;replace U:=U.s4 [1,0,3,2] de rfl;replace U:St M w0 ([bld 162 (ws.hz) (.pointer none) (.slice none 0 0) [],ec]++[blk 0 (kOf.map wv) 258]) w1:=St.join [blk ws.hz [.pointer none,.slice none 0 0] 162,own (.slice none 0 0) 5 1 ([])] [ec,blk 0 (kOf.map wv) 258] U;replace U:=St.join _ _ U;refine vP (R:=λu e'=>u=.tuple #[]∧∃v2,e'=join [bld 162 (ws.hz) (pq ws.hz) v2 content,ec]) 0 Y U O de O hen O (λh=>(hc (ws.hz) _ _ (St.unjoin [bld 162 (ws.hz) (.pointer none) (.slice none 0 0) [],ec] [] h)).mono λu w ⟨h1,v2,h2⟩=>⟨_,⟨h1,v2,O⟩,St.join _ [] h2⟩) ?_;clear Y U;rintro a w2 _ _ ⟨rfl,v1,rfl⟩ Y U;replace U:St M w0 [bld 162 (ws.hz) (pq ws.hz) v1 content,ec,blk 0 (kOf.map wv) 258] w2:=St.unjoin [bld 162 (ws.hz) (pq ws.hz) v1 content,ec] [blk 0 (kOf.map wv) 258] U;refine G3<|aa λG4=>nv Y<|AL O<|AK (ac (v:=pq ws.hz) O kr)<|λa Y=>bZ (R:=λu e'=>u=sv (content)∧e'=blk (ws.hz) [pq ws.hz,v1] 162) 0 Y U O de call95 O (λh=>(i0 162 (ws.hz) _ _ _ hne h).mono λu w ⟨h1,h2⟩=>⟨_,⟨h1,O⟩,h2⟩) ?_;clear Y U;rintro a w3 _ _ ⟨rfl,rfl⟩ Y U
 try dsimp only at U
 replace U:=U.n3 O;refine au Y U call139 O (lf content _ om (U.g 2 O)) λa w4 Y U=>au Y U call138 O (iu key (leafH sha content) _ om (by rw[gP cV]; decide) (U.g 2 O)) λa w5 Y U=>wla Y O λa Y=>G4 ?_;replace Y:=Y.p1 4 O;refine ao<|am Y results86 (ae O ag) ?_;exact⟨O,U.select [2,1] de⟩
theorem mH (s:By) (w0:World):
  Ff 84 #[sv s] w0 (.bool (decide ((s.length:Int)=32))):=by
 refine Cy func84 O ntmps84 (lb O) λa Y U=>aa λG1=>wla Y O λa Y=>G1<|aa λG2=>nv Y<|AL O<|AK (aZ O O (runUnderlying9 _))<|AK (v_eq O O)<|AM O<|λa Y=>G2<|ao<|am Y results84 (ae O ag) ?_;exact⟨by rfl,U.ext⟩
theorem dg (n lo hi:Int) (w0:World):
  Ff 100 #[jv n,jv lo,jv hi] w0 (.bool (inB n lo hi)):=by
 refine CB func100 O ntmps100 (lb O) λa Y U=>aa λG1=>wla Y O λa Y=>G1<|aa λG2=>nv Y<|AL O<|AL O<|AK (v_le O O)<|AL O<|λa Y=>cP (N:=15) (df:=[]) 4 [(14,.bool ((decide (lo≤n))&&(decide (n≤hi)))),(0,jv n),(1,jv lo),(2,jv hi),(6,.bool false)] ?_ (λhj=>?_)
 rotate_left
 ·rcases AR (decide (lo≤n)) with hb1|hb1
  ·rw[hb1] at Y;have hb1b:=hb1
   try simp only[qz,AU,Bg,A7,Bf] at hb1
   refine nv Y<|AN (ax O)<|AN (ax O)<|AN (v_le O O)<|AK (aq O O)<|λa Y=>hj _ ?_
   try rw[hb1b]
   exact Y.pick [14,0,1,2,6]
  rw[hb1] at Y;have hb1b:=hb1
  try simp only[qz,AU,Bg,A7,Bf] at hb1
  refine nv Y<|AO<|AO<|AO<|AK (ak O O)<|λa Y=>hj _ ?_
  try rw[hb1b]
  exact Y.pick [14,0,1,2,6]
 intro a Y;refine wla Y O λa Y=>G2<|ao<|am Y results100 (ae O ag) ?_;exact⟨by rfl,U.ext⟩
theorem lE (b d:Int) (w0:World):
  Ff 136 #[.agg #[jv b,jv d]] w0 (.bool (cG b d)):=by
 refine Cy func136 O ntmps136 (lb O) λa Y U=>aa λG1=>aR Y U O [jv b,jv d] O λa w1 Y U=>wla Y O λa Y=>G1<|aa λG2=>nv Y<|AK (ac (v:=pq w0.hz) O kr)<|AK (ld U 0 O O (isAgg3 _) O)<|AK (v_le O O)<|AL O<|λa Y=>cP (N:=18) (df:=[]) 6 [(12,.bool ((decide (0≤b))&&(decide (b<d)))),(0,.agg #[jv b,jv d]),(1,pq w0.hz),(2,.bool false)] ?_ (λhj=>?_)
 rotate_left
 ·rcases AR (decide (0≤b)) with hb1|hb1
  ·rw[hb1] at Y;have hb1b:=hb1
   try simp only[qz,AU,Bg,A7,Bf] at hb1
   refine nv Y<|AN (ac (v:=pq w0.hz) O kr)<|AN (ld U 0 O O (isAgg3 _) O)<|AN (ac (v:=po w0.hz 1) O kr)<|AN (ld U 0 O O (isAgg3 _) O)<|AN (v_lt O O)<|AK (aq O O)<|λa Y=>hj _ ?_
   try rw[hb1b]
   exact Y.pick [12,0,1,2]
  rw[hb1] at Y;have hb1b:=hb1
  try simp only[qz,AU,Bg,A7,Bf] at hb1
  refine nv Y<|AO<|AO<|AO<|AO<|AO<|AK (ak O O)<|λa Y=>hj _ ?_
  try rw[hb1b]
  exact Y.pick [12,0,1,2]
 intro a Y;refine wlm Y O λa Y=>cP (N:=18) (df:=[]) 4 [(17,.bool (((decide (0≤b))&&(decide (b<d)))&&(decide (d≤100000000)))),(0,.agg #[jv b,jv d]),(1,pq w0.hz),(2,.bool false)] ?_ (λhj=>?_)
 rotate_left
 ·rcases AR ((decide (0≤b))&&(decide (b<d))) with hb2|hb2
  ·rw[hb2] at Y;have hb2b:=hb2
   try simp only[qz,AU,Bg,A7,Bf] at hb2
   refine nv Y<|AN (ac (v:=po w0.hz 1) O kr)<|AN (ld U 0 O O (isAgg3 _) O)<|AN (v_le O O)<|AK (aq O O)<|λa Y=>hj _ ?_
   try rw[hb2b]
   exact Y.pick [17,0,1,2]
  rw[hb2] at Y;have hb2b:=hb2
  try simp only[qz,AU,Bg,A7,Bf] at hb2
  refine nv Y<|AO<|AO<|AO<|AK (ak O O)<|λa Y=>hj _ ?_
  try rw[hb2b]
  exact Y.pick [17,0,1,2]
 intro a Y;refine wla Y O λa Y=>G2<|ao<|am Y results136 (ae O ag) ?_;exact⟨by rfl,U.ext⟩
theorem mq (b d:Int) (w0:World):
  Ff 137 #[.agg #[jv b,jv d]] w0 (.bool (di b d)):=by
 refine Cy func137 O ntmps137 (lb O) λa Y U=>aa λG1=>aR Y U O [jv b,jv d] O λa w1 Y U=>wla Y O λa Y=>G1<|aa λG2=>nv Y<|AK (ac (v:=pq w0.hz) O kr)<|AK (ld U 0 O O (isAgg3 _) O)<|AK (v_le O O)<|AL O<|λa Y=>cP (N:=18) (df:=[]) 6 [(12,.bool ((decide (0≤b))&&(decide (b<d)))),(0,.agg #[jv b,jv d]),(1,pq w0.hz),(2,.bool false)] ?_ (λhj=>?_)
 rotate_left
 ·rcases AR (decide (0≤b)) with hb1|hb1
  ·rw[hb1] at Y;have hb1b:=hb1
   try simp only[qz,AU,Bg,A7,Bf] at hb1
   refine nv Y<|AN (ac (v:=pq w0.hz) O kr)<|AN (ld U 0 O O (isAgg3 _) O)<|AN (ac (v:=po w0.hz 1) O kr)<|AN (ld U 0 O O (isAgg3 _) O)<|AN (v_lt O O)<|AK (aq O O)<|λa Y=>hj _ ?_
   try rw[hb1b]
   exact Y.pick [12,0,1,2]
  rw[hb1] at Y;have hb1b:=hb1
  try simp only[qz,AU,Bg,A7,Bf] at hb1
  refine nv Y<|AO<|AO<|AO<|AO<|AO<|AK (ak O O)<|λa Y=>hj _ ?_
  try rw[hb1b]
  exact Y.pick [12,0,1,2]
 intro a Y;refine wlm Y O λa Y=>cP (N:=18) (df:=[]) 4 [(17,.bool (((decide (0≤b))&&(decide (b<d)))&&(decide (d≤10000001)))),(0,.agg #[jv b,jv d]),(1,pq w0.hz),(2,.bool false)] ?_ (λhj=>?_)
 rotate_left
 ·rcases AR ((decide (0≤b))&&(decide (b<d))) with hb2|hb2
  ·rw[hb2] at Y;have hb2b:=hb2
   try simp only[qz,AU,Bg,A7,Bf] at hb2
   refine nv Y<|AN (ac (v:=po w0.hz 1) O kr)<|AN (ld U 0 O O (isAgg3 _) O)<|AN (v_le O O)<|AK (aq O O)<|λa Y=>hj _ ?_
   try rw[hb2b]
   exact Y.pick [17,0,1,2]
  rw[hb2] at Y;have hb2b:=hb2
  try simp only[qz,AU,Bg,A7,Bf] at hb2
  refine nv Y<|AO<|AO<|AO<|AK (ak O O)<|λa Y=>hj _ ?_
  try rw[hb2b]
  exact Y.pick [17,0,1,2]
 intro a Y;refine wla Y O λa Y=>G2<|ao<|am Y results137 (ae O ag) ?_;exact⟨by rfl,U.ext⟩
theorem kp (x:Wsh) (w0:World):
  Ff 85 #[(EW x)] w0 (.bool x.ok):=by
 refine Cy func85 O ntmps85 (lb O) λa Y U=>aa λG1=>aR Y U O (EV x) O λa w1 Y U=>wla Y O λa Y=>G1<|aa λG2=>nv Y<|AK (ac (v:=pq w0.hz) O kr)<|AK (ld U 0 O O (isAgg3 _) O)<|λa Y=>au Y U call100 O (dg x.signer 0 63 _) λa w2 Y U=>wlm Y O λa Y=>?_;rcases AR (inB x.signer 0 63) with hb1|hb1
 ·rw[hb1] at Y;refine nv Y<|AN (ac (v:=po w0.hz 1) O kr)<|AN (ld U 0 O O (isAgg3 _) O)<|λa Y=>aF Y U call100 O (dg x.holder 0 63 _) λa w3 Y U=>nv Y<|AK (aq O O)<|AM O<|λa Y=>G2 ?_;refine aa λG3=>nv (Y.p3 1 2 3 O)<|AL O<|AL O<|λa Y=>?_;rcases AR (inB x.holder 0 63) with hb2|hb2
  ·rw[hb2] at Y;refine nv Y<|AN (ac (v:=po w0.hz 2) O kr)<|AN (bJ (ds:=[jv x.rf,jv x.rt]) (U.g 0 O) O (isAgg87 _) (sizeOf87 _) O)<|λa Y=>aF Y U call136 O (lE x.rf x.rt _) λa w4 Y U=>nv Y<|AK (aq O O)<|AL O<|λa Y=>?_;rcases AR (cG x.rf x.rt) with hb3|hb3
   ·rw[hb3] at Y;refine nv Y<|AN (ac (v:=po w0.hz 4) O kr)<|AN (ld U 0 O O (isAgg3 _) O)<|λa Y=>aF Y U call100 O (dg x.carrier 0 7 _) λa w5 Y U=>nv Y<|AK (aq O O)<|AL O<|λa Y=>?_;rcases AR (inB x.carrier 0 7) with hb4|hb4
    ·rw[hb4] at Y;refine nv Y<|AN (ac (v:=po w0.hz 5) O kr)<|AN (ld U 0 O O (isAgg3 _) O)<|λa Y=>aF Y U call100 O (dg x.serial 0 1000000 _) λa w6 Y U=>nv Y<|AK (aq O O)<|AL O<|λa Y=>?_;rcases AR (inB x.serial 0 1000000) with hb5|hb5
     ·rw[hb5] at Y;refine nv Y<|AN (ac (v:=po w0.hz 6) O kr)<|AN (bJ (ds:=[jv x.sf,jv x.st]) (U.g 0 O) O (isAgg88 _) (sizeOf88 _) O)<|λa Y=>aF Y U call137 O (mq x.sf x.st _) λa w7 Y U=>nv Y<|AK (aq O O)<|AM O<|λa Y=>G3 ?_;replace Y:=Y.p1 2 O;replace U:=U.k0 0 O;refine ao<|am Y results85 (ae O ag) ?_;exact⟨by simp only[retv]; unfold Wsh.ok; simp[hb1,hb2,hb3,hb4,hb5],U.ext⟩
     rw[hb5] at Y;refine nv Y<|AO<|AO<|AO<|AK (ak O O)<|AM O<|λa Y=>G3 ?_;replace Y:=Y.p1 2 O;replace U:=U.k0 0 O;refine ao<|am Y results85 (ae O ag) ?_;exact⟨by simp only[retv]; unfold Wsh.ok; simp[hb1,hb2,hb3,hb4,hb5],U.ext⟩
    rw[hb4] at Y;refine nv Y<|AO<|AO<|AO<|AK (ak O O)<|AL O<|AO<|AO<|AO<|AK (ak O O)<|AM O<|λa Y=>G3 ?_;replace Y:=Y.p1 2 O;replace U:=U.k0 0 O;refine ao<|am Y results85 (ae O ag) ?_;exact⟨by simp only[retv]; unfold Wsh.ok; simp[hb1,hb2,hb3,hb4],U.ext⟩
   rw[hb3] at Y;refine nv Y<|AO<|AO<|AO<|AK (ak O O)<|AL O<|AO<|AO<|AO<|AK (ak O O)<|AL O<|AO<|AO<|AO<|AK (ak O O)<|AM O<|λa Y=>G3 ?_;replace Y:=Y.p1 2 O;replace U:=U.k0 0 O;refine ao<|am Y results85 (ae O ag) ?_;exact⟨by simp only[retv]; unfold Wsh.ok; simp[hb1,hb2,hb3],U.ext⟩
  rw[hb2] at Y;refine nv Y<|AO<|AO<|AO<|AK (ak O O)<|AL O<|AO<|AO<|AO<|AK (ak O O)<|AL O<|AO<|AO<|AO<|AK (ak O O)<|AL O<|AO<|AO<|AO<|AK (ak O O)<|AM O<|λa Y=>G3 ?_;replace Y:=Y.p1 2 O;replace U:=U.k0 0 O;refine ao<|am Y results85 (ae O ag) ?_;exact⟨by simp only[retv]; unfold Wsh.ok; simp[hb1,hb2],U.ext⟩
 rw[hb1] at Y;refine nv Y<|AO<|AO<|AO<|AK (ak O O)<|AM O<|λa Y=>G2 ?_;refine aa λG4=>nv (Y.p3 1 2 3 O)<|AL O<|AL O<|AO<|AO<|AO<|AK (ak O O)<|AL O<|AO<|AO<|AO<|AK (ak O O)<|AL O<|AO<|AO<|AO<|AK (ak O O)<|AL O<|AO<|AO<|AO<|AK (ak O O)<|AM O<|λa Y=>G4 ?_;replace Y:=Y.p1 2 O;replace U:=U.k0 0 O;refine ao<|am Y results85 (ae O ag) ?_;exact⟨by simp only[retv]; unfold Wsh.ok; simp[hb1],U.ext⟩
theorem mR (x:Pxy) (w0:World):
  Ff 178 #[(EY x)] w0 (.bool x.ok):=by
 refine Cy func178 O ntmps178 (lb O) λa Y U=>aa λG1=>aR Y U O (EX x) O λa w1 Y U=>wla Y O λa Y=>G1<|aa λG2=>nv Y<|AK (ac (v:=pq w0.hz) O kr)<|AK (ld U 0 O O (isAgg3 _) O)<|λa Y=>au Y U call100 O (dg x.frm 0 63 _) λa w2 Y U=>wlm Y O λa Y=>?_;rcases AR (inB x.frm 0 63) with hb1|hb1
 ·rw[hb1] at Y;refine nv Y<|AN (ac (v:=po w0.hz 1) O kr)<|AN (ld U 0 O O (isAgg3 _) O)<|λa Y=>aF Y U call100 O (dg x.to 0 63 _) λa w3 Y U=>nv Y<|AK (aq O O)<|AL O<|λa Y=>?_;rcases AR (inB x.to 0 63) with hb2|hb2
  ·rw[hb2] at Y;refine nv Y<|AN (ac (v:=pq w0.hz) O kr)<|AN (ld U 0 O O (isAgg3 _) O)<|AN (ac (v:=po w0.hz 1) O kr)<|AN (ld U 0 O O (isAgg3 _) O)<|AN (v_ne O O)<|AK (aq O O)<|AM O<|λa Y=>G2 ?_;refine aa λG3=>nv (Y.p3 1 2 3 O)<|AL O<|AL O<|λa Y=>?_;rcases (Decidable.em (x.frm=x.to)).symm with hb3|hb3
   ·rw[AV hb3] at Y;refine nv Y<|AN (ac (v:=po w0.hz 2) O kr)<|AN (bJ (ds:=[jv x.rf,jv x.rt]) (U.g 0 O) O (isAgg87 _) (sizeOf87 _) O)<|λa Y=>aF Y U call136 O (lE x.rf x.rt _) λa w4 Y U=>nv Y<|AK (aq O O)<|AL O<|λa Y=>?_;rcases AR (cG x.rf x.rt) with hb4|hb4
    ·rw[hb4] at Y;refine nv Y<|AN (ac (v:=po w0.hz 4) O kr)<|AN (bJ (ds:=[jv x.sf,jv x.st]) (U.g 0 O) O (isAgg88 _) (sizeOf88 _) O)<|λa Y=>aF Y U call137 O (mq x.sf x.st _) λa w5 Y U=>nv Y<|AK (aq O O)<|AM O<|λa Y=>G3 ?_;replace Y:=Y.p1 2 O;replace U:=U.k0 0 O;refine ao<|am Y results178 (ae O ag) ?_;exact⟨by simp only[retv]; unfold Pxy.ok; simp[hb1,hb2,hb3,hb4],U.ext⟩
    rw[hb4] at Y;refine nv Y<|AO<|AO<|AO<|AK (ak O O)<|AM O<|λa Y=>G3 ?_;replace Y:=Y.p1 2 O;replace U:=U.k0 0 O;refine ao<|am Y results178 (ae O ag) ?_;exact⟨by simp only[retv]; unfold Pxy.ok; simp[hb1,hb2,hb3,hb4],U.ext⟩
   rw[AQ hb3] at Y;refine nv Y<|AO<|AO<|AO<|AK (ak O O)<|AL O<|AO<|AO<|AO<|AK (ak O O)<|AM O<|λa Y=>G3 ?_;replace Y:=Y.p1 2 O;replace U:=U.k0 0 O;refine ao<|am Y results178 (ae O ag) ?_;exact⟨by simp only[retv]; unfold Pxy.ok; simp[hb1,hb2,hb3],U.ext⟩
  rw[hb2] at Y;refine nv Y<|AO<|AO<|AO<|AO<|AO<|AK (ak O O)<|AM O<|λa Y=>G2 ?_;refine aa λG4=>nv (Y.p3 1 2 3 O)<|AL O<|AL O<|AO<|AO<|AO<|AK (ak O O)<|AL O<|AO<|AO<|AO<|AK (ak O O)<|AM O<|λa Y=>G4 ?_;replace Y:=Y.p1 2 O;replace U:=U.k0 0 O;refine ao<|am Y results178 (ae O ag) ?_;exact⟨by simp only[retv]; unfold Pxy.ok; simp[hb1,hb2],U.ext⟩
 rw[hb1] at Y;refine nv Y<|AO<|AO<|AO<|AK (ak O O)<|AL O<|AO<|AO<|AO<|AO<|AO<|AK (ak O O)<|AM O<|λa Y=>G2 ?_;refine aa λG5=>nv (Y.p3 1 2 3 O)<|AL O<|AL O<|AO<|AO<|AO<|AK (ak O O)<|AL O<|AO<|AO<|AO<|AK (ak O O)<|AM O<|λa Y=>G5 ?_;replace Y:=Y.p1 2 O;replace U:=U.k0 0 O;refine ao<|am Y results178 (ae O ag) ?_;exact⟨by simp only[retv]; unfold Pxy.ok; simp[hb1],U.ext⟩
theorem yI {M:Nat→Prop} {w0:World} (b bx:Nat) (v:Value) (x:Wsh) (ws:World) (hx:smalls x.nums) (U:St M w0 [bld 162 b (.pointer none) v ([]:By),blk bx (EV x) 90] ws):
  Ret Tryz.prog 87 #[pq b,pq bx] ws λu w=>u=.tuple #[]∧∃v2,St M w0 [bld 162 b (pq b) v2 x.content,blk bx (EV x) 90] w:=by
 refine aD func87 O ntmps87 (lb O) λa Y=>?_;replace Y:=Y.p2 0 1 O;skip;refine al<|nv Y<|AL O<|AK (ar (U.g 1 O) O (isAgg90 _) (sizeOf90 _))<|λa Y=>bZ (R:=λu e'=>u=.tuple #[]∧∃v2,e'=bld 162 b (pq b) v2 (([]:By)++x.content)) 0 Y U O de call88 O (λh=>(lH 162 b _ _ _ x _ kr (.inl O) hx sm h).mono λu w ⟨h1,v2,h2⟩=>⟨_,⟨h1,v2,O⟩,h2⟩) ?_;clear Y U;rintro a w1 _ _ ⟨rfl,v1,rfl⟩ Y U
 try dsimp only at U
 replace U:=U.n2 O;refine ab<|cY Y results87 ag ?_;exact⟨O,_,U.select [0,1] de⟩
theorem zq {M:Nat→Prop} {w0:World} (b bx:Nat) (v:Value) (x:Pxy) (ws:World) (hx:smalls x.nums) (U:St M w0 [bld 162 b (.pointer none) v ([]:By),blk bx (EX x) 144] ws):
  Ret Tryz.prog 185 #[pq b,pq bx] ws λu w=>u=.tuple #[]∧∃v2,St M w0 [bld 162 b (pq b) v2 x.content,blk bx (EX x) 144] w:=by
 refine aD func185 O ntmps185 (lb O) λa Y=>?_;replace Y:=Y.p2 0 1 O;skip;refine al<|nv Y<|AL O<|AK (ar (U.g 1 O) O (isAgg144 _) (sizeOf144 _))<|λa Y=>bZ (R:=λu e'=>u=.tuple #[]∧∃v2,e'=bld 162 b (pq b) v2 (([]:By)++x.content)) 0 Y U O de call93 O (λh=>(kg 162 b _ _ _ x _ kr (.inl O) hx sm h).mono λu w ⟨h1,v2,h2⟩=>⟨_,⟨h1,v2,O⟩,h2⟩) ?_;clear Y U;rintro a w1 _ _ ⟨rfl,v1,rfl⟩ Y U
 try dsimp only at U
 replace U:=U.n2 O;refine ab<|cY Y results185 ag ?_;exact⟨O,_,U.select [0,1] de⟩
theorem zk {M:Nat→Prop} {w0:World} (b bx:Nat) (v:Value) (x:Pxy) (ws:World) (hx:smalls x.nums) (U:St M w0 [bld 162 b (.pointer none) v ([]:By),blk bx (EX x) 144] ws):
  Ret Tryz.prog 149 #[pq b,pq bx] ws λu w=>u=.tuple #[]∧∃v2,St M w0 [bld 162 b (pq b) v2 x.content,blk bx (EX x) 144] w:=by
 refine aD func149 O ntmps149 (lb O) λa Y=>?_;replace Y:=Y.p2 0 1 O;skip;refine al<|nv Y<|AL O<|AK (ar (U.g 1 O) O (isAgg144 _) (sizeOf144 _))<|λa Y=>bZ (R:=λu e'=>u=.tuple #[]∧∃v2,e'=bld 162 b (pq b) v2 (([]:By)++x.content)) 0 Y U O de call93 O (λh=>(kg 162 b _ _ _ x _ kr (.inl O) hx sm h).mono λu w ⟨h1,v2,h2⟩=>⟨_,⟨h1,v2,O⟩,h2⟩) ?_;clear Y U;rintro a w1 _ _ ⟨rfl,v1,rfl⟩ Y U
 try dsimp only at U
 replace U:=U.n2 O;refine ab<|cY Y results149 ag ?_;exact⟨O,_,U.select [0,1] de⟩
theorem yT {M:Nat→Prop} {w0:World} (b bx:Nat) (v:Value) (x:Wsh) (ws:World) (hx:smalls x.nums) (U:St M w0 [bld 162 b (.pointer none) v ([]:By),blk bx (EV x) 90] ws):
  Ret Tryz.prog 150 #[pq b,pq bx] ws λu w=>u=.tuple #[]∧∃v2,St M w0 [bld 162 b (pq b) v2 x.content,blk bx (EV x) 90] w:=by
 refine aD func150 O ntmps150 (lb O) λa Y=>?_;replace Y:=Y.p2 0 1 O;skip;refine al<|nv Y<|AL O<|AK (ar (U.g 1 O) O (isAgg90 _) (sizeOf90 _))<|λa Y=>bZ (R:=λu e'=>u=.tuple #[]∧∃v2,e'=bld 162 b (pq b) v2 (([]:By)++x.content)) 0 Y U O de call88 O (λh=>(lH 162 b _ _ _ x _ kr (.inl O) hx sm h).mono λu w ⟨h1,v2,h2⟩=>⟨_,⟨h1,v2,O⟩,h2⟩) ?_;clear Y U;rintro a w1 _ _ ⟨rfl,v1,rfl⟩ Y U
 try dsimp only at U
 replace U:=U.n2 O;refine ab<|cY Y results150 ag ?_;exact⟨O,_,U.select [0,1] de⟩
theorem jX {n:Int} {l:List Int}:puts (n::l)≠[]:=λh=>by
 have:=(bQ n).1;simp only[puts,Bv,List.append_eq_nil_iff] at h;rw[h.1] at this; simp at this
theorem qU (key:By) (x:Wsh) (w0:World) (hk:key.length=32) (hok:x.ok=true) (hk0:(blk 0 (kOf.map wv) 258).ok w0):
  Ff 34 #[sv key,(EW x)] w0 (.tuple #[.agg (x.sealed key).cells.toArray,jv 0]):=by
 refine aD func34 O ntmps34 (lb O) λa Y=>?_;replace U:St (·=0) w0 [blk 0 (kOf.map wv) 258] w0:=St.one hk0;refine aa λG1=>aR (Y.p2 0 1 O) U O (EV x) O λa w1 Y U=>aE Y U (zeroValue90 _) E4 O λa w2 Y U=>wla Y O λa Y=>G1<|ah λG2=>aa λG3=>wlm Y O λa Y=>au Y U call84 O (mH key _) λa w3 Y U=>nv Y<|AK (bd O)<|AL O<|λa Y=>?_;rcases (Decidable.em ((key.length:Int)=32)).symm with hb1|hb1
 ·rw[AV hb1] at Y;exfalso; omega
 rw[AQ hb1] at Y;refine wly Y (ar (U.g 1 O) O (isAgg90 _) (sizeOf90 _)) λa Y=>aF Y U call85 O (kp x _) λa w4 Y U=>nv Y<|AN (bd O)<|AK (ak O O)<|λa Y=>G3 ?_;replace Y:=Y.p5 0 3 4 5 13 O;refine bn Y O (λhc2=>?_) (λhc2=>?_)
 ·try simp only[qz] at hc2
  simp[hok] at hc2
 try simp only[qz] at hc2
 refine ap<|G2<|aa λG4=>nv Y<|AL O<|AK (ct O O)<|λa Y=>?_;replace U:=U.s3 [2,1,0] de rfl;replace U:=St.join [blk 0 (kOf.map wv) 258,blk w0.hz (EV x) 90] [blk w1.hz E4 90] U;refine bZ (R:=λu e'=>u=sv (sealH key x.content)∧e'=join [blk 0 (kOf.map wv) 258,blk w0.hz (EV x) 90]) 0 Y U O de call86 O (λh=>(pQ key x.content 87 [pq w0.hz] (blk w0.hz (EV x) 90) _ call87 (λb v ws h=>yI b _ v x ws (Wsh.smalls_of hok) h) jX om (Br x.content_len de) (St.unjoin [blk 0 (kOf.map wv) 258,blk w0.hz (EV x) 90] [] h)).mono λu w ⟨h1,h2⟩=>⟨_,⟨h1,O⟩,St.join _ [] h2⟩) ?_;clear Y U;rintro a w5 _ _ ⟨rfl,rfl⟩ Y U;replace U:St (·=0) w0 [blk 0 (kOf.map wv) 258,blk w0.hz (EV x) 90,blk w1.hz E4 90] w5:=St.unjoin [blk 0 (kOf.map wv) 258,blk w0.hz (EV x) 90] [blk w1.hz E4 90] U;refine wlv Y (ac (v:=po w0.hz 8) O kr) λa Y=>aA 1 Y U [jv x.signer,jv x.holder,jv x.rf,jv x.rt,jv x.carrier,jv x.serial,jv x.sf,jv x.st,sv (sealH key x.content)] O (sizeOf9 _) λa w6 Y U=>G4 ?_;refine aa λG5=>wlv (Y.p3 3 4 5 O) (ar (U.g 1 O) O (isAgg90 _) (sizeOf90 _)) λa Y=>aA 2 Y U [jv x.signer,jv x.holder,jv x.rf,jv x.rt,jv x.carrier,jv x.serial,jv x.sf,jv x.st,sv (sealH key x.content)] O (sizeOf90 _) λa w7 Y U=>wla Y O λa Y=>G5<|ao<|am Y results34 (aB O (bA (U.g 2 O) (isAgg90 _) (sizeOf90 _)) (ae O ag)) ?_;exact⟨O,U.ext.const hk0 (U.g 0 O)⟩
theorem oX (key:By) (x:Pxy) (w0:World) (hk:key.length=32) (hok:x.ok=true) (hk0:(blk 0 (kOf.map wv) 258).ok w0):
  Ff 151 #[sv key,(EY x)] w0 (.tuple #[.agg (x.sealed key).cells.toArray,jv 0]):=by
 refine aD func151 O ntmps151 (lb O) λa Y=>?_;replace U:St (·=0) w0 [blk 0 (kOf.map wv) 258] w0:=St.one hk0;refine aa λG1=>aR (Y.p2 0 1 O) U O (EX x) O λa w1 Y U=>aE Y U (zeroValue144 _) E6 O λa w2 Y U=>wla Y O λa Y=>G1<|ah λG2=>aa λG3=>wlm Y O λa Y=>au Y U call84 O (mH key _) λa w3 Y U=>nv Y<|AK (bd O)<|AL O<|λa Y=>?_;rcases (Decidable.em ((key.length:Int)=32)).symm with hb1|hb1
 ·rw[AV hb1] at Y;exfalso; omega
 rw[AQ hb1] at Y;refine wly Y (ar (U.g 1 O) O (isAgg144 _) (sizeOf144 _)) λa Y=>aF Y U call178 O (mR x _) λa w4 Y U=>nv Y<|AN (bd O)<|AK (ak O O)<|λa Y=>G3 ?_;replace Y:=Y.p5 0 3 4 5 13 O;refine bn Y O (λhc2=>?_) (λhc2=>?_)
 ·try simp only[qz] at hc2
  simp[hok] at hc2
 try simp only[qz] at hc2
 refine ap<|G2<|aa λG4=>nv Y<|AL O<|AK (ct O O)<|λa Y=>?_;replace U:=U.s3 [2,1,0] de rfl;replace U:=St.join [blk 0 (kOf.map wv) 258,blk w0.hz (EX x) 144] [blk w1.hz E6 144] U;refine bZ (R:=λu e'=>u=sv (sealH key x.content)∧e'=join [blk 0 (kOf.map wv) 258,blk w0.hz (EX x) 144]) 0 Y U O de call86 O (λh=>(pQ key x.content 185 [pq w0.hz] (blk w0.hz (EX x) 144) _ call185 (λb v ws h=>zq b _ v x ws (Pxy.smalls_of hok) h) jX om (Br x.content_len de) (St.unjoin [blk 0 (kOf.map wv) 258,blk w0.hz (EX x) 144] [] h)).mono λu w ⟨h1,h2⟩=>⟨_,⟨h1,O⟩,St.join _ [] h2⟩) ?_;clear Y U;rintro a w5 _ _ ⟨rfl,rfl⟩ Y U;replace U:St (·=0) w0 [blk 0 (kOf.map wv) 258,blk w0.hz (EX x) 144,blk w1.hz E6 144] w5:=St.unjoin [blk 0 (kOf.map wv) 258,blk w0.hz (EX x) 144] [blk w1.hz E6 144] U;refine wlv Y (ac (v:=po w0.hz 6) O kr) λa Y=>aA 1 Y U [jv x.frm,jv x.to,jv x.rf,jv x.rt,jv x.sf,jv x.st,sv (sealH key x.content)] O (sizeOf9 _) λa w6 Y U=>G4 ?_;refine aa λG5=>wlv (Y.p3 3 4 5 O) (ar (U.g 1 O) O (isAgg144 _) (sizeOf144 _)) λa Y=>aA 2 Y U [jv x.frm,jv x.to,jv x.rf,jv x.rt,jv x.sf,jv x.st,sv (sealH key x.content)] O (sizeOf144 _) λa w7 Y U=>wla Y O λa Y=>G5<|ao<|am Y results151 (aB O (bA (U.g 2 O) (isAgg144 _) (sizeOf144 _)) (ae O ag)) ?_;exact⟨O,U.ext.const hk0 (U.g 0 O)⟩
theorem oi {M:Nat→Prop} {wb:World} {H:List Ent} {sv:Value} {els:List (List Value)} {caps:List Value} {g:FuncId} (p:Nat→Bool) (ev_:Nat→Value) (J:Nat→Ent→Prop) (e0:Ent) (w0:World)
  (hen:∀args w,(callFunc g args).run Tryz.prog w=.ok (.enter g args) w) (hs:∀e w,St M wb (e::H) w→SlAt w sv 7 els)
  (hev:∀k (h:k<els.length),.agg (els[k]).toArray=ev_ k) (hJ0:J 0 e0) (U:St M wb (e0::H) w0)
  (hcl:∀k e w,k<els.length→J k e→e.ok w→(∀b,e.foot b→b<w.hz)→Ret Tryz.prog g ([ev_ k]++caps).toArray w λv w'=>v=.bool (p k)∧∃e',Ext e.foot w w'∧e'.ok w'∧(∀b,e'.foot b→b<w'.heap.size∧(e.foot b∨w.hz≤b))∧J (k+1) e'):
  Ret Tryz.prog 141 #[sv,.func (.func g) #[] caps.toArray] w0 λv w=>v=jv (fstIdx p els.length)∧∃k e',J k e'∧St M wb (e'::H) w:=by
 have hsl:=(hs _ _ U).le;refine aD func141 O ntmps141 (lb O) λa Y=>aa λG1=>wla (Y.p2 0 1 O) O λa Y=>G1<|ah λG2=>aa λG3=>nv Y<|AL O<|AK (aH (sT:=91) (hs _ _ U) O O (runUnderlying91 _))<|AL O<|λa Y=>G3<|aw<|aV (λm a w=>∃(k:Nat) (e:Ent),m=els.length- k∧(k≤els.length)∧(∀j,j<k→p j=false)∧(J k e)∧Fr 19 [(0,sv),(1,.func (.func g) #[] caps.toArray),(6,sv),(7,jv els.length),(8,jv (k:Int))] [] a∧St M wb (e::H) w) _ ⟨0,e0,O,A8 _,(by intro j hj; omega),hJ0,Y.pick [0,1,6,7,8],U⟩ ?_;rintro _ a w1 ⟨k,e,rfl,hk,hp,hJ,Y,U⟩;refine aa λG4=>wlv Y (v_lt O O) λa Y=>G4<|ah λG5=>ay Y O (λhc1=>?_) (λhc1=>?_)
 ·rw[AQ hc1] at Y;refine ap<|G5<|ah λG6=>aw<|aa λG7=>nv Y<|AL O<|AM O<|λa Y=>G7<|aa λG8=>nv Y<|AL O<|AL O<|AL O<|AK ((ai (i:=(k:Int)) (sT:=91) (hs _ _ U) O O (runUnderlying91 _) (sizeOf144 _) om om).as (v':=slAddr sv (k*7)) O)<|AK ((bI (hs _ _ U) (i:=k) om O (isAgg144 _) (sizeOf144 _)).as (v':=ev_ k) (hev k om))<|λa Y=>wl_r (g7 (cap:=caps) O hen O (hcl k _ _ om hJ (U.g 0 O) (λb hb=>U.lt (k:=0) O hb))) O O Y λa v w2 hR Y=>?_;obtain⟨rfl,e1,hx,hok,hft,hJ1⟩:=hR;have U:=U.exchange (k:=0) rfl hx hok hft;have U:St M wb (e1::H) w2:=U;refine G8<|bn Y O (λhc2=>?_) (λhc2=>?_)
  ·rw[hc2] at Y;refine aa λG9=>nv Y<|AL O<|AM O<|λa Y=>G9<|ao<|am Y results141 (ae O ag) ?_;exact⟨by rw[fF (k:=k) om hp CL]; rfl,_,_,hJ1,U⟩
  rw[hc2] at Y;refine ap<|G6<|al<|nv Y<|AK (aK O O ⟨om,om⟩)<|AL O<|λa Y=>ab ?_;refine⟨_,?_,k+1,e1,O,om,DN,hJ1,Y.pick [0,1,6,7,8],U⟩;omega
 rw[AV hc1] at Y;refine aN<|G2<|aa λG10=>wla Y O λa Y=>G10<|ao<|am Y results141 (ae O ag) ?_;have hkl:k=els.length:=by omega
 subst hkl;exact⟨by rw[fE hp]; rfl,_,_,hJ,U⟩
theorem vo {sv:Value} {xs:List Pxy} {g:FuncId} (p:Pxy→Bool) (w0:World) (hen:∀args w,(callFunc g args).run Tryz.prog w=.ok (.enter g args) w) (hs:SlAt w0 sv 7 (xs.map Pxy.cells))
  (hcl:∀(x:Pxy) (w:World),Ret Tryz.prog g #[.agg x.cells.toArray] w λv w'=>v=.bool (p x)∧Ext No w w'):
  Ff 141 #[sv,.func (.func g) #[] #[]] w0 (jv (fstIdx (λk=>p (xs.getD k Pxy.z)) xs.length)):=by
 have U:St No w0 [join []] w0:=St.join [] [] (St.init w0)
 have h:=oi (M:=No) (wb:=w0) (H:=[]) (sv:=sv) (els:=xs.map Pxy.cells) (caps:=[]) (g:=g) (λk=>p (xs.getD k Pxy.z)) (λk=>.agg (xs.getD k Pxy.z).cells.toArray) (λ_ e=>e=join []) (join []) w0 hen
  (λe w h=>h.arg hs) (λk h=>by rw[aU Pxy.z]) rfl U (λk e w hk he hok hlt=>by
   subst he;refine (hcl _ w).mono λv w' ⟨h1,h2⟩=>⟨h1,join [],h2.mono (λk _ hk=>hk.elim),?_,?_,O⟩
   ·exact⟨λe he=>(by cases he),List.Pairwise.nil⟩
   ·rintro b ⟨e,he,_⟩;cases he)
 refine h.mono λv w ⟨h1,k,e,he,U⟩=>⟨by rw[h1,AP],U.ext⟩
theorem yz (x:Pxy) (w0:World):
  Ff 177 #[(EY x)] w0 (.bool (!x.ok)):=by
 refine Cy func177 O ntmps177 (lb O) λa Y U=>aa λG1=>aR Y U O (EX x) O λa w1 Y U=>wla Y O λa Y=>G1<|aa λG2=>wlv Y (ar (U.g 0 O) O (isAgg144 _) (sizeOf144 _)) λa Y=>au Y U call178 O (mR x _) λa w2 Y U=>nv Y<|AK (bd O)<|AM O<|λa Y=>G2<|ao<|am Y results177 (ae O ag) ?_;exact⟨by rfl,U.ext⟩
def badN (xs:List Pxy):Int:=fstIdx (λk=>!(xs.getD k Pxy.z).ok) xs.length
theorem ux (v:Value) (xs:List Pxy) (w0:World) (hv:SlAt w0 v 7 (xs.map Pxy.cells)):Ret Tryz.prog 141 #[v,.func (.func 177) #[] #[]] w0 λv w=>v=jv (badN xs)∧Ext No w0 w:=
 vo (λx=>!x.ok) w0 call177 hv (λx w=>yz x w)
theorem kP (lv:Value) (xs:List Pxy) (w0:World) (hlv:SlAt w0 lv 7 (xs.map Pxy.cells)):
  Ff 140 #[lv] w0 (jv (badN xs)):=by
 refine Cy func140 O ntmps140 (lb O) λa Y U=>aa λG1=>wla Y O λa Y=>G1<|aa λG2=>wlm Y O λa Y=>au Y U call141 O (ux lv xs _ (U.arg hlv)) λa w1 Y U=>wla Y O λa Y=>G2<|ao<|am Y results140 (ae O ag) ?_;exact⟨by rfl,U.ext⟩
theorem ut (x:Wsh) (lv:Value) (xs:List Pxy) (w0:World) (hlv:SlAt w0 lv 7 (xs.map Pxy.cells)):
  Ff 90 #[(EW x),lv] w0 (.bool (x.ok&&decide ((xs.length:Int)≤4)&&decide (badN xs<0))):=by
 refine Cx func90 O ntmps90 (lb O) λa Y U=>aa λG1=>aR Y U O (EV x) O λa w1 Y U=>wla Y O λa Y=>G1<|aa λG2=>wlv Y (ar (U.g 0 O) O (isAgg90 _) (sizeOf90 _)) λa Y=>au Y U call85 O (kp x _) λa w2 Y U=>wlm Y O λa Y=>?_;rcases AR (x.ok) with hb1|hb1
 ·rw[hb1] at Y;refine nv Y<|AN (ax O)<|AN ((aH (sT:=91) (U.arg hlv) O O (runUnderlying91 _)).asi (m':=(xs.length:Int)) CU)<|AN (v_le O O)<|AK (aq O O)<|AL O<|λa Y=>?_;rcases Decidable.em ((xs.length:Int)≤4) with hb2|hb2
  ·rw[AQ hb2] at Y;refine wly Y (ax O) λa Y=>aF Y U call140 O (kP lv xs _ (U.arg hlv)) λa w3 Y U=>nv Y<|AN (v_lt O O)<|AK (aq O O)<|AM O<|λa Y=>G2 ?_;replace Y:=Y.p4 0 1 2 4 O;refine ao<|am Y results90 (ae O ag) ?_;exact⟨by simp only[retv]; simp[hb1,hb2],U.ext⟩
  rw[AV hb2] at Y;refine nv Y<|AO<|AO<|AO<|AK (ak O O)<|AM O<|λa Y=>G2 ?_;replace Y:=Y.p4 0 1 2 4 O;refine ao<|am Y results90 (ae O ag) ?_;exact⟨by simp only[retv]; simp[hb1,hb2],U.ext⟩
 rw[hb1] at Y;refine nv Y<|AO<|AO<|AO<|AK (ak O O)<|AL O<|AO<|AO<|AO<|AK (ak O O)<|AM O<|λa Y=>G2 ?_;replace Y:=Y.p4 0 1 2 4 O;refine ao<|am Y results90 (ae O ag) ?_;exact⟨by simp only[retv]; simp[hb1],U.ext⟩
theorem ud (rf rt sf st:Int) (x:Pxy) (w0:World):
  Ff 184 #[.agg #[jv rf,jv rt],.agg #[jv sf,jv st],(EY x)] w0 (.bool (isInH rf rt sf st x)):=by
 refine CB func184 O ntmps184 (lb O) λa Y U=>aa λG1=>aR Y U O [jv rf,jv rt] O λa w1 Y U=>aR Y U O [jv sf,jv st] O λa w2 Y U=>aR Y U O (EX x) O λa w3 Y U=>wla Y O λa Y=>G1<|aa λG2=>nv Y<|AK (ac (v:=po w2.hz 2) O kr)<|AK (ac (v:=po w2.hz 2) O kr)<|AK (ld U 0 O O (isAgg3 _) O)<|AK (ac (v:=pq w0.hz) O kr)<|AK (ld U 2 O O (isAgg3 _) O)<|AK (v_le O O)<|AL O<|λa Y=>cP (N:=37) (df:=[]) 7 [(20,.bool ((decide (x.rf≤rf))&&(decide (rt≤x.rt)))),(0,.agg #[jv rf,jv rt]),(1,.agg #[jv sf,jv st]),(2,(EY x)),(3,pq w0.hz),(4,pq w1.hz),(5,pq w2.hz),(6,.bool false)] ?_ (λhj=>?_)
 rotate_left
 ·rcases AR (decide (x.rf≤rf)) with hb1|hb1
  ·rw[hb1] at Y;have hb1b:=hb1
   try simp only[qz,AU,Bg,A7,Bf] at hb1
   refine nv Y<|AN (ac (v:=po w0.hz 1) O kr)<|AN (ld U 2 O O (isAgg3 _) O)<|AN (ac (v:=po w2.hz 2) O kr)<|AN (ac (v:=po w2.hz 3) O kr)<|AN (ld U 0 O O (isAgg3 _) O)<|AN (v_le O O)<|AK (aq O O)<|λa Y=>hj _ ?_
   try rw[hb1b]
   exact Y.pick [20,0,1,2,3,4,5,6]
  rw[hb1] at Y;have hb1b:=hb1
  try simp only[qz,AU,Bg,A7,Bf] at hb1
  refine nv Y<|AO<|AO<|AO<|AO<|AO<|AO<|AK (ak O O)<|λa Y=>hj _ ?_
  try rw[hb1b]
  exact Y.pick [20,0,1,2,3,4,5,6]
 intro a Y;refine wlm Y O λa Y=>cP (N:=37) (df:=[]) 7 [(28,.bool (((decide (x.rf≤rf))&&(decide (rt≤x.rt)))&&(decide (x.sf≤sf)))),(0,.agg #[jv rf,jv rt]),(1,.agg #[jv sf,jv st]),(2,(EY x)),(3,pq w0.hz),(4,pq w1.hz),(5,pq w2.hz),(6,.bool false)] ?_ (λhj=>?_)
 rotate_left
 ·rcases AR ((decide (x.rf≤rf))&&(decide (rt≤x.rt))) with hb2|hb2
  ·rw[hb2] at Y;have hb2b:=hb2
   try simp only[qz,AU,Bg,A7,Bf] at hb2
   refine nv Y<|AN (ac (v:=po w2.hz 4) O kr)<|AN (ac (v:=po w2.hz 4) O kr)<|AN (ld U 0 O O (isAgg3 _) O)<|AN (ac (v:=pq w1.hz) O kr)<|AN (ld U 1 O O (isAgg3 _) O)<|AN (v_le O O)<|AK (aq O O)<|λa Y=>hj _ ?_
   try rw[hb2b]
   exact Y.pick [28,0,1,2,3,4,5,6]
  rw[hb2] at Y;have hb2b:=hb2
  try simp only[qz,AU,Bg,A7,Bf] at hb2
  refine nv Y<|AO<|AO<|AO<|AO<|AO<|AO<|AK (ak O O)<|λa Y=>hj _ ?_
  try rw[hb2b]
  exact Y.pick [28,0,1,2,3,4,5,6]
 intro a Y;refine wlm Y O λa Y=>cP (N:=37) (df:=[]) 7 [(36,.bool ((((decide (x.rf≤rf))&&(decide (rt≤x.rt)))&&(decide (x.sf≤sf)))&&(decide (st≤x.st)))),(0,.agg #[jv rf,jv rt]),(1,.agg #[jv sf,jv st]),(2,(EY x)),(3,pq w0.hz),(4,pq w1.hz),(5,pq w2.hz),(6,.bool false)] ?_ (λhj=>?_)
 rotate_left
 ·rcases AR (((decide (x.rf≤rf))&&(decide (rt≤x.rt)))&&(decide (x.sf≤sf))) with hb3|hb3
  ·rw[hb3] at Y;have hb3b:=hb3
   try simp only[qz,AU,Bg,A7,Bf] at hb3
   refine nv Y<|AN (ac (v:=po w1.hz 1) O kr)<|AN (ld U 1 O O (isAgg3 _) O)<|AN (ac (v:=po w2.hz 4) O kr)<|AN (ac (v:=po w2.hz 5) O kr)<|AN (ld U 0 O O (isAgg3 _) O)<|AN (v_le O O)<|AK (aq O O)<|λa Y=>hj _ ?_
   try rw[hb3b]
   exact Y.pick [36,0,1,2,3,4,5,6]
  rw[hb3] at Y;have hb3b:=hb3
  try simp only[qz,AU,Bg,A7,Bf] at hb3
  refine nv Y<|AO<|AO<|AO<|AO<|AO<|AO<|AK (ak O O)<|λa Y=>hj _ ?_
  try rw[hb3b]
  exact Y.pick [36,0,1,2,3,4,5,6]
 intro a Y;refine wla Y O λa Y=>G2 ?_;replace Y:=Y.p1 6 O;replace U:=U.k0 0 O;refine ao<|am Y results184 (ae O ag) ?_;exact⟨by rfl,U.ext⟩
def prevP (xs:List Pxy) (k:Nat):Option Pxy:=if k=0 then none else some (xs.getD (k- 1) Pxy.z)
theorem dz {α:Type} {xs:List α} {k:Nat} (d:α) (h:k<xs.length):xs.drop k=xs.getD k d::xs.drop (k+1):=by
 rw[BK h,AY,A2 h]; rfl
def scopeV (x:Wsh) (xs:List Pxy):Int × Bool:=match bt x none xs 0 with|some n=>(n,true)|none=>(-1,false)
theorem lL {x:Wsh} {xs:List Pxy} (h:bt x none xs 0=none):scopeV x xs=(-1,false):=by unfold scopeV; rw[h]
theorem lF {x:Wsh} {xs:List Pxy} {n:Int} (h:bt x none xs 0=some n):scopeV x xs=(n,true):=by unfold scopeV; rw[h]
theorem jf {x:Wsh} {xs:List Pxy} {k:Nat} (hk:k<xs.length) (h:k=0∨isInH (xs.getD k Pxy.z).rf (xs.getD k Pxy.z).rt (xs.getD k Pxy.z).sf (xs.getD k Pxy.z).st (xs.getD (k- 1) Pxy.z)=true):
  bt x (prevP xs k) (xs.drop k) k=bt x (prevP xs (k+1)) (xs.drop (k+1)) (k+1):=by
 rw[dz Pxy.z hk]
 by_cases h0:k=0
 ·subst h0; rfl
 ·unfold prevP;rw[Bc h0,Bc om,bt,Bi (h.resolve_left h0)]; rfl
theorem oI {x:Wsh} {xs:List Pxy} {k:Nat} (hk:k<xs.length) (h0:0<k) (h:isInH (xs.getD k Pxy.z).rf (xs.getD k Pxy.z).rt (xs.getD k Pxy.z).sf (xs.getD k Pxy.z).st (xs.getD (k- 1) Pxy.z)=false):
  bt x (prevP xs k) (xs.drop k) k=some (k:Int):=by
 rw[dz Pxy.z hk];unfold prevP;rw[Bc om,bt,Bc (by rw[h]; simp)]
theorem oE {x:Wsh} {xs:List Pxy}:bt x (prevP xs xs.length) (xs.drop xs.length) xs.length=if xs.length=0∨isInH x.rf x.rt x.sf x.st (xs.getD (xs.length- 1) Pxy.z)=true then none else some (-1):=by
 rw[List.drop_length];unfold prevP
 by_cases h0:xs.length=0
 ·rw[Bi h0,Bi (.inl h0)]; rfl
 ·rw[Bc h0,bt]; simp[h0]
theorem sj {x:Wsh} {xs:List Pxy} (h:xs.length=0) (hs:bt x none xs 0=if xs.length=0∨isInH x.rf x.rt x.sf x.st (xs.getD (xs.length- 1) Pxy.z)=true then none else some (-1)):scopeV x xs=(-1,false):=by
 rw[Bi (.inl h)] at hs; exact lL hs
theorem sE {x:Wsh} {xs:List Pxy} (h:0<xs.length) (hs:bt x none xs 0=if xs.length=0∨isInH x.rf x.rt x.sf x.st (xs.getD (xs.length- 1) Pxy.z)=true then none else some (-1)):scopeV x xs=(-1,!isInH x.rf x.rt x.sf x.st (xs.getD (xs.length- 1) Pxy.z)):=by
 cases hc:isInH x.rf x.rt x.sf x.st (xs.getD (xs.length- 1) Pxy.z) with
 | true=>rw[Bi (.inr hc)] at hs; exact lL hs
 | false=>rw[Bc (λhh=>by rcases hh with hh|hh; omega; rw[hc] at hh; cases hh)] at hs; exact lF hs
theorem yt (x:Wsh) (lv:Value) (xs:List Pxy) (w0:World) (hlv:SlAt w0 lv 7 (xs.map Pxy.cells)):
  Ff 148 #[(EW x),lv] w0 (.tuple #[jv (scopeV x xs).1,.bool (scopeV x xs).2]):=by
 have hxb:=hlv.2.1;simp only[AP,big] at hxb;refine Cx func148 O ntmps148 (lb O) λa Y U=>aa λG1=>aR Y U O (EV x) O λa w1 Y U=>nv Y<|AM O<|AM O<|λa Y=>G1<|ah λG2=>aa λG3=>nv Y<|AL O<|AK ((aH (sT:=91) (U.arg hlv) O O (runUnderlying91 _)).asi (m':=(xs.length:Int)) CU)<|AL O<|λa Y=>G3<|aw<|aV (λm a w=>∃(k:Nat),m=xs.length- k∧(k≤xs.length)∧(bt x none xs 0=bt x (prevP xs k) (xs.drop k) k)∧Fr 49 [(1,lv),(2,pq w0.hz),(8,lv),(9,jv (xs.length:Int)),(10,jv (k:Int))] [] a∧St No w0 [blk w0.hz (EV x) 90] w) _ ⟨0,O,A8 _,O,Y.pick [1,2,8,9,10],U.select [0] de⟩ ?_;rintro _ a w2 ⟨k,rfl,hk,hs,Y,U⟩;refine aa λG4=>wlv Y (v_lt O O) λa Y=>G4<|ah λG5=>ay Y O (λhc1=>?_) (λhc1=>?_)
 ·have hkx:k<xs.length:=by omega
  refine ap<|G5<|ah λG6=>aw<|aa λG7=>nv Y<|AL O<|AK ((ai (i:=(k:Int)) (sT:=91) (U.arg hlv) O O (runUnderlying91 _) (sizeOf144 _) om CH).as (v':=slAddr lv (k*7)) O)<|AK ((bI (U.arg hlv) (i:=k) CH O (isAgg144 _) (sizeOf144 _)).as (v':=.agg #[jv ((xs.getD k Pxy.z).frm),jv ((xs.getD k Pxy.z).to),jv ((xs.getD k Pxy.z).rf),jv ((xs.getD k Pxy.z).rt),jv ((xs.getD k Pxy.z).sf),jv ((xs.getD k Pxy.z).st),sv ((xs.getD k Pxy.z).sig)]) C4)<|λa Y=>aE Y U (zeroValue144 _) E6 O λa w3 Y U=>wla Y O λa Y=>aA 0 Y U [jv ((xs.getD k Pxy.z).frm),jv ((xs.getD k Pxy.z).to),jv ((xs.getD k Pxy.z).rf),jv ((xs.getD k Pxy.z).rt),jv ((xs.getD k Pxy.z).sf),jv ((xs.getD k Pxy.z).st),sv ((xs.getD k Pxy.z).sig)] O (sizeOf144 _) λa w4 Y U=>G7<|ah λG8=>aL (aM λw5 hxz=>?_);replace U:=U.grow hxz;refine aI (k:=0) 3 [2] ?_;refine nv Y<|AL O<|AK (v_gt O O)<|AL O<|λa Y=>ab ?_;rcases Decidable.em (0<(k:Int)) with hb2|hb2
  ·rw[AQ hb2] at Y;refine aP (k:=3) 12 [4,6,11] Y ?_;replace Y:=Y.p13 1 2 8 9 10 12 13 14 7 6 15 16 17 O;refine bB 9 Y U<|pl_v (ac (v:=po w2.hz 2) O kr)<|pl_w (λU=>bJ (ds:=[jv ((xs.getD k Pxy.z).rf),jv ((xs.getD k Pxy.z).rt)]) (U.g 0 O) O (isAgg87 _) (sizeOf87 _) O)<|pl_v (ac (v:=po w2.hz 4) O kr)<|pl_w (λU=>bJ (ds:=[jv ((xs.getD k Pxy.z).sf),jv ((xs.getD k Pxy.z).st)]) (U.g 0 O) O (isAgg88 _) (sizeOf88 _) O)<|pl_m O<|pl_m O<|pl_v (bF O O ⟨om,om⟩)<|pl_w (λU=>(ai (i:=(k:Int)- 1) (sT:=91) (U.arg hlv) O O (runUnderlying91 _) (sizeOf144 _) om CH).as (v':=slAddr lv ((k- 1)*7)) C6) ?_;refine pl_w (λU=>(bI (U.arg hlv) (i:=(k- 1)) CH O (isAgg144 _) (sizeOf144 _)).as (v':=.agg #[jv ((xs.getD (k- 1) Pxy.z).frm),jv ((xs.getD (k- 1) Pxy.z).to),jv ((xs.getD (k- 1) Pxy.z).rf),jv ((xs.getD (k- 1) Pxy.z).rt),jv ((xs.getD (k- 1) Pxy.z).sf),jv ((xs.getD (k- 1) Pxy.z).st),sv ((xs.getD (k- 1) Pxy.z).sig)]) C4) λa w6 Y U=>?_;replace Y:=Y.p10 1 2 8 9 10 6 17 19 21 26 O;refine ab<|aI (k:=12) 15 [14] ?_;refine aF Y U call184 O (ud ((xs.getD k Pxy.z).rf) ((xs.getD k Pxy.z).rt) ((xs.getD k Pxy.z).sf) ((xs.getD k Pxy.z).st) (xs.getD (k- 1) Pxy.z) _) λa w7 Y U=>nv Y<|AN (bd O)<|AK (aq O O)<|λa Y=>ab<|aO<|G8 ?_;replace Y:=Y.p7 1 2 8 9 10 6 29 O;replace U:=U.k1 2 O;refine bn Y O (λhc3=>?_) (λhc3=>?_)
   ·try simp only[qz] at hc3
    refine aa λG9=>nv Y<|AL O<|AM O<|AM O<|λa Y=>G9<|ao<|am Y results148 (ae O (ae O ag)) ?_;exact⟨by simp only[retv]; rw[lF (by rw[hs]; exact oI hkx om (by simpa using hc3))]; try rfl,U.ext⟩
   try simp only[qz] at hc3
   refine ap<|G6<|al<|nv Y<|AK (aK O O ⟨om,om⟩)<|AL O<|λa Y=>ab ?_;refine⟨_,?_,k+1,O,om,(by rw[hs]; exact jf hkx (by first|(left; omega)|(right; simpa using hc3))),Y.pick [1,2,8,9,10],U.select [0] de⟩;omega
  rw[AV hb2] at Y;refine bR (k:=3) 12 [4,6,11] (Y.p13 1 2 8 9 10 12 13 14 7 6 15 16 17 O) λa Y=>?_;replace Y:Fr 49 [(18,undef),(19,undef),(20,undef),(21,undef),(22,undef),(23,undef),(24,undef),(25,undef),(26,undef),(1,lv),(2,pq w0.hz),(8,lv),(9,jv (xs.length:Int)),(10,jv (k:Int)),(12,jv (k:Int)),(13,slAddr lv (k*7)),(14,.agg #[jv ((xs.getD k Pxy.z).frm),jv ((xs.getD k Pxy.z).to),jv ((xs.getD k Pxy.z).rf),jv ((xs.getD k Pxy.z).rt),jv ((xs.getD k Pxy.z).sf),jv ((xs.getD k Pxy.z).st),sv ((xs.getD k Pxy.z).sig)]),(7,pq w2.hz),(6,jv (k:Int)),(15,jv (k:Int)),(16,.bool false),(17,.bool false)] [] a:=Y;refine aI (k:=12) 15 [14] ?_;refine nv Y<|AO<|AO<|AK (ak O O)<|λa Y=>ab<|aO<|G8 ?_;replace Y:=Y.p7 1 2 8 9 10 6 29 O;replace U:=U.k1 2 O;refine aJ Y O ?_;refine ap<|G6<|al<|nv Y<|AK (aK O O ⟨om,om⟩)<|AL O<|λa Y=>ab ?_;refine⟨_,?_,k+1,O,om,(by rw[hs]; exact jf hkx (by first|(left; omega)|(right; simpa using hb2))),Y.pick [1,2,8,9,10],U.select [0] de⟩;omega
 have hke:k=xs.length:=by omega
 rw[hke,oE] at hs;refine aN<|G2<|ah λG10=>aL (aM λw8 hxz=>?_);replace U:=U.grow hxz;refine aI (k:=0) 4 [3] ?_;refine nv Y<|AL O<|AK ((aH (sT:=91) (U.arg hlv) O O (runUnderlying91 _)).asi (m':=(xs.length:Int)) CU)<|AK (v_gt O O)<|AL O<|λa Y=>ab ?_;rcases Decidable.em (0<(xs.length:Int)) with hb4|hb4
 ·rw[AQ hb4] at Y;refine aP (k:=4) 14 [5,7,13] Y ?_;replace Y:=Y.p9 1 2 8 9 10 32 33 34 35 O;refine bB 10 Y U<|pl_v (ac (v:=po w0.hz 2) O kr)<|pl_w (λU=>bJ (ds:=[jv x.rf,jv x.rt]) (U.g 0 O) O (isAgg87 _) (sizeOf87 _) O)<|pl_v (ac (v:=po w0.hz 6) O kr)<|pl_w (λU=>bJ (ds:=[jv x.sf,jv x.st]) (U.g 0 O) O (isAgg88 _) (sizeOf88 _) O)<|pl_m O<|pl_m O<|pl_w (λU=>(aH (sT:=91) (U.arg hlv) O O (runUnderlying91 _)).asi (m':=(xs.length:Int)) CU)<|pl_v (bF O O ⟨om,om⟩) ?_;refine pl_w (λU=>(ai (i:=(xs.length:Int)- 1) (sT:=91) (U.arg hlv) O O (runUnderlying91 _) (sizeOf144 _) om CH).as (v':=slAddr lv ((xs.length- 1)*7)) EE)<|pl_w (λU=>(bI (U.arg hlv) (i:=(xs.length- 1)) CH O (isAgg144 _) (sizeOf144 _)).as (v':=.agg #[jv ((xs.getD (xs.length- 1) Pxy.z).frm),jv ((xs.getD (xs.length- 1) Pxy.z).to),jv ((xs.getD (xs.length- 1) Pxy.z).rf),jv ((xs.getD (xs.length- 1) Pxy.z).rt),jv ((xs.getD (xs.length- 1) Pxy.z).sf),jv ((xs.getD (xs.length- 1) Pxy.z).st),sv ((xs.getD (xs.length- 1) Pxy.z).sig)]) C4) λa w9 Y U=>?_;replace Y:=Y.p4 35 37 39 45 O;refine ab<|aI (k:=14) 15 [14] ?_;refine aF Y U call184 O (ud x.rf x.rt x.sf x.st (xs.getD (xs.length- 1) Pxy.z) _) λa w10 Y U=>ab<|aP (k:=15) 18 [16,17] Y ?_;refine bB 3 (Y.p5 35 37 39 45 46 O) U<|pl_v (bd O)<|pl_v (aq O O)<|pl_v (cH O) λa w11 Y U=>?_;replace Y:=Y.p2 48 4 O;refine ab<|aI (k:=18) 19 [18] ?_;refine wla Y O λa Y=>ab<|aO<|G10<|ao<|am Y results148 (ae O (ae O ag)) ?_;exact⟨by simp only[retv]; rw[sE om hs]; try rfl,U.ext⟩
 rw[AV hb4] at Y;refine bR (k:=4) 14 [5,7,13] (Y.p9 1 2 8 9 10 32 33 34 35 O) λa Y=>?_;replace Y:Fr 49 [(36,undef),(37,undef),(38,undef),(39,undef),(40,undef),(41,undef),(42,undef),(43,undef),(44,undef),(45,undef),(1,lv),(2,pq w0.hz),(8,lv),(9,jv (xs.length:Int)),(10,jv (k:Int)),(32,lv),(33,jv (xs.length:Int)),(34,.bool false),(35,.bool false)] [] a:=Y;refine aI (k:=14) 15 [14] ?_;refine wln Y λa Y=>ab ?_;replace Y:=Y.p20 36 37 38 39 40 41 42 43 44 45 1 2 8 9 10 32 33 34 35 46 O;refine AJ (k:=15) 18 [16,17] (λi=>match i with|15=>undef|16=>.bool false|17=>jv (-1)|_=>undef) Y ?_ ?_
 ·intro i h1 h2;have hi:i=15∨i=16∨i=17:=by omega
  rcases hi with rfl|rfl|rfl
  ·exact⟨λ_=>O,λh=>by cases h⟩
  ·exact⟨λh=>Ep,λ_=>ak O O⟩
  ·exact⟨λh=>Ep,λ_=>cH O⟩
 intro a Y;replace Y:Fr 49 [(47,undef),(48,.bool false),(4,jv (-1)),(36,undef),(37,undef),(38,undef),(39,undef),(40,undef),(41,undef),(42,undef),(43,undef),(44,undef),(45,undef),(1,lv),(2,pq w0.hz),(8,lv),(9,jv (xs.length:Int)),(10,jv (k:Int)),(32,lv),(33,jv (xs.length:Int)),(34,.bool false),(35,.bool false),(46,undef)] [] a:=Y;refine aI (k:=18) 19 [18] ?_;refine wla Y O λa Y=>ab<|aO<|G10 ?_;replace Y:=Y.p2 4 5 O;replace U:=U.k0 0 O;refine ao<|am Y results148 (ae O (ae O ag)) ?_;exact⟨by simp only[retv]; rw[sj om hs]; try rfl,U.ext⟩
def pers:Int→List Pxy→Nat→List (Int × Int)
 | who,[],_=>[(-1,who)]
 | who,p::l,k=>((k:Int),who)::pers p.to l (k+1)
def encQ (x:Int × Int):List Value:=[jv x.1,jv x.2]
def NxQ (h:Int) (xs:List Pxy) (pre:List (Int × Int)) (x:Int × Int):Prop:=∃suf,pers h xs 0=pre++x::suf
theorem re {M:Nat→Prop} {w0:World} (h:Int) (lv:Value) (xs:List Pxy) (lp bh bl:Nat) (J Jx:List (Int × Int)→Ent→Prop) (hY:Rounds Tryz.prog M w0 lp encQ (NxQ h xs) J Jx) (e0:Ent) (ws:World) (hsv:∀H w,St M w0 H w→SlAt w lv 7 (xs.map Pxy.cells)) (hJ:J [] e0) (U:St M w0 [e0,blk bh [jv h] 3,blk bl [lv] 91] ws):
  Ret Tryz.prog 183 #[.func (.yield lp) #[] #[],pq bh,pq bl] ws λ_ w=>∃e1 Hi1,St M w0 (e1::Hi1) w∧((∃zs,(zs=pers h xs 0∧Hi1=[blk bh [jv h] 3,blk bl [lv] 91])∧J zs e1)∨(∃pre,Hi1=[blk bh [jv h] 3,blk bl [lv] 91]∧Jx pre e1)):=by
 refine aD func183 O ntmps183 (lb O) λa Y=>?_;replace Y:=Y.p3 0 1 2 O;have hlb:=(hsv _ _ U).2.1;rw[AP] at hlb;unfold big at hlb;refine aa λG1=>nv Y<|AK (ld U 1 O O (isAgg3 _) O)<|AM O<|λa Y=>G1<|ah λG2=>aa λG3=>nv Y<|AK (ld U 2 O O (isAgg91 _) O)<|AK ((aH (sT:=91) (hsv _ _ U) O O (runUnderlying91 _)).asi (m':=(xs.length:Int)) CU)<|AL O<|λa Y=>G3<|aw<|aV (λm a w=>∃(k:Nat) (who:Int) (e:Ent) (dn:List (Int × Int)),m=xs.length- k∧(k≤xs.length)∧(pers h xs 0=dn++pers who (xs.drop k) k)∧(J dn e)∧Fr 26 [(0,.func (.yield lp) #[] #[]),(8,lv),(9,jv (xs.length:Int)),(4,jv who),(10,jv (k:Int))] [] a∧St M w0 [e,blk bh [jv h] 3,blk bl [lv] 91] w) _ ⟨0,h,e0,[],O,A8 _,O,hJ,Y.pick [0,8,9,4,10],U.select [0,1,2] de⟩ ?_;rintro _ a w1 ⟨k,who,e,dn,rfl,hk,hp,hJ,Y,U⟩;refine aa λG4=>wlv Y (v_lt O O) λa Y=>G4<|ah λG5=>ay Y O (λhc1=>?_) (λhc1=>?_)
 ·have hkx:k<xs.length:=by omega
  refine ap<|G5<|ah λG6=>aw<|aa λG7=>nv Y<|AL O<|AK ((ai (i:=(k:Int)) (sT:=91) (hsv _ _ U) O O (runUnderlying91 _) (sizeOf144 _) om CH).as (v':=slAddr lv (k*7)) O)<|AK ((bI (hsv _ _ U) (i:=k) CH O (isAgg144 _) (sizeOf144 _)).as (v':=.agg #[jv ((xs.getD k Pxy.z).frm),jv ((xs.getD k Pxy.z).to),jv ((xs.getD k Pxy.z).rf),jv ((xs.getD k Pxy.z).rt),jv ((xs.getD k Pxy.z).sf),jv ((xs.getD k Pxy.z).st),sv ((xs.getD k Pxy.z).sig)]) C4)<|λa Y=>aE Y U (zeroValue144 _) E6 O λa w2 Y U=>wla Y O λa Y=>aA 0 Y U [jv ((xs.getD k Pxy.z).frm),jv ((xs.getD k Pxy.z).to),jv ((xs.getD k Pxy.z).rf),jv ((xs.getD k Pxy.z).rt),jv ((xs.getD k Pxy.z).sf),jv ((xs.getD k Pxy.z).st),sv ((xs.getD k Pxy.z).sig)] O (sizeOf144 _) λa w3 Y U=>G7<|ah λG8=>aa λG9=>nv Y<|AL O<|AL O<|AL O<|λa Y=>wl_r (f9 O O (hY.yield (pre:=dn) (x:=((k:Int),who)) ⟨_,by rw[hp,dz Pxy.z hkx]; rfl⟩ hJ (U.only (i:=1) O))) O O Y λa v w4 hR Y=>?_;obtain⟨y2,e3,rfl,hx,hok,hft,hJt,hJf⟩:=hR;replace U:=U.exchange (k:=1) rfl hx hok hft;replace U:=U.n4 O;clear hx hok hft;refine wlv Y (bd O) λa Y=>G9 ?_;replace Y:=Y.p6 0 8 9 10 6 19 O;refine bn Y O (λhc4=>?_) (λhc4=>?_)
  ·try simp only[qz] at hc4
   have hJ:=hJf hc4;refine ao<|am Y results183 ag ?_;exact⟨_,_,U.select [1,2,3] de,.inr ⟨_,O,hJ⟩⟩
  try simp only[qz] at hc4
  have hJ:=hJt hc4;refine ap<|G8<|al<|nv Y<|AK (ac (v:=po w1.hz 1) O kr)<|AK (ld U 0 O O (isAgg3 _) O)<|AM O<|λa Y=>ab<|G6<|al<|nv Y<|AK (aK O O ⟨om,om⟩)<|AL O<|λa Y=>ab ?_;refine⟨_,?_,k+1,(xs.getD k Pxy.z).to,e3,dn++[((k:Int),who)],O,om,(by rw[hp,dz Pxy.z hkx,pers,Bu]; rfl),hJ,Y.pick [0,8,9,4,10],U.select [1,2,3] de⟩;omega
 obtain rfl:k=xs.length:=by omega
 rw[List.drop_length] at hp;refine aN<|G2<|al<|nv Y<|AL O<|AL O<|λa Y=>wl_r (f9 O O (hY.yield (pre:=dn) (x:=((-1:Int),who)) ⟨[],hp⟩ hJ (U.only (i:=0) O))) O O Y λa v w5 hR Y=>?_;obtain⟨y5,e6,rfl,hx,hok,hft,hJt,hJf⟩:=hR;replace U:=U.exchange (k:=0) rfl hx hok hft;replace U:=U.n3 O;clear hx hok hft;refine ab<|cY Y results183 ag ?_;rcases AR y5 with hyy|hyy
 ·exact⟨_,_,U.select [0,1,2] de,.inl ⟨_,⟨hp.symm.symm▸O,O⟩,hJt hyy⟩⟩
 ·exact⟨_,_,U.select [0,1,2] de,.inr ⟨_,O,hJf hyy⟩⟩
theorem pB {M:Nat→Prop} {w0:World} (h:Int) (lv:Value) (xs:List Pxy) (bh bl:Nat) (hsv:∀H w,St M w0 H w→SlAt w lv 7 (xs.map Pxy.cells)):
  Iter Tryz.prog 183 [pq bh,pq bl] encQ (NxQ h xs) (λzs Hi1=>zs=pers h xs 0∧Hi1=[blk bh [jv h] 3,blk bl [lv] 91]) (λpre Hi1=>Hi1=[blk bh [jv h] 3,blk bl [lv] 91]) M w0 [blk bh [jv h] 3,blk bl [lv] 91]:=
 λlp J Jx w e hY hJ U=>re h lv xs lp bh bl J Jx hY e w hsv hJ U
theorem tw (h:Int) (lv:Value) (xs:List Pxy) (w0:World) (hlv:SlAt w0 lv 7 (xs.map Pxy.cells)):
  Ret Tryz.prog 147 #[jv h,lv] w0 (MemR w0 (λz:Nat × Nat=>.func (.func 183) #[] #[pq z.1,pq z.2]) (λz=>[blk z.2 [lv] 91,blk z.1 [jv h] 3]) (λ_=>True)):=by
 refine Cx func147 O ntmps147 (lb O) λa Y U=>aa λG1=>aR Y U O [jv h] O λa w1 Y U=>aR Y U O [lv] (by rw[(U.arg hlv).cells]) λa w2 Y U=>wla Y O λa Y=>G1<|aa λG2=>nv Y<|AK (ct O O)<|AM O<|λa Y=>G2<|ao<|am Y results147 (ae O ag) ?_;exact⟨(w0.hz,w1.hz),O,trivial,U.ext,St.out (H:=[]) U⟩
theorem pu {M:Nat→Prop} {wb:World} {H:List Ent} {sv:Value} {els:List (List Value)} {caps:List Value} {g:FuncId} (p:Nat→Bool) (ev_:Nat→Value) (J:Nat→Ent→Prop) (e0:Ent) (w0:World)
  (hen:∀args w,(callFunc g args).run Tryz.prog w=.ok (.enter g args) w) (hs:∀e w,St M wb (e::H) w→SlAt w sv 7 els)
  (hev:∀k (h:k<els.length),.agg (els[k]).toArray=ev_ k) (hJ0:J 0 e0) (U:St M wb (e0::H) w0)
  (hcl:∀k e w,k<els.length→J k e→e.ok w→(∀b,e.foot b→b<w.hz)→Ret Tryz.prog g ([ev_ k]++caps).toArray w λv w'=>v=.bool (p k)∧∃e',Ext e.foot w w'∧e'.ok w'∧(∀b,e'.foot b→b<w'.heap.size∧(e.foot b∨w.hz≤b))∧J (k+1) e'):
  Ret Tryz.prog 91 #[sv,.func (.func g) #[] caps.toArray] w0 λv w=>v=.bool ((List.range els.length).any p)∧∃k e',J k e'∧St M wb (e'::H) w:=by
 refine aD func91 O ntmps91 (lb O) λa Y=>aa λG1=>wla (Y.p2 0 1 O) O λa Y=>G1<|aa λG2=>nv Y<|AL O<|AL O<|λa Y=>wl_r (ff call141 O (oi p ev_ J e0 _ hen hs hev hJ0 U hcl)) O O Y λa v w1 hR Y=>?_;obtain⟨rfl,kk,e1,hJ1,U⟩:=hR;refine nv Y<|AK (v_ge O O)<|AM O<|λa Y=>G2<|ao<|am Y results91 (ae O ag) ?_;exact⟨by rw[iN]; rfl,_,_,hJ1,U⟩
theorem yV {u:Value} {xs:List Pxy} {g:FuncId} (p:Pxy→Bool) (w0:World) (hen:∀args w,(callFunc g args).run Tryz.prog w=.ok (.enter g args) w) (hs:SlAt w0 u 7 (xs.map Pxy.cells))
  (hcl:∀(x:Pxy) (w:World),x∈xs→Ret Tryz.prog g #[.agg x.cells.toArray] w λv w'=>v=.bool (p x)∧Ext No w w'):
  Ff 91 #[u,.func (.func g) #[] #[]] w0 (.bool (xs.any p)):=by
 have U:St No w0 [join []] w0:=St.join [] [] (St.init w0)
 have h:=pu (M:=No) (wb:=w0) (H:=[]) (sv:=u) (els:=xs.map Pxy.cells) (caps:=[]) (g:=g) (λk=>p (xs.getD k Pxy.z)) (λk=>.agg (xs.getD k Pxy.z).cells.toArray) (λ_ e=>e=join []) (join []) w0 hen
  (λe w h=>h.arg hs) (λk h=>by rw[aU Pxy.z]) rfl U (λk e w hk he hok hlt=>by
   subst he;refine (hcl _ w (bf Er)).mono λv w' ⟨h1,h2⟩=>⟨h1,join [],h2.mono (λk _ hk=>hk.elim),?_,?_,O⟩
   ·exact⟨λe he=>(by cases he),List.Pairwise.nil⟩
   ·rintro b ⟨e,he,_⟩;cases he)
 refine h.mono λv w ⟨h1,k,e,he,U⟩=>⟨?_,U.ext⟩;rw[h1,AP];congr 1;rw[Bool.eq_iff_iff,BM,BM];constructor
 ·rintro⟨k,hk,hp⟩;exact⟨_,bf (A6.1 hk),hp⟩
 ·rintro⟨x,hx,hp⟩;obtain⟨k,hk,rfl⟩:=BJ hx;exact⟨k,A6.2 hk,by rw[AY,A2 hk]; exact hp⟩
theorem tP {u:Value} {xs:List By} {g:FuncId} (p:By→Bool) (w0:World) (hen:∀args w,(callFunc g args).run Tryz.prog w=.ok (.enter g args) w) (hs:SlAt w0 u 1 (xs.map (λs=>[sv s])))
  (hcl:∀(x:By) (w:World),x∈xs→Ret Tryz.prog g #[sv x] w λv w'=>v=.bool (p x)∧Ext No w w'):
  Ff 146 #[u,.func (.func g) #[] #[]] w0 (.bool (xs.any p)):=by
 have U:St No w0 [join []] w0:=St.join [] [] (St.init w0)
 have h:=jY (M:=No) (wb:=w0) (H:=[]) (sv:=u) (els:=xs.map (λs=>[sv s])) (caps:=[]) (g:=g) (λk=>p (xs.getD k [])) (λk=>sv (xs.getD k [])) (λ_ e=>e=join []) (join []) w0 hen
  (λe w h=>h.arg hs) (λk h=>by rw[aU []]; rfl) rfl U (λk e w hk he hok hlt=>by
   subst he;refine (hcl _ w (bf Er)).mono λv w' ⟨h1,h2⟩=>⟨h1,join [],h2.mono (λk _ hk=>hk.elim),?_,?_,O⟩
   ·exact⟨λe he=>(by cases he),List.Pairwise.nil⟩
   ·rintro b ⟨e,he,_⟩;cases he)
 refine h.mono λv w ⟨h1,k,e,he,U⟩=>⟨?_,U.ext⟩;rw[h1,AP];congr 1;rw[Bool.eq_iff_iff,BM,BM];constructor
 ·rintro⟨k,hk,hp⟩;exact⟨_,bf (A6.1 hk),hp⟩
 ·rintro⟨x,hx,hp⟩;obtain⟨k,hk,rfl⟩:=BJ hx;exact⟨k,A6.2 hk,by rw[AY,A2 hk]; exact hp⟩
theorem yW (s:By) (w0:World):
  Ff 145 #[sv s] w0 (.bool (!decide ((s.length:Int)=32))):=by
 refine Cy func145 O ntmps145 (lb O) λa Y U=>aa λG1=>wla Y O λa Y=>G1<|aa λG2=>wlm Y O λa Y=>au Y U call84 O (mH s _) λa w1 Y U=>nv Y<|AK (bd O)<|AM O<|λa Y=>G2<|ao<|am Y results145 (ae O ag) ?_;exact⟨by rfl,U.ext⟩
theorem zS (x:Pxy) (w0:World):
  Ff 89 #[(EY x)] w0 (.bool (!decide ((x.sig.length:Int)=32))):=by
 refine Cy func89 O ntmps89 (lb O) λa Y U=>aa λG1=>aR Y U O (EX x) O λa w1 Y U=>wla Y O λa Y=>G1<|aa λG2=>nv Y<|AK (ac (v:=po w0.hz 6) O kr)<|AK (ld U 0 O O (isAgg9 _) O)<|AK (aZ O O (runUnderlying9 _))<|AK (v_ne O O)<|AM O<|λa Y=>G2 ?_;replace Y:=Y.p1 2 O;replace U:=U.k0 0 O;refine ao<|am Y results89 (ae O ag) ?_;exact⟨by rfl,U.ext⟩
end Go.Proofs.YtliklcmddmpdfaaGreatDoor
