/- Texts joined: RefV, RefJ, RefK, RclA, RclB, RegA. -/
import Derived.Test.YtliklcmddmpdfaaGreatDoorPSF
import Derived.Test.YtliklcmddmpdfaaGreatDoorPSB
import Derived.Test.YtliklcmddmpdfaaGreatDoorPSE
import Derived.Test.YtliklcmddmpdfaaGreatDoorPSC
import Derived.Test.YtliklcmddmpdfaaGreatDoorPSD
import Derived.Test.YtliklcmddmpdfaaGreatDoorPSA
set_option linter.unusedVariables false
set_option linter.unusedSimpArgs false
set_option maxRecDepth 4000
set_option maxHeartbeats 4000000
namespace Go.Proofs.YtliklcmddmpdfaaGreatDoor
open Go.RowKit Go.PW _root_.Go.Proofs.Tryz
theorem Pxy.ok_bnd {p:Pxy} (h:p.ok=true):0≤p.rt∧p.rt≤100000000:=by
 simp only[Pxy.ok,cG,AU,AZ] at h; omega
theorem Af {x bw:Wsh} {how n:Int} {w0:World} (hbw:bentW x how n=bw) (hh: -9223372036854775808≤how∧how≤9223372036854775807) (hx:x.rt<9223372036854775807) (hx2: -9223372036854775808≤x.rt):
  Ff 105 #[(EW x),jv how,jv n] w0 (.tuple #[(EW bw),.bool (!(decide (bw=x)))]):=by
 subst hbw; exact zU x how n w0 hh hx hx2
def wiB (a b c d e f g h:Int):Bool:=decide (e≤a)&&decide (b≤f)&&decide (g≤c)&&decide (d≤h)
theorem yh (a b c d:Int) (q:Pxy):isInH a b c d q=wiB a b c d q.rf q.rt q.sf q.st:=rfl
section
variable {ks:List By} {x:Wsh} {ps:List Pxy} {number t:Int}
theorem yj {i:Nat} (h:¬formB ks x ps) (hb:badIdx ps 0=some i):whyH ks x ps number t=(1,(i:Int)):=by unfold whyH; rw[Bc h,hb]
theorem wl (h:∀j,j<ks.length→(ks.getD j []).length=32):(ks.all λs=>decide (s.length=32))=true:=by
 refine Be.2 λs hs=>?_;obtain⟨j,hj,rfl⟩:=List.mem_iff_getElem.1 hs;have:=h j hj;rw[AY,A2 hj] at this;exact AQ this
theorem jj {k:Nat} (hk:k<ks.length) (h:¬(ks.getD k []).length=32):(ks.all λs=>decide (s.length=32))=false:=by
 cases hq:ks.all λs=>decide (s.length=32) with
 | false=>rfl
 | true=>exact absurd (of_decide_eq_true (Be.1 hq _ (bf hk))) h
theorem qe {k:Nat} (hk:k<ps.length) (h:(ps.getD k Pxy.z).ok=true):badIdx (ps.drop k) k=badIdx (ps.drop (k+1)) (k+1):=by
 rw[dz Pxy.z hk,badIdx,Bi h]
theorem lx {k:Nat} (hk:k<ps.length) (h:(ps.getD k Pxy.z).ok=false):badIdx (ps.drop k) k=some k:=by
 rw[dz Pxy.z hk,badIdx,Bc (by rw[h]; simp)]
theorem tf {sg who:Int} {k:Nat} (hk:k<ps.length) (h:(ps.getD k Pxy.z).frm=who):bN sg who (ps.drop k) k=bN sg (ps.getD k Pxy.z).to (ps.drop (k+1)) (k+1):=by
 rw[dz Pxy.z hk,bN,Bi h]
theorem sa {sg who:Int} {k:Nat} (hk:k<ps.length) (h:¬(ps.getD k Pxy.z).frm=who):bN sg who (ps.drop k) k=some (k:Int):=by
 rw[dz Pxy.z hk,bN,Bc h]
theorem rl (h:0<ps.length):bt x none ps 0=bt x (prevP ps 1) (ps.drop 1) 1:=by
 cases ps with
 | nil=>cases h
 | cons p l=>rfl
theorem vr (h:ps.length=0):bt x none ps 0=none:=by rw[List.length_eq_zero_iff.1 h]; rfl
theorem yD (h:0<ps.length) (hs:bt x none ps 0=if ps.length=0∨isInH x.rf x.rt x.sf x.st (ps.getD (ps.length- 1) Pxy.z)=true then none else some (-1)):
  bt x none ps 0=if (!(wiB x.rf x.rt x.sf x.st (ps.getD (ps.length- 1) Pxy.z).rf (ps.getD (ps.length- 1) Pxy.z).rt (ps.getD (ps.length- 1) Pxy.z).sf (ps.getD (ps.length- 1) Pxy.z).st))=true then some (-1) else none:=by
 have hl:¬ps.length=0:=by omega
 rw[hs,yh];generalize wiB x.rf x.rt x.sf x.st (ps.getD (ps.length- 1) Pxy.z).rf (ps.getD (ps.length- 1) Pxy.z).rt (ps.getD (ps.length- 1) Pxy.z).sf (ps.getD (ps.length- 1) Pxy.z).st=c;cases c<;>simp[hl]
theorem ua {n a b:Int} (h:n<a∨b≤n):inB n a (b- 1)=false:=by
 unfold inB;rcases h with h|h
 ·rw[AV om]; rfl
 ·rw[AV (by omega:¬n≤b- 1),Bx]
theorem t2 {n a b:Int} (h1:a≤n) (h2:n<b):inB n a (b- 1)=true:=by unfold inB; rw[AQ h1,AQ (by omega:n≤b- 1)]; rfl
end
theorem mz (a1 a2 a3 a4 a5 a6 a7 a8:Int) (w0:World):
  Ff 190 #[.agg #[jv a1,jv a2],.agg #[jv a3,jv a4],.agg #[jv a5,jv a6],.agg #[jv a7,jv a8]] w0 (.bool (wiB a1 a2 a3 a4 a5 a6 a7 a8)):=by
 refine Cz func190 O ntmps190 (lb O) λa Y U=>aa λG1=>aR Y U O [jv a1,jv a2] O λa w1 Y U=>aR Y U O [jv a3,jv a4] O λa w2 Y U=>aR Y U O [jv a5,jv a6] O λa w3 Y U=>aR Y U O [jv a7,jv a8] O λa w4 Y U=>wla Y O λa Y=>G1<|aa λG2=>nv Y<|AK (ac (v:=pq w0.hz) O kr)<|AK (ld U 3 O O (isAgg3 _) O)<|AK (ac (v:=pq w2.hz) O kr)<|AK (ld U 1 O O (isAgg3 _) O)<|AK (v_ge O O)<|AL O<|λa Y=>cP (N:=35) (df:=[]) 6 [(20,.bool ((decide (a5≤a1))&&(decide (a2≤a6)))),(0,.agg #[jv a1,jv a2]),(1,.agg #[jv a3,jv a4]),(2,.agg #[jv a5,jv a6]),(3,.agg #[jv a7,jv a8]),(4,pq w0.hz),(5,pq w1.hz),(6,pq w2.hz),(7,pq w3.hz),(8,.bool false)] ?_ (λhj=>?_)
 rotate_left
 ·rcases AR (decide (a5≤a1)) with hb1|hb1
  ·rw[hb1] at Y;have hb1b:=hb1
   try simp only[qz,AU,Bg,A7,Bf] at hb1
   refine nv Y<|AN (ac (v:=po w0.hz 1) O kr)<|AN (ld U 3 O O (isAgg3 _) O)<|AN (ac (v:=po w2.hz 1) O kr)<|AN (ld U 1 O O (isAgg3 _) O)<|AN (v_le O O)<|AK (aq O O)<|λa Y=>hj _ ?_
   try rw[hb1b]
   exact Y.pick [20,0,1,2,3,4,5,6,7,8]
  rw[hb1] at Y;have hb1b:=hb1
  try simp only[qz,AU,Bg,A7,Bf] at hb1
  refine nv Y<|AO<|AO<|AO<|AO<|AO<|AK (ak O O)<|λa Y=>hj _ ?_
  try rw[hb1b]
  exact Y.pick [20,0,1,2,3,4,5,6,7,8]
 intro a Y;refine wlm Y O λa Y=>cP (N:=35) (df:=[]) 6 [(27,.bool (((decide (a5≤a1))&&(decide (a2≤a6)))&&(decide (a7≤a3)))),(0,.agg #[jv a1,jv a2]),(1,.agg #[jv a3,jv a4]),(2,.agg #[jv a5,jv a6]),(3,.agg #[jv a7,jv a8]),(4,pq w0.hz),(5,pq w1.hz),(6,pq w2.hz),(7,pq w3.hz),(8,.bool false)] ?_ (λhj=>?_)
 rotate_left
 ·rcases AR ((decide (a5≤a1))&&(decide (a2≤a6))) with hb2|hb2
  ·rw[hb2] at Y;have hb2b:=hb2
   try simp only[qz,AU,Bg,A7,Bf] at hb2
   refine nv Y<|AN (ac (v:=pq w1.hz) O kr)<|AN (ld U 2 O O (isAgg3 _) O)<|AN (ac (v:=pq w3.hz) O kr)<|AN (ld U 0 O O (isAgg3 _) O)<|AN (v_ge O O)<|AK (aq O O)<|λa Y=>hj _ ?_
   try rw[hb2b]
   exact Y.pick [27,0,1,2,3,4,5,6,7,8]
  rw[hb2] at Y;have hb2b:=hb2
  try simp only[qz,AU,Bg,A7,Bf] at hb2
  refine nv Y<|AO<|AO<|AO<|AO<|AO<|AK (ak O O)<|λa Y=>hj _ ?_
  try rw[hb2b]
  exact Y.pick [27,0,1,2,3,4,5,6,7,8]
 intro a Y;refine wlm Y O λa Y=>cP (N:=35) (df:=[]) 6 [(34,.bool ((((decide (a5≤a1))&&(decide (a2≤a6)))&&(decide (a7≤a3)))&&(decide (a4≤a8)))),(0,.agg #[jv a1,jv a2]),(1,.agg #[jv a3,jv a4]),(2,.agg #[jv a5,jv a6]),(3,.agg #[jv a7,jv a8]),(4,pq w0.hz),(5,pq w1.hz),(6,pq w2.hz),(7,pq w3.hz),(8,.bool false)] ?_ (λhj=>?_)
 rotate_left
 ·rcases AR (((decide (a5≤a1))&&(decide (a2≤a6)))&&(decide (a7≤a3))) with hb3|hb3
  ·rw[hb3] at Y;have hb3b:=hb3
   try simp only[qz,AU,Bg,A7,Bf] at hb3
   refine nv Y<|AN (ac (v:=po w1.hz 1) O kr)<|AN (ld U 2 O O (isAgg3 _) O)<|AN (ac (v:=po w3.hz 1) O kr)<|AN (ld U 0 O O (isAgg3 _) O)<|AN (v_le O O)<|AK (aq O O)<|λa Y=>hj _ ?_
   try rw[hb3b]
   exact Y.pick [34,0,1,2,3,4,5,6,7,8]
  rw[hb3] at Y;have hb3b:=hb3
  try simp only[qz,AU,Bg,A7,Bf] at hb3
  refine nv Y<|AO<|AO<|AO<|AO<|AO<|AK (ak O O)<|λa Y=>hj _ ?_
  try rw[hb3b]
  exact Y.pick [34,0,1,2,3,4,5,6,7,8]
 intro a Y;refine wla Y O λa Y=>G2 ?_;replace Y:=Y.p1 8 O;replace U:=U.k0 0 O;refine ao<|am Y results190 (ae O ag) ?_;exact⟨by rfl,U.ext⟩
theorem sQ (x:Wsh) (lv:Value) (ps:List Pxy) (w0:World) (hlv:SlAt w0 lv 7 (ps.map Pxy.cells)):
  Ff 152 #[(EW x),lv] w0 (.bool (cf x ps)):=by
 have hxb:=hlv.2.1;simp only[AP,big] at hxb;refine Cx func152 O ntmps152 (lb O) λa Y U=>aa λG1=>aR Y U O (EV x) O λa w1 Y U=>wla Y O λa Y=>G1<|ah λG2=>aa λG3=>wlv Y (ar (U.g 0 O) O (isAgg90 _) (sizeOf90 _)) λa Y=>au Y U call135 O (mM x _) λa w2 Y U=>nv Y<|AK (bd O)<|AL O<|λa Y=>?_;rcases AR (!x.ok) with hb1|hb1
 ·rw[hb1] at Y
  try simp only[qz] at hb1
  refine nv Y<|AO<|AO<|AO<|AK (aq O O)<|λa Y=>G3 ?_;replace Y:=Y.p3 1 4 13 O;replace U:=U.k0 0 O;refine aC Y O ?_;refine aa λG4=>wla Y O λa Y=>G4<|ao<|am Y results152 (ae O ag) ?_;refine⟨?_,U.ext⟩;simp only[retv];unfold cf
  first|(rw[hbi,lx hkx EO]; simp; done)|(rw[AV (by omega:¬ps.length≤4)]; simp; done)|(rw[(by simpa using hb1:x.ok=false)]; rfl)
 rw[hb1] at Y
 try simp only[qz] at hb1
 refine nv Y<|AN (ax O)<|AN ((aH (sT:=91) (U.arg hlv) O O (runUnderlying91 _)).asi (m':=(ps.length:Int)) CU)<|AN (v_gt O O)<|AK (ak O O)<|λa Y=>G3 ?_;replace Y:=Y.p3 1 4 13 O;replace U:=U.k0 0 O;refine ay Y O (λhc2=>?_) (λhc2=>?_)
 ·refine aa λG5=>wla Y O λa Y=>G5<|ao<|am Y results152 (ae O ag) ?_;refine⟨?_,U.ext⟩;simp only[retv];unfold cf
  first|(rw[hbi,lx hkx (by simpa using hc2)]; simp; done)|(rw[AV (by omega:¬ps.length≤4)]; simp; done)|(rw[(by simpa using hc2:x.ok=false)]; rfl)
 refine ap<|G2<|ah λG6=>?_;have hxo:x.ok=true:=by simpa using hb1
 refine aa λG7=>wla Y O λa Y=>G7<|aw<|aV (λm a w=>∃(k:Nat),m=ps.length- k∧(k≤ps.length)∧(badIdx ps 0=badIdx (ps.drop k) k)∧Fr 26 [(1,lv),(5,jv (k:Int))] [] a∧St No w0 [] w) _ ⟨0,O,A8 _,O,Y.pick [1,5],U.select [] de⟩ ?_;rintro _ a w3 ⟨k,rfl,hk,hbi,Y,U⟩;refine ah λG8=>aa λG9=>nv Y<|AL O<|AL O<|AK ((aH (sT:=91) (U.arg hlv) O O (runUnderlying91 _)).asi (m':=(ps.length:Int)) CU)<|AK (v_lt O O)<|λa Y=>G9<|ay Y O (λhc3=>?_) (λhc3=>?_)
 ·have hkx:k<ps.length:=by omega
  refine ap<|G8<|ah λG10=>aw<|aa λG11=>nv Y<|AL O<|AL O<|AK ((ai (i:=(k:Int)) (sT:=91) (U.arg hlv) O O (runUnderlying91 _) (sizeOf144 _) om CH).as (v':=slAddr lv (k*7)) O)<|AK ((bI (U.arg hlv) (i:=k) CH O (isAgg144 _) (sizeOf144 _)).as (v':=.agg #[jv ((ps.getD k Pxy.z).frm),jv ((ps.getD k Pxy.z).to),jv ((ps.getD k Pxy.z).rf),jv ((ps.getD k Pxy.z).rt),jv ((ps.getD k Pxy.z).sf),jv ((ps.getD k Pxy.z).st),sv ((ps.getD k Pxy.z).sig)]) C4)<|λa Y=>au Y U call132 O (j6 (ps.getD k Pxy.z) _) λa w4 Y U=>wlv Y (bd O) λa Y=>G11 ?_;replace Y:=Y.p3 1 5 25 O;refine bn Y O (λhc4=>?_) (λhc4=>?_)
  ·try simp only[qz] at hc4
   refine aa λG12=>wla Y O λa Y=>G12<|ao<|am Y results152 (ae O ag) ?_;refine⟨?_,U.ext⟩;simp only[retv];unfold cf
   first|(rw[hbi,lx hkx (by simpa using hc4)]; simp; done)|(rw[AV (by omega:¬ps.length≤4)]; simp; done)|(rw[(by simpa using hc4:x.ok=false)]; rfl)
  try simp only[qz] at hc4
  refine ap<|G10<|al<|nv Y<|AL O<|AK (aK O O ⟨om,om⟩)<|AM O<|λa Y=>ab ?_;refine⟨_,?_,k+1,O,om,(by rw[hbi]; exact qe hkx (by simpa using hc4)),Y.pick [1,5],U.select [] de⟩;omega
 have hke:k=ps.length:=by omega
 rw[hke,List.drop_length] at hbi;refine aN<|G6<|aa λG13=>wla Y O λa Y=>G13 ?_;replace Y:=Y.p1 4 O;refine ao<|am Y results152 (ae O ag) ?_;exact⟨by simp only[retv]; unfold cf; rw[hbi,badIdx,hxo,AQ (by omega:ps.length≤4)]; rfl,U.ext⟩
theorem yL (kv lv:Value) (ks:List By) (x:Wsh) (ps:List Pxy) (number t:Int) (w0:World) (hkv:SlAt w0 kv 1 (ks.map λs=>[sv s])) (hlv:SlAt w0 lv 7 (ps.map Pxy.cells)):
  Ff 166 #[kv,(EW x),lv,jv number,jv t] w0 (.tuple #[jv (whyH ks x ps number t).1,jv (whyH ks x ps number t).2]):=by
 have hxb:=hlv.2.1;simp only[AP,big] at hxb;have hyb:=hkv.2.1;simp only[AP,big] at hyb;refine CA func166 O ntmps166 (lb O) λa Y U=>aa λG1=>aR Y U O (EV x) O λa w1 Y U=>nv Y<|AM O<|AM O<|λa Y=>G1<|ah λG2=>aa λG3=>nv Y<|AL O<|AK ((aH (sT:=44) (U.arg hkv) O O (runUnderlying44 _)).asi (m':=(ks.length:Int)) CU)<|AK (v_gt O O)<|AL O<|λa Y=>?_;rcases Decidable.em (64<(ks.length:Int)) with hb1|hb1
 ·rw[AQ hb1] at Y;refine nv Y<|AO<|AO<|AO<|AK (aq O O)<|AL O<|AO<|AO<|AO<|AK (aq O O)<|λa Y=>G3 ?_;replace Y:=Y.p8 0 2 3 4 6 10 11 30 O;refine aC Y O ?_;refine aa λG4=>nv Y<|AM O<|AM O<|λa Y=>G4<|ao<|am Y results166 (ae O (ae O ag)) ?_;exact⟨by rw[ef (by unfold formB; first|exact .inl om|exact .inr (.inr (.inr om))|exact .inr (.inr (.inl EO))|exact .inr (.inl (jj hkx om)))]; rfl,U.ext⟩
 rw[AV hb1] at Y;refine wly Y (ar (U.g 0 O) O (isAgg90 _) (sizeOf90 _)) λa Y=>aF Y U call135 O (mM x _) λa w2 Y U=>nv Y<|AN (bd O)<|AK (ak O O)<|AL O<|λa Y=>?_;rcases AR (!x.ok) with hb2|hb2
 ·rw[hb2] at Y
  try simp only[qz] at hb2
  refine nv Y<|AO<|AO<|AO<|AK (aq O O)<|λa Y=>G3 ?_;replace Y:=Y.p8 0 2 3 4 6 10 11 30 O;refine aC Y O ?_;refine aa λG5=>nv Y<|AM O<|AM O<|λa Y=>G5<|ao<|am Y results166 (ae O (ae O ag)) ?_;exact⟨by rw[ef (by unfold formB; first|exact .inl om|exact .inr (.inr (.inr om))|exact .inr (.inr (.inl (by simpa using hb2)))|exact .inr (.inl (jj hkx om)))]; rfl,U.ext⟩
 rw[hb2] at Y
 try simp only[qz] at hb2
 refine nv Y<|AN (ax O)<|AN ((aH (sT:=91) (U.arg hlv) O O (runUnderlying91 _)).asi (m':=(ps.length:Int)) CU)<|AN (v_gt O O)<|AK (ak O O)<|λa Y=>G3 ?_;replace Y:=Y.p8 0 2 3 4 6 10 11 30 O;refine ay Y O (λhc3=>?_) (λhc3=>?_)
 ·refine aa λG6=>nv Y<|AM O<|AM O<|λa Y=>G6<|ao<|am Y results166 (ae O (ae O ag)) ?_;exact⟨by rw[ef (by unfold formB; first|exact .inl om|exact .inr (.inr (.inr om))|exact .inr (.inr (.inl (by simpa using hc3)))|exact .inr (.inl (jj hkx om)))]; rfl,U.ext⟩
 refine ap<|G2<|ah λG7=>aa λG8=>wla Y O λa Y=>G8<|aw<|aV (λm a w=>∃(k:Nat),m=ks.length- k∧(k≤ks.length)∧(∀j,j<k→(ks.getD j []).length=32)∧Fr 216 [(0,kv),(2,lv),(3,jv number),(4,jv t),(6,pq w0.hz),(12,jv (k:Int))] [] a∧St No w0 [blk w0.hz (EV x) 90] w) _ ⟨0,O,A8 _,(λj h=>absurd h (Cl _)),Y.pick [0,2,3,4,6,12],U.select [0] de⟩ ?_;rintro _ a w3 ⟨k,rfl,hk,hks,Y,U⟩;refine ah λG9=>aa λG10=>nv Y<|AL O<|AL O<|AK ((aH (sT:=44) (U.arg hkv) O O (runUnderlying44 _)).asi (m':=(ks.length:Int)) CU)<|AK (v_lt O O)<|λa Y=>G10<|ay Y O (λhc4=>?_) (λhc4=>?_)
 ·have hkx:k<ks.length:=by omega
  refine ap<|G9<|ah λG11=>aw<|aa λG12=>nv Y<|AL O<|AL O<|AK ((ai (i:=(k:Int)) (sT:=44) (U.arg hkv) O O (runUnderlying44 _) (sizeOf9 _) om CH).as (v':=slAddr kv (k*1)) O)<|AK (az (u:=sv (ks.getD k [])) (i:=k) (j:=0) (U.arg hkv) CH O (isAgg9 _) Dt)<|AK (aZ O O (runUnderlying9 _))<|AK (v_ne O O)<|λa Y=>G12 ?_;replace Y:=Y.p7 0 2 3 4 6 12 42 O;refine bV Y O (λhc5=>?_) (λhc5=>?_)
  ·refine aa λG13=>nv Y<|AM O<|AM O<|λa Y=>G13<|ao<|am Y results166 (ae O (ae O ag)) ?_;exact⟨by rw[ef (by unfold formB; first|exact .inl om|exact .inr (.inr (.inr om))|exact .inr (.inr (.inl (by simpa using hc5)))|exact .inr (.inl (jj hkx om)))]; rfl,U.ext⟩
  refine ap<|G11<|al<|nv Y<|AL O<|AK (aK O O ⟨om,om⟩)<|AM O<|λa Y=>ab ?_;refine⟨_,?_,k+1,O,om,(λj h=>by rcases Nat.lt_succ_iff_lt_or_eq.1 h with h|rfl; exact hks j h; omega),Y.pick [0,2,3,4,6,12],U.select [0] de⟩;omega
 have hkall:=wl (ks:=ks) λj hj=>hks j om;refine aN<|G7<|ah λG14=>?_;have hxo:x.ok=true:=by simpa using hb2
 have hnf:¬formB ks x ps:=by
  rintro (h|h|h|h)
  ·omega
  ·rw[hkall] at h; cases h
  ·rw[hxo] at h; cases h
  ·omega
 have hk32:=ul hnf;have hxd:=Wsh.ok_bnd hxo;have hxg:=Wsh.ok_signer hxo;refine aa λG15=>wla Y O λa Y=>G15 ?_;replace Y:=Y.p6 0 2 3 4 6 13 O;refine aw<|aV (λm a w=>∃(k:Nat),m=ps.length- k∧(k≤ps.length)∧(badIdx ps 0=badIdx (ps.drop k) k)∧Fr 216 [(0,kv),(2,lv),(3,jv number),(4,jv t),(6,pq w0.hz),(13,jv (k:Int))] [] a∧St No w0 [blk w0.hz (EV x) 90] w) _ ⟨0,O,A8 _,O,Y.pick [0,2,3,4,6,13],U.select [0] de⟩ ?_;rintro _ a w4 ⟨k,rfl,hk,hbi,Y,U⟩;refine ah λG16=>aa λG17=>nv Y<|AL O<|AL O<|AK ((aH (sT:=91) (U.arg hlv) O O (runUnderlying91 _)).asi (m':=(ps.length:Int)) CU)<|AK (v_lt O O)<|λa Y=>G17<|ay Y O (λhc6=>?_) (λhc6=>?_)
 ·have hkx:k<ps.length:=by omega
  refine ap<|G16<|ah λG18=>aw<|aa λG19=>nv Y<|AL O<|AL O<|AK ((ai (i:=(k:Int)) (sT:=91) (U.arg hlv) O O (runUnderlying91 _) (sizeOf144 _) om CH).as (v':=slAddr lv (k*7)) O)<|AK ((bI (U.arg hlv) (i:=k) CH O (isAgg144 _) (sizeOf144 _)).as (v':=.agg #[jv ((ps.getD k Pxy.z).frm),jv ((ps.getD k Pxy.z).to),jv ((ps.getD k Pxy.z).rf),jv ((ps.getD k Pxy.z).rt),jv ((ps.getD k Pxy.z).sf),jv ((ps.getD k Pxy.z).st),sv ((ps.getD k Pxy.z).sig)]) C4)<|λa Y=>au Y U call132 O (j6 (ps.getD k Pxy.z) _) λa w5 Y U=>wlv Y (bd O) λa Y=>G19 ?_;replace Y:=Y.p7 0 2 3 4 6 13 54 O;refine bn Y O (λhc7=>?_) (λhc7=>?_)
  ·try simp only[qz] at hc7
   refine aa λG20=>nv Y<|AL O<|AM O<|AM O<|λa Y=>G20<|ao<|am Y results166 (ae O (ae O ag)) ?_;exact⟨by rw[yj hnf (by rw[hbi]; exact lx hkx (by simpa using hc7))]; rfl,U.ext⟩
  try simp only[qz] at hc7
  refine ap<|G18<|al<|nv Y<|AL O<|AK (aK O O ⟨om,om⟩)<|AM O<|λa Y=>ab ?_;refine⟨_,?_,k+1,O,om,(by rw[hbi]; exact qe hkx (by simpa using hc7)),Y.pick [0,2,3,4,6,13],U.select [0] de⟩;omega
 have hke:k=ps.length:=by omega
 have hbn:badIdx ps 0=none:=by rw[hbi,hke,List.drop_length]; rfl
 refine aN<|G14<|ah λG21=>aa λG22=>nv Y<|AL O<|AK (ac (v:=po w0.hz 6) O kr)<|AK (ac (v:=po w0.hz 6) O kr)<|AK (ld U 0 O O (isAgg3 _) O)<|AK (v_lt O O)<|AL O<|λa Y=>?_;rcases Decidable.em (t<x.sf) with hb8|hb8
 ·rw[AQ hb8] at Y;refine nv Y<|AO<|AO<|AO<|AO<|AO<|AK (aq O O)<|λa Y=>G22 ?_;replace Y:=Y.p5 0 2 3 6 67 O;refine aC Y O ?_;refine aa λG23=>nv Y<|AM O<|AM O<|λa Y=>G23<|ao<|am Y results166 (ae O (ae O ag)) ?_;exact⟨by rw[gL hnf hbn (ua om)]; rfl,U.ext⟩
 rw[AV hb8] at Y;refine nv Y<|AN (ax O)<|AN (ac (v:=po w0.hz 6) O kr)<|AN (ac (v:=po w0.hz 7) O kr)<|AN (ld U 0 O O (isAgg3 _) O)<|AN (v_ge O O)<|AK (ak O O)<|λa Y=>G22 ?_;replace Y:=Y.p5 0 2 3 6 67 O;refine ay Y O (λhc9=>?_) (λhc9=>?_)
 ·refine aa λG24=>nv Y<|AM O<|AM O<|λa Y=>G24<|ao<|am Y results166 (ae O (ae O ag)) ?_;exact⟨by rw[gL hnf hbn (ua om)]; rfl,U.ext⟩
 refine ap<|G21<|ah λG25=>aa λG26=>nv Y<|AL O<|AK (ac (v:=po w0.hz 2) O kr)<|AK (ac (v:=po w0.hz 2) O kr)<|AK (ld U 0 O O (isAgg3 _) O)<|AK (v_lt O O)<|AL O<|λa Y=>?_;rcases Decidable.em (number<x.rf) with hb10|hb10
 ·rw[AQ hb10] at Y;refine nv Y<|AO<|AO<|AO<|AO<|AO<|AK (aq O O)<|λa Y=>G26 ?_;replace Y:=Y.p4 0 2 6 79 O;refine aC Y O ?_;refine aa λG27=>nv Y<|AM O<|AM O<|λa Y=>G27<|ao<|am Y results166 (ae O (ae O ag)) ?_;exact⟨by rw[j0 hnf hbn (t2 om om) (ua om)]; rfl,U.ext⟩
 rw[AV hb10] at Y;refine nv Y<|AN (ax O)<|AN (ac (v:=po w0.hz 2) O kr)<|AN (ac (v:=po w0.hz 3) O kr)<|AN (ld U 0 O O (isAgg3 _) O)<|AN (v_ge O O)<|AK (ak O O)<|λa Y=>G26 ?_;replace Y:=Y.p4 0 2 6 79 O;refine ay Y O (λhc11=>?_) (λhc11=>?_)
 ·refine aa λG28=>nv Y<|AM O<|AM O<|λa Y=>G28<|ao<|am Y results166 (ae O (ae O ag)) ?_;exact⟨by rw[j0 hnf hbn (t2 om om) (ua om)]; rfl,U.ext⟩
 refine ap<|G25 ?_;have hwp:whyP ks x ps number t:=⟨hnf,hbn,t2 om om,t2 om om⟩;refine aa λG29=>nv Y<|AK (ac (v:=po w0.hz 1) O kr)<|AK (ld U 0 O O (isAgg3 _) O)<|AM O<|λa Y=>G29<|ah λG30=>aa λG31=>wla Y O λa Y=>G31<|aw<|aV (λm a w=>∃(k:Nat) (who:Int),m=ps.length- k∧(k≤ps.length)∧(bN x.signer x.holder ps 0=bN x.signer who (ps.drop k) k)∧Fr 216 [(0,kv),(2,lv),(6,pq w0.hz),(14,jv who),(15,jv (k:Int))] [] a∧St No w0 [blk w0.hz (EV x) 90] w) _ ⟨0,x.holder,O,A8 _,O,Y.pick [0,2,6,14,15],U.select [0] de⟩ ?_;rintro _ a w6 ⟨k,who,rfl,hk,hcb,Y,U⟩;refine ah λG32=>aa λG33=>nv Y<|AL O<|AL O<|AK ((aH (sT:=91) (U.arg hlv) O O (runUnderlying91 _)).asi (m':=(ps.length:Int)) CU)<|AK (v_lt O O)<|λa Y=>G33<|ay Y O (λhc12=>?_) (λhc12=>?_)
 ·have hkx:k<ps.length:=by omega
  have hpk:=dr hbn _ (bf (d:=Pxy.z) hkx);have hp0:=Pxy.ok_frm hpk;refine ap<|G32<|ah λG34=>aw<|ah λG35=>aa λG36=>nv Y<|AL O<|AL O<|AK ((ai (i:=(k:Int)) (sT:=91) (U.arg hlv) O O (runUnderlying91 _) (sizeOf144 _) om CH).as (v':=slAddr lv (k*7)) O)<|AK (aQ (k:=k*7) (j:=0) (U.arg hlv) (i:=k) CH O (λ_ _=>by kernel_rfl))<|AK (az (u:=jv ((ps.getD k Pxy.z).frm)) (i:=k) (j:=0) (U.arg hlv) CH O (isAgg3 _) C4)<|AL O<|AK (v_ne O O)<|λa Y=>G36 ?_;replace Y:=Y.p5 0 2 6 15 94 O;refine bV Y O (λhc13=>?_) (λhc13=>?_)
  ·refine aa λG37=>nv Y<|AL O<|AM O<|AM O<|λa Y=>G37<|ao<|am Y results166 (ae O (ae O ag)) ?_;exact⟨by rw[ij hwp (by rw[hcb]; exact sa hkx hc13)]; rfl,U.ext⟩
  refine ap<|G35<|al<|nv Y<|AL O<|AL O<|AK ((ai (i:=(k:Int)) (sT:=91) (U.arg hlv) O O (runUnderlying91 _) (sizeOf144 _) om CH).as (v':=slAddr lv (k*7)) O)<|AK (aQ (k:=k*7) (j:=1) (U.arg hlv) (i:=k) CH O (λ_ _=>by kernel_rfl))<|AK (az (u:=jv ((ps.getD k Pxy.z).to)) (i:=k) (j:=1) (U.arg hlv) CH O (isAgg3 _) C4)<|AM O<|λa Y=>ab<|G34<|al<|nv (Y.p5 0 2 6 15 14 O)<|AL O<|AK (aK O O ⟨om,om⟩)<|AM O<|λa Y=>ab ?_;refine⟨_,?_,k+1,(ps.getD k Pxy.z).to,O,om,(by rw[hcb]; exact tf hkx hc13),Y.pick [0,2,6,14,15],U.select [0] de⟩;omega
 have hke:k=ps.length:=by omega
 rw[hke,List.drop_length] at hcb;refine aN<|G30<|ah λG38=>aa λG39=>nv Y<|AK (ac (v:=pq w0.hz) O kr)<|AK (ld U 0 O O (isAgg3 _) O)<|AL O<|AK (v_ne O O)<|λa Y=>G39 ?_;replace Y:=Y.p4 0 2 6 104 O;refine bV Y O (λhc14=>?_) (λhc14=>?_)
 ·refine aa λG40=>nv Y<|AM O<|AM O<|λa Y=>G40<|ao<|am Y results166 (ae O (ae O ag)) ?_;exact⟨by rw[ij hwp (by rw[hcb,bN,Bc om])]; rfl,U.ext⟩
 refine ap<|G38<|ah λG41=>?_;have hch:bN x.signer x.holder ps 0=none:=by rw[hcb,bN,Bi om]
 refine aa λG42=>wla Y O λa Y=>G42<|aw<|aV (λm a w=>∃(k:Nat),m=ps.length- k∧(k≤ps.length∨k=1)∧(1≤k)∧(0<ps.length→bt x none ps 0=bt x (prevP ps k) (ps.drop k) k)∧Fr 216 [(0,kv),(2,lv),(6,pq w0.hz),(16,jv (k:Int))] [] a∧St No w0 [blk w0.hz (EV x) 90] w) _ ⟨1,O,(.inr O),Bs _,rl,Y.pick [0,2,6,16],U.select [0] de⟩ ?_;rintro _ a w7 ⟨k,rfl,hk,hk1,hs,Y,U⟩;refine ah λG43=>aa λG44=>nv Y<|AL O<|AL O<|AK ((aH (sT:=91) (U.arg hlv) O O (runUnderlying91 _)).asi (m':=(ps.length:Int)) CU)<|AK (v_lt O O)<|λa Y=>G44<|ay Y O (λhc15=>?_) (λhc15=>?_)
 ·have hkx:k<ps.length:=by omega
  have hpk:=dr hbn _ (bf (d:=Pxy.z) hkx);have hp0:=Pxy.ok_frm hpk;refine ap<|G43<|ah λG45=>aw<|ah λG46=>aL (aM λw8 hxz=>?_);replace U:=U.grow hxz;refine aP (k:=0) 22 [4,9,15,21] Y ?_;replace Y:=Y.p7 0 2 6 16 105 106 107 O;refine bB 22 Y U<|pl_m O<|pl_m O<|pl_w (λU=>(ai (i:=(k:Int)) (sT:=91) (U.arg hlv) O O (runUnderlying91 _) (sizeOf144 _) om CH).as (v':=slAddr lv (k*7)) O)<|pl_w (λU=>aQ (k:=k*7) (j:=2) (U.arg hlv) (i:=k) CH O (λ_ _=>by kernel_rfl))<|pl_w (λU=>eF (i:=k) (j:=2) (ds:=[jv ((ps.getD k Pxy.z).rf),jv ((ps.getD k Pxy.z).rt)]) (U.arg hlv) CH O (isAgg87 _) (sizeOf87 _) C4)<|pl_m O<|pl_m O<|pl_w (λU=>(ai (i:=(k:Int)) (sT:=91) (U.arg hlv) O O (runUnderlying91 _) (sizeOf144 _) om CH).as (v':=slAddr lv (k*7)) O) ?_;refine pl_w (λU=>aQ (k:=k*7) (j:=4) (U.arg hlv) (i:=k) CH O (λ_ _=>by kernel_rfl))<|pl_w (λU=>eF (i:=k) (j:=4) (ds:=[jv ((ps.getD k Pxy.z).sf),jv ((ps.getD k Pxy.z).st)]) (U.arg hlv) CH O (isAgg88 _) (sizeOf88 _) C4)<|pl_m O<|pl_m O<|pl_v (bF O O ⟨om,om⟩)<|pl_w (λU=>(ai (i:=(k:Int)- 1) (sT:=91) (U.arg hlv) O O (runUnderlying91 _) (sizeOf144 _) om CH).as (v':=slAddr lv ((k- 1)*7)) C6)<|pl_w (λU=>aQ (k:=(k- 1)*7) (j:=2) (U.arg hlv) (i:=(k- 1)) CH O (λ_ _=>by kernel_rfl)) ?_;refine pl_w (λU=>eF (i:=(k- 1)) (j:=2) (ds:=[jv ((ps.getD (k- 1) Pxy.z).rf),jv ((ps.getD (k- 1) Pxy.z).rt)]) (U.arg hlv) CH O (isAgg87 _) (sizeOf87 _) C4)<|pl_m O<|pl_m O<|pl_v (bF O O ⟨om,om⟩)<|pl_w (λU=>(ai (i:=(k:Int)- 1) (sT:=91) (U.arg hlv) O O (runUnderlying91 _) (sizeOf144 _) om CH).as (v':=slAddr lv ((k- 1)*7)) C6)<|pl_w (λU=>aQ (k:=(k- 1)*7) (j:=4) (U.arg hlv) (i:=(k- 1)) CH O (λ_ _=>by kernel_rfl)) ?_;refine pl_w (λU=>eF (i:=(k- 1)) (j:=4) (ds:=[jv ((ps.getD (k- 1) Pxy.z).sf),jv ((ps.getD (k- 1) Pxy.z).st)]) (U.arg hlv) CH O (isAgg88 _) (sizeOf88 _) C4) λa w9 Y U=>?_;replace Y:=Y.p8 0 2 6 16 115 120 126 132 O;refine ab<|aI (k:=22) 24 [23] ?_;refine au Y U call190 O (mz ((ps.getD k Pxy.z).rf) ((ps.getD k Pxy.z).rt) ((ps.getD k Pxy.z).sf) ((ps.getD k Pxy.z).st) ((ps.getD (k- 1) Pxy.z).rf) ((ps.getD (k- 1) Pxy.z).rt) ((ps.getD (k- 1) Pxy.z).sf) ((ps.getD (k- 1) Pxy.z).st) _) λa w10 Y U=>wlv Y (bd O) λa Y=>ab<|aO<|G46<|bn Y O (λhc16=>?_) (λhc16=>?_)
  ·try simp only[qz] at hc16
   refine aa λG47=>nv Y<|AL O<|AM O<|AM O<|λa Y=>G47 ?_;replace Y:=Y.p6 0 2 6 16 10 11 O;refine ao<|am Y results166 (ae O (ae O ag)) ?_;exact⟨by rw[ik hwp hch (by rw[hs om]; exact oI hkx om ((yh _ _ _ _ _).trans (by simpa using hc16)))]; rfl,U.ext⟩
  try simp only[qz] at hc16
  refine ap<|G45<|al<|nv Y<|AL O<|AK (aK O O ⟨om,om⟩)<|AM O<|λa Y=>ab ?_;refine⟨_,?_,k+1,O,(.inl om),om,(λh=>by rw[hs h]; exact jf hkx (.inr ((yh _ _ _ _ _).trans (by simpa using hc16)))),Y.pick [0,2,6,16],U.select [0] de⟩;omega
 have hsc:0<ps.length→bt x none ps 0=if ps.length=0∨isInH x.rf x.rt x.sf x.st (ps.getD (ps.length- 1) Pxy.z)=true then none else some (-1):=λh=>by rw[hs h,show k=ps.length by omega,oE]
 refine aN<|G41<|ah λG48=>ah λG49=>dQ (λa w=>∃(b:Bool),(bt x none ps 0=if b=true then some (-1) else none)∧Fr 216 [(0,kv),(2,lv),(6,pq w0.hz),(160,.bool b)] [] a∧St No w0 [blk w0.hz (EV x) 90] w) ?_ ?_
 ·refine aL (aM λw11 hxz=>?_);replace U:=U.grow hxz;refine aI (k:=0) 4 [3] ?_;refine nv Y<|AL O<|AK ((aH (sT:=91) (U.arg hlv) O O (runUnderlying91 _)).asi (m':=(ps.length:Int)) CU)<|AK (v_gt O O)<|AL O<|λa Y=>ab ?_;rcases Decidable.em (0<(ps.length:Int)) with hb17|hb17
  ·rw[AQ hb17] at Y;refine aP (k:=4) 22 [5,7,14,21] Y ?_;replace Y:=Y.p11 0 2 6 16 105 106 107 136 137 138 139 O;refine bB 18 Y U<|pl_v (ac (v:=po w0.hz 2) O kr)<|pl_w (λU=>bJ (ds:=[jv x.rf,jv x.rt]) (U.g 0 O) O (isAgg87 _) (sizeOf87 _) O)<|pl_v (ac (v:=po w0.hz 6) O kr)<|pl_w (λU=>bJ (ds:=[jv x.sf,jv x.st]) (U.g 0 O) O (isAgg88 _) (sizeOf88 _) O)<|pl_m O<|pl_m O<|pl_w (λU=>(aH (sT:=91) (U.arg hlv) O O (runUnderlying91 _)).asi (m':=(ps.length:Int)) CU)<|pl_v (bF O O ⟨om,om⟩) ?_;refine pl_w (λU=>(ai (i:=(ps.length:Int)- 1) (sT:=91) (U.arg hlv) O O (runUnderlying91 _) (sizeOf144 _) om CH).as (v':=slAddr lv ((ps.length- 1)*7)) EF)<|pl_w (λU=>aQ (k:=(ps.length- 1)*7) (j:=2) (U.arg hlv) (i:=(ps.length- 1)) CH O (λ_ _=>by kernel_rfl))<|pl_w (λU=>eF (i:=(ps.length- 1)) (j:=2) (ds:=[jv ((ps.getD (ps.length- 1) Pxy.z).rf),jv ((ps.getD (ps.length- 1) Pxy.z).rt)]) (U.arg hlv) CH O (isAgg87 _) (sizeOf87 _) C4)<|pl_m O<|pl_m O ?_;refine pl_w (λU=>(aH (sT:=91) (U.arg hlv) O O (runUnderlying91 _)).asi (m':=(ps.length:Int)) CU)<|pl_v (bF O O ⟨om,om⟩)<|pl_w (λU=>(ai (i:=(ps.length:Int)- 1) (sT:=91) (U.arg hlv) O O (runUnderlying91 _) (sizeOf144 _) om CH).as (v':=slAddr lv ((ps.length- 1)*7)) EF)<|pl_w (λU=>aQ (k:=(ps.length- 1)*7) (j:=4) (U.arg hlv) (i:=(ps.length- 1)) CH O (λ_ _=>by kernel_rfl)) ?_;refine pl_w (λU=>eF (i:=(ps.length- 1)) (j:=4) (ds:=[jv ((ps.getD (ps.length- 1) Pxy.z).sf),jv ((ps.getD (ps.length- 1) Pxy.z).st)]) (U.arg hlv) CH O (isAgg88 _) (sizeOf88 _) C4) λa w12 Y U=>?_;replace Y:=Y.p8 0 2 6 139 141 143 150 157 O;refine ab<|aI (k:=22) 25 [24] ?_;refine aF Y U call190 O (mz x.rf x.rt x.sf x.st ((ps.getD (ps.length- 1) Pxy.z).rf) ((ps.getD (ps.length- 1) Pxy.z).rt) ((ps.getD (ps.length- 1) Pxy.z).sf) ((ps.getD (ps.length- 1) Pxy.z).st) _) λa w13 Y U=>nv Y<|AN (bd O)<|AK (aq O O)<|λa Y=>ab<|aO ?_;exact⟨!(wiB x.rf x.rt x.sf x.st ((ps.getD (ps.length- 1) Pxy.z).rf) ((ps.getD (ps.length- 1) Pxy.z).rt) ((ps.getD (ps.length- 1) Pxy.z).sf) ((ps.getD (ps.length- 1) Pxy.z).st)),(yD om (hsc om)),Y.pick [0,2,6,160],U.select [0] de⟩
  rw[AV hb17] at Y;refine bR (k:=4) 22 [5,7,14,21] (Y.p11 0 2 6 16 105 106 107 136 137 138 139 O) λa Y=>?_;replace Y:Fr 216 [(140,undef),(141,undef),(142,undef),(143,undef),(144,undef),(145,undef),(146,undef),(147,undef),(148,undef),(149,undef),(150,undef),(151,undef),(152,undef),(153,undef),(154,undef),(155,undef),(156,undef),(157,undef),(0,kv),(2,lv),(6,pq w0.hz),(16,jv (k:Int)),(105,jv (k:Int)),(106,lv),(107,jv (ps.length:Int)),(136,lv),(137,jv (ps.length:Int)),(138,.bool false),(139,.bool false)] [] a:=Y;refine aI (k:=22) 25 [24] ?_;refine nv Y<|AO<|AO<|AK (ak O O)<|λa Y=>ab<|aO ?_;exact⟨false,(by simpa using vr (ps:=ps) (x:=x) om),Y.pick [0,2,6,160],U.select [0] de⟩
 rintro a w14 ⟨b,hbs,Y,U⟩;refine G49<|bn Y O (λhc18=>?_) (λhc18=>?_)
 ·refine aa λG50=>nv Y<|AM O<|AM O<|λa Y=>G50<|ao<|am Y results166 (ae O (ae O ag)) ?_;exact⟨by rw[ik hwp hch (by rw[hbs,Bi (by simpa using hc18)])]; rfl,U.ext⟩
 refine ap<|G48<|ah λG51=>?_;have hscn:bt x none ps 0=none:=by rw[hbs,Bc (by simpa using hc18)]
 refine aa λG52=>wla Y O λa Y=>G52<|aw<|aV (λm a w=>∃(k:Nat),m=ps.length- k∧(k≤ps.length)∧(bU ks x ps 0=bU ks x (ps.drop k) k)∧Fr 216 [(0,kv),(2,lv),(6,pq w0.hz),(17,jv (k:Int))] [] a∧St No w0 [blk w0.hz (EV x) 90] w) _ ⟨0,O,A8 _,O,Y.pick [0,2,6,17],U.select [0] de⟩ ?_;rintro _ a w15 ⟨k,rfl,hk,hsb,Y,U⟩;refine ah λG53=>aa λG54=>nv Y<|AL O<|AL O<|AK ((aH (sT:=91) (U.arg hlv) O O (runUnderlying91 _)).asi (m':=(ps.length:Int)) CU)<|AK (v_lt O O)<|λa Y=>G54 ?_;replace Y:=Y.p5 0 2 6 17 164 O;refine ay Y O (λhc19=>?_) (λhc19=>?_)
 ·have hkx:k<ps.length:=by omega
  have hpk:=dr hbn _ (bf (d:=Pxy.z) hkx);have hp0:=Pxy.ok_frm hpk;refine ap<|G53<|ah λG55=>aw<|ah λG56=>aL (aM λw16 hxz=>?_);replace U:=U.grow hxz;refine aP (k:=0) 7 [4,6] Y ?_;refine bB 7 (Y.p4 0 2 6 17 O) U<|pl_m O<|pl_m O<|pl_w (λU=>(ai (i:=(k:Int)) (sT:=91) (U.arg hlv) O O (runUnderlying91 _) (sizeOf144 _) om CH).as (v':=slAddr lv (k*7)) O)<|pl_w (λU=>aQ (k:=k*7) (j:=0) (U.arg hlv) (i:=k) CH O (λ_ _=>by kernel_rfl))<|pl_w (λU=>az (u:=jv ((ps.getD k Pxy.z).frm)) (i:=k) (j:=0) (U.arg hlv) CH O (isAgg3 _) C4)<|pl_m O<|pl_w (λU=>(aH (sT:=44) (U.arg hkv) O O (runUnderlying44 _)).asi (m':=(ks.length:Int)) CU) λa w17 Y U=>?_;replace Y:=Y.p6 0 2 6 17 171 173 O;refine ab<|aI (k:=7) 9 [8] ?_;refine nv Y<|AK (v_ge O O)<|AL O<|λa Y=>ab ?_;rcases Decidable.em ((ks.length:Int)≤(ps.getD k Pxy.z).frm) with hb20|hb20
  ·rw[AQ hb20] at Y;refine bR (k:=9) 28 [13,27] (Y.p8 0 2 6 17 171 173 174 175 O) λa Y=>?_;replace Y:Fr 216 [(176,undef),(177,undef),(178,undef),(179,undef),(180,undef),(181,undef),(182,undef),(183,undef),(184,undef),(185,undef),(186,undef),(187,undef),(188,undef),(189,undef),(190,undef),(191,undef),(192,undef),(193,undef),(194,undef),(0,kv),(2,lv),(6,pq w0.hz),(17,jv (k:Int)),(171,jv ((ps.getD k Pxy.z).frm)),(173,jv (ks.length:Int)),(174,.bool true),(175,.bool true)] [] a:=Y;refine aI (k:=28) 30 [29] ?_;refine nv Y<|AO<|AK (aq O O)<|λa Y=>ab<|aO<|G56 ?_;replace Y:=Y.p5 0 2 6 17 196 O;refine aC Y O ?_;refine aa λG57=>nv Y<|AL O<|AM O<|AM O<|λa Y=>G57<|ao<|am Y results166 (ae O (ae O ag)) ?_;exact⟨by rw[eq hwp hch hscn (by rw[hsb]; first|exact jS hkx hp0.1 om|exact jL hkx hp0.1 om (by simpa using hb20))]; rfl,U.ext⟩
  rw[AV hb20] at Y;refine aP (k:=9) 28 [13,27] Y ?_;replace Y:=Y.p8 0 2 6 17 171 173 174 175 O;refine bB 19 Y U<|pl_m O<|pl_m O<|pl_w (λU=>(ai (i:=(k:Int)) (sT:=91) (U.arg hlv) O O (runUnderlying91 _) (sizeOf144 _) om CH).as (v':=slAddr lv (k*7)) O)<|pl_w (λU=>aQ (k:=k*7) (j:=6) (U.arg hlv) (i:=k) CH O (λ_ _=>by kernel_rfl))<|pl_w (λU=>az (u:=sv ((ps.getD k Pxy.z).sig)) (i:=k) (j:=6) (U.arg hlv) CH O (isAgg9 _) C4)<|pl_m O<|pl_m O<|pl_m O<|pl_w (λU=>(ai (i:=(k:Int)) (sT:=91) (U.arg hlv) O O (runUnderlying91 _) (sizeOf144 _) om CH).as (v':=slAddr lv (k*7)) O) ?_;refine pl_w (λU=>aQ (k:=k*7) (j:=0) (U.arg hlv) (i:=k) CH O (λ_ _=>by kernel_rfl))<|pl_w (λU=>az (u:=jv ((ps.getD k Pxy.z).frm)) (i:=k) (j:=0) (U.arg hlv) CH O (isAgg3 _) C4)<|pl_w (λU=>(ai (i:=(ps.getD k Pxy.z).frm) (sT:=44) (U.arg hkv) O O (runUnderlying44 _) (sizeOf9 _) om CH).as (v':=slAddr kv (((ps.getD k Pxy.z).frm.toNat)*1)) Eg)<|pl_w (λU=>az (u:=sv (ks.getD ((ps.getD k Pxy.z).frm.toNat) [])) (i:=((ps.getD k Pxy.z).frm.toNat)) (j:=0) (U.arg hkv) CH O (isAgg9 _) Dt) ?_;refine pl_m O<|pl_m O<|pl_w (λU=>(ai (i:=(k:Int)) (sT:=91) (U.arg hlv) O O (runUnderlying91 _) (sizeOf144 _) om CH).as (v':=slAddr lv (k*7)) O)<|pl_w (λU=>(bI (U.arg hlv) (i:=k) CH O (isAgg144 _) (sizeOf144 _)).as (v':=.agg #[jv ((ps.getD k Pxy.z).frm),jv ((ps.getD k Pxy.z).to),jv ((ps.getD k Pxy.z).rf),jv ((ps.getD k Pxy.z).rt),jv ((ps.getD k Pxy.z).sf),jv ((ps.getD k Pxy.z).st),sv ((ps.getD k Pxy.z).sig)]) C4)<|pl_r (λU=>bu call134 O (gh (ps.getD k Pxy.z) _ (Pxy.smalls_of hpk))) ?_;refine pl_r (λU=>bu call133 O (jq (ks.getD ((ps.getD k Pxy.z).frm.toNat) []) ((ps.getD k Pxy.z).content) _ Eb (Br (fl _) de))) λa w18 Y U=>?_;replace Y:=Y.p7 0 2 6 17 175 180 194 O;refine ab<|aI (k:=28) 30 [29] ?_;refine nv Y<|AN (mB O O)<|AK (ak O O)<|λa Y=>ab<|aO<|G56<|bV Y O (λhc21=>?_) (λhc21=>?_)
  ·refine aa λG58=>nv Y<|AL O<|AM O<|AM O<|λa Y=>G58 ?_;replace Y:=Y.p6 0 2 6 17 10 11 O;refine ao<|am Y results166 (ae O (ae O ag)) ?_;exact⟨by rw[eq hwp hch hscn (by rw[hsb]; first|exact jS hkx hp0.1 om|exact jL hkx hp0.1 om (by simpa using hc21))]; rfl,U.ext⟩
  refine ap<|G55<|al<|nv Y<|AL O<|AK (aK O O ⟨om,om⟩)<|AM O<|λa Y=>ab ?_;refine⟨_,?_,k+1,O,om,(by rw[hsb]; exact nB hkx hp0.1 om (by simpa using hc21)),Y.pick [0,2,6,17],U.select [0] de⟩;omega
 have hke:k=ps.length:=by omega
 rw[hke,List.drop_length] at hsb;refine aN<|G51<|ah λG59=>ah λG60=>aL (aM λw19 hxz=>?_);replace U:=U.grow hxz;refine aP (k:=0) 4 [1,3] Y ?_;refine bB 4 (Y.p4 0 2 6 17 O) U<|pl_v (ac (v:=pq w0.hz) O kr)<|pl_w (λU=>ld U 0 O O (isAgg3 _) O)<|pl_m O<|pl_w (λU=>(aH (sT:=44) (U.arg hkv) O O (runUnderlying44 _)).asi (m':=(ks.length:Int)) CU) λa w20 Y U=>?_;replace Y:=Y.p4 0 6 199 201 O;refine ab<|aI (k:=4) 6 [5] ?_;refine nv Y<|AK (v_ge O O)<|AL O<|λa Y=>ab ?_;rcases Decidable.em ((ks.length:Int)≤x.signer) with hb22|hb22
 ·rw[AQ hb22] at Y;refine bR (k:=6) 16 [7,15] (Y.p6 0 6 199 201 202 203 O) λa Y=>?_;replace Y:=Y.p16 204 205 206 207 208 209 210 211 212 213 0 6 199 201 202 203 O;refine aI (k:=16) 18 [17] ?_;refine nv Y<|AO<|AK (aq O O)<|λa Y=>ab<|aO<|G60 ?_;replace Y:=Y.p1 215 O;replace U:=U.k0 0 O;refine aC Y O ?_;refine aa λG61=>nv Y<|AM O<|AM O<|λa Y=>G61<|ao<|am Y results166 (ae O (ae O ag)) ?_;exact⟨by rw[eq hwp hch hscn (by rw[hsb]; first|exact io (Wsh.ok_signer hxo).1 om|exact g8 (Wsh.ok_signer hxo).1 om (by simpa using hb22))]; rfl,U.ext⟩
 rw[AV hb22] at Y;refine aP (k:=6) 16 [7,15] Y ?_;replace Y:=Y.p6 0 6 199 201 202 203 O;refine bB 10 Y U<|pl_v (ac (v:=po w0.hz 8) O kr)<|pl_w (λU=>ld U 0 O O (isAgg9 _) O)<|pl_m O<|pl_v (ac (v:=pq w0.hz) O kr)<|pl_w (λU=>ld U 0 O O (isAgg3 _) O)<|pl_w (λU=>(ai (i:=x.signer) (sT:=44) (U.arg hkv) O O (runUnderlying44 _) (sizeOf9 _) om CH).as (v':=slAddr kv (x.signer.toNat*1)) (by rw[show (x.signer).toNat=x.signer.toNat from by omega]))<|pl_w (λU=>az (u:=sv (ks.getD x.signer.toNat [])) (i:=x.signer.toNat) (j:=0) (U.arg hkv) CH O (isAgg9 _) Dt) ?_;refine pl_w (λU=>ar (U.g 0 O) O (isAgg90 _) (sizeOf90 _))<|pl_r (λU=>bu call37 O (gq x _ (Wsh.smalls_of hxo)))<|pl_r (λU=>bu call133 O (jq (ks.getD x.signer.toNat []) x.content _ Ez (Br (fj _) de))) λa w21 Y U=>?_;replace Y:=Y.p3 203 205 213 O;refine ab<|aI (k:=16) 18 [17] ?_;refine nv Y<|AN (mB O O)<|AK (ak O O)<|λa Y=>ab<|aO<|G60<|bV Y O (λhc23=>?_) (λhc23=>?_)
 ·refine aa λG62=>nv Y<|AM O<|AM O<|λa Y=>G62<|ao<|am Y results166 (ae O (ae O ag)) ?_;exact⟨by rw[eq hwp hch hscn (by rw[hsb]; first|exact io (Wsh.ok_signer hxo).1 om|exact g8 (Wsh.ok_signer hxo).1 om (by simpa using hc23))]; rfl,U.ext⟩
 refine ap<|G59<|aa λG63=>nv Y<|AM O<|AM O<|λa Y=>G63<|ao<|am Y results166 (ae O (ae O ag)) ?_;exact⟨by rw[ju hwp hch hscn (by rw[hsb]; exact oV (Wsh.ok_signer hxo).1 om (by simpa using hc23))]; rfl,U.ext⟩
theorem vn (kv lv:Value) (ks:List By) (x:Wsh) (ps:List Pxy) (number t:Int) (w0:World) (hkv:SlAt w0 kv 1 (ks.map λs=>[sv s])) (hlv:SlAt w0 lv 7 (ps.map Pxy.cells)):
  Ff 119 #[kv,(EW x),lv,jv number,jv t] w0 (.bool (validH ks x ps number t)):=by
 refine CA func119 O ntmps119 (lb O) λa Y U=>aa λG1=>aR Y U O (EV x) O λa w1 Y U=>wla Y O λa Y=>G1<|aa λG2=>nv Y<|AL O<|AK (ar (U.g 0 O) O (isAgg90 _) (sizeOf90 _))<|AL O<|AL O<|AL O<|λa Y=>au Y U call166 O (yL kv lv ks x ps number t _ (U.arg hkv) (U.arg hlv)) λa w2 Y U=>nv Y<|AL O<|AK (aj O O)<|AK (aj O O)<|AM O<|AM O<|λa Y=>G2 ?_;replace U:=U.k0 0 O;refine aa λG3=>nv (Y.p2 10 11 O)<|AL O<|AK (v_eq O O)<|AM O<|λa Y=>G3<|ao<|am Y results119 (ae O ag) ?_;exact⟨by rfl,U.ext⟩
end Go.Proofs.YtliklcmddmpdfaaGreatDoor
namespace Go.Proofs.YtliklcmddmpdfaaGreatDoor
open Go.RowKit Go.PW _root_.Go.Proofs.Tryz
theorem iO {s:By} {p m:Nat} {l:List Int} {r:By} (hp:p≤s.length) (h:intsR m (s.drop p)=some (l,r)):s.drop (s.length- r.length)=r∧r.length≤s.length:=by
 obtain⟨h1,_⟩:=iM h;have h5:s=(s.take p++puts l)++r:=by rw[Bu,←h1,BU]
 have h6:s.length=(s.take p++puts l).length+r.length:=by rw[←AW,←h5]
 refine⟨?_,by omega⟩;have h7:=Ce (l₁:=s.take p++puts l) (l₂:=r);rw[←h5] at h7;rw[show s.length- r.length=(s.take p++puts l).length from by omega];exact h7
theorem gx {ps:List Pxy} {k:Nat} (h:∀p∈ps.take k,p.sig.length=32) (h4:ps.length≤4):(encX ps k).length≤10000:=by
 unfold encX;have h1:=ej [(ps.length:Int)];have h2:=ku (l:=ps.take k) h;rw[AW];rw[AX] at h2;simp only[A3,A5] at h1;omega
theorem zy {x:Wsh} {ps:List Pxy} {k:Nat} (hk:k<ps.length) (h:¬((ps.getD k Pxy.z).sig.length:Int)=32):cz x ps=none:=by
 cases he:cz x ps with
 | none=>rfl
 | some s=>
  obtain⟨_,_,h3,_⟩:=cW.1 he;have:=h3 _ (bf (d:=Pxy.z) hk);omega
theorem xw {ps:List Pxy} {k:Nat} (h:∀p∈ps.take k,p.sig.length=32) (hk:k=ps.length):∀p∈ps,p.sig.length=32:=by
 subst hk; rwa [List.take_length] at h
def encT (x:Wsh) (ps:List Pxy):By × Int:=match cz x ps with
 | some s=>(s,0)
 | none=>([],150)
theorem enc_T (x:Wsh) (ps:List Pxy):(match cz x ps with|some s=>Value.tuple #[sv s,jv 0]|none=>.tuple #[sv [],jv 150])=.tuple #[sv (encT x ps).1,jv (encT x ps).2]:=by
 unfold encT; cases cz x ps<;>rfl
theorem AC {s:By} {p:Nat} {a b e:Int} {w0:World} (h:intR s p=(a,b,e)) (hp:p≤s.length) (hsl:s.length≤1000000):Ff 153 #[sv s,jv (p:Int)] w0 (.tuple #[jv a,jv b,jv e]):=by
 have:=kb s p w0 hp hsl;rw[Ay,h] at this;exact this
theorem nI (s:By) (p mm:Nat) (w0:World) (hp:p≤s.length) (hsl:s.length≤1000000) (hm:mm≤100):
  Ret Tryz.prog 107 #[sv s,jv (p:Int),jv (mm:Int)] w0 λv w=>(∃l r,intsR mm (s.drop p)=some (l,r)∧MemR w0 (λlv:Value=>.tuple #[lv,jv ((s.length- r.length:Nat):Int),.bool true]) (λlv=>[own lv 3 1 ((l).map λn=>[jv n])]) (λ_=>True) v w)∨(intsR mm (s.drop p)=none∧v=.tuple #[.slice none 0 0,jv 0,.bool false]∧Ext No w0 w):=by
 refine CB func107 O ntmps107 (lb O) λa Y U=>aa λG1=>nv Y<|AM O<|AM O<|AM O<|λa Y=>G1<|aa λG2=>wla Y O λa Y=>G2<|ah λG3=>aa λG4=>wla Y O λa Y=>G4<|aw ?_;replace U:St No w0 [own (.slice none 0 0) 3 1 ((([]:List Int)).map λn=>[jv n])] w0:=U.nil_own;refine aV (λm a w=>∃(k:Nat) (q:Nat) (pre:List Int) (v:Value),m=mm- k∧(k≤mm)∧(q≤s.length)∧(intsR mm (s.drop p)=(intsR (mm- k) (s.drop q)).map λx=>(pre++x.1,x.2))∧(pre.length=k)∧Fr 35 [(0,sv s),(2,jv (mm:Int)),(1,jv (q:Int)),(9,v),(10,jv (k:Int))] [] a∧St No w0 [own v 3 1 ((pre).map λn=>[jv n])] w) _ ⟨0,p,[],.slice none 0 0,O,A8 _,hp,(by rw[Nat.sub_zero]; cases intsR mm (s.drop p)<;>simp),O,Y.pick [0,2,1,9,10],U.select [0] de⟩ ?_;rintro _ a w1 ⟨k,q,pre,v,rfl,hk,hq,hr,hpl,Y,U⟩;refine ah λG5=>aa λG6=>nv Y<|AL O<|AL O<|AK (v_lt O O)<|λa Y=>G6<|ay Y O (λhc1=>?_) (λhc1=>?_)
 ·refine ap<|G5<|ah λG7=>aw ?_;obtain⟨en,ex,ee,hin⟩:∃a b d,intR s q=(a,b,d):=⟨_,_,_,rfl⟩;refine aa λG8=>nv Y<|AL O<|AL O<|λa Y=>au Y U call153 O (AC hin hq hsl) λa w2 Y U=>nv Y<|AL O<|AK (aj O O)<|AK (aj O O)<|AK (aj O O)<|AM O<|AM O<|AM O<|λa Y=>G8 ?_;replace Y:=Y.p8 0 2 1 9 10 11 12 13 O;refine ah λG9=>aa λG10=>nv Y<|AL O<|AK (v_ne O O)<|λa Y=>G10<|bV Y O (λhc2=>?_) (λhc2=>?_)
  ·have hno:intsR mm (s.drop p)=none:=by rw[hr,show mm- k=(mm- (k+1))+1 from by omega,j9 (yi hin hc2)]; rfl
   refine aa λG11=>nv Y<|AM O<|AM O<|AM O<|λa Y=>G11<|ao<|am Y results107 (ae O (ae O (ae O ag))) ?_;exact .inr ⟨hno,O,U.ext⟩
  obtain⟨r,hrd,hex,hdr,hrl⟩:=yF hin hc2;refine ap<|G9<|aa λG12=>nv Y<|AL O<|AL O<|λa Y=>aG (E:=3) (sz:=1) O [[jv en]] kr sm O de de Y U λa w3 Y U=>bc (i:=1) (sT:=24) (inf:=Tryz.t3) (z:=jv 0) (b:=0) (off:=0) (m:=0) (c:=0) O O O (U.ow 0 O) sm underlying24 O O O O de CK CM CM de Y U λa w4 s3 Y U _=>?_;replace U:St No w0 [own (.slice (some ⟨w2.hz,0,none⟩) 1 1) 3 1 ([[jv en]]),own s3 3 1 ((pre++[en]).map λn=>[jv n])] w4:=by rw[BI]; exact U
  refine wla Y O λa Y=>G12 ?_;replace U:=U.k1 2 O;refine al<|nv (Y.p5 0 2 10 12 9 O)<|AL O<|AM O<|λa Y=>ab<|G7<|al<|nv Y<|AL O<|AK (aK O O ⟨om,om⟩)<|AM O<|λa Y=>ab ?_;rw[hex] at Y;refine⟨_,?_,k+1,s.length- r.length,pre++[en],s3,O,om,om,(by rw[hr,show mm- k=(mm- (k+1))+1 from by omega,gY hrd,hdr]; cases intsR (mm- (k+1)) r<;>simp),(by rw[AW,hpl]; rfl),Y.pick [0,2,1,9,10],U.select [0] de⟩;omega
 refine aN<|G3<|aa λG13=>nv Y<|AL O<|AL O<|AM O<|AM O<|AM O<|λa Y=>G13 ?_;replace Y:=Y.p3 6 7 8 O;refine ao<|am Y results107 (ae O (ae O (ae O ag))) ?_;have hmk:mm- k=0:=by omega
 rw[hmk] at hr;have hqq:s.length- (s.drop q).length=q:=by rw[Bb]; omega
 exact .inl ⟨pre,s.drop q,by rw[hr]; simp[intsR],v,by rw[hqq]; rfl,trivial,U.ext,St.out (E:=[own v 3 1 ((pre).map λn=>[jv n])]) (H:=[]) U⟩
theorem lQ {s:By} {p m:Nat} {l:List Int} {r:By} {w0:World} (h:intsR m (s.drop p)=some (l,r)) (hp:p≤s.length) (hsl:s.length≤1000000) (hm:m≤100):Ret Tryz.prog 107 #[sv s,jv (p:Int),jv (m:Int)] w0 (MemR w0 (λlv:Value=>.tuple #[lv,jv ((s.length- r.length:Nat):Int),.bool true]) (λlv=>[own lv 3 1 ((l).map λn=>[jv n])]) (λ_=>True)):=by
 refine (nI s p m w0 hp hsl hm).mono λv w h2=>?_;rcases h2 with⟨l2,r2,h3,h4⟩|⟨h3,_⟩
 ·rw[h] at h3; cases h3; exact h4
 ·rw[h] at h3; cases h3
theorem ke {s:By} {p m:Nat} {w0:World} (h:intsR m (s.drop p)=none) (hp:p≤s.length) (hsl:s.length≤1000000) (hm:m≤100):Ff 107 #[sv s,jv (p:Int),jv (m:Int)] w0 (.tuple #[.slice none 0 0,jv 0,.bool false]):=by
 refine (nI s p m w0 hp hsl hm).mono λv w h2=>?_;rcases h2 with⟨l2,r2,h3,h4⟩|⟨_,h3⟩
 ·rw[h] at h3; cases h3
 ·exact h3
theorem sA (x:Wsh) (lv:Value) (ps:List Pxy) (w0:World) (hlv:SlAt w0 lv 7 (ps.map Pxy.cells)):
  Ff 106 #[(EW x),lv] w0 (match cz x ps with|some s=>.tuple #[sv s,jv 0]|none=>.tuple #[sv [],jv 150]):=by
 have hxb:=hlv.2.1;simp only[AP,big] at hxb;refine Cx func106 O ntmps106 (lb O) λa Y U=>aa λG1=>aR Y U O (EV x) O λa w1 Y U=>nv Y<|AM O<|AM O<|λa Y=>G1<|ah λG2=>aa λG3=>nv Y<|AK (ar (U.g 0 O) O (isAgg90 _) (sizeOf90 _))<|AL O<|λa Y=>au Y U call152 O (sQ x lv ps _ (U.arg hlv)) λa w2 Y U=>nv Y<|AK (bd O)<|AL O<|λa Y=>?_;rcases AR (!(cf x ps)) with hb1|hb1
 ·rw[hb1] at Y
  try simp only[qz] at hb1
  refine nv Y<|AO<|AO<|AO<|AO<|AK (aq O O)<|λa Y=>G3 ?_;replace Y:=Y.p5 1 2 4 5 17 O;refine aC Y O ?_;refine aa λG4=>nv Y<|AM O<|AM O<|λa Y=>G4<|ao<|am Y results106 (ae O (ae O ag)) ?_;exact⟨by simp only[retv]; rw[gG (.inl EO)]; rfl,U.ext⟩
 rw[hb1] at Y
 try simp only[qz] at hb1
 refine nv Y<|AN (ac (v:=po w0.hz 8) O kr)<|AN (ld U 0 O O (isAgg9 _) O)<|AN (aZ O O (runUnderlying9 _))<|AN (v_ne O O)<|AK (ak O O)<|λa Y=>G3 ?_;replace Y:=Y.p5 1 2 4 5 17 O;refine bV Y O (λhc2=>?_) (λhc2=>?_)
 ·refine aa λG5=>nv Y<|AM O<|AM O<|λa Y=>G5<|ao<|am Y results106 (ae O (ae O ag)) ?_;exact⟨by simp only[retv]; rw[gG (.inr (.inl (by simpa using hc2)))]; rfl,U.ext⟩
 refine ap<|G2 ?_;have hfo:cf x ps=true:=by simpa using hb1
 have hsx:x.sig.length=32:=by omega
 have h4:=iH hfo;have hxo:=iQ hfo;refine aa λG6=>nv Y<|AL O<|AK ((aH (sT:=91) (U.arg hlv) O O (runUnderlying91 _)).asi (m':=(ps.length:Int)) CU)<|λa Y=>aG (E:=3) (sz:=1) O [[jv (ps.length:Int)]] kr sm O de de Y U λa w3 Y U=>au Y U call97 O (lR [(ps.length:Int)] (.slice (some ⟨w2.hz,0,none⟩) 1 1) _ (U.ow 0 O) (by intro z hz; rw[Bl.1 hz]; unfold small; omega) sm) λa w4 Y U=>wla Y O λa Y=>G6<|ah λG7=>aa λG8=>wla Y O λa Y=>G8<|aw ?_;have hz0:puts [(ps.length:Int)]=encX ps 0:=by unfold encX; simp
 rw[hz0] at Y;refine aV (λm a w=>∃(k:Nat),m=ps.length- k∧(k≤ps.length)∧(∀p∈ps.take k,p.sig.length=32)∧Fr 55 [(1,lv),(2,pq w0.hz),(7,jv (k:Int)),(6,sv (encX ps k))] [] a∧St No w0 [blk w0.hz (EV x) 90] w) _ ⟨0,O,A8 _,sm,Y.pick [1,2,7,6],U.select [1] de⟩ ?_;rintro _ a w5 ⟨k,rfl,hk,hsg,Y,U⟩;refine ah λG9=>aa λG10=>nv Y<|AL O<|AL O<|AK ((aH (sT:=91) (U.arg hlv) O O (runUnderlying91 _)).asi (m':=(ps.length:Int)) CU)<|AK (v_lt O O)<|λa Y=>G10<|ay Y O (λhc3=>?_) (λhc3=>?_)
 ·have hkx:k<ps.length:=by omega
  have hpk:=mc hfo _ (bf (d:=Pxy.z) hkx);refine ap<|G9<|ah λG11=>aw<|ah λG12=>aa λG13=>nv Y<|AL O<|AL O<|AK ((ai (i:=(k:Int)) (sT:=91) (U.arg hlv) O O (runUnderlying91 _) (sizeOf144 _) om CH).as (v':=slAddr lv (k*7)) O)<|AK (aQ (k:=k*7) (j:=6) (U.arg hlv) (i:=k) CH O (λ_ _=>by kernel_rfl))<|AK (az (u:=sv ((ps.getD k Pxy.z).sig)) (i:=k) (j:=6) (U.arg hlv) CH O (isAgg9 _) C4)<|AK (aZ O O (runUnderlying9 _))<|AK (v_ne O O)<|λa Y=>G13 ?_;replace Y:=Y.p5 1 2 7 6 34 O;refine bV Y O (λhc4=>?_) (λhc4=>?_)
  ·refine aa λG14=>nv Y<|AM O<|AM O<|λa Y=>G14<|ao<|am Y results106 (ae O (ae O ag)) ?_;exact⟨by simp only[retv]; rw[zy hkx hc4]; rfl,U.ext⟩
  have hsk:(ps.getD k Pxy.z).sig.length=32:=by omega
  refine ap<|G12<|aL (aM λw6 hxz=>?_);replace U:=U.grow hxz;refine aP (k:=0) 12 [6,11] Y ?_;replace Y:=Y.p4 1 2 7 6 O;refine bB 12 Y U<|pl_m O<|pl_m O<|pl_m O<|pl_w (λU=>(ai (i:=(k:Int)) (sT:=91) (U.arg hlv) O O (runUnderlying91 _) (sizeOf144 _) om CH).as (v':=slAddr lv (k*7)) O)<|pl_w (λU=>(bI (U.arg hlv) (i:=k) CH O (isAgg144 _) (sizeOf144 _)).as (v':=.agg #[jv ((ps.getD k Pxy.z).frm),jv ((ps.getD k Pxy.z).to),jv ((ps.getD k Pxy.z).rf),jv ((ps.getD k Pxy.z).rt),jv ((ps.getD k Pxy.z).sf),jv ((ps.getD k Pxy.z).st),sv ((ps.getD k Pxy.z).sig)]) C4)<|pl_r (λU=>bu call134 O (gh (ps.getD k Pxy.z) _ (Pxy.smalls_of hpk))) ?_;refine pl_v (dJ O O Dg)<|pl_m O<|pl_m O<|pl_w (λU=>(ai (i:=(k:Int)) (sT:=91) (U.arg hlv) O O (runUnderlying91 _) (sizeOf144 _) om CH).as (v':=slAddr lv (k*7)) O)<|pl_w (λU=>aQ (k:=k*7) (j:=6) (U.arg hlv) (i:=k) CH O (λ_ _=>by kernel_rfl))<|pl_w (λU=>az (u:=sv ((ps.getD k Pxy.z).sig)) (i:=k) (j:=6) (U.arg hlv) CH O (isAgg9 _) C4) λa w7 Y U=>?_;replace Y:=Y.p5 1 2 7 41 46 O;refine ab<|aI (k:=12) 14 [13] ?_;refine nv Y<|AK (dJ O O Dg)<|AM O<|λa Y=>ab<|aO<|G11<|al<|nv Y<|AL O<|AK (aK O O ⟨om,om⟩)<|AM O<|λa Y=>ab ?_;rw[show ((encX ps k)++((ps.getD k Pxy.z).content))++((ps.getD k Pxy.z).sig)=encX ps (k+1) from by rw[oT hkx]] at Y;refine⟨_,?_,k+1,O,om,(by intro p hp; rw[cI Pxy.z hkx] at hp; rcases BO.1 hp with hp|hp; exact hsg p hp; rw[Bl.1 hp]; exact hsk),Y.pick [1,2,7,6],U.select [0] de⟩;omega
 have hke:k=ps.length:=by omega
 have hal:=xw hsg hke;refine aN<|G7<|ah λG15=>aL (aM λw8 hxz=>?_);replace U:=U.grow hxz;refine aP (k:=0) 6 [3,5] Y ?_;refine bB 6 (Y.p7 1 2 7 6 22 23 24 O) U<|pl_m O<|pl_w (λU=>ar (U.g 0 O) O (isAgg90 _) (sizeOf90 _))<|pl_r (λU=>bu call37 O (gq x _ (Wsh.smalls_of hxo)))<|pl_v (dJ O O Dg)<|pl_v (ac (v:=po w0.hz 8) O kr)<|pl_w (λU=>ld U 0 O O (isAgg9 _) O) λa w9 Y U=>?_;replace Y:=Y.p2 51 53 O;refine ab<|aI (k:=6) 9 [8] ?_;refine nv Y<|AK (dJ O O Dg)<|AM O<|AM O<|λa Y=>ab<|aO<|G15<|ao<|am Y results106 (ae O (ae O ag)) ?_;exact⟨by simp only[retv]; rw[t6 hfo hsx hal,hke]; try rfl,U.ext⟩
theorem kB {x:Wsh} {lv:Value} {ps:List Pxy} {t:By} {e:Int} {w0:World} (h:encT x ps=(t,e)) (hlv:SlAt w0 lv 7 (ps.map Pxy.cells)):Ff 106 #[(EW x),lv] w0 (.tuple #[sv t,jv e]):=by
 have:=sA x lv ps w0 hlv;rw[enc_T,h] at this;exact this
def isS (m:Nat) (s:By):Bool:=(intsR m s).isSome
theorem ym {m:Nat} {s:By} (h:isS m s=true):∃l r,intsR m s=some (l,r):=by
 unfold isS at h;cases hq:intsR m s with
 | none=>rw[hq] at h; cases h
 | some z=>exact⟨z.1,z.2,rfl⟩
theorem wG {m:Nat} {s:By} (h:isS m s=false):intsR m s=none:=by
 unfold isS at h;cases hq:intsR m s with
 | none=>rfl
 | some z=>rw[hq] at h; cases h
def accR (acc:List Pxy) (m:Nat) (t:By):Option (Wsh × List Pxy):=match pxysR m t with
 | none=>none
 | some (l,q)=>wishR (acc++l) q
theorem tg {s:By} (h:intsR 1 (s.drop 0)=none):readR s=none:=by
 rw[List.drop_zero] at h;unfold readR;cases hq:rdI s with
 | none=>rfl
 | some z=>obtain⟨n,r⟩:=z; rw[gY hq] at h; cases h
theorem qR {s r:By} {l:List Int} (h:intsR 1 (s.drop 0)=some (l,r)):readR s=if inB (l.getD 0 0) 0 4=true then accR [] (l.getD 0 0).toNat r else none:=by
 rw[List.drop_zero] at h;unfold readR accR;cases hq:rdI s with
 | none=>rw[j9 hq] at h; cases h
 | some z=>
  obtain⟨n,q⟩:=z;rw[gY hq] at h;cases h;rfl
theorem uY {acc:List Pxy} {m:Nat} {t r:By} {l:List Int} (h:intsR 7 t=some (l,r)) (h2:32≤r.length):accR acc (m+1) t=accR (acc++[pxyN l (r.take 32)]) m (r.drop 32):=by
 have e:pxyR t=some (pxyN l (r.take 32),r.drop 32):=by unfold pxyR; rw[h]; exact Bi h2
 unfold accR;rw[rc e];cases pxysR m (r.drop 32) with
 | none=>rfl
 | some z=>simp
theorem vd {acc:List Pxy} {m:Nat} {t:By} (h:intsR 7 t=none):accR acc (m+1) t=none:=by
 unfold accR;rw[od (by unfold pxyR; rw[h])]
theorem uu {acc:List Pxy} {m:Nat} {t r:By} {l:List Int} (h:intsR 7 t=some (l,r)) (h2:¬32≤r.length):accR acc (m+1) t=none:=by
 unfold accR;rw[od (by unfold pxyR; rw[h]; exact Bc h2)]
theorem wP {acc:List Pxy} {t r:By} {l:List Int} (h:intsR 9 t=some (l,r)):accR acc 0 t=some (wshN l r,acc):=by
 unfold accR pxysR wishR;simp only[B0];rw[h]
theorem rp {acc:List Pxy} {t:By} (h:intsR 9 t=none):accR acc 0 t=none:=by
 unfold accR pxysR wishR;simp only;rw[h]
theorem yX {x:Wsh} {ps:List Pxy} {t s:By} {e:Int} (h:encT x ps=(t,e)) (he:e=0) (ht:t=s):cz x ps=some s:=by
 unfold encT at h;cases hq:cz x ps with
 | none=>rw[hq] at h; cases h; cases he
 | some z=>rw[hq] at h; cases h; rw[ht]
theorem tW {x:Wsh} {ps:List Pxy} {t s:By} {e:Int} (h:encT x ps=(t,e)) (hn:¬e=0∨¬t=s):cz x ps≠some s:=by
 intro hq;unfold encT at h;rw[hq] at h;cases h;rcases hn with hn|hn
 ·exact hn O
 ·exact hn O
theorem inB_b {n a b:Int} (h:inB n a b=true):a≤n∧n≤b:=by simpa [inB] using h
theorem kC (s:By) (w0:World) (hsl:s.length≤1000000):
  Ret Tryz.prog 46 #[sv s] w0 λv w=>(∃x ps,bH s=some (x,ps)∧MemR w0 (λlv:Value=>.tuple #[.agg x.cells.toArray,lv,jv 0]) (λlv=>[own lv 144 7 (ps.map Pxy.cells)]) (λ_=>True) v w)∨(bH s=none∧v=.tuple #[.agg #[jv 0,jv 0,jv 0,jv 0,jv 0,jv 0,jv 0,jv 0,sv ([]:By)],.slice none 0 0,jv 150]∧Ext No w0 w):=by
 refine Cy func46 O ntmps46 (lb O) λa Y U=>aa λG1=>aE Y U (zeroValue90 _) E4 O λa w1 Y U=>nv Y<|AM O<|AM O<|λa Y=>G1<|aa λG2=>wlm Y O λa Y=>?_;rcases AR (isS 1 (s.drop 0)) with hb1|hb1
 ·obtain⟨l1,r1,h1⟩:=ym hb1;have hl1:=(fQ h1).1;have hd1:=iO Dr h1;refine bp Y U call107 O (lQ h1 Dr hsl de) λa w2 x3 hp Y U=>?_;revert x3 hp Y U; rintro iv2 hp Y U;clear hp;replace U:=U.n2 O;refine nv Y<|AL O<|AK (aj O O)<|AK (aj O O)<|AK (aj O O)<|AM O<|AM O<|AM O<|λa Y=>G2 ?_;refine ah λG3=>aa λG4=>nv (Y.p7 0 2 3 4 5 6 7 O)<|AL O<|AK ((bd O).asb (b':=false) O)<|AL O<|AN (ax O)<|AN ((ai (i:=0) (sT:=24) (U.ow 0 O) O O (runUnderlying24 _) (sizeOf3 _) om CH).as (v':=slAddr iv2 (0*1)) O)<|AN (az (u:=jv (l1.getD 0 0)) (i:=0) (j:=0) (U.ow 0 O) CH O (isAgg3 _) C0)<|λa Y=>aF Y U call108 O (mr (l1.getD 0 0) 0 4 _) λa w3 Y U=>nv Y<|AN (bd O)<|AK (ak O O)<|λa Y=>G4 ?_;replace Y:=Y.p7 0 2 3 4 5 6 33 O;refine bn Y O (λhc4=>?_) (λhc4=>?_)
  ·try simp only[qz] at hc4
   have hno:readR s=none:=by rw[qR h1]; exact Bc (by rw[show inB (l1.getD 0 0) 0 4=false from by first|exact hc4|simpa using hc4]; decide)
   refine aa λG5=>wlv Y (aW (v:=.agg #[jv 0,jv 0,jv 0,jv 0,jv 0,jv 0,jv 0,jv 0,sv ([]:By)]) O kr) λa Y=>aA 1 Y U [jv 0,jv 0,jv 0,jv 0,jv 0,jv 0,jv 0,jv 0,sv ([]:By)] O (sizeOf90 _) λa w4 Y U=>nv Y<|AM O<|AM O<|λa Y=>G5<|ao<|am Y results46 (aB O (bA (U.g 1 O) (isAgg90 _) (sizeOf90 _)) (ae O (ae O ag))) ?_;exact .inr ⟨fq hno,O,U.ext⟩
  try simp only[qz] at hc4
  have hib:inB (l1.getD 0 0) 0 4=true:=by simpa using hc4
  have hn4:=inB_b hib;have hin:=qR h1;rw[Bi hib] at hin;refine ap<|G3<|aa λG6=>wla Y O λa Y=>G6<|ah λG7=>aa λG8=>wla Y O λa Y=>G8<|aw ?_;replace U:St No w0 [own (.slice none 0 0) 144 7 (([]:List Pxy).map Pxy.cells),own iv2 3 1 ((l1).map λn=>[jv n]),blk w0.hz E4 90] w3:=U.nil_own;refine aV (λm a w=>∃(k:Nat) (q:Nat) (acc:List Pxy) (lv:Value),m=(l1.getD 0 0).toNat- k∧((k:Int)≤(l1.getD 0 0))∧(q≤s.length)∧(readR s=accR acc ((l1.getD 0 0).toNat- k) (s.drop q))∧(acc.length=k)∧Fr 146 [(0,sv s),(2,pq w0.hz),(5,iv2),(6,jv (q:Int)),(8,lv),(9,jv (k:Int))] [] a∧St No w0 [own lv 144 7 ((acc).map Pxy.cells),own iv2 3 1 ((l1).map λn=>[jv n]),blk w0.hz E4 90] w) _ ⟨0,s.length- r1.length,[],.slice none 0 0,O,om,om,(by rw[hin,hd1.1]; rfl),O,Y.pick [0,2,5,6,8,9],U.select [0,1,2] de⟩ ?_;rintro _ a w5 ⟨k,q,acc,lv,rfl,hk,hq,hacc,hal,Y,U⟩;refine ah λG9=>aa λG10=>nv Y<|AL O<|AL O<|AK ((ai (i:=0) (sT:=24) (U.ow 1 O) O O (runUnderlying24 _) (sizeOf3 _) om CH).as (v':=slAddr iv2 (0*1)) O)<|AK (az (u:=jv (l1.getD 0 0)) (i:=0) (j:=0) (U.ow 1 O) CH O (isAgg3 _) C0)<|AK (v_lt O O)<|λa Y=>G10<|ay Y O (λhc5=>?_) (λhc5=>?_)
  ·rw[show (l1.getD 0 0).toNat- k=((l1.getD 0 0).toNat- (k+1))+1 from by omega] at hacc;refine ap<|G9<|ah λG11=>aw<|aa λG12=>nv Y<|AL O<|AL O<|λa Y=>?_;rcases AR (isS 7 (s.drop q)) with hb6|hb6
   ·obtain⟨l7,r7,h7⟩:=ym hb6;have hl7:=(fQ h7).1;have hd7:=iO Dr h7;refine bp Y U call107 O (lQ h7 Dr hsl de) λa w6 x8 hp Y U=>?_;revert x8 hp Y U; rintro iv7 hp Y U;clear hp;replace U:=U.n4 O;refine nv Y<|AL O<|AK (aj O O)<|AK (aj O O)<|AK (aj O O)<|AM O<|AM O<|AM O<|λa Y=>G12 ?_;refine ah λG13=>aa λG14=>nv (Y.p9 0 2 5 6 8 9 10 11 12 O)<|AL O<|AK ((bd O).asb (b':=false) O)<|AL O<|AN (ax O)<|AN (aZ O O (runUnderlying9 _))<|AN (ax O)<|AN (bF O O ⟨om,om⟩)<|AN (v_lt O O)<|AK (ak O O)<|λa Y=>G14 ?_;replace Y:=Y.p8 0 2 5 8 9 10 11 57 O;refine ay Y O (λhc9=>?_) (λhc9=>?_)
    ·have hno:readR s=none:=by rw[hacc]; exact uu h7 om
     refine aa λG15=>wlv Y (aW (v:=.agg #[jv 0,jv 0,jv 0,jv 0,jv 0,jv 0,jv 0,jv 0,sv ([]:By)]) O kr) λa Y=>aA 3 Y U [jv 0,jv 0,jv 0,jv 0,jv 0,jv 0,jv 0,jv 0,sv ([]:By)] O (sizeOf90 _) λa w7 Y U=>nv Y<|AM O<|AM O<|λa Y=>G15<|ao<|am Y results46 (aB O (bA (U.g 3 O) (isAgg90 _) (sizeOf90 _)) (ae O (ae O ag))) ?_;exact .inr ⟨fq hno,O,U.ext⟩
    have h32:32≤r7.length:=by omega
    rw[uY h7 h32] at hacc;refine ap<|G13<|ah λG16=>aL (aM λw8 hxz=>?_);replace U:=U.grow hxz;refine aP (k:=0) 28 [0,27] Y ?_;replace Y:=Y.p7 0 2 5 8 9 10 11 O;refine bE [27] (λi=>match i with|27=>pm (λb:Nat=>.slice (some ⟨b,0,none⟩) 1 1) (λb=>[own (.slice (some ⟨b,0,none⟩) 1 1) 144 7 [[jv (l7.getD 1 0),jv (l7.getD 2 0),jv (l7.getD 3 0),jv (l7.getD 4 0),jv (l7.getD 5 0),jv (l7.getD 6 0),sv ((s.drop (s.length- r7.length)).take (((s.length- r7.length)+32)- (s.length- r7.length)))]]]) (λ_=>True)|_=>λ_ _=>False) 28 [[],[],[1],[2],[],[4],[5],[],[7],[8],[],[10],[11],[9,12],[],[14],[15],[],[17],[18],[16,19],[],[],[],[23],[21,22,24],[3,6,13,20,25],[26]] [lv,iv7,slAddr iv7 (1*1),jv (l7.getD 1 0),iv7,slAddr iv7 (2*1),jv (l7.getD 2 0),iv7,slAddr iv7 (3*1),jv (l7.getD 3 0),iv7,slAddr iv7 (4*1),jv (l7.getD 4 0),.agg #[jv (l7.getD 3 0),jv (l7.getD 4 0)],iv7,slAddr iv7 (5*1),jv (l7.getD 5 0),iv7,slAddr iv7 (6*1),jv (l7.getD 6 0),.agg #[jv (l7.getD 5 0),jv (l7.getD 6 0)],sv s,jv ((s.length- r7.length:Nat):Int),jv ((s.length- r7.length:Nat):Int),jv (((s.length- r7.length:Nat):Int)+32),sv ((s.drop (s.length- r7.length)).take (((s.length- r7.length)+32)- (s.length- r7.length))),.agg #[jv (l7.getD 1 0),jv (l7.getD 2 0),jv (l7.getD 3 0),jv (l7.getD 4 0),jv (l7.getD 5 0),jv (l7.getD 6 0),sv ((s.drop (s.length- r7.length)).take (((s.length- r7.length)+32)- (s.length- r7.length)))],undef] Y U ?_ ?_ ?_
    ·exact CG<|hqv (ax rfl)<|hqv (ax rfl)<|hqw (λU=>(ai (i:=1) (sT:=24) (U.ow 0 rfl) rfl rfl (runUnderlying24 _) (sizeOf3 _) om CH).as (v':=slAddr iv7 (1*1)) rfl)<|hqw (λU=>az (u:=jv (l7.getD 1 0)) (i:=1) (j:=0) (U.ow 0 rfl) CH rfl (isAgg3 _) C0)<|hqv (ax rfl)<|hqw (λU=>(ai (i:=2) (sT:=24) (U.ow 0 rfl) rfl rfl (runUnderlying24 _) (sizeOf3 _) om CH).as (v':=slAddr iv7 (2*1)) rfl)<|hqw (λU=>az (u:=jv (l7.getD 2 0)) (i:=2) (j:=0) (U.ow 0 rfl) CH rfl (isAgg3 _) C0)<|hqv (ax rfl)<|hqw (λU=>(ai (i:=3) (sT:=24) (U.ow 0 rfl) rfl rfl (runUnderlying24 _) (sizeOf3 _) om CH).as (v':=slAddr iv7 (3*1)) rfl)<|
      hqw (λU=>az (u:=jv (l7.getD 3 0)) (i:=3) (j:=0) (U.ow 0 rfl) CH rfl (isAgg3 _) C0)<|hqv (ax rfl)<|hqw (λU=>(ai (i:=4) (sT:=24) (U.ow 0 rfl) rfl rfl (runUnderlying24 _) (sizeOf3 _) om CH).as (v':=slAddr iv7 (4*1)) rfl)<|hqw (λU=>az (u:=jv (l7.getD 4 0)) (i:=4) (j:=0) (U.ow 0 rfl) CH rfl (isAgg3 _) C0)<|hqv (aW (v:=.agg #[jv (l7.getD 3 0),jv (l7.getD 4 0)]) rfl kr)<|hqv (ax rfl)<|hqw (λU=>(ai (i:=5) (sT:=24) (U.ow 0 rfl) rfl rfl (runUnderlying24 _) (sizeOf3 _) om CH).as (v':=slAddr iv7 (5*1)) rfl)<|hqw (λU=>az (u:=jv (l7.getD 5 0)) (i:=5) (j:=0) (U.ow 0 rfl) CH rfl (isAgg3 _) C0)<|hqv (ax rfl)<|
      hqw (λU=>(ai (i:=6) (sT:=24) (U.ow 0 rfl) rfl rfl (runUnderlying24 _) (sizeOf3 _) om CH).as (v':=slAddr iv7 (6*1)) rfl)<|hqw (λU=>az (u:=jv (l7.getD 6 0)) (i:=6) (j:=0) (U.ow 0 rfl) CH rfl (isAgg3 _) C0)<|hqv (aW (v:=.agg #[jv (l7.getD 5 0),jv (l7.getD 6 0)]) rfl kr)<|hqv (ax rfl)<|hqv (ax rfl)<|hqv (ax rfl)<|hqv (aK rfl rfl ⟨om,om⟩)<|
      hqv ((eN (xs:=s) (l:=(s.length- r7.length)) (h:=((s.length- r7.length)+32)) rfl rfl rfl underlying9 (.inr (by rw[show (((s.length- r7.length:Nat):Int):Int)=(((s.length- r7.length):Nat):Int) from by omega]<;>rfl)) (.inr (by rw[show (((s.length- r7.length:Nat):Int)+32:Int)=((((s.length- r7.length)+32):Nat):Int) from by omega]<;>rfl)) om DQ).as (v':=sv ((s.drop (s.length- r7.length)).take (((s.length- r7.length)+32)- (s.length- r7.length)))) rfl)<|hqv (aW (v:=.agg #[jv (l7.getD 1 0),jv (l7.getD 2 0),jv (l7.getD 3 0),jv (l7.getD 4 0),jv (l7.getD 5 0),jv (l7.getD 6 0),sv ((s.drop (s.length- r7.length)).take (((s.length- r7.length)+32)- (s.length- r7.length)))]) rfl kr)<|CE (λh=>absurd sm h)<|CF
    ·intro i hi;simp only[A0,A4,Bm] at hi;subst hi
     ·intro w U;exact bL (E:=144) (sz:=7) O [[jv (l7.getD 1 0),jv (l7.getD 2 0),jv (l7.getD 3 0),jv (l7.getD 4 0),jv (l7.getD 5 0),jv (l7.getD 6 0),sv ((s.drop (s.length- r7.length)).take (((s.length- r7.length)+32)- (s.length- r7.length)))]] (λ_=>by kernel_rfl) sm O de
    clear Y U;rintro _ _ ⟨b10,rfl, -,rfl⟩ a w9 Y U;replace Y:=Y.p7 59 86 0 2 5 9 11 O;replace U:=U.n5 O;refine ab<|aI (k:=28) 30 [29] ?_;refine bc (i:=2) (sT:=91) (inf:=Tryz.t144) (z:=E7) (b:=0) (off:=0) (m:=0) (c:=0) O O O (U.ow 0 O) sm underlying91 O O O O de CK Dz Dz de Y U λa w10 s11 Y U _=>wla Y O λa Y=>ab<|aO<|G16 ?_;replace U:=U.k3 28 O;refine al<|nv (Y.p6 0 2 5 9 11 8 O)<|AL O<|AK (aK O O ⟨om,om⟩)<|AM O<|λa Y=>ab<|G11<|al<|nv Y<|AL O<|AK (aK O O ⟨om,om⟩)<|AM O<|λa Y=>ab ?_
    replace U:St No w0 [own s11 144 7 (((acc++[pxyN l7 (r7.take 32)])).map Pxy.cells),own iv2 3 1 ((l1).map λn=>[jv n]),blk w0.hz E4 90] w10:=by
     rw[hd7.1,show s.length- r7.length+32- (s.length- r7.length)=32 from by omega] at U;rw[BI]; exact U
    refine⟨_,?_,k+1,s.length- r7.length+32,(acc++[pxyN l7 (r7.take 32)]),s11,O,om,om,(by rw[hacc,←Cm,hd7.1]),(by rw[AW,hal]; rfl),Y.pick [0,2,5,6,8,9],U.select [0,1,2] de⟩;omega
   have h7:=wG hb6;have hno:readR s=none:=by rw[hacc]; exact vd h7
   refine au Y U call107 O (ke h7 Dr hsl de) λa w11 Y U=>nv Y<|AL O<|AK (aj O O)<|AK (aj O O)<|AK (aj O O)<|AM O<|AM O<|AM O<|λa Y=>G12 ?_;refine ah λG17=>aa λG18=>nv (Y.p9 0 2 5 6 8 9 10 11 12 O)<|AL O<|AK ((bd O).asb (b':=true) O)<|AL O<|AO<|AO<|AO<|AO<|AO<|AK (aq O O)<|λa Y=>G18 ?_;replace Y:=Y.p8 0 2 5 8 9 10 11 57 O;refine aC Y O ?_;refine aa λG19=>wlv Y (aW (v:=.agg #[jv 0,jv 0,jv 0,jv 0,jv 0,jv 0,jv 0,jv 0,sv ([]:By)]) O kr) λa Y=>aA 2 Y U [jv 0,jv 0,jv 0,jv 0,jv 0,jv 0,jv 0,jv 0,sv ([]:By)] O (sizeOf90 _) λa w12 Y U=>nv Y<|AM O<|AM O<|λa Y=>G19<|ao<|am Y results46 (aB O (bA (U.g 2 O) (isAgg90 _) (sizeOf90 _)) (ae O (ae O ag))) ?_;exact .inr ⟨fq hno,O,U.ext⟩
  rw[show (l1.getD 0 0).toNat- k=0 from by omega] at hacc;refine aN<|G7<|aa λG20=>nv Y<|AL O<|AL O<|λa Y=>?_;rcases AR (isS 9 (s.drop q)) with hb12|hb12
  ·obtain⟨l9,r9,h9⟩:=ym hb12;have hl9:=(fQ h9).1;have hd9:=iO Dr h9;refine bp Y U call107 O (lQ h9 Dr hsl de) λa w13 x14 hp Y U=>?_;revert x14 hp Y U; rintro iv13 hp Y U;clear hp;replace U:=U.n4 O;refine nv Y<|AL O<|AK (aj O O)<|AK (aj O O)<|AK (aj O O)<|AM O<|AM O<|AM O<|λa Y=>G20 ?_;replace U:=U.k3 11 O;refine ah λG21=>aa λG22=>nv (Y.p6 0 2 8 13 14 15 O)<|AL O<|AK ((bd O).asb (b':=false) O)<|λa Y=>G22<|aJ Y O ?_;refine ap<|G21<|ah λG23=>aL (aM λw14 hxz=>?_);replace U:=U.grow hxz;refine aP (k:=0) 31 [29,30] Y ?_;replace Y:=Y.p8 0 2 8 13 14 15 97 98 O;refine bE [30] (λi=>match i with|30=>pm (λb:Nat=>pq b) (λb=>[blk b E4 90]) (λ_=>True)|_=>λ_ _=>False) 31 [[],[0],[1],[],[3],[4],[],[6],[7],[],[9],[10],[8,11],[],[13],[14],[],[16],[17],[],[19],[20],[],[22],[23],[21,24],[],[],[26,27],[2,5,12,15,18,25,28],[]] [iv13,slAddr iv13 (1*1),jv (l9.getD 1 0),iv13,slAddr iv13 (2*1),jv (l9.getD 2 0),iv13,slAddr iv13 (3*1),jv (l9.getD 3 0),iv13,slAddr iv13 (4*1),jv (l9.getD 4 0),.agg #[jv (l9.getD 3 0),jv (l9.getD 4 0)],iv13,slAddr iv13 (5*1),jv (l9.getD 5 0),iv13,slAddr iv13 (6*1),jv (l9.getD 6 0),iv13,slAddr iv13 (7*1),jv (l9.getD 7 0),iv13,slAddr iv13 (8*1),jv (l9.getD 8 0),.agg #[jv (l9.getD 7 0),jv (l9.getD 8 0)],sv s,jv ((s.length- r9.length:Nat):Int),sv (s.drop (s.length- r9.length)),.agg #[jv (l9.getD 1 0),jv (l9.getD 2 0),jv (l9.getD 3 0),jv (l9.getD 4 0),jv (l9.getD 5 0),jv (l9.getD 6 0),jv (l9.getD 7 0),jv (l9.getD 8 0),sv (s.drop (s.length- r9.length))],undef] Y U ?_ ?_ ?_
   ·exact CG<|hqv (ax rfl)<|hqw (λU=>(ai (i:=1) (sT:=24) (U.ow 0 rfl) rfl rfl (runUnderlying24 _) (sizeOf3 _) om CH).as (v':=slAddr iv13 (1*1)) rfl)<|hqw (λU=>az (u:=jv (l9.getD 1 0)) (i:=1) (j:=0) (U.ow 0 rfl) CH rfl (isAgg3 _) C0)<|hqv (ax rfl)<|hqw (λU=>(ai (i:=2) (sT:=24) (U.ow 0 rfl) rfl rfl (runUnderlying24 _) (sizeOf3 _) om CH).as (v':=slAddr iv13 (2*1)) rfl)<|hqw (λU=>az (u:=jv (l9.getD 2 0)) (i:=2) (j:=0) (U.ow 0 rfl) CH rfl (isAgg3 _) C0)<|hqv (ax rfl)<|hqw (λU=>(ai (i:=3) (sT:=24) (U.ow 0 rfl) rfl rfl (runUnderlying24 _) (sizeOf3 _) om CH).as (v':=slAddr iv13 (3*1)) rfl)<|
     hqw (λU=>az (u:=jv (l9.getD 3 0)) (i:=3) (j:=0) (U.ow 0 rfl) CH rfl (isAgg3 _) C0)<|hqv (ax rfl)<|hqw (λU=>(ai (i:=4) (sT:=24) (U.ow 0 rfl) rfl rfl (runUnderlying24 _) (sizeOf3 _) om CH).as (v':=slAddr iv13 (4*1)) rfl)<|hqw (λU=>az (u:=jv (l9.getD 4 0)) (i:=4) (j:=0) (U.ow 0 rfl) CH rfl (isAgg3 _) C0)<|hqv (aW (v:=.agg #[jv (l9.getD 3 0),jv (l9.getD 4 0)]) rfl kr)<|hqv (ax rfl)<|hqw (λU=>(ai (i:=5) (sT:=24) (U.ow 0 rfl) rfl rfl (runUnderlying24 _) (sizeOf3 _) om CH).as (v':=slAddr iv13 (5*1)) rfl)<|hqw (λU=>az (u:=jv (l9.getD 5 0)) (i:=5) (j:=0) (U.ow 0 rfl) CH rfl (isAgg3 _) C0)<|hqv (ax rfl)<|
     hqw (λU=>(ai (i:=6) (sT:=24) (U.ow 0 rfl) rfl rfl (runUnderlying24 _) (sizeOf3 _) om CH).as (v':=slAddr iv13 (6*1)) rfl)<|hqw (λU=>az (u:=jv (l9.getD 6 0)) (i:=6) (j:=0) (U.ow 0 rfl) CH rfl (isAgg3 _) C0)<|hqv (ax rfl)<|hqw (λU=>(ai (i:=7) (sT:=24) (U.ow 0 rfl) rfl rfl (runUnderlying24 _) (sizeOf3 _) om CH).as (v':=slAddr iv13 (7*1)) rfl)<|hqw (λU=>az (u:=jv (l9.getD 7 0)) (i:=7) (j:=0) (U.ow 0 rfl) CH rfl (isAgg3 _) C0)<|hqv (ax rfl)<|hqw (λU=>(ai (i:=8) (sT:=24) (U.ow 0 rfl) rfl rfl (runUnderlying24 _) (sizeOf3 _) om CH).as (v':=slAddr iv13 (8*1)) rfl)<|
     hqw (λU=>az (u:=jv (l9.getD 8 0)) (i:=8) (j:=0) (U.ow 0 rfl) CH rfl (isAgg3 _) C0)<|hqv (aW (v:=.agg #[jv (l9.getD 7 0),jv (l9.getD 8 0)]) rfl kr)<|hqv (ax rfl)<|hqv (ax rfl)<|hqv ((eN (xs:=s) (l:=(s.length- r9.length)) (h:=s.length) rfl rfl rfl underlying9 (.inr (by rw[show (((s.length- r9.length:Nat):Int):Int)=(((s.length- r9.length):Nat):Int) from by omega]<;>rfl)) (.inl ⟨rfl,rfl⟩) om (Bs _)).as (v':=sv (s.drop (s.length- r9.length))) (by rw[BS DB]))<|hqv (aW (v:=.agg #[jv (l9.getD 1 0),jv (l9.getD 2 0),jv (l9.getD 3 0),jv (l9.getD 4 0),jv (l9.getD 5 0),jv (l9.getD 6 0),jv (l9.getD 7 0),jv (l9.getD 8 0),sv (s.drop (s.length- r9.length))]) rfl kr)<|CE (λh=>absurd sm h)<|CF
   ·intro i hi;simp only[A0,A4,Bm] at hi;subst hi
    ·intro w U;exact fD (zeroValue90 _) (cs:=E4) O
   clear Y U;rintro _ _ ⟨b15,rfl, -,rfl⟩ a w15 Y U;replace Y:=Y.p5 129 16 0 2 8 O;replace U:=U.n4 O;refine ab<|aI (k:=31) 32 [31] ?_;refine aA 0 Y U [jv (l9.getD 1 0),jv (l9.getD 2 0),jv (l9.getD 3 0),jv (l9.getD 4 0),jv (l9.getD 5 0),jv (l9.getD 6 0),jv (l9.getD 7 0),jv (l9.getD 8 0),sv (s.drop (s.length- r9.length))] O (sizeOf90 _) λa w16 Y U=>ab<|aO<|G23 ?_;replace Y:=Y.p4 0 2 8 16 O;replace U:=U.k3 13 O;replace U:St No w0 [blk b15 [jv (l9.getD 1 0),jv (l9.getD 2 0),jv (l9.getD 3 0),jv (l9.getD 4 0),jv (l9.getD 5 0),jv (l9.getD 6 0),jv (l9.getD 7 0),jv (l9.getD 8 0),sv r9] 90,own lv 144 7 ((acc).map Pxy.cells),blk w0.hz E4 90] w16:=by rw[hd9.1] at U; exact U
   obtain⟨et,ee,hen⟩:∃t e,encT (wshN l9 r9) acc=(t,e):=⟨_,_,rfl⟩;have hrd:=hacc.trans (wP h9);refine aa λG24=>nv Y<|AK (ar (U.g 0 O) O (isAgg90 _) (sizeOf90 _))<|AL O<|λa Y=>au Y U call106 O (kB (x:=wshN l9 r9) (ps:=acc) (t:=et) (e:=ee) hen (U.ow 1 O)) λa w17 Y U=>nv Y<|AL O<|AK (aj O O)<|AK (aj O O)<|AM O<|AM O<|λa Y=>G24 ?_;refine ah λG25=>aa λG26=>nv (Y.p6 0 2 8 16 17 18 O)<|AL O<|AK (v_ne O O)<|AL O<|λa Y=>?_;rcases (Decidable.em (ee=0)).symm with hb16|hb16
   ·rw[AV hb16] at Y;refine nv Y<|AO<|AO<|AO<|AK (aq O O)<|λa Y=>G26 ?_;replace Y:=Y.p4 2 8 16 142 O;refine aC Y O ?_;refine aa λG27=>wlv Y (aW (v:=.agg #[jv 0,jv 0,jv 0,jv 0,jv 0,jv 0,jv 0,jv 0,sv ([]:By)]) O kr) λa Y=>aA 2 Y U [jv 0,jv 0,jv 0,jv 0,jv 0,jv 0,jv 0,jv 0,sv ([]:By)] O (sizeOf90 _) λa w18 Y U=>nv Y<|AM O<|AM O<|λa Y=>G27<|ao<|am Y results46 (aB O (bA (U.g 2 O) (isAgg90 _) (sizeOf90 _)) (ae O (ae O ag))) ?_;exact .inr ⟨ne hrd (tW hen (.inl hb16)),O,U.ext⟩
   rw[AQ hb16] at Y;refine nv Y<|AN (ax O)<|AN (ax O)<|AN (mB O O)<|AK (ak O O)<|λa Y=>G26 ?_;replace Y:=Y.p4 2 8 16 142 O;refine bV Y O (λhc17=>?_) (λhc17=>?_)
   ·refine aa λG28=>wlv Y (aW (v:=.agg #[jv 0,jv 0,jv 0,jv 0,jv 0,jv 0,jv 0,jv 0,sv ([]:By)]) O kr) λa Y=>aA 2 Y U [jv 0,jv 0,jv 0,jv 0,jv 0,jv 0,jv 0,jv 0,sv ([]:By)] O (sizeOf90 _) λa w19 Y U=>nv Y<|AM O<|AM O<|λa Y=>G28<|ao<|am Y results46 (aB O (bA (U.g 2 O) (isAgg90 _) (sizeOf90 _)) (ae O (ae O ag))) ?_;exact .inr ⟨ne hrd (tW hen (.inr hc17)),O,U.ext⟩
   refine ap<|G25<|aa λG29=>nv Y<|AK (ar (U.g 0 O) O (isAgg90 _) (sizeOf90 _))<|AL O<|λa Y=>aA 2 Y U [jv (l9.getD 1 0),jv (l9.getD 2 0),jv (l9.getD 3 0),jv (l9.getD 4 0),jv (l9.getD 5 0),jv (l9.getD 6 0),jv (l9.getD 7 0),jv (l9.getD 8 0),sv r9] O (sizeOf90 _) λa w20 Y U=>nv Y<|AM O<|AM O<|λa Y=>G29<|ao<|am Y results46 (aB O (bA (U.g 2 O) (isAgg90 _) (sizeOf90 _)) (ae O (ae O ag))) ?_;exact .inl ⟨wshN l9 r9,acc,wL hrd (yX hen hb16 hc17),_,O,trivial,U.ext,St.out (E:=[own lv 144 7 (acc.map Pxy.cells)]) (H:=[]) (U.select [1] de)⟩
  have h9:=wG hb12;have hno:readR s=none:=by rw[hacc]; exact rp h9
  refine au Y U call107 O (ke h9 Dr hsl de) λa w21 Y U=>nv Y<|AL O<|AK (aj O O)<|AK (aj O O)<|AK (aj O O)<|AM O<|AM O<|AM O<|λa Y=>G20 ?_;replace U:=U.k2 5 O;refine ah λG30=>aa λG31=>nv (Y.p6 0 2 8 13 14 15 O)<|AL O<|AK ((bd O).asb (b':=true) O)<|λa Y=>G31<|aC Y O ?_;refine aa λG32=>wlv Y (aW (v:=.agg #[jv 0,jv 0,jv 0,jv 0,jv 0,jv 0,jv 0,jv 0,sv ([]:By)]) O kr) λa Y=>aA 1 Y U [jv 0,jv 0,jv 0,jv 0,jv 0,jv 0,jv 0,jv 0,sv ([]:By)] O (sizeOf90 _) λa w22 Y U=>nv Y<|AM O<|AM O<|λa Y=>G32<|ao<|am Y results46 (aB O (bA (U.g 1 O) (isAgg90 _) (sizeOf90 _)) (ae O (ae O ag))) ?_;exact .inr ⟨fq hno,O,U.ext⟩
 have h1:=wG hb1;have hno:readR s=none:=tg h1;refine au Y U call107 O (ke h1 Dr hsl de) λa w23 Y U=>nv Y<|AL O<|AK (aj O O)<|AK (aj O O)<|AK (aj O O)<|AM O<|AM O<|AM O<|λa Y=>G2 ?_;refine ah λG33=>aa λG34=>nv (Y.p7 0 2 3 4 5 6 7 O)<|AL O<|AK ((bd O).asb (b':=true) O)<|AL O<|AO<|AO<|AO<|AO<|AO<|AK (aq O O)<|λa Y=>G34 ?_;replace Y:=Y.p7 0 2 3 4 5 6 33 O;refine aC Y O ?_;refine aa λG35=>wlv Y (aW (v:=.agg #[jv 0,jv 0,jv 0,jv 0,jv 0,jv 0,jv 0,jv 0,sv ([]:By)]) O kr) λa Y=>aA 0 Y U [jv 0,jv 0,jv 0,jv 0,jv 0,jv 0,jv 0,jv 0,sv ([]:By)] O (sizeOf90 _) λa w24 Y U=>nv Y<|AM O<|AM O<|λa Y=>G35<|ao<|am Y results46 (aB O (bA (U.g 0 O) (isAgg90 _) (sizeOf90 _)) (ae O (ae O ag))) ?_;exact .inr ⟨fq hno,O,U.ext⟩
theorem wd {f:FuncId} {args:Array Value} {w:World} {a b:Value} (h:a=b) (hr:Ret Tryz.prog f args w λv w'=>v=a∧Ext No w w'):Ret Tryz.prog f args w λv w'=>v=b∧Ext No w w':=by subst h; exact hr
theorem cj {f:FuncId} {args:Array Value} {w:World} {b c:Bool} (h:b=c) (hr:Ret Tryz.prog f args w λv w'=>v=.bool b∧Ext No w w'):Ret Tryz.prog f args w λv w'=>v=.bool c∧Ext No w w':=by subst h; exact hr
theorem ig {f:FuncId} {args:Array Value} {w:World} {b c:Int} (h:b=c) (hr:Ret Tryz.prog f args w λv w'=>v=jv b∧Ext No w w'):Ret Tryz.prog f args w λv w'=>v=jv c∧Ext No w w':=by subst h; exact hr
def Cas.cells (x:Cas):List Value:=(E1 x)
def cE (x:Cas):Int:=if x.ok=true then 0 else 210
theorem lC {acc:List Int} {m:Nat} {r q:By} {n:Int} (h:rdI r=some (n,q)):decC acc (m+1) r=decC (acc++[n]) m q:=by
 unfold decC; rw[gY h];cases intsR m q with
 | none=>rfl
 | some p=>obtain⟨l,t⟩:=p; simp
theorem jE {acc:List Int} {m:Nat} {r:By} (h:rdI r=none):decC acc (m+1) r=none:=by unfold decC; rw[j9 h]
theorem pa {s:By}:decCas s=decC [] 2 s:=rfl
theorem rP {P:Program} {w:World} {L:List (Nat × Value)} {dst:Option Tmp} {T T' ty:TypeId} {pos:String} {af:Array Edge} {x y:Operand} (hx:ev L x=some .nilIface) (hy:ev L y=some .nilIface) (hr:(binOp .eql T .nilIface .nilIface).run P w=.ok (.bool true) w) (hg:(eqGuard .eql T x y .nilIface .nilIface).run P w=.ok () w):OpV P ⟨dst,.binOp .eql T x y T',ty,pos,af,none⟩ L w (.bool true):=
 ⟨rfl,λN df a h=>by
  simp only[execOp,h.eval hx,h.eval hy,Bp,hg,hr,Bj]; rfl⟩
theorem da (n lo hi:Int) (w0:World):
  Ff 49 #[jv n,jv lo,jv hi] w0 (.bool (inB n lo hi)):=by
 refine CB func49 O ntmps49 (lb O) λa Y U=>aa λG1=>wla Y O λa Y=>G1<|aa λG2=>nv Y<|AL O<|AL O<|AK (v_le O O)<|AL O<|λa Y=>cP (N:=15) (df:=[]) 4 [(14,.bool ((decide (lo≤n))&&(decide (n≤hi)))),(0,jv n),(1,jv lo),(2,jv hi),(6,.bool false)] ?_ (λhj=>?_)
 rotate_left
 ·rcases AR (decide (lo≤n)) with hb1|hb1
  ·rw[hb1] at Y;have hb1b:=hb1
   try simp only[qz,AU,Bg,A7,Bf] at hb1
   refine nv Y<|AN (ax O)<|AN (ax O)<|AN (v_le O O)<|AK (aq O O)<|λa Y=>hj _ ?_
   try rw[hb1b]
   exact Y.pick [14,0,1,2,6]
  rw[hb1] at Y;have hb1b:=hb1
  try simp only[qz,AU,Bg,A7,Bf] at hb1
  refine nv Y<|AO<|AO<|AO<|AK (ak O O)<|λa Y=>hj _ ?_
  try rw[hb1b]
  exact Y.pick [14,0,1,2,6]
 intro a Y;refine wla Y O λa Y=>G2<|ao<|am Y results49 (ae O ag) ?_;exact⟨by rfl,U.ext⟩
theorem iL (x:Cas) (w0:World):
  Ff 59 #[(E3 x)] w0 (.bool x.ok):=by
 refine Cy func59 O ntmps59 (lb O) λa Y U=>aa λG1=>aR Y U O (E1 x) O λa w1 Y U=>wla Y O λa Y=>G1<|aa λG2=>nv Y<|AK (ac (v:=pq w0.hz) O kr)<|AK (ld U 0 O O (isAgg3 _) O)<|λa Y=>au Y U call49 O (da x.n 0 99999999 _) λa w2 Y U=>wlm Y O λa Y=>?_;rcases AR (inB x.n 0 99999999) with hb1|hb1
 ·rw[hb1] at Y;refine nv Y<|AN (ac (v:=po w0.hz 1) O kr)<|AN (ld U 0 O O (isAgg3 _) O)<|λa Y=>aF Y U call49 O (da x.t 0 10000000 _) λa w3 Y U=>nv Y<|AK (aq O O)<|AL O<|λa Y=>?_;rcases AR (inB x.t 0 10000000) with hb2|hb2
  ·rw[hb2] at Y;refine nv Y<|AN (ac (v:=po w0.hz 2) O kr)<|AN (ld U 0 O O (isAgg9 _) O)<|AN (aZ O O (runUnderlying9 _))<|AN (v_le O O)<|AK (aq O O)<|AM O<|λa Y=>G2 ?_;replace Y:=Y.p1 2 O;replace U:=U.k0 0 O;refine ao<|am Y results59 (ae O ag) ?_;refine⟨?_,U.ext⟩;simp only[retv];refine Bh Value.bool ?_;unfold Cas.ok;simp only[hb1,hb2,BN];exact decide_eq_decide.2 om
  rw[hb2] at Y;refine nv Y<|AO<|AO<|AO<|AO<|AK (ak O O)<|AM O<|λa Y=>G2 ?_;replace Y:=Y.p1 2 O;replace U:=U.k0 0 O;refine ao<|am Y results59 (ae O ag) ?_;refine⟨?_,U.ext⟩;simp only[retv];refine Bh Value.bool ?_;unfold Cas.ok;simp only[hb1,hb2,BN,B4]
 rw[hb1] at Y;refine nv Y<|AO<|AO<|AO<|AK (ak O O)<|AL O<|AO<|AO<|AO<|AO<|AK (ak O O)<|AM O<|λa Y=>G2 ?_;replace Y:=Y.p1 2 O;replace U:=U.k0 0 O;refine ao<|am Y results59 (ae O ag) ?_;refine⟨?_,U.ext⟩;simp only[retv];refine Bh Value.bool ?_;unfold Cas.ok;simp only[hb1,BN,B4]
theorem zI (x:Cas) (w0:World):
  Ff 19 #[(E3 x)] w0 (.tuple #[sv (encP x),jv (cE x)]):=by
 refine Cy func19 O ntmps19 (lb O) λa Y U=>aa λG1=>aR Y U O (E1 x) O λa w1 Y U=>nv Y<|AM O<|AM O<|λa Y=>G1<|ah λG2=>aa λG3=>wlv Y (ar (U.g 0 O) O (isAgg55 _) (sizeOf55 _)) λa Y=>au Y U call59 O (iL x _) λa w2 Y U=>wlv Y (bd O) λa Y=>G3<|bn Y O (λhc1=>?_) (λhc1=>?_)
 ·try simp only[qz] at hc1
  refine aa λG4=>nv Y<|AM O<|AM O<|λa Y=>G4<|ao<|am Y results19 (ae O (ae O ag)) ?_;exact⟨by simp only[retv]; unfold encP cE; rw[Bc (by rw[hc1]; decide),Bc (by rw[hc1]; decide)]; rfl,U.ext⟩
 try simp only[qz] at hc1
 have hbd:=Cas.bnd hc1;have hl1:=bQ x.n;have hl2:=bQ x.t;have hl3:=bQ (x.ev.length:Int);have hl4:(putS x.ev).length≤1000:=by unfold putS; rw[AW]; omega
 refine ap<|G2<|aa λG5=>nv Y<|AK (ac (v:=pq w0.hz) O kr)<|AK (ld U 0 O O (isAgg3 _) O)<|λa Y=>au Y U call60 O (f8 x.n _ CW) λa w3 Y U=>nv Y<|AL O<|AK (aj O O)<|AK (aj O O)<|AM O<|AM O<|λa Y=>G5 ?_;refine aa λG6=>nv (Y.p4 1 2 3 4 O)<|AK (ac (v:=po w0.hz 1) O kr)<|AK (ld U 0 O O (isAgg3 _) O)<|λa Y=>au Y U call60 O (f8 x.t _ CW) λa w4 Y U=>nv Y<|AL O<|AK (aj O O)<|AK (aj O O)<|AM O<|AM O<|λa Y=>G6 ?_;refine aa λG7=>nv (Y.p5 1 2 3 4 6 O)<|AK (ac (v:=po w0.hz 2) O kr)<|AK (ld U 0 O O (isAgg9 _) O)<|λa Y=>au Y U call61 O (pd x.ev _ om) λa w5 Y U=>nv Y<|AL O<|AK (aj O O)<|AK (aj O O)<|AM O<|AM O<|λa Y=>G7 ?_;replace U:=U.k0 0 O;refine aa λG8=>nv (Y.p5 2 3 4 6 8 O)<|AL O<|AL O<|AK (dJ O O Dm)<|AL O<|AK (dJ O O Dm)<|AM O<|AM O<|λa Y=>G8 ?_;replace Y:=Y.p2 2 3 O;refine ao<|am Y results19 (ae O (ae O ag)) ?_;exact⟨by simp only[retv]; unfold encP cE; rw[Bi hc1,Bi hc1]; simp[Cas.enc,puts],U.ext⟩
theorem lG (w0:World):
  Ff 64 #[jv 0] w0 (.tuple #[]):=by
 refine Cy func64 O ntmps64 (lb O) λa Y U=>aa λG1=>nv Y<|AL O<|AK ((v_ne O O).asb (b':=false) O)<|λa Y=>G1<|aJ Y O ?_;refine ap<|cY Y results64 ag ?_;exact⟨by rfl,U.ext⟩
theorem kh (w0:World):
  Pan Tryz.prog 64 #[jv 10] w0 λc w=>c=[{v:=.iface 126 (.agg #[]),recovered:=false}]∧Ext No w0 w:=by
 refine ph func64 O ntmps64 (lb O) λa Y=>?_;replace U:St No w0 [] w0:=St.init w0;refine aa λG1=>nv (Y.p1 0 O)<|AL O<|AK ((v_ne O O).asb (b':=true) O)<|λa Y=>G1<|aC Y O ?_;refine bK<|aY 2 ?_;refine nv Y<|AK (aW (v:=.agg #[]) O kr)<|AK (dh O underlying126)<|λa Y=>ab<|eu Y O ?_;exact fw (X:=λc w=>c=[{v:=.iface 126 (.agg #[]),recovered:=false}]∧Ext No w0 w) Y ⟨O,U.ext⟩
theorem fW {M:Nat→Prop} {w0:World} (b2 b3:Nat) (c0 c1 c2 c5:Value) (ws:World) (U:St M w0 [blk b2 [c0,c1,c2] 55,blk b3 [c5] 41] ws):
  CallsDIn Fence.wide 0 Tryz.prog 62 #[pq b2,pq b3] (.panicking [{v:=.iface 126 (.agg #[]),recovered:=false}]) ws λe u' w=>u'=(.panicking [{v:=.iface 126 (.agg #[]),recovered:=true}])∧∃x,e=.returned x∧St M w0 [blk b2 [jv 0,jv 0,sv ([]:By)] 55,blk b3 [jv 210] 41] w:=by
 refine o6 (args:=[pq b2,pq b3]) func62 O ntmps62 (lb O) O O de (λ_ _=>O) (.inr ⟨O,O⟩) λa Y=>?_;replace Y:=Y.p3 5 0 1 O;skip;refine aw<|aa λG1=>wlv Y (lK O O kr kr) λa Y=>G1<|aJ Y O ?_;refine aa λG2=>nv Y<|AK (jy O underlying126)<|AK (aj O O)<|AK (aj O O)<|λa Y=>G2<|aC Y O ?_;refine aa λG3=>aE Y U (zeroValue126 _) [] O λa w1 Y U=>aA 0 Y U [] O (sizeOf126 _) λa w2 Y U=>G3 ?_;replace U:=U.k2 6 O;refine al<|wlv (Y.p2 0 1 O) (aW (v:=Fe) O kr) λa Y=>aA 0 Y U Fc O (sizeOf55 _) λa w3 Y U=>aA 1 Y U [jv 210] O (sizeOf41 _) λa w4 Y U=>ab ?_;refine jk Y results62 ag ?_;exact U.select [0,1] de
theorem uW (b2 b3:Nat) (ws:World):
  CallsDIn Fence.wide 0 Tryz.prog 62 #[pq b2,pq b3] .returning ws λe u' w=>u'=.returning∧∃x,e=.returned x∧Ext No ws w:=by
 refine o6 (args:=[pq b2,pq b3]) func62 O ntmps62 (lb O) O O de (λ_ _=>O) (.inl ⟨O,O,O⟩) λa Y=>?_;replace U:St No ws [] ws:=St.init ws;refine aw<|aa λG1=>wlv (Y.p3 5 0 1 O) (rP O O kr kr) λa Y=>G1<|aC Y O ?_;refine al<|wla Y O λa Y=>ab ?_;refine jk Y results62 ag ?_;exact U.ext
theorem yy (s:By) (w0:World) (hsl:s.length≤1000000):
  Ff 20 #[sv s] w0 (.tuple #[.agg (dcX s).cells.toArray,jv (dcE s)]):=by
 refine tT func20 O ntmps20 (lb O) λa Y=>?_;replace U:St No w0 [] w0:=St.init w0;refine aa λG1=>aE (Y.p1 0 O) U (zeroValue55 _) Fc O λa w1 Y U=>aE Y U (zeroValue41 _) [jv 0] O λa w2 Y U=>G1<|aa λG2=>wlv Y (ct O O) λa Y=>qb Y O λa Y=>G2<|aa λG3=>wlm Y O λa Y=>?_;rcases AR ((rdI s).isSome) with hb1|hb1
 ·obtain⟨⟨n1,r1⟩,hq1⟩:=Bz.1 hb1;have hd1:=pa.trans (lC hq1);have hsf1:=(eV hq1).trans (List.suffix_refl s);refine au Y U call63 O (lg sm (List.suffix_refl s) hsl hq1) λa w3 Y U=>nv Y<|AL O<|AK (aj O O)<|AK (aj O O)<|AK (aj O O)<|AM O<|AM O<|AM O<|λa Y=>G3 ?_;replace Y:=Y.p6 0 2 3 4 5 6 O;refine bY λ_ G4 hP4=>aY 1 ?_;refine wlm Y O λa Y=>ab<|aY 1 ?_;refine au Y U call64 O (lG _) λa w4 Y U=>ab<|dN<|G4<|aa λG5=>nv Y<|AL O<|AL O<|λa Y=>?_;rcases AR ((rdI r1).isSome) with hb2|hb2
  ·obtain⟨⟨n2,r2⟩,hq2⟩:=Bz.1 hb2;have hd2:=hd1.trans (lC hq2);have hsf2:=(eV hq2).trans hsf1;refine au Y U call63 O (lg O hsf1 hsl hq2) λa w5 Y U=>nv Y<|AL O<|AK (aj O O)<|AK (aj O O)<|AK (aj O O)<|AM O<|AM O<|AM O<|λa Y=>G5 ?_;replace Y:=Y.p7 0 2 3 4 7 5 6 O;refine bY λ_ G6 hP6=>aY 1 ?_;refine wlm Y O λa Y=>ab<|aY 1 ?_;refine au Y U call64 O (lG _) λa w6 Y U=>ab<|dN<|G6<|aa λG7=>nv Y<|AL O<|AL O<|λa Y=>?_;rcases AR ((rdS r2).isSome) with hb3|hb3
   ·obtain⟨⟨x9,r3⟩,hq3⟩:=Bz.1 hb3;have hd3:=hd2.trans (pj.trans (qY hq3));have hsf3:=(tC hq3).trans hsf2;refine au Y U call65 O (vC s r2 x9 r3 _ _ O hsf2 hsl hq3) λa w7 Y U=>nv Y<|AL O<|AK (aj O O)<|AK (aj O O)<|AK (aj O O)<|AM O<|AM O<|AM O<|λa Y=>G7 ?_;replace Y:=Y.p8 0 2 3 4 7 8 5 6 O;refine bY λ_ G8 hP8=>aY 1 ?_;refine wlm Y O λa Y=>ab<|aY 1 ?_;refine au Y U call64 O (lG _) λa w8 Y U=>ab<|dN<|G8<|aa λG9=>nv Y<|AL O<|AL O<|AL O<|AK (aW (v:=.agg #[jv n1,jv n2,sv x9]) O kr)<|λa Y=>aA 1 Y U [jv n1,jv n2,sv x9] O (sizeOf55 _) λa w9 Y U=>G9 ?_;refine ah λG10=>aa λG11=>nv (Y.p4 0 2 3 5 O)<|AL O<|AL O<|AK (aZ O O (runUnderlying9 _))<|AK (v_ne O O)<|AL O<|λa Y=>?_;rcases (Decidable.em (((s.length- r3.length:Nat):Int)=(s.length:Int))).symm with hb4|hb4
    ·rw[AV hb4] at Y;have hdn:=hd3.trans (oW DS);refine nv Y<|AO<|AO<|AO<|AK (aq O O)<|λa Y=>G11 ?_;replace Y:=Y.p3 2 3 48 O;refine aC Y O ?_;refine bK<|aY 2 ?_;refine nv Y<|AK (aW (v:=.agg #[]) O kr)<|AK (dh O underlying126)<|λa Y=>ab<|eu Y O ?_;replace U:=U.s2 [1,0] de rfl;exact dB Y call62 (fW _ _ _ _ _ _ _ U) results20 (λw9 U=>⟨(aB O (bA (U.g 0 O) (isAgg55 _) (sizeOf55 _)) (aB O (br (U.g 1 O) (isAgg41 _)) ag)),by simp only[retv]; unfold dcX dcE; rw[hdn]; rfl,U.ext⟩)
    rw[AQ hb4] at Y;have hqn:r3=[]:=Bq (by have:=hsf3.length_le; omega);refine wly Y (ar (U.g 1 O) O (isAgg55 _) (sizeOf55 _)) λa Y=>aF Y U call59 O (iL (⟨n1,n2,x9⟩:Cas) _) λa w10 Y U=>nv Y<|AN (bd O)<|AK (ak O O)<|λa Y=>G11 ?_;replace Y:=Y.p3 2 3 48 O;refine bn Y O (λhc5=>?_) (λhc5=>?_)
    ·try simp only[qz] at hc5
     have hdn:=hd3.trans (ob (by exact hc5));refine bK<|aY 2 ?_;refine nv Y<|AK (aW (v:=.agg #[]) O kr)<|AK (dh O underlying126)<|λa Y=>ab<|eu Y O ?_;replace U:=U.s2 [1,0] de rfl;exact dB Y call62 (fW _ _ _ _ _ _ _ U) results20 (λw9 U=>⟨(aB O (bA (U.g 0 O) (isAgg55 _) (sizeOf55 _)) (aB O (br (U.g 1 O) (isAgg41 _)) ag)),by simp only[retv]; unfold dcX dcE; rw[hdn]; rfl,U.ext⟩)
    try simp only[qz] at hc5
    have hds:=hd3.trans (nj hqn (by exact hc5));refine ap<|G10<|aa λG12=>wlv Y (ar (U.g 1 O) O (isAgg55 _) (sizeOf55 _)) λa Y=>aA 1 Y U [jv n1,jv n2,sv x9] O (sizeOf55 _) λa w11 Y U=>aA 0 Y U [jv 0] O (sizeOf41 _) λa w12 Y U=>G12<|ao<|qp (vs:=[.agg #[jv n1,jv n2,sv x9],jv 0]) Y call62 (uW _ _ _) results20 (λw9 hx=>?_);have U:=U.grow hx;exact⟨(aB O (bA (U.g 1 O) (isAgg55 _) (sizeOf55 _)) (aB O (br (U.g 0 O) (isAgg41 _)) ag)),by simp only[retv]; unfold dcX dcE; rw[hds]; rfl,U.ext⟩
   have hq3:rdS r2=none:=by
    cases h:rdS r2 with
    | none=>rfl
    | some z=>rw[h] at hb3; cases hb3
   have hdn:=hd2.trans (pj.trans (oD hq3));refine au Y U call65 O (tr O hsf2 hsl hq3) λa w13 Y U=>nv Y<|AL O<|AK (aj O O)<|AK (aj O O)<|AK (aj O O)<|AM O<|AM O<|AM O<|λa Y=>G7 ?_;replace Y:=Y.p8 0 2 3 4 7 8 5 6 O;refine bY λ_ G13 hP13=>aY 1 ?_;refine wlm Y O λa Y=>ab<|pF (X:=λc w2=>c=[{v:=.iface 126 (.agg #[]),recovered:=false}]∧Ext No w13 w2) Y call64 O (kh _) ?_;rintro _ w14 ⟨rfl,hx⟩;have U:=U.grow hx;refine hP13 _ _ _ ?_;replace U:=U.s2 [1,0] de rfl;exact dB Y call62 (fW _ _ _ _ _ _ _ U) results20 (λw9 U=>⟨(aB O (bA (U.g 0 O) (isAgg55 _) (sizeOf55 _)) (aB O (br (U.g 1 O) (isAgg41 _)) ag)),by simp only[retv]; unfold dcX dcE; rw[hdn]; rfl,U.ext⟩)
  have hq2:rdI r1=none:=by
   cases h:rdI r1 with
   | none=>rfl
   | some z=>rw[h] at hb2; cases hb2
  have hdn:=hd1.trans (jE hq2);refine au Y U call63 O (mD O hsf1 hsl hq2) λa w15 Y U=>nv Y<|AL O<|AK (aj O O)<|AK (aj O O)<|AK (aj O O)<|AM O<|AM O<|AM O<|λa Y=>G5 ?_;replace Y:=Y.p7 0 2 3 4 7 5 6 O;refine bY λ_ G14 hP14=>aY 1 ?_;refine wlm Y O λa Y=>ab<|pF (X:=λc w2=>c=[{v:=.iface 126 (.agg #[]),recovered:=false}]∧Ext No w15 w2) Y call64 O (kh _) ?_;rintro _ w16 ⟨rfl,hx⟩;have U:=U.grow hx;refine hP14 _ _ _ ?_;replace U:=U.s2 [1,0] de rfl;exact dB Y call62 (fW _ _ _ _ _ _ _ U) results20 (λw9 U=>⟨(aB O (bA (U.g 0 O) (isAgg55 _) (sizeOf55 _)) (aB O (br (U.g 1 O) (isAgg41 _)) ag)),by simp only[retv]; unfold dcX dcE; rw[hdn]; rfl,U.ext⟩)
 have hq1:rdI s=none:=by
  cases h:rdI s with
  | none=>rfl
  | some z=>rw[h] at hb1; cases hb1
 have hdn:=pa.trans (jE hq1);refine au Y U call63 O (mD sm (List.suffix_refl s) hsl hq1) λa w17 Y U=>nv Y<|AL O<|AK (aj O O)<|AK (aj O O)<|AK (aj O O)<|AM O<|AM O<|AM O<|λa Y=>G3 ?_;replace Y:=Y.p6 0 2 3 4 5 6 O;refine bY λ_ G15 hP15=>aY 1 ?_;refine wlm Y O λa Y=>ab<|pF (X:=λc w2=>c=[{v:=.iface 126 (.agg #[]),recovered:=false}]∧Ext No w17 w2) Y call64 O (kh _) ?_;rintro _ w18 ⟨rfl,hx⟩;have U:=U.grow hx;refine hP15 _ _ _ ?_;replace U:=U.s2 [1,0] de rfl;exact dB Y call62 (fW _ _ _ _ _ _ _ U) results20 (λw9 U=>⟨(aB O (bA (U.g 0 O) (isAgg55 _) (sizeOf55 _)) (aB O (br (U.g 1 O) (isAgg41 _)) ag)),by simp only[retv]; unfold dcX dcE; rw[hdn]; rfl,U.ext⟩)
def prevN (l:List Cas):Nat→Int
 | 0=> -1
 | k+1=>(l.getD k Cas.z).n
theorem nJ {l:List Cas} {k:Nat} (h:0<k):prevN l k=(l.getD (k- 1) Cas.z).n:=by
 cases k with
 | zero=>exact absurd h (Cf 0)
 | succ k=>rfl
theorem lJ {l:List Cas} {k:Nat} (h:k<l.length):l.drop k=l.getD k Cas.z::l.drop (k+1):=by
 rw[BK h,AY,A2 h]; rfl
section
variable {l:List Cas} {k:Nat}
theorem pH (hk:k<l.length) (ho:(l.getD k Cas.z).ok=true) (ht:prevN l k<(l.getD k Cas.z).n):ascC (prevN l k) (l.drop k)=ascC (prevN l (k+1)) (l.drop (k+1)):=by
 rw[lJ hk,ascC,ho,AQ ht]; rfl
theorem wy (hk:k<l.length) (ho:(l.getD k Cas.z).ok=false):ascC (prevN l k) (l.drop k)=false:=by rw[lJ hk,ascC,ho]; rfl
theorem xg (hk:k<l.length) (ht:(l.getD k Cas.z).n≤prevN l k):ascC (prevN l k) (l.drop k)=false:=by rw[lJ hk,ascC,AV om,Bx]; rfl
theorem nX (hk:k<l.length):entC (l.take (k+1))=entC (l.take k)++[encP (l.getD k Cas.z)]:=by rw[cI Cas.z hk,entC,BI]; rfl
end
theorem ll (c:Int) (lv:Value) (l:List Cas) (w0:World) (hlv:SlAt w0 lv 3 (l.map Cas.cells)):
  Ff 31 #[.agg #[jv c,lv]] w0 (.bool (docOk c l)):=by
 have hxb:=hlv.2.1;simp only[AP,big] at hxb;refine Cy func31 O ntmps31 (lb O) λa Y U=>aa λG1=>aR Y U O [jv c,lv] O λa w1 Y U=>wla Y O λa Y=>G1<|ah λG2=>aa λG3=>nv Y<|AK (ac (v:=po w0.hz 1) O kr)<|AK (ld U 0 O O (isAgg30 _) O)<|AK ((aH (sT:=30) (U.arg hlv) O O (runUnderlying30 _)).asi (m':=(l.length:Int)) CU)<|AL O<|λa Y=>G3<|aw<|aV (λm a w=>∃(k:Nat),m=l.length- k∧(k≤l.length)∧(ascC (-1) l=ascC (prevN l k) (l.drop k))∧Fr 42 [(1,pq w0.hz),(6,lv),(7,jv (l.length:Int)),(8,jv (k:Int))] [] a∧St No w0 [blk w0.hz [jv c,lv] 32] w) _ ⟨0,O,A8 _,O,Y.pick [1,6,7,8],U.select [0] de⟩ ?_;rintro _ a w2 ⟨k,rfl,hk,hs,Y,U⟩;refine aa λG4=>wlv Y (v_lt O O) λa Y=>G4<|ah λG5=>ay Y O (λhc1=>?_) (λhc1=>?_)
 ·have hkx:k<l.length:=by omega
  refine ap<|G5<|ah λG6=>aw<|aa λG7=>nv Y<|AL O<|AK ((ai (i:=(k:Int)) (sT:=30) (U.arg hlv) O O (runUnderlying30 _) (sizeOf55 _) om CH).as (v':=slAddr lv (k*3)) O)<|AK ((bI (U.arg hlv) (i:=k) CH O (isAgg55 _) (sizeOf55 _)).as (v':=.agg #[jv ((l.getD k Cas.z).n),jv ((l.getD k Cas.z).t),sv ((l.getD k Cas.z).ev)]) Dh)<|λa Y=>aE Y U (zeroValue55 _) Fc O λa w3 Y U=>wla Y O λa Y=>aA 0 Y U [jv ((l.getD k Cas.z).n),jv ((l.getD k Cas.z).t),sv ((l.getD k Cas.z).ev)] O (sizeOf55 _) λa w4 Y U=>G7<|ah λG8=>aL (aM λw5 hxz=>?_);replace U:=U.grow hxz;refine aI (k:=0) 7 [6] ?_;refine wlv Y (ar (U.g 0 O) O (isAgg55 _) (sizeOf55 _)) λa Y=>au Y U call59 O (iL (l.getD k Cas.z) _) λa w6 Y U=>nv Y<|AK (bd O)<|AL O<|λa Y=>?_;rcases AR (!((l.getD k Cas.z).ok)) with hb2|hb2
  ·rw[hb2] at Y
   try simp only[qz] at hb2
   have hbad:ascC (-1) l=false:=by rw[hs]; exact wy hkx (by simpa using hb2)
   refine nv Y<|AO<|AO<|AO<|λa Y=>ab<|bR (k:=7) 16 [13,15] (Y.p16 1 6 7 8 10 11 12 4 3 13 14 15 16 17 18 19 O) λa Y=>?_;replace Y:Fr 42 [(20,undef),(21,undef),(22,undef),(23,undef),(24,undef),(25,undef),(26,undef),(27,undef),(28,undef),(1,pq w0.hz),(6,lv),(7,jv (l.length:Int)),(8,jv (k:Int)),(10,jv (k:Int)),(11,slAddr lv (k*3)),(12,.agg #[jv ((l.getD k Cas.z).n),jv ((l.getD k Cas.z).t),sv ((l.getD k Cas.z).ev)]),(4,pq w2.hz),(3,jv (k:Int)),(13,.agg #[jv ((l.getD k Cas.z).n),jv ((l.getD k Cas.z).t),sv ((l.getD k Cas.z).ev)]),(14,.bool ((l.getD k Cas.z).ok)),(15,.bool true),(16,.bool true),(17,undef),(18,undef),(19,undef)] [] a:=Y;refine aI (k:=16) 19 [18] ?_;refine bO Y λa Y=>nv Y<|AO<|AK (aq O O)<|λa Y=>ab<|aO<|G8 ?_;replace Y:=Y.p5 1 6 7 8 31 O;replace U:=U.k1 2 O;refine aC Y O ?_;refine aa λG9=>wla Y O λa Y=>G9<|ao<|am Y results31 (ae O ag) ?_;refine⟨?_,U.ext⟩;simp only[retv];refine Bh Value.bool ?_;unfold docOk; rw[hbad]; rfl
  rw[hb2] at Y
  try simp only[qz] at hb2
  have hok:(l.getD k Cas.z).ok=true:=by simpa using hb2
  have hbn:=Cas.bnd hok;refine nv Y<|AN (ax O)<|AN (v_gt O O)<|AN (ax O)<|λa Y=>ab ?_;rcases Decidable.em (0<(k:Int)) with hb3|hb3
  ·rw[AQ hb3] at Y;have hpv:=nJ (l:=l) (k:=k) om;refine aP (k:=7) 16 [13,15] Y ?_;replace Y:=Y.p16 1 6 7 8 10 11 12 4 3 13 14 15 16 17 18 19 O;refine bB 9 Y U<|pl_v (ac (v:=po w0.hz 1) O kr)<|pl_w (λU=>ld U 1 O O (isAgg30 _) O)<|pl_m O<|pl_v (bF O O ⟨om,om⟩)<|pl_w (λU=>(ai (i:=(k:Int)- 1) (sT:=30) (U.arg hlv) O O (runUnderlying30 _) (sizeOf55 _) om CH).as (v':=slAddr lv ((k- 1)*3)) C6)<|pl_w (λU=>aQ (k:=(k- 1)*3) (j:=0) (U.arg hlv) (i:=(k- 1)) CH O (λ_ _=>by kernel_rfl))<|pl_w (λU=>az (u:=jv ((l.getD (k- 1) Cas.z).n)) (i:=(k- 1)) (j:=0) (U.arg hlv) CH O (isAgg3 _) Dh) ?_;refine pl_v (ac (v:=pq w2.hz) O kr)<|pl_w (λU=>ld U 0 O O (isAgg3 _) O) λa w7 Y U=>?_;replace Y:=Y.p8 1 6 7 8 16 19 26 28 O;refine ab<|aI (k:=16) 19 [18] ?_;refine nv Y<|AN (v_ge O O)<|AN (aq O O)<|AK (ak O O)<|λa Y=>ab<|aO<|G8 ?_;replace Y:=Y.p5 1 6 7 8 31 O;replace U:=U.k1 2 O;refine ay Y O (λhc4=>?_) (λhc4=>?_)
   ·have hbad:ascC (-1) l=false:=by rw[hs]; exact xg hkx (by rw[hpv]; exact hc4)
    refine aa λG10=>wla Y O λa Y=>G10<|ao<|am Y results31 (ae O ag) ?_;refine⟨?_,U.ext⟩;simp only[retv];refine Bh Value.bool ?_;unfold docOk; rw[hbad]; rfl
   have hgo:prevN l k<(l.getD k Cas.z).n:=by rw[hpv]; omega
   refine ap<|G6<|al<|nv Y<|AK (aK O O ⟨om,om⟩)<|AL O<|λa Y=>ab ?_;refine⟨_,?_,k+1,O,om,Ea,Y.pick [1,6,7,8],U.select [0] de⟩;omega
  rw[AV hb3] at Y
  have hgo:prevN l k<(l.getD k Cas.z).n:=by
   have h0:k=0:=by omega
   rw[h0] at hbn⊢; show-1<_; omega
  refine bR (k:=7) 16 [13,15] (Y.p16 1 6 7 8 10 11 12 4 3 13 14 15 16 17 18 19 O) λa Y=>?_;replace Y:Fr 42 [(20,undef),(21,undef),(22,undef),(23,undef),(24,undef),(25,undef),(26,undef),(27,undef),(28,undef),(1,pq w0.hz),(6,lv),(7,jv (l.length:Int)),(8,jv (k:Int)),(10,jv (k:Int)),(11,slAddr lv (k*3)),(12,.agg #[jv ((l.getD k Cas.z).n),jv ((l.getD k Cas.z).t),sv ((l.getD k Cas.z).ev)]),(4,pq w2.hz),(3,jv (k:Int)),(13,.agg #[jv ((l.getD k Cas.z).n),jv ((l.getD k Cas.z).t),sv ((l.getD k Cas.z).ev)]),(14,.bool ((l.getD k Cas.z).ok)),(15,.bool false),(16,.bool false),(17,jv (k:Int)),(18,.bool false),(19,.bool false)] [] a:=Y;refine aI (k:=16) 19 [18] ?_;refine nv Y<|AO<|AN (ak O O)<|AK (ak O O)<|λa Y=>ab<|aO<|G8 ?_;replace Y:=Y.p5 1 6 7 8 31 O;replace U:=U.k1 2 O;refine aJ Y O ?_;refine ap<|G6<|al<|nv Y<|AK (aK O O ⟨om,om⟩)<|AL O<|λa Y=>ab ?_;refine⟨_,?_,k+1,O,om,Ea,Y.pick [1,6,7,8],U.select [0] de⟩;omega
 have hall:ascC (-1) l=true:=by rw[hs,show k=l.length by omega,List.drop_length]; rfl
 refine aN<|G2<|aa λG11=>nv Y<|AK (ac (v:=pq w0.hz) O kr)<|AK (ld U 0 O O (isAgg3 _) O)<|λa Y=>au Y U call49 O (da c 0 7 _) λa w8 Y U=>wlm Y O λa Y=>?_;rcases AR (inB c 0 7) with hb5|hb5
 ·rw[hb5] at Y;refine nv Y<|AN (ac (v:=po w0.hz 1) O kr)<|AN (ld U 0 O O (isAgg30 _) O)<|AN ((aH (sT:=30) (U.arg hlv) O O (runUnderlying30 _)).asi (m':=(l.length:Int)) CU)<|AN (v_le O O)<|AK (aq O O)<|AM O<|λa Y=>G11 ?_;replace Y:=Y.p1 2 O;replace U:=U.k0 0 O;refine ao<|am Y results31 (ae O ag) ?_;refine⟨?_,U.ext⟩;simp only[retv];refine Bh Value.bool ?_;unfold docOk; rw[hall,hb5]; simp only[BN]; exact decide_eq_decide.2 om
 rw[hb5] at Y;refine nv Y<|AO<|AO<|AO<|AO<|AK (ak O O)<|AM O<|λa Y=>G11 ?_;replace Y:=Y.p1 2 O;replace U:=U.k0 0 O;refine ao<|am Y results31 (ae O ag) ?_;refine⟨?_,U.ext⟩;simp only[retv];refine Bh Value.bool ?_;unfold docOk; rw[hall,hb5]; rfl
theorem tH (c:Int) (lv:Value) (l:List Cas) (w0:World) (hlv:SlAt w0 lv 3 (l.map Cas.cells)) (hle:l.length≤1000):
  Ret Tryz.prog 72 #[.agg #[jv c,lv]] w0 (MemR w0 (λv:Value=>.agg #[jv c,v]) (λv=>[own v 9 1 ((entC (l)).map λs=>[sv s])]) (λ_=>True)):=by
 have hxb:=hlv.2.1;simp only[AP,big] at hxb;refine Cy func72 O ntmps72 (lb O) λa Y U=>aa λG1=>aR Y U O [jv c,lv] O λa w1 Y U=>aE Y U (zeroValue75 _) [jv 0,.slice none 0 0] O λa w2 Y U=>G1<|aa λG2=>nv Y<|AK (ac (v:=pq w0.hz) O kr)<|AK (ld U 1 O O (isAgg3 _) O)<|AK (aW (v:=.agg #[jv c,.slice none 0 0]) O kr)<|λa Y=>aE Y U (zeroValue75 _) [jv 0,.slice none 0 0] O λa w3 Y U=>aA 0 Y U [jv c,.slice none 0 0] O (sizeOf75 _) λa w4 Y U=>G2<|ah λG3=>aa λG4=>nv Y<|AK (ac (v:=po w0.hz 1) O kr)<|AK (ld U 2 O O (isAgg30 _) O)<|AK ((aH (sT:=30) (U.arg hlv) O O (runUnderlying30 _)).asi (m':=(l.length:Int)) CU)<|AL O<|λa Y=>G4 ?_;replace Y:=Y.p5 2 3 12 13 14 O;replace U:=U.k2 3 O;refine aw ?_;replace U:St No w0 [own (.slice none 0 0) 9 1 ((entC (l.take 0)).map λs=>[sv s]),blk w2.hz [jv c,.slice none 0 0] 75,blk w1.hz [jv 0,.slice none 0 0] 75] w4:=U.nil_own;refine aV (λm a w=>∃(k:Nat) (v:Value),m=l.length- k∧(k≤l.length)∧Fr 31 [(2,pq w1.hz),(3,pq w2.hz),(12,lv),(13,jv (l.length:Int)),(14,jv (k:Int))] [] a∧St No w0 [own v 9 1 ((entC (l.take k)).map λs=>[sv s]),blk w2.hz [jv c,v] 75,blk w1.hz [jv 0,.slice none 0 0] 75] w) _ ⟨0,.slice none 0 0,O,A8 _,Y.pick [2,3,12,13,14],U.select [0,1,2] de⟩ ?_;rintro _ a w5 ⟨k,v,rfl,hk,Y,U⟩;refine aa λG5=>wlv Y (v_lt O O) λa Y=>G5<|ah λG6=>ay Y O (λhc1=>?_) (λhc1=>?_)
 ·have hkx:k<l.length:=by omega
  refine ap<|G6<|ah λG7=>aw<|aa λG8=>nv Y<|AK ((ai (i:=(k:Int)) (sT:=30) (U.arg hlv) O O (runUnderlying30 _) (sizeOf55 _) om CH).as (v':=slAddr lv (k*3)) O)<|AK ((bI (U.arg hlv) (i:=k) CH O (isAgg55 _) (sizeOf55 _)).as (v':=.agg #[jv ((l.getD k Cas.z).n),jv ((l.getD k Cas.z).t),sv ((l.getD k Cas.z).ev)]) Dh)<|λa Y=>aE Y U (zeroValue55 _) Fc O λa w6 Y U=>aA 0 Y U [jv ((l.getD k Cas.z).n),jv ((l.getD k Cas.z).t),sv ((l.getD k Cas.z).ev)] O (sizeOf55 _) λa w7 Y U=>G8<|aa λG9=>wlv Y (ar (U.g 0 O) O (isAgg55 _) (sizeOf55 _)) λa Y=>au Y U call19 O (zI (l.getD k Cas.z) _) λa w8 Y U=>nv Y<|AL O<|AK (aj O O)<|AK (aj O O)<|AM O<|AM O<|λa Y=>G9 ?_;replace U:=U.k3 14 O;refine al<|nv (Y.p6 2 3 12 13 14 6 O)<|AK (ac (v:=po w2.hz 1) O kr)<|AK (ld U 1 O O (isAgg44 _) O)<|AL O<|λa Y=>aG (E:=9) (sz:=1) O [[sv (encP (l.getD k Cas.z))]] kr sm O de de Y U λa w9 Y U=>bc (i:=1) (sT:=44) (inf:=Tryz.t9) (z:=.string (⟨#[]⟩)) (b:=0) (off:=0) (m:=0) (c:=0) O O O (U.ow 0 O) sm underlying44 O O O O de CK Dl Dl de Y U λa w10 s2 Y U _=>?_;rw[show ((entC (l.take k)).map λs=>[sv s])++([[sv (encP (l.getD k Cas.z))]])=((entC (l.take (k+1))).map λs=>[sv s]) from by rw[nX hkx,BI]; rfl] at U;refine wlv Y (ac (v:=po w2.hz 1) O kr) λa Y=>ce 2 Y U (U.ow 1 O) O O O (sizeOf44 _) (lb O) (ds:=[jv c,s2]) O O λa w11 Y U=>ab<|G7 ?_;replace U:=U.k3 14 O;refine al<|nv (Y.p5 2 3 12 13 14 O)<|AK (aK O O ⟨om,om⟩)<|AL O<|λa Y=>ab ?_;refine⟨_,?_,k+1,s2,O,om,Y.pick [2,3,12,13,14],U.select [0,1,2] de⟩;omega
 obtain rfl:k=l.length:=by omega
 rw[List.take_length] at U;refine aN<|G3<|aa λG10=>wlv Y (ar (U.g 1 O) O (isAgg75 _) (sizeOf75 _)) λa Y=>bj (us:=[jv c,v]) 2 Y U O O O (sizeOf75 _) Dc (lb O) (ds:=[jv c,v]) O O λa w12 Y U=>G10 ?_;replace Y:=Y.p1 2 O;refine ao<|am Y results72 (aB O (bA (U.g 2 O) (isAgg75 _) (sizeOf75 _)) ag) ?_;exact⟨v,O,trivial,U.ext,St.out (E:=[own v 9 1 ((entC (l)).map λs=>[sv s])]) (H:=[]) (U.select [0] de)⟩
theorem tR (x:Cas) (n:Int) (w0:World) (h0:0≤x.n∧x.n≤99999999) (h1:0≤n∧n≤99999999):
  Ff 71 #[(E3 x),jv n] w0 (jv (x.n- n)):=by
 refine Cx func71 O ntmps71 (lb O) λa Y U=>aa λG1=>aR Y U O (E1 x) O λa w1 Y U=>wla Y O λa Y=>G1<|aa λG2=>nv Y<|AK (ac (v:=pq w0.hz) O kr)<|AK (ld U 0 O O (isAgg3 _) O)<|AL O<|AK (bF O O ⟨om,om⟩)<|AM O<|λa Y=>G2 ?_;replace Y:=Y.p1 4 O;replace U:=U.k0 0 O;refine ao<|am Y results71 (ae O ag) ?_;exact⟨by rfl,U.ext⟩
theorem sB (lv:Value) (l:List Cas) (num:Int) (w0:World) (hlv:SlAt w0 lv 3 (l.map Cas.cells)) (hasc:ascC (-1) l=true) (hnum:0≤num∧num≤99999999):
  Ff 70 #[lv,jv num,.func (.func 71) #[] #[]] w0 (.tuple #[jv (lowC num l:Int),.bool (hitC l num)]):=by
 have hxb:=hlv.2.1;simp only[AP,big] at hxb;have hall:∀x∈l,0≤x.n∧x.n≤99999999:=λx hx=>by have:=Cas.bnd (gQ hasc x hx).1; omega
 have hll:=ic num l;refine CB func70 O ntmps70 (lb O) λa Y U=>aa λG1=>nv Y<|AM O<|AM O<|λa Y=>G1<|aa λG2=>nv Y<|AL O<|AK ((aH (sT:=30) (U.arg hlv) O O (runUnderlying30 _)).asi (m':=(l.length:Int)) CU)<|AM O<|λa Y=>G2<|aa λG3=>nv Y<|AL O<|AM O<|AM O<|λa Y=>G3<|ah λG4=>aw<|aV (λm a w=>∃(i:Nat) (j:Nat),m=j- i∧(i≤j∧j≤l.length)∧(i≤lowC num l)∧(lowC num l≤j)∧Fr 49 [(0,lv),(1,jv num),(2,.func (.func 71) #[] #[]),(6,jv 0),(7,.bool false),(8,jv (l.length:Int)),(9,jv (i:Int)),(10,jv (j:Int))] [] a∧St No w0 [] w) _ ⟨0,l.length,O,⟨A8 _,Bs _⟩,A8 _,ic num l,Y.pick [0,1,2,6,7,8,9,10],U.select [] de⟩ ?_;rintro _ a w1 ⟨i,j,rfl,hij,hi,hj,Y,U⟩;refine ah λG5=>aa λG6=>nv Y<|AL O<|AL O<|AK (v_lt O O)<|λa Y=>G6<|ay Y O (λhc1=>?_) (λhc1=>?_)
 ·have hml:((i+j) / 2)<j:=by omega
  refine ap<|G5<|aw<|aa λG7=>nv Y<|AL O<|AL O<|AK (aK O O ⟨om,om⟩)<|AK ((eD O kr underlying191).asi (m':=((i+j:Nat):Int)) om)<|AK ((rU (m:=(i+j)) (n:=1) om O O).asi (m':=(((i+j) / 2:Nat):Int)) O)<|AK (iy (n:=((i+j) / 2)) om O kr underlying3)<|AM O<|λa Y=>G7 ?_;refine aa λG8=>nv (Y.p9 0 1 2 6 7 8 9 10 11 O)<|AL O<|AL O<|AL O<|AK ((ai (i:=((((i+j) / 2):Nat):Int)) (sT:=30) (U.arg hlv) O O (runUnderlying30 _) (sizeOf55 _) om CH).as (v':=slAddr lv (((i+j) / 2)*3)) (by rw[show (((((i+j) / 2):Nat):Int)).toNat=((i+j) / 2) from by omega]))<|AK ((bI (U.arg hlv) (i:=((i+j) / 2)) CH O (isAgg55 _) (sizeOf55 _)).as (v':=.agg #[jv ((l.getD ((i+j) / 2) Cas.z).n),jv ((l.getD ((i+j) / 2) Cas.z).t),sv ((l.getD ((i+j) / 2) Cas.z).ev)]) Dh)<|AL O<|λa Y=>dO Y U O call71 O (tR (l.getD ((i+j) / 2) Cas.z) num _ (hall _ (bf om)) hnum) λa w2 Y U=>wlv Y (v_lt O O) λa Y=>G8 ?_;replace Y:=Y.p10 0 1 2 6 7 8 9 10 11 31 O;refine ay Y O (λhc2=>?_) (λhc2=>?_)
  ·have hup:((i+j) / 2)+1≤lowC num l:=by
    refine Nat.lt_of_not_le λhge=>?_;have:=ly hasc hge (show ((i+j) / 2)<l.length by omega);omega
   refine al<|nv Y<|AL O<|AK (aK O O ⟨om,om⟩)<|AM O<|λa Y=>ab ?_;refine⟨_,?_,((i+j) / 2)+1,j,O,om,om,om,Y.pick [0,1,2,6,7,8,9,10],U.select [] de⟩;omega
  have hdn:lowC num l≤((i+j) / 2):=by
   refine Nat.le_of_not_lt λhlt=>?_;have:=lz hlt;omega
  refine al<|nv Y<|AL O<|AM O<|λa Y=>ab ?_;refine⟨_,?_,i,((i+j) / 2),O,om,om,om,Y.pick [0,1,2,6,7,8,9,10],U.select [] de⟩;omega
 have hil:i=lowC num l:=by omega
 refine aN<|G4<|aa λG9=>nv Y<|AL O<|AL O<|AL O<|AK (v_lt O O)<|AL O<|λa Y=>?_;rcases Decidable.em ((i:Int)<(l.length:Int)) with hb3|hb3
 ·rw[AQ hb3] at Y;refine nv Y<|AN (ax O)<|AN (ax O)<|AN (ax O)<|AN ((ai (i:=(i:Int)) (sT:=30) (U.arg hlv) O O (runUnderlying30 _) (sizeOf55 _) om CH).as (v':=slAddr lv (i*3)) O)<|AN ((bI (U.arg hlv) (i:=i) CH O (isAgg55 _) (sizeOf55 _)).as (v':=.agg #[jv ((l.getD i Cas.z).n),jv ((l.getD i Cas.z).t),sv ((l.getD i Cas.z).ev)]) Dh)<|AN (ax O)<|λa Y=>eX Y ?_;refine dO Y U O call71 O (tR (l.getD i Cas.z) num _ (hall _ (bf om)) hnum) λa w3 Y U=>nv Y<|AN (v_eq O O)<|AK (aq O O)<|AM O<|AM O<|λa Y=>G9 ?_;replace Y:=Y.p2 6 7 O;refine ao<|am Y results70 (ae O (ae O ag)) ?_;subst hil;refine⟨?_,U.ext⟩;simp only[retv];refine Bh (λb=>Value.tuple #[jv ((lowC num l:Nat):Int),.bool b]) ?_;unfold hitC;rw[Bool.eq_iff_iff];simp only[AU,AZ,B5,false_iff,eq_self_iff_true,true_iff];omega
 rw[AV hb3] at Y;refine nv Y<|AO<|AO<|AO<|AO<|AO<|AO<|AO<|AO<|AK (ak O O)<|AM O<|AM O<|λa Y=>G9 ?_;replace Y:=Y.p2 6 7 O;refine ao<|am Y results70 (ae O (ae O ag)) ?_;subst hil;refine⟨?_,U.ext⟩;simp only[retv];refine Bh (λb=>Value.tuple #[jv ((lowC num l:Nat):Int),.bool b]) ?_;unfold hitC;rw[Bool.eq_iff_iff];simp only[AU,AZ,B5,false_iff,eq_self_iff_true,true_iff];omega
end Go.Proofs.YtliklcmddmpdfaaGreatDoor
namespace Go.Proofs.YtliklcmddmpdfaaGreatDoor
open Go.RowKit Go.PW _root_.Go.Proofs.Tryz
theorem uh {n a b:Int} (h:inB n a b=true):a≤n∧n≤b:=by simpa [inB] using h
theorem q9 {s:By} (h:s.length=32):s≠[]:=λe=>by rw[e] at h; cases h
theorem zn {a b:By} (h:b≠[]):a++b≠[]:=λe=>h (List.append_eq_nil_iff.1 e).2
theorem ln (n lo hi:Int) (w0:World):
  Ff 122 #[jv n,jv lo,jv hi] w0 (.bool (inB n lo hi)):=by
 refine CB func122 O ntmps122 (lb O) λa Y U=>aa λG1=>wla Y O λa Y=>G1<|aa λG2=>nv Y<|AL O<|AL O<|AK (v_le O O)<|AL O<|λa Y=>cP (N:=15) (df:=[]) 4 [(14,.bool ((decide (lo≤n))&&(decide (n≤hi)))),(0,jv n),(1,jv lo),(2,jv hi),(6,.bool false)] ?_ (λhj=>?_)
 rotate_left
 ·rcases AR (decide (lo≤n)) with hb1|hb1
  ·rw[hb1] at Y;have hb1b:=hb1
   try simp only[qz,AU,Bg,A7,Bf] at hb1
   refine nv Y<|AN (ax O)<|AN (ax O)<|AN (v_le O O)<|AK (aq O O)<|λa Y=>hj _ ?_
   try rw[hb1b]
   exact Y.pick [14,0,1,2,6]
  rw[hb1] at Y;have hb1b:=hb1
  try simp only[qz,AU,Bg,A7,Bf] at hb1
  refine nv Y<|AO<|AO<|AO<|AK (ak O O)<|λa Y=>hj _ ?_
  try rw[hb1b]
  exact Y.pick [14,0,1,2,6]
 intro a Y;refine wla Y O λa Y=>G2<|ao<|am Y results122 (ae O ag) ?_;exact⟨by rfl,U.ext⟩
theorem jV (s:By) (w0:World):
  Ff 120 #[sv s] w0 (.bool (decide ((s.length:Int)=32))):=by
 refine Cy func120 O ntmps120 (lb O) λa Y U=>aa λG1=>wla Y O λa Y=>G1<|aa λG2=>nv Y<|AL O<|AK (aZ O O (runUnderlying9 _))<|AK (v_eq O O)<|AM O<|λa Y=>G2<|ao<|am Y results120 (ae O ag) ?_;exact⟨by rfl,U.ext⟩
theorem zi (s:By) (w0:World):
  Ff 167 #[sv s] w0 (.bool (longE s)):=by
 refine Cy func167 O ntmps167 (lb O) λa Y U=>aa λG1=>wla Y O λa Y=>G1<|aa λG2=>nv Y<|AL O<|AK (aZ O O (runUnderlying9 _))<|AK (v_gt O O)<|AM O<|λa Y=>G2<|ao<|am Y results167 (ae O ag) ?_;exact⟨by simp only[retv]; refine Bh Value.bool ?_; unfold longE; exact decide_eq_decide.2 om,U.ext⟩
theorem zu (c:Int) (ev:Value) (es:List By) (w0:World) (hev:SlAt w0 ev 1 (es.map λs=>[sv s])):
  Ff 121 #[.agg #[jv c,ev]] w0 (.bool (regOk c es)):=by
 refine Cy func121 O ntmps121 (lb O) λa Y U=>aa λG1=>aR Y U O [jv c,ev] O λa w1 Y U=>wla Y O λa Y=>G1<|aa λG2=>wla Y O λa Y=>G2<|aa λG3=>nv Y<|AK (ac (v:=pq w0.hz) O kr)<|AK (ld U 0 O O (isAgg3 _) O)<|λa Y=>au Y U call122 O (ln c 0 7 _) λa w2 Y U=>wlm Y O λa Y=>?_;rcases AR (inB c 0 7) with hb1|hb1
 ·rw[hb1] at Y;refine nv Y<|AN (ac (v:=po w0.hz 1) O kr)<|AN (ld U 0 O O (isAgg44 _) O)<|AN ((aH (sT:=44) (U.arg hev) O O (runUnderlying44 _)).asi (m':=(es.length:Int)) CU)<|AN (v_le O O)<|AK (aq O O)<|AL O<|λa Y=>?_;rcases Decidable.em ((es.length:Int)≤60) with hb2|hb2
  ·rw[AQ hb2] at Y;refine nv Y<|AN (ac (v:=po w0.hz 1) O kr)<|AN (ld U 0 O O (isAgg44 _) O)<|AN (ax O)<|λa Y=>aF Y U call146 O (tP longE _ call167 (U.arg hev) (λx w _=>zi x w)) λa w3 Y U=>nv Y<|AN (bd O)<|AK (aq O O)<|AM O<|λa Y=>G3 ?_;replace Y:=Y.p1 2 O;replace U:=U.k0 0 O;refine ao<|am Y results121 (ae O ag) ?_;refine⟨?_,U.ext⟩;simp only[retv];refine Bh Value.bool ?_;unfold regOk;rw[hb1,show decide (es.length≤60)=true from AQ om]; rfl
  rw[AV hb2] at Y;refine nv Y<|AO<|AO<|AO<|AO<|AO<|AK (ak O O)<|AM O<|λa Y=>G3 ?_;replace Y:=Y.p1 2 O;replace U:=U.k0 0 O;refine ao<|am Y results121 (ae O ag) ?_;refine⟨?_,U.ext⟩;simp only[retv];refine Bh Value.bool ?_;unfold regOk
  first|(rw[hb2]; rfl)|(rw[show decide (es.length≤60)=false from AV om,Bx]; rfl)
 rw[hb1] at Y;refine nv Y<|AO<|AO<|AO<|AO<|AK (ak O O)<|AL O<|AO<|AO<|AO<|AO<|AO<|AK (ak O O)<|AM O<|λa Y=>G3 ?_;replace Y:=Y.p1 2 O;replace U:=U.k0 0 O;refine ao<|am Y results121 (ae O ag) ?_;refine⟨?_,U.ext⟩;simp only[retv];refine Bh Value.bool ?_;unfold regOk
 first|(rw[hb1]; rfl)|(rw[show decide (es.length≤60)=false from AV om,Bx]; rfl)
theorem jd {M:Nat→Prop} {w0:World} (T:TypeId) (b:Nat) (ad v:Value) (bs:By) (n:Int) (ws:World) (hlie:liesAt Tryz.prog Tryz.prog.depth T (2 / Tryz.prog.cellsOf T) 0 160 1=true) (had:ad=.pointer none∨ad=pq b) (hn:small n) (hbn:bs.length+9≤1000000000) (U:St M w0 [bld T b (ad) v bs] ws):
  Ret Tryz.prog 170 #[pq b,jv n] ws λu w=>u=.tuple #[]∧∃v2,St M w0 [bld T b (pq b) v2 (bs++putI n)] w:=by
 refine aD func170 O ntmps170 (lb O) λa Y=>?_;replace Y:=Y.p2 0 1 O;skip;refine aa λG1=>wlm Y O λa Y=>au Y U call60 O (f8 n _ hn) λa w1 Y U=>nv Y<|AL O<|AK (aj O O)<|AK (aj O O)<|AM O<|AM O<|λa Y=>G1 ?_;refine al<|nv (Y.p2 0 4 O)<|AL O<|AK (aX O)<|AK (ac (v:=pq b) O kr)<|AL O<|λa Y=>bZ (R:=λu e'=>u=.tuple #[jv ((putI n).length:Int),.nilIface]∧∃v2,e'=bld T b (pq b) v2 (bs++(putI n))) 0 Y U O de call94 O (λh=>(gO T b _ _ _ _ _ hlie had (tX _) (by have:=(bQ n).2; omega) h).mono λu w ⟨h1,v2,h2⟩=>⟨_,⟨h1,v2,O⟩,h2⟩) ?_;clear Y U;rintro a w2 _ _ ⟨rfl,v1,rfl⟩ Y U
 try dsimp only at U
 replace U:=U.n1 O;refine ab<|cY Y results170 ag ?_;exact⟨O,_,U.select [0] de⟩
theorem ng (key:By) (hd:Hd) (w0:World) (hc:small hd.c) (hn:small hd.n) (hr:hd.root.length=32) (hk:key.length≤1000) (hk0:(blk 0 (kOf.map wv) 258).ok w0):
  Ff 124 #[sv key,.agg #[jv hd.c,jv hd.n,sv hd.root,sv hd.tag]] w0 (sv (sealR sha key hd.c hd.n hd.root)):=by
 have hp4:=bQ 4;have hpc:=bQ hd.c;have hpn:=bQ hd.n;have hxl:(([]:By)++putI 4++putI hd.c++putI hd.n++hd.root).length≤80:=by simp only[AW,A5]; omega
 refine Cx func124 O ntmps124 (lb O) λa Y U=>aa λG1=>aR Y U O [jv hd.c,jv hd.n,sv hd.root,sv hd.tag] O λa w1 Y U=>wla Y O λa Y=>G1<|aa λG2=>aE Y U (zeroValue230 _) [.pointer none,.slice none 0 0] O λa w2 Y U=>G2 ?_;replace U:St No w0 (own (.slice none 0 0) 5 1 []::[blk w1.hz [.pointer none,.slice none 0 0] 230,blk w0.hz [jv hd.c,jv hd.n,sv hd.root,sv hd.tag] 47]) w2:=U.nil_own;replace U:=U.s3 [1,0,2] de rfl;replace U:St No w0 [bld 230 w1.hz (.pointer none) (.slice none 0 0) ([]:By),blk w0.hz [jv hd.c,jv hd.n,sv hd.root,sv hd.tag] 47] w2:=St.join [blk w1.hz [.pointer none,.slice none 0 0] 230,own (.slice none 0 0) 5 1 ([])] [blk w0.hz [jv hd.c,jv hd.n,sv hd.root,sv hd.tag] 47] U;refine aa λG3=>bZ (R:=λu e'=>u=.tuple #[]∧∃v2,e'=bld 230 w1.hz (pq w1.hz) v2 (([]:By)++putI 4)) 0 Y U O de call170 O (λh=>(jd 230 w1.hz _ _ _ 4 _ kr (.inl O) CW Eo h).mono λu w ⟨h1,v2,h2⟩=>⟨_,⟨h1,v2,O⟩,h2⟩) ?_;clear Y U;rintro a w3 _ _ ⟨rfl,v1,rfl⟩ Y U
 try dsimp only at U
 replace U:=U.n2 O;refine G3<|aa λG4=>nv Y<|AK (ac (v:=pq w0.hz) O kr)<|AK (ld U 1 O O (isAgg3 _) O)<|λa Y=>bZ (R:=λu e'=>u=.tuple #[]∧∃v2,e'=bld 230 w1.hz (pq w1.hz) v2 ((([]:By)++putI 4)++putI hd.c)) 0 Y U O de call170 O (λh=>(jd 230 w1.hz _ _ _ hd.c _ kr (.inr O) hc Eo h).mono λu w ⟨h1,v2,h2⟩=>⟨_,⟨h1,v2,O⟩,h2⟩) ?_;clear Y U;rintro a w4 _ _ ⟨rfl,v2,rfl⟩ Y U
 try dsimp only at U
 replace U:=U.n2 O;refine G4<|aa λG5=>nv Y<|AK (ac (v:=po w0.hz 1) O kr)<|AK (ld U 1 O O (isAgg3 _) O)<|λa Y=>bZ (R:=λu e'=>u=.tuple #[]∧∃v2,e'=bld 230 w1.hz (pq w1.hz) v2 (((([]:By)++putI 4)++putI hd.c)++putI hd.n)) 0 Y U O de call170 O (λh=>(jd 230 w1.hz _ _ _ hd.n _ kr (.inr O) hn Eo h).mono λu w ⟨h1,v2,h2⟩=>⟨_,⟨h1,v2,O⟩,h2⟩) ?_;clear Y U;rintro a w5 _ _ ⟨rfl,v3,rfl⟩ Y U
 try dsimp only at U
 replace U:=U.n2 O;refine G5<|aa λG6=>nv (Y.p4 0 3 4 5 O)<|AK (ac (v:=pq w1.hz) O kr)<|AK (ac (v:=po w0.hz 2) O kr)<|AK (ld U 1 O O (isAgg9 _) O)<|λa Y=>bZ (R:=λu e'=>u=.tuple #[jv (hd.root.length:Int),.nilIface]∧∃v2,e'=bld 230 w1.hz (pq w1.hz) v2 ((((([]:By)++putI 4)++putI hd.c)++putI hd.n)++hd.root)) 0 Y U O de call94 O (λh=>(gO 230 w1.hz _ _ _ _ _ kr (.inr O) (q9 hr) Eo h).mono λu w ⟨h1,v2,h2⟩=>⟨_,⟨h1,v2,O⟩,h2⟩) ?_;clear Y U;rintro a w6 _ _ ⟨rfl,v4,rfl⟩ Y U
 try dsimp only at U
 replace U:=U.n2 O;refine G6<|aa λG7=>nv Y<|AL O<|AK (ac (v:=pq w1.hz) O kr)<|λa Y=>bZ (R:=λu e'=>u=sv ((((([]:By)++putI 4)++putI hd.c)++putI hd.n)++hd.root)∧e'=blk w1.hz [pq w1.hz,v4] 230) 0 Y U O de call95 O (λh=>(i0 230 w1.hz _ _ _ (zn (q9 hr)) h).mono λu w ⟨h1,h2⟩=>⟨_,⟨h1,O⟩,h2⟩) ?_;clear Y U;rintro a w7 _ _ ⟨rfl,rfl⟩ Y U
 try dsimp only at U
 replace U:=U.n2 O;refine au Y U call139 O (lf ((((([]:By)++putI 4)++putI hd.c)++putI hd.n)++hd.root) _ om (U.keepb hk0)) λa w8 Y U=>au Y U call138 O (iu key (leafH sha ((((([]:By)++putI 4)++putI hd.c)++putI hd.n)++hd.root)) _ om (by first|omega|(rw[gP cV]; decide)) (U.keepb hk0)) λa w9 Y U=>wla Y O λa Y=>G7 ?_;replace Y:=Y.p1 4 O;replace U:=U.k1 1 O;refine ao<|am Y results124 (ae O ag) ?_;exact⟨by simp only[retv]; simp[sealR,hdText,puts,nodeH],U.ext⟩
theorem nS (key:By) (n:Nat) (hd:Hd) (c:Int) (ev:Value) (es:List By) (w0:World) (hev:SlAt w0 ev 1 (es.map λs=>[sv s])) (hk32:key.length=32) (hr:regOk c es=true) (hn:n≤es.length) (hhd:hdOf sha key c es n=hd) (hk0:(blk 0 (kOf.map wv) 258).ok w0):
  Ff 73 #[sv key,.agg #[jv c,ev],jv (n:Int)] w0 (.tuple #[.agg #[jv hd.c,jv hd.n,sv hd.root,sv hd.tag],jv 0]):=by
 obtain⟨hrc0,hrc1,hrl,hel⟩:=dA hr;have hc:small c:=by unfold small; omega
 have hn':small (n:Int):=by unfold small; omega
 refine CB func73 O ntmps73 (lb O) λa Y U=>aa λG1=>aR Y U O [jv c,ev] O λa w1 Y U=>aE Y U (zeroValue47 _) [jv 0,jv 0,.string (⟨#[]⟩),.string (⟨#[]⟩)] O λa w2 Y U=>wla Y O λa Y=>G1<|ah λG2=>aa λG3=>wlm Y O λa Y=>au Y U call120 O (jV key _) λa w3 Y U=>nv Y<|AK (bd O)<|AL O<|λa Y=>?_;rcases (Decidable.em ((key.length:Int)=32)).symm with hb1|hb1
 ·rw[AV hb1] at Y;exfalso; omega
 rw[AQ hb1] at Y;refine wly Y (ar (U.g 1 O) O (isAgg75 _) (sizeOf75 _)) λa Y=>aF Y U call121 O (zu c ev es _ (U.arg hev)) λa w4 Y U=>nv Y<|AN (bd O)<|AK (ak O O)<|AL O<|λa Y=>?_;rcases AR (!(regOk c es)) with hb2|hb2
 ·rw[hb2] at Y
  try simp only[qz] at hb2
  rw[hr] at hb2; cases hb2
 rw[hb2] at Y
 try simp only[qz] at hb2
 refine nv Y<|AN (ax O)<|AN (ac (v:=po w0.hz 1) O kr)<|AN (ld U 1 O O (isAgg44 _) O)<|AN ((aH (sT:=44) (U.arg hev) O O (runUnderlying44 _)).asi (m':=(es.length:Int)) CU)<|λa Y=>aF Y U call122 O (ln (n:Int) 0 (es.length:Int) _) λa w5 Y U=>nv Y<|AN (bd O)<|AK (ak O O)<|λa Y=>G3 ?_;replace Y:=Y.p6 0 2 4 6 7 24 O;refine bn Y O (λhc3=>?_) (λhc3=>?_)
 ·try simp only[qz] at hc3
  rw[show inB (n:Int) 0 (es.length:Int)=true from by simp[inB]; omega] at hc3; cases hc3
 try simp only[qz] at hc3
 refine ap<|G2<|ah λG4=>aL (aM λw6 hxz=>?_);replace U:=U.grow hxz;refine aP (k:=0) 10 [8,9] Y ?_;replace Y:=Y.p5 0 2 4 6 7 O;refine bE [9] (λi=>match i with|9=>pm (λb:Nat=>pq b) (λb=>[blk b [jv 0,jv 0,.string (⟨#[]⟩),.string (⟨#[]⟩)] 47]) (λ_=>True)|_=>λ_ _=>False) 10 [[],[0],[],[],[3],[],[4,5],[6],[1,2,7],[]] [pq w0.hz,jv c,jv (n:Int),po w0.hz 1,ev,jv (n:Int),(cut ev 1 0 n (slCap ev)),sv (rootH sha (es.take n)),.agg #[jv c,jv (n:Int),sv (rootH sha (es.take n)),sv ([]:By)],undef] Y U ?_ ?_ ?_
 ·exact CG<|hqv (ac (v:=pq w0.hz) rfl kr)<|hqw (λU=>ld U 1 rfl rfl (isAgg3 _) rfl)<|hqv (ax rfl)<|hqv (ac (v:=po w0.hz 1) rfl kr)<|hqw (λU=>ld U 1 rfl rfl (isAgg44 _) rfl)<|hqv (ax rfl)<|hqw (λU=>bT (l:=0) (h:=n) (U.arg hev) rfl rfl rfl underlying44 kr (.inl ⟨rfl,rfl⟩) (.inr rfl) (A8 _) CS)<|CE (λ_ _ U=>bu call123 rfl (pr (cut ev 1 0 n (slCap ev)) (es.take n) _ ((U.arg hev).cut0 (h:=n) CP) De (λk hk=>Br (hel _ (BB (bf hk))) de) (U.keepb hk0)))<|hqv (aW (v:=.agg #[jv c,jv (n:Int),sv (rootH sha (es.take n)),sv ([]:By)]) rfl kr)<|CE (λh=>absurd sm h)<|CF
 ·intro i hi;simp only[A0,A4,Bm] at hi;subst hi
  ·intro w U;exact fD (zeroValue47 _) (cs:=[jv 0,jv 0,.string (⟨#[]⟩),.string (⟨#[]⟩)]) O
 clear Y U;rintro _ _ ⟨b4,rfl, -,rfl⟩ a w7 Y U;replace Y:=Y.p5 34 8 0 6 7 O;replace U:=U.n3 O;refine ab<|aI (k:=10) 11 [10] ?_;refine aA 0 Y U [jv c,jv (n:Int),sv (rootH sha (es.take n)),sv ([]:By)] O (sizeOf47 _) λa w8 Y U=>ab<|aO<|G4 ?_;replace U:=U.k2 3 O;refine aa λG5=>nv (Y.p4 0 6 7 8 O)<|AL O<|AK (ar (U.g 0 O) O (isAgg47 _) (sizeOf47 _))<|λa Y=>au Y U call124 O (ng key (⟨c,(n:Int),rootH sha (es.take n),([]:By)⟩:Hd) _ CL CL (by first|assumption|exact eg cV _) om (U.keepb hk0)) λa w9 Y U=>wlv Y (ac (v:=po b4 3) O kr) λa Y=>aA 0 Y U [jv c,jv (n:Int),sv (rootH sha (es.take n)),sv (sealR sha key c (n:Int) (rootH sha (es.take n)))] O (sizeOf9 _) λa w10 Y U=>G5<|aa λG6=>wlv Y (ar (U.g 0 O) O (isAgg47 _) (sizeOf47 _)) λa Y=>aA 1 Y U [jv c,jv (n:Int),sv (rootH sha (es.take n)),sv (sealR sha key c (n:Int) (rootH sha (es.take n)))] O (sizeOf47 _) λa w11 Y U=>wla Y O λa Y=>G6 ?_;replace Y:=Y.p2 6 7 O;replace U:=U.k1 2 O;refine ao<|am Y results73 (aB O (bA (U.g 0 O) (isAgg47 _) (sizeOf47 _)) (ae O ag)) ?_;subst hhd;exact⟨O,U.ext⟩
theorem xi (key:By) (hd:Hd) (w0:World) (hk0:(blk 0 (kOf.map wv) 258).ok w0):
  Ff 113 #[sv key,.agg #[jv hd.c,jv hd.n,sv hd.root,sv hd.tag]] w0 (.bool (genHd sha key hd)):=by
 refine Cx func113 O ntmps113 (lb O) λa Y U=>aa λG1=>aR Y U O [jv hd.c,jv hd.n,sv hd.root,sv hd.tag] O λa w1 Y U=>wla Y O λa Y=>G1<|aa λG2=>nv Y<|AK (ac (v:=pq w0.hz) O kr)<|AK (ld U 0 O O (isAgg3 _) O)<|λa Y=>au Y U call122 O (ln hd.c 0 7 _) λa w2 Y U=>wlm Y O λa Y=>?_;rcases AR (inB hd.c 0 7) with hb1|hb1
 ·rw[hb1] at Y;have hcb:=uh hb1;have hc:small hd.c:=by unfold small; omega
  refine nv Y<|AN (ac (v:=po w0.hz 1) O kr)<|AN (ld U 0 O O (isAgg3 _) O)<|λa Y=>aF Y U call122 O (ln hd.n 0 60 _) λa w3 Y U=>nv Y<|AK (aq O O)<|AL O<|λa Y=>?_;rcases AR (inB hd.n 0 60) with hb2|hb2
  ·rw[hb2] at Y;have hnb:=uh hb2;have hn:small hd.n:=by unfold small; omega
   refine nv Y<|AN (ac (v:=po w0.hz 2) O kr)<|AN (ld U 0 O O (isAgg9 _) O)<|AN (aZ O O (runUnderlying9 _))<|AN (v_eq O O)<|AK (aq O O)<|AM O<|λa Y=>G2 ?_;replace Y:=Y.p4 0 3 4 5 O;refine ah λG3=>aL (aM λw4 hxz=>?_);replace U:=U.grow hxz;refine aI (k:=0) 6 [5] ?_;refine wlm Y O λa Y=>au Y U call120 O (jV key _) λa w5 Y U=>wlm Y O λa Y=>?_;rcases Decidable.em ((key.length:Int)=32) with hb3|hb3
   ·rw[AQ hb3] at Y;refine nv Y<|AN (ax O)<|AK (aq O O)<|AL O<|λa Y=>ab ?_;rcases Decidable.em ((hd.root.length:Int)=32) with hb4|hb4
    ·rw[AQ hb4] at Y;have hr32:hd.root.length=32:=by omega
     refine aP (k:=6) 11 [7,10] Y ?_;refine bB 5 (Y.p10 0 3 4 5 20 21 22 23 24 25 O) U<|pl_v (ac (v:=po w0.hz 3) O kr)<|pl_w (λU=>ld U 0 O O (isAgg9 _) O)<|pl_m O<|pl_w (λU=>ar (U.g 0 O) O (isAgg47 _) (sizeOf47 _))<|pl_r (λU=>bu call124 O (ng key hd _ CL CL (by first|assumption|exact eg cV _) om (U.keepb hk0))) λa w6 Y U=>?_;replace Y:=Y.p3 25 27 30 O;refine ab<|aI (k:=11) 14 [13] ?_;refine nv Y<|AN (uo O O)<|AK (aq O O)<|AM O<|λa Y=>ab<|aO<|G3<|ao<|am Y results113 (ae O ag) ?_;refine⟨?_,U.ext⟩;simp only[retv];refine Bh Value.bool ?_;unfold genHd;rw[hb1,hb2,show decide (hd.root.length=32)=true from AQ om,show decide (key.length=32)=true from AQ om]; rfl
    rw[AV hb4] at Y;refine bR (k:=6) 11 [7,10] (Y.p10 0 3 4 5 20 21 22 23 24 25 O) λa Y=>?_;replace Y:=Y.p15 26 27 28 29 30 0 3 4 5 20 21 22 23 24 25 O;refine aI (k:=11) 14 [13] ?_;refine nv Y<|AO<|AK (ak O O)<|AM O<|λa Y=>ab<|aO<|G3 ?_;replace Y:=Y.p1 4 O;replace U:=U.k0 0 O;refine ao<|am Y results113 (ae O ag) ?_;refine⟨?_,U.ext⟩;simp only[retv];refine Bh Value.bool ?_;unfold genHd
    first|(rw[hb4]; simp; done)|(rw[hb3]; simp; done)|(rw[hb2]; simp; done)|(rw[hb1]; simp; done)|(rw[show decide (hd.root.length=32)=false from AV om]; simp; done)|(rw[show decide (key.length=32)=false from AV om]; rfl)
   rw[AV hb3] at Y;refine nv Y<|AO<|AK (ak O O)<|AL O<|λa Y=>ab<|bR (k:=6) 11 [7,10] (Y.p10 0 3 4 5 20 21 22 23 24 25 O) λa Y=>?_;replace Y:=Y.p15 26 27 28 29 30 0 3 4 5 20 21 22 23 24 25 O;refine aI (k:=11) 14 [13] ?_;refine nv Y<|AO<|AK (ak O O)<|AM O<|λa Y=>ab<|aO<|G3 ?_;replace Y:=Y.p1 4 O;replace U:=U.k0 0 O;refine ao<|am Y results113 (ae O ag) ?_;refine⟨?_,U.ext⟩;simp only[retv];refine Bh Value.bool ?_;unfold genHd
   first|(rw[hb3]; simp; done)|(rw[hb2]; simp; done)|(rw[hb1]; simp; done)|(rw[show decide (hd.root.length=32)=false from AV om]; simp; done)|(rw[show decide (key.length=32)=false from AV om]; rfl)
  rw[hb2] at Y;refine nv Y<|AO<|AO<|AO<|AO<|AK (ak O O)<|AM O<|λa Y=>G2 ?_;replace Y:=Y.p4 0 3 4 5 O;refine ah λG4=>aL (aM λw7 hxz=>?_);replace U:=U.grow hxz;refine aI (k:=0) 6 [5] ?_;refine wlm Y O λa Y=>au Y U call120 O (jV key _) λa w8 Y U=>wlm Y O λa Y=>?_;rcases Decidable.em ((key.length:Int)=32) with hb5|hb5
  ·rw[AQ hb5] at Y;refine nv Y<|AN (ax O)<|AK (aq O O)<|AL O<|λa Y=>ab<|bR (k:=6) 11 [7,10] (Y.p10 0 3 4 5 20 21 22 23 24 25 O) λa Y=>?_;replace Y:=Y.p15 26 27 28 29 30 0 3 4 5 20 21 22 23 24 25 O;refine aI (k:=11) 14 [13] ?_;refine nv Y<|AO<|AK (ak O O)<|AM O<|λa Y=>ab<|aO<|G4 ?_;replace Y:=Y.p1 4 O;replace U:=U.k0 0 O;refine ao<|am Y results113 (ae O ag) ?_;refine⟨?_,U.ext⟩;simp only[retv];refine Bh Value.bool ?_;unfold genHd
   first|(rw[hb5]; simp; done)|(rw[hb2]; simp; done)|(rw[hb1]; simp; done)|(rw[show decide (hd.root.length=32)=false from AV om]; simp; done)|(rw[show decide (key.length=32)=false from AV om]; rfl)
  rw[AV hb5] at Y;refine nv Y<|AO<|AK (ak O O)<|AL O<|λa Y=>ab<|bR (k:=6) 11 [7,10] (Y.p10 0 3 4 5 20 21 22 23 24 25 O) λa Y=>?_;replace Y:=Y.p15 26 27 28 29 30 0 3 4 5 20 21 22 23 24 25 O;refine aI (k:=11) 14 [13] ?_;refine nv Y<|AO<|AK (ak O O)<|AM O<|λa Y=>ab<|aO<|G4 ?_;replace Y:=Y.p1 4 O;replace U:=U.k0 0 O;refine ao<|am Y results113 (ae O ag) ?_;refine⟨?_,U.ext⟩;simp only[retv];refine Bh Value.bool ?_;unfold genHd
  first|(rw[hb5]; simp; done)|(rw[hb2]; simp; done)|(rw[hb1]; simp; done)|(rw[show decide (hd.root.length=32)=false from AV om]; simp; done)|(rw[show decide (key.length=32)=false from AV om]; rfl)
 rw[hb1] at Y;refine nv Y<|AO<|AO<|AO<|AK (ak O O)<|AL O<|AO<|AO<|AO<|AO<|AK (ak O O)<|AM O<|λa Y=>G2 ?_;replace Y:=Y.p4 0 3 4 5 O;refine ah λG5=>aL (aM λw9 hxz=>?_);replace U:=U.grow hxz;refine aI (k:=0) 6 [5] ?_;refine wlm Y O λa Y=>au Y U call120 O (jV key _) λa w10 Y U=>wlm Y O λa Y=>?_;rcases Decidable.em ((key.length:Int)=32) with hb6|hb6
 ·rw[AQ hb6] at Y;refine nv Y<|AN (ax O)<|AK (aq O O)<|AL O<|λa Y=>ab<|bR (k:=6) 11 [7,10] (Y.p10 0 3 4 5 20 21 22 23 24 25 O) λa Y=>?_;replace Y:=Y.p15 26 27 28 29 30 0 3 4 5 20 21 22 23 24 25 O;refine aI (k:=11) 14 [13] ?_;refine nv Y<|AO<|AK (ak O O)<|AM O<|λa Y=>ab<|aO<|G5 ?_;replace Y:=Y.p1 4 O;replace U:=U.k0 0 O;refine ao<|am Y results113 (ae O ag) ?_;refine⟨?_,U.ext⟩;simp only[retv];refine Bh Value.bool ?_;unfold genHd
  first|(rw[hb6]; simp; done)|(rw[hb1]; simp; done)|(rw[show decide (hd.root.length=32)=false from AV om]; simp; done)|(rw[show decide (key.length=32)=false from AV om]; rfl)
 rw[AV hb6] at Y;refine nv Y<|AO<|AK (ak O O)<|AL O<|λa Y=>ab<|bR (k:=6) 11 [7,10] (Y.p10 0 3 4 5 20 21 22 23 24 25 O) λa Y=>?_;replace Y:=Y.p15 26 27 28 29 30 0 3 4 5 20 21 22 23 24 25 O;refine aI (k:=11) 14 [13] ?_;refine nv Y<|AO<|AK (ak O O)<|AM O<|λa Y=>ab<|aO<|G5 ?_;replace Y:=Y.p1 4 O;replace U:=U.k0 0 O;refine ao<|am Y results113 (ae O ag) ?_;refine⟨?_,U.ext⟩;simp only[retv];refine Bh Value.bool ?_;unfold genHd
 first|(rw[hb6]; simp; done)|(rw[hb1]; simp; done)|(rw[show decide (hd.root.length=32)=false from AV om]; simp; done)|(rw[show decide (key.length=32)=false from AV om]; rfl)
end Go.Proofs.YtliklcmddmpdfaaGreatDoor
