/- Texts joined: RclN, RclO, Sle, Laid, Door, OpenL, LawS. -/
import Derived.Test.YtliklcmddmpdfaaGreatDoorPSJ
import Derived.Test.YtliklcmddmpdfaaGreatDoorPSD
import Derived.Test.YtliklcmddmpdfaaGreatDoorPSA
import Derived.Test.YtliklcmddmpdfaaGreatDoorPSB
import Derived.LaidMore
import Derived.OpenShut
import Derived.Stop.Joined
import Derived.SevenTiedAt
import Derived.ChangeMaps5
import Derived.Test.YtliklcmddmpdfaaGreatDoorRows
set_option linter.unusedVariables false
set_option linter.unusedSimpArgs false
set_option maxRecDepth 4000
set_option maxHeartbeats 4000000
namespace Go.Proofs.YtliklcmddmpdfaaGreatDoor
open Go.RowKit Go.PW _root_.Go.Proofs.Tryz
theorem fh {n lo hi:Int} (h:inB n lo hi=true):lo≤n∧n≤hi:=by
 simpa [inB] using h
theorem uG (key:By) (hd:Hd) (w0:World):
  Ff 116 #[sv key,.agg #[jv hd.c,jv hd.n,sv hd.root,sv hd.tag]] w0 (.bool (genHd sha key hd)):=by
 refine Cx func116 O ntmps116 (lb O) λa Y U=>aa λG1=>aR Y U O [jv hd.c,jv hd.n,sv hd.root,sv hd.tag] O λa w1 Y U=>wla Y O λa Y=>G1<|ah λG2=>aa λG3=>nv Y<|AL O<|AK (aZ O O (runUnderlying9 _))<|AK (v_ne O O)<|AL O<|λa Y=>?_;rcases (Decidable.em ((key.length:Int)=32)).symm with hb1|hb1
 ·rw[AV hb1] at Y;have h9hb1:decide (key.length=32)=false:=AV om;refine nv Y<|AO<|AO<|AO<|AO<|AK (aq O O)<|AL O<|AO<|AO<|AO<|AO<|AK (aq O O)<|AL O<|AO<|AO<|AO<|AO<|AK (aq O O)<|λa Y=>G3 ?_;replace Y:=Y.p4 0 3 4 25 O;refine aC Y O ?_;refine aa λG4=>wla Y O λa Y=>G4<|ao<|am Y results116 (ae O ag) ?_;exact⟨by simp only[retv]; refine Bh Value.bool ?_; unfold genHd; simp only[h9hb1,BN,B4,Bx],U.ext⟩
 rw[AQ hb1] at Y;have h9hb1:decide (key.length=32)=true:=AQ om;refine nv Y<|AN (ac (v:=pq w0.hz) O kr)<|AN (ld U 0 O O (isAgg3 _) O)<|λa Y=>aF Y U call111 O (gK hd.c 0 7 _) λa w2 Y U=>nv Y<|AN (bd O)<|AK (ak O O)<|AL O<|λa Y=>?_;rcases AR (!(inB hd.c 0 7)) with hb2|hb2
 ·rw[hb2] at Y
  try simp only[qz] at hb2
  have h9hb2:inB hd.c 0 7=false:=by first|exact hb2|simpa using hb2
  refine nv Y<|AO<|AO<|AO<|AO<|AK (aq O O)<|AL O<|AO<|AO<|AO<|AO<|AK (aq O O)<|λa Y=>G3 ?_;replace Y:=Y.p4 0 3 4 25 O;refine aC Y O ?_;refine aa λG5=>wla Y O λa Y=>G5<|ao<|am Y results116 (ae O ag) ?_;exact⟨by simp only[retv]; refine Bh Value.bool ?_; unfold genHd; simp only[h9hb1,h9hb2,BN,B4,Bx],U.ext⟩
 rw[hb2] at Y
 try simp only[qz] at hb2
 have h9hb2:inB hd.c 0 7=true:=by first|exact hb2|simpa using hb2
 have hhb2:=fh h9hb2;refine nv Y<|AN (ac (v:=po w0.hz 1) O kr)<|AN (ld U 0 O O (isAgg3 _) O)<|λa Y=>aF Y U call111 O (gK hd.n 0 60 _) λa w3 Y U=>nv Y<|AN (bd O)<|AK (ak O O)<|AL O<|λa Y=>?_;rcases AR (!(inB hd.n 0 60)) with hb3|hb3
 ·rw[hb3] at Y
  try simp only[qz] at hb3
  have h9hb3:inB hd.n 0 60=false:=by first|exact hb3|simpa using hb3
  refine nv Y<|AO<|AO<|AO<|AO<|AK (aq O O)<|λa Y=>G3 ?_;replace Y:=Y.p4 0 3 4 25 O;refine aC Y O ?_;refine aa λG6=>wla Y O λa Y=>G6<|ao<|am Y results116 (ae O ag) ?_;exact⟨by simp only[retv]; refine Bh Value.bool ?_; unfold genHd; simp only[h9hb1,h9hb2,h9hb3,BN,B4,Bx],U.ext⟩
 rw[hb3] at Y
 try simp only[qz] at hb3
 have h9hb3:inB hd.n 0 60=true:=by first|exact hb3|simpa using hb3
 have hhb3:=fh h9hb3;refine nv Y<|AN (ac (v:=po w0.hz 2) O kr)<|AN (ld U 0 O O (isAgg9 _) O)<|AN (aZ O O (runUnderlying9 _))<|AN (v_ne O O)<|AK (ak O O)<|λa Y=>G3 ?_;replace Y:=Y.p4 0 3 4 25 O;refine bV Y O (λhc4=>?_) (λhc4=>?_)
 ·have h9hc4:decide (hd.root.length=32)=false:=AV om;refine aa λG7=>wla Y O λa Y=>G7<|ao<|am Y results116 (ae O ag) ?_;exact⟨by simp only[retv]; refine Bh Value.bool ?_; unfold genHd; simp only[h9hb1,h9hb2,h9hb3,h9hc4,BN,B4,Bx],U.ext⟩
 have h9hc4:decide (hd.root.length=32)=true:=AQ om;refine ap<|G2<|ah λG8=>aL (aM λw4 hxz=>?_);replace U:=U.grow hxz;refine aP (k:=0) 5 [1,4] Y ?_;refine bB 5 (Y.p3 0 3 4 O) U<|pl_v (ac (v:=po w0.hz 3) O kr)<|pl_w (λU=>ld U 0 O O (isAgg9 _) O)<|pl_m O<|pl_w (λU=>ar (U.g 0 O) O (isAgg47 _) (sizeOf47 _))<|pl_r (λU=>bu call156 O (mV key hd _ om om om om)) λa w5 Y U=>?_;replace Y:=Y.p2 27 30 O;refine ab<|aI (k:=5) 7 [6] ?_;refine nv Y<|AK (uo O O)<|AM O<|λa Y=>ab<|aO<|G8<|ao<|am Y results116 (ae O ag) ?_;exact⟨by simp only[retv]; refine Bh Value.bool ?_; unfold genHd; simp only[h9hb1,h9hb2,h9hb3,h9hc4,BN,B4,Bx],U.ext⟩
theorem nP (key:By) (hd:Hd) (iv:Value) (L:List Itw) (w0:World) (hiv:ItsAt w0 iv L):
  Ff 67 #[sv key,(EU hd iv)] w0 (.bool (checkP sha key hd (itsM L))):=by
 have hxb:=hiv.len;refine Cx func67 O ntmps67 (lb O) λa Y U=>aa λG1=>aR Y U O (ET hd iv) O λa w1 Y U=>wla Y O λa Y=>G1<|ah λG2=>aa λG3=>nv Y<|AL O<|AK (ac (v:=pq w0.hz) O kr)<|AK (bJ (ds:=[jv hd.c,jv hd.n,sv hd.root,sv hd.tag]) (U.g 0 O) O (isAgg47 _) (sizeOf47 _) O)<|λa Y=>au Y U call116 O (uG key hd _) λa w2 Y U=>wlv Y (bd O) λa Y=>G3 ?_;replace Y:=Y.p3 3 4 11 O;refine bn Y O (λhc1=>?_) (λhc1=>?_)
 ·try simp only[qz] at hc1
  have hgn:genHd sha key hd=false:=by simpa using hc1
  refine aa λG4=>wla Y O λa Y=>G4<|ao<|am Y results67 (ae O ag) ?_;refine⟨?_,U.ext⟩;simp only[retv];refine Bh Value.bool ?_;unfold checkP;rw[hgn]; rfl
 try simp only[qz] at hc1
 have hgn:genHd sha key hd=true:=by simpa using hc1
 have hgb:hd.n≤60:=by have h:=hgn; unfold genHd inB at h; simp only[AU,AZ] at h; omega
 refine ap<|G2<|ah λG5=>aa λG6=>wla Y O λa Y=>G6<|aw<|aV (λm a w=>∃(k:Nat),m=L.length- k∧(k≤L.length)∧(chkIs sha hd.root hd.n (-1) (itsM L)=chkIs sha hd.root hd.n (prevX L k) ((itsM L).drop k))∧Fr 60 [(3,pq w0.hz),(5,jv (k:Int))] [] a∧St No w0 [blk w0.hz (ET hd iv) 50] w) _ ⟨0,O,A8 _,O,Y.pick [3,5],U.select [0] de⟩ ?_;rintro _ a w3 ⟨k,rfl,hk,hs,Y,U⟩;refine ah λG7=>aa λG8=>nv Y<|AL O<|AK (ac (v:=po w0.hz 4) O kr)<|AK (ld U 0 O O (isAgg48 _) O)<|AK ((aH (sT:=48) (U.arg hiv.1) O O (runUnderlying48 _)).asi (m':=(L.length:Int)) CU)<|AK (v_lt O O)<|λa Y=>G8<|ay Y O (λhc2=>?_) (λhc2=>?_)
 ·have hkx:k<L.length:=by omega
  refine ap<|G7<|ah λG9=>aw ?_;obtain⟨⟨⟨ix,e,pf⟩,pv⟩,hx⟩:∃x,L.getD k Itw.z=x:=⟨_,rfl⟩;have hxm:=bf (d:=Itw.z) hkx;rw[hx] at hxm;have hpv:SlAt w0 pv 1 (pf.map λs=>[sv s]):=hiv.2 _ hxm;refine aa λG10=>nv Y<|AK (ac (v:=po w0.hz 4) O kr)<|AK (ld U 0 O O (isAgg48 _) O)<|AL O<|AK ((ai (i:=(k:Int)) (sT:=48) (U.arg hiv.1) O O (runUnderlying48 _) (sizeOf110 _) om CH).as (v':=slAddr iv (k*3)) O)<|AK ((bI (U.arg hiv.1) (i:=k) CH O (isAgg110 _) (sizeOf110 _)).as (v':=.agg #[jv ix,sv e,pv]) Dx)<|λa Y=>aE Y U (zeroValue110 _) [jv 0,.string (⟨#[]⟩),.slice none 0 0] O λa w4 Y U=>bj (us:=[jv ix,sv e,pv]) 0 Y U O O O (sizeOf110 _) DU (lb O) (ds:=[jv ix,sv e,pv]) O O λa w5 Y U=>G10 ?_;replace Y:=Y.p3 3 5 6 O;refine ah λG11=>aL (aM λw6 hxz=>?_);replace U:=U.grow hxz;refine aI (k:=0) 8 [7] ?_;refine nv Y<|AK (ac (v:=po w3.hz 1) O kr)<|AK (ld U 0 O O (isAgg9 _) O)<|AK (aZ O O (runUnderlying9 _))<|AK (v_gt O O)<|AL O<|λa Y=>?_;rcases Decidable.em (1000<(e.length:Int)) with hb3|hb3
  ·rw[AQ hb3] at Y;have hbad:chkIs sha hd.root hd.n (-1) (itsM L)=false:=by rw[hs,dT hkx hx]; rw[AV (show ¬e.length≤1000 by omega),Bx]; rfl
   refine nv Y<|AO<|AO<|AO<|λa Y=>ab<|bR (k:=8) 17 [9,16] (Y.p11 3 5 6 24 25 26 27 28 29 30 31 O) λa Y=>?_;replace Y:Fr 60 [(32,undef),(33,undef),(34,undef),(35,undef),(36,undef),(37,undef),(38,undef),(39,undef),(40,undef),(3,pq w0.hz),(5,jv (k:Int)),(6,pq w3.hz),(24,po w3.hz 1),(25,sv e),(26,jv (e.length:Int)),(27,.bool true),(28,.bool true),(29,undef),(30,undef),(31,undef)] [] a:=Y;refine aI (k:=17) 21 [20] ?_;refine bO Y λa Y=>nv Y<|AO<|AK (aq O O)<|AL O<|λa Y=>ab<|bR (k:=21) 33 [23,26,28,30,32] (Y.p24 32 33 34 35 36 37 38 39 40 3 5 6 24 25 26 27 28 29 30 31 41 42 43 44 O) λa Y=>?_;replace Y:Fr 60 [(45,undef),(46,undef),(47,undef),(48,undef),(49,undef),(50,undef),(51,undef),(52,undef),(53,undef),(54,undef),(55,undef),(56,undef),(32,undef),(33,undef),(34,undef),(35,undef),(36,undef),(37,undef),(38,undef),(39,undef),(40,undef),(3,pq w0.hz),(5,jv (k:Int)),(6,pq w3.hz),(24,po w3.hz 1),(25,sv e),(26,jv (e.length:Int)),(27,.bool true),(28,.bool true),(29,undef),(30,undef),(31,undef),(41,undef),(42,undef),(43,.bool true),(44,.bool true)] [] a:=Y;refine aI (k:=33) 36 [35] ?_;refine nv Y<|AO<|AO<|AK (aq O O)<|λa Y=>ab<|aO<|G11 ?_;replace Y:=Y.p3 3 5 59 O;replace U:=U.k1 2 O;refine aC Y O ?_;refine aa λG12=>wla Y O λa Y=>G12<|ao<|am Y results67 (ae O ag) ?_;refine⟨?_,U.ext⟩;simp only[retv];refine Bh Value.bool ?_;unfold checkP;rw[hbad,Bx]
  rw[AV hb3] at Y;have hel:e.length≤1000:=by omega
  refine nv Y<|AN (ax O)<|AN (v_gt O O)<|AN (ax O)<|λa Y=>ab ?_;rcases Decidable.em (0<(k:Int)) with hb4|hb4
  ·rw[AQ hb4] at Y;have hpvx:=nQ (L:=L) (k:=k) om;refine aP (k:=8) 17 [9,16] Y ?_;replace Y:=Y.p11 3 5 6 24 25 26 27 28 29 30 31 O;refine bB 9 Y U<|pl_v (ac (v:=pq w3.hz) O kr)<|pl_w (λU=>ld U 0 O O (isAgg3 _) O)<|pl_v (ac (v:=po w0.hz 4) O kr)<|pl_w (λU=>ld U 1 O O (isAgg48 _) O)<|pl_m O<|pl_v (bF O O ⟨om,om⟩)<|pl_w (λU=>(ai (i:=(k:Int)- 1) (sT:=48) (U.arg hiv.1) O O (runUnderlying48 _) (sizeOf110 _) om CH).as (v':=slAddr iv ((k- 1)*3)) C6)<|pl_w (λU=>aQ (k:=(k- 1)*3) (j:=0) (U.arg hiv.1) (i:=(k- 1)) CH O (λ_ _=>by kernel_rfl)) ?_;refine pl_w (λU=>az (u:=jv ((L.getD (k- 1) Itw.z).m.ix)) (i:=(k- 1)) (j:=0) (U.arg hiv.1) CH O (isAgg3 _) Ew) λa w7 Y U=>?_;replace Y:=Y.p7 3 5 6 28 31 33 40 O;refine ab<|aI (k:=17) 21 [20] ?_;refine nv Y<|AN (v_le O O)<|AN (aq O O)<|AK (ak O O)<|AL O<|λa Y=>ab ?_;rcases Decidable.em (ix≤(L.getD (k- 1) Itw.z).m.ix) with hb5|hb5
   ·rw[AQ hb5] at Y;have hbad:chkIs sha hd.root hd.n (-1) (itsM L)=false:=by rw[hs,dT hkx hx]; rw[AV (by rw[hpvx]; show ¬_<ix; omega)]; rfl
    refine bR (k:=21) 33 [23,26,28,30,32] (Y.p11 3 5 6 28 31 33 40 41 42 43 44 O) λa Y=>?_;replace Y:Fr 60 [(45,undef),(46,undef),(47,undef),(48,undef),(49,undef),(50,undef),(51,undef),(52,undef),(53,undef),(54,undef),(55,undef),(56,undef),(3,pq w0.hz),(5,jv (k:Int)),(6,pq w3.hz),(28,.bool false),(31,.bool true),(33,jv ix),(40,jv ((L.getD (k- 1) Itw.z).m.ix)),(41,.bool true),(42,.bool true),(43,.bool true),(44,.bool true)] [] a:=Y;refine aI (k:=33) 36 [35] ?_;refine nv Y<|AO<|AO<|AK (aq O O)<|λa Y=>ab<|aO<|G11 ?_;replace Y:=Y.p3 3 5 59 O;replace U:=U.k1 2 O;refine aC Y O ?_;refine aa λG13=>wla Y O λa Y=>G13<|ao<|am Y results67 (ae O ag) ?_;refine⟨?_,U.ext⟩;simp only[retv];refine Bh Value.bool ?_;unfold checkP;rw[hbad,Bx]
   rw[AV hb5] at Y;have hgo:prevX L k<ix:=by rw[hpvx]; omega
   refine aP (k:=21) 33 [23,26,28,30,32] Y ?_;replace Y:=Y.p11 3 5 6 28 31 33 40 41 42 43 44 O;refine bB 12 Y U<|pl_v (ac (v:=pq w0.hz) O kr)<|pl_v (ac (v:=po w0.hz 2) O kr)<|pl_w (λU=>ld U 1 O O (isAgg9 _) O)<|pl_v (ac (v:=pq w0.hz) O kr)<|pl_v (ac (v:=po w0.hz 1) O kr)<|pl_w (λU=>ld U 1 O O (isAgg3 _) O)<|pl_v (ac (v:=pq w3.hz) O kr)<|pl_w (λU=>ld U 0 O O (isAgg3 _) O)<|pl_v (ac (v:=po w3.hz 1) O kr)<|pl_w (λU=>ld U 0 O O (isAgg9 _) O) ?_;refine pl_v (ac (v:=po w3.hz 2) O kr)<|pl_w (λU=>ld U 0 O O (isAgg44 _) O) λa w8 Y U=>?_;replace Y:=Y.p8 3 5 44 47 50 52 54 56 O;refine ab<|aI (k:=33) 36 [35] ?_;refine aF Y U call117 O (my hd.root e hd.n ix pv pf _ (U.arg hpv) om om) λa w9 Y U=>nv Y<|AN (bd O)<|AK (ak O O)<|λa Y=>ab<|aO<|G11 ?_;replace Y:=Y.p3 3 5 59 O;replace U:=U.k1 2 O;refine bn Y O (λhc6=>?_) (λhc6=>?_)
   ·try simp only[qz] at hc6
    have hvf:cd sha hd.root hd.n ix e pf=false:=by simpa using hc6
    have hbad:chkIs sha hd.root hd.n (-1) (itsM L)=false:=by rw[hs,dT hkx hx]; rw[show cd sha hd.root hd.n (⟨⟨ix,e,pf⟩,pv⟩:Itw).m.ix (⟨⟨ix,e,pf⟩,pv⟩:Itw).m.e (⟨⟨ix,e,pf⟩,pv⟩:Itw).m.pf=false from hvf,Bx]; rfl
    refine aa λG14=>wla Y O λa Y=>G14<|ao<|am Y results67 (ae O ag) ?_;refine⟨?_,U.ext⟩;simp only[retv];refine Bh Value.bool ?_;unfold checkP;rw[hbad,Bx]
   try simp only[qz] at hc6
   have hvf:cd sha hd.root hd.n ix e pf=true:=by simpa using hc6
   refine ap<|G9<|al<|nv Y<|AL O<|AK (aK O O ⟨om,om⟩)<|AM O<|λa Y=>ab ?_;refine⟨_,?_,k+1,O,om,DX,Y.pick [3,5],U.select [0] de⟩;omega
  rw[AV hb4] at Y;have hk0e:k=0:=by omega
  refine bR (k:=8) 17 [9,16] (Y.p11 3 5 6 24 25 26 27 28 29 30 31 O) λa Y=>?_;replace Y:Fr 60 [(32,undef),(33,undef),(34,undef),(35,undef),(36,undef),(37,undef),(38,undef),(39,undef),(40,undef),(3,pq w0.hz),(5,jv (k:Int)),(6,pq w3.hz),(24,po w3.hz 1),(25,sv e),(26,jv (e.length:Int)),(27,.bool false),(28,.bool false),(29,jv (k:Int)),(30,.bool false),(31,.bool false)] [] a:=Y;refine aI (k:=17) 21 [20] ?_;refine nv Y<|AO<|AN (ak O O)<|AK (ak O O)<|AL O<|λa Y=>ab<|aP (k:=21) 33 [23,26,28,30,32] Y ?_;replace Y:=Y.p24 32 33 34 35 36 37 38 39 40 3 5 6 24 25 26 27 28 29 30 31 41 42 43 44 O;refine bB 12 Y U<|pl_v (ac (v:=pq w0.hz) O kr)<|pl_v (ac (v:=po w0.hz 2) O kr)<|pl_w (λU=>ld U 1 O O (isAgg9 _) O)<|pl_v (ac (v:=pq w0.hz) O kr)<|pl_v (ac (v:=po w0.hz 1) O kr)<|pl_w (λU=>ld U 1 O O (isAgg3 _) O)<|pl_v (ac (v:=pq w3.hz) O kr)<|pl_w (λU=>ld U 0 O O (isAgg3 _) O)<|pl_v (ac (v:=po w3.hz 1) O kr)<|pl_w (λU=>ld U 0 O O (isAgg9 _) O) ?_;refine pl_v (ac (v:=po w3.hz 2) O kr)<|pl_w (λU=>ld U 0 O O (isAgg44 _) O) λa w10 Y U=>?_;replace Y:=Y.p8 3 5 44 47 50 52 54 56 O;refine ab<|aI (k:=33) 36 [35] ?_;refine aF Y U call117 O (my hd.root e hd.n ix pv pf _ (U.arg hpv) om om) λa w11 Y U=>nv Y<|AN (bd O)<|AK (ak O O)<|λa Y=>ab<|aO<|G11 ?_;replace Y:=Y.p3 3 5 59 O;replace U:=U.k1 2 O;refine bn Y O (λhc7=>?_) (λhc7=>?_)
  ·try simp only[qz] at hc7
   have hvf:cd sha hd.root hd.n ix e pf=false:=by simpa using hc7
   have hbad:chkIs sha hd.root hd.n (-1) (itsM L)=false:=by rw[hs,dT hkx hx]; rw[show cd sha hd.root hd.n (⟨⟨ix,e,pf⟩,pv⟩:Itw).m.ix (⟨⟨ix,e,pf⟩,pv⟩:Itw).m.e (⟨⟨ix,e,pf⟩,pv⟩:Itw).m.pf=false from hvf,Bx]; rfl
   refine aa λG15=>wla Y O λa Y=>G15<|ao<|am Y results67 (ae O ag) ?_;refine⟨?_,U.ext⟩;simp only[retv];refine Bh Value.bool ?_;unfold checkP;rw[hbad,Bx]
  try simp only[qz] at hc7
  have hvf:cd sha hd.root hd.n ix e pf=true:=by simpa using hc7
  have hgo:prevX L k<ix:=by rw[hk0e]; have:=(gt hvf).1; show-1<ix; omega
  refine ap<|G9<|al<|nv Y<|AL O<|AK (aK O O ⟨om,om⟩)<|AM O<|λa Y=>ab ?_;refine⟨_,?_,k+1,O,om,DX,Y.pick [3,5],U.select [0] de⟩;omega
 have hall:chkIs sha hd.root hd.n (-1) (itsM L)=true:=by rw[hs,show k=(itsM L).length by rw[dx]; omega,List.drop_length]; rfl
 refine aN<|G5<|aa λG16=>wla Y O λa Y=>G16 ?_;replace Y:=Y.p1 4 O;replace U:=U.k0 0 O;refine ao<|am Y results67 (ae O ag) ?_;refine⟨?_,U.ext⟩;simp only[retv];refine Bh Value.bool ?_;unfold checkP;rw[hgn,hall]; rfl
theorem nt (s:By) (w0:World) (hsl:s.length≤1000000):
  Ff 118 #[sv s] w0 (.tuple #[.agg (dcX s).cells.toArray,jv (dcE s)]):=by
 refine Cy func118 O ntmps118 (lb O) λa Y U=>aa λG1=>aE Y U (zeroValue55 _) Fc O λa w1 Y U=>wla Y O λa Y=>G1<|aa λG2=>wlm Y O λa Y=>?_;rcases AR ((rdI s).isSome) with hb1|hb1
 ·obtain⟨⟨n1,r1⟩,hq1⟩:=Bz.1 hb1;have hd1:=pa.trans (lC hq1);have hsf1:=(eV hq1).trans (List.suffix_refl s);refine au Y U call153 O (jK sm (List.suffix_refl s) hsl hq1) λa w2 Y U=>nv Y<|AL O<|AK (aj O O)<|AK (aj O O)<|AK (aj O O)<|AM O<|AM O<|AM O<|λa Y=>G2 ?_;refine ah λG3=>aa λG4=>nv (Y.p6 0 2 3 4 5 6 O)<|AL O<|AK ((v_ne O O).asb (b':=false) O)<|λa Y=>G4<|aJ Y O ?_;refine ap<|G3<|aa λG5=>nv Y<|AL O<|AL O<|λa Y=>?_;rcases AR ((rdI r1).isSome) with hb2|hb2
  ·obtain⟨⟨n2,r2⟩,hq2⟩:=Bz.1 hb2;have hd2:=hd1.trans (lC hq2);have hsf2:=(eV hq2).trans hsf1;refine au Y U call153 O (jK O hsf1 hsl hq2) λa w3 Y U=>nv Y<|AL O<|AK (aj O O)<|AK (aj O O)<|AK (aj O O)<|AM O<|AM O<|AM O<|λa Y=>G5 ?_;refine ah λG6=>aa λG7=>nv (Y.p7 0 2 3 4 7 8 9 O)<|AL O<|AK ((v_ne O O).asb (b':=false) O)<|λa Y=>G7<|aJ Y O ?_;refine ap<|G6<|aa λG8=>nv Y<|AL O<|AL O<|λa Y=>?_;rcases AR ((rdS r2).isSome) with hb3|hb3
   ·obtain⟨⟨x9,r3⟩,hq3⟩:=Bz.1 hb3;have hd3:=hd2.trans (pj.trans (qY hq3));have hsf3:=(tC hq3).trans hsf2;refine au Y U call165 O (sZ s r2 x9 r3 _ _ O hsf2 hsl hq3) λa w4 Y U=>nv Y<|AL O<|AK (aj O O)<|AK (aj O O)<|AK (aj O O)<|AM O<|AM O<|AM O<|λa Y=>G8 ?_;refine aa λG9=>nv (Y.p8 0 2 3 4 7 10 11 12 O)<|AL O<|AL O<|AL O<|AK (aW (v:=.agg #[jv n1,jv n2,sv x9]) O kr)<|λa Y=>aE Y U (zeroValue55 _) Fc O λa w5 Y U=>aA 0 Y U [jv n1,jv n2,sv x9] O (sizeOf55 _) λa w6 Y U=>G9 ?_;refine ah λG10=>aa λG11=>nv (Y.p6 0 2 3 11 12 13 O)<|AL O<|AK ((v_ne O O).asb (b':=false) O)<|AL O<|AN (ax O)<|AN (ax O)<|AN (aZ O O (runUnderlying9 _))<|AN (v_ne O O)<|AK (ak O O)<|AL O<|λa Y=>?_;rcases (Decidable.em (((s.length- r3.length:Nat):Int)=(s.length:Int))).symm with hb4|hb4
    ·rw[AV hb4] at Y;have hdn:=hd3.trans (oW DS);refine nv Y<|AO<|AO<|AO<|AK (aq O O)<|λa Y=>G11 ?_;replace Y:=Y.p4 2 3 13 56 O;refine aC Y O ?_;refine aa λG12=>wlv Y (aW (v:=.agg #[jv 0,jv 0,sv ([]:By)]) O kr) λa Y=>aA 1 Y U [jv 0,jv 0,sv ([]:By)] O (sizeOf55 _) λa w7 Y U=>wla Y O λa Y=>G12<|ao<|am Y results118 (aB O (bA (U.g 1 O) (isAgg55 _) (sizeOf55 _)) (ae O ag)) ?_;exact⟨by simp only[retv]; unfold dcX dcE; rw[hdn]; rfl,U.ext⟩
    rw[AQ hb4] at Y;have hqn:r3=[]:=Bq (by have:=hsf3.length_le; omega);refine wly Y (ar (U.g 0 O) O (isAgg55 _) (sizeOf55 _)) λa Y=>aF Y U call128 O (iV (casN [n1,n2] x9:Cas) _) λa w8 Y U=>nv Y<|AN (bd O)<|AK (ak O O)<|λa Y=>G11 ?_;replace Y:=Y.p4 2 3 13 56 O;refine bn Y O (λhc5=>?_) (λhc5=>?_)
    ·try simp only[qz] at hc5
     have hdn:=hd3.trans (ob (by exact hc5));refine aa λG13=>wlv Y (aW (v:=.agg #[jv 0,jv 0,sv ([]:By)]) O kr) λa Y=>aA 1 Y U [jv 0,jv 0,sv ([]:By)] O (sizeOf55 _) λa w9 Y U=>wla Y O λa Y=>G13<|ao<|am Y results118 (aB O (bA (U.g 1 O) (isAgg55 _) (sizeOf55 _)) (ae O ag)) ?_;exact⟨by simp only[retv]; unfold dcX dcE; rw[hdn]; rfl,U.ext⟩
    try simp only[qz] at hc5
    have hds:=hd3.trans (nj hqn (by exact hc5));refine ap<|G10<|aa λG14=>wlv Y (ar (U.g 0 O) O (isAgg55 _) (sizeOf55 _)) λa Y=>aA 1 Y U [jv n1,jv n2,sv x9] O (sizeOf55 _) λa w10 Y U=>wla Y O λa Y=>G14<|ao<|am Y results118 (aB O (bA (U.g 1 O) (isAgg55 _) (sizeOf55 _)) (ae O ag)) ?_;exact⟨by simp only[retv]; unfold dcX dcE; rw[hds]; rfl,U.ext⟩
   have hq3:rdS r2=none:=by
    cases h:rdS r2 with
    | none=>rfl
    | some z=>rw[h] at hb3; cases hb3
   have hdn:=hd2.trans (pj.trans (oD hq3));refine au Y U call165 O (ru O hsf2 hsl hq3) λa w11 Y U=>nv Y<|AL O<|AK (aj O O)<|AK (aj O O)<|AK (aj O O)<|AM O<|AM O<|AM O<|λa Y=>G8 ?_;refine aa λG15=>nv (Y.p8 0 2 3 4 7 10 11 12 O)<|AL O<|AL O<|AL O<|AK (aW (v:=.agg #[jv n1,jv n2,sv ([])]) O kr)<|λa Y=>aE Y U (zeroValue55 _) Fc O λa w12 Y U=>aA 0 Y U [jv n1,jv n2,sv ([])] O (sizeOf55 _) λa w13 Y U=>G15 ?_;refine ah λG16=>aa λG17=>nv (Y.p6 0 2 3 11 12 13 O)<|AL O<|AK ((v_ne O O).asb (b':=true) O)<|AL O<|AO<|AO<|AO<|AO<|AK (aq O O)<|AL O<|AO<|AO<|AO<|AK (aq O O)<|λa Y=>G17 ?_;replace Y:=Y.p4 2 3 13 56 O;refine aC Y O ?_;refine aa λG18=>wlv Y (aW (v:=.agg #[jv 0,jv 0,sv ([]:By)]) O kr) λa Y=>aA 1 Y U [jv 0,jv 0,sv ([]:By)] O (sizeOf55 _) λa w14 Y U=>wla Y O λa Y=>G18<|ao<|am Y results118 (aB O (bA (U.g 1 O) (isAgg55 _) (sizeOf55 _)) (ae O ag)) ?_;exact⟨by simp only[retv]; unfold dcX dcE; rw[hdn]; rfl,U.ext⟩
  have hq2:rdI r1=none:=by
   cases h:rdI r1 with
   | none=>rfl
   | some z=>rw[h] at hb2; cases hb2
  have hdn:=hd1.trans (jE hq2);refine au Y U call153 O (kt O hsf1 hsl hq2) λa w15 Y U=>nv Y<|AL O<|AK (aj O O)<|AK (aj O O)<|AK (aj O O)<|AM O<|AM O<|AM O<|λa Y=>G5 ?_;refine ah λG19=>aa λG20=>nv (Y.p7 0 2 3 4 7 8 9 O)<|AL O<|AK ((v_ne O O).asb (b':=true) O)<|λa Y=>G20<|aC Y O ?_;refine aa λG21=>wlv Y (aW (v:=.agg #[jv 0,jv 0,sv ([]:By)]) O kr) λa Y=>aA 0 Y U [jv 0,jv 0,sv ([]:By)] O (sizeOf55 _) λa w16 Y U=>wla Y O λa Y=>G21<|ao<|am Y results118 (aB O (bA (U.g 0 O) (isAgg55 _) (sizeOf55 _)) (ae O ag)) ?_;exact⟨by simp only[retv]; unfold dcX dcE; rw[hdn]; rfl,U.ext⟩
 have hq1:rdI s=none:=by
  cases h:rdI s with
  | none=>rfl
  | some z=>rw[h] at hb1; cases hb1
 have hdn:=pa.trans (jE hq1);refine au Y U call153 O (kt sm (List.suffix_refl s) hsl hq1) λa w17 Y U=>nv Y<|AL O<|AK (aj O O)<|AK (aj O O)<|AK (aj O O)<|AM O<|AM O<|AM O<|λa Y=>G2 ?_;refine ah λG22=>aa λG23=>nv (Y.p6 0 2 3 4 5 6 O)<|AL O<|AK ((v_ne O O).asb (b':=true) O)<|λa Y=>G23<|aC Y O ?_;refine aa λG24=>wlv Y (aW (v:=.agg #[jv 0,jv 0,sv ([]:By)]) O kr) λa Y=>aA 0 Y U [jv 0,jv 0,sv ([]:By)] O (sizeOf55 _) λa w18 Y U=>wla Y O λa Y=>G24<|ao<|am Y results118 (aB O (bA (U.g 0 O) (isAgg55 _) (sizeOf55 _)) (ae O ag)) ?_;exact⟨by simp only[retv]; unfold dcX dcE; rw[hdn]; rfl,U.ext⟩
theorem iR {s:By} {x:Cas} {w0:World} (hsl:s.length≤1000000) (h:decCas s=some x):Ff 118 #[sv s] w0 (.tuple #[.agg x.cells.toArray,jv 0]):=by
 refine (nt s w0 hsl).mono λv w ⟨h1,h2⟩=>⟨?_,h2⟩;rw[h1]; unfold dcX dcE; rw[h]; rfl
theorem ka {s:By} {w0:World} (hsl:s.length≤1000000) (h:decCas s=none):Ff 118 #[sv s] w0 (.tuple #[.agg Cas.z.cells.toArray,jv 210]):=by
 refine (nt s w0 hsl).mono λv w ⟨h1,h2⟩=>⟨?_,h2⟩;rw[h1]; unfold dcX dcE; rw[h]; rfl
section
variable {L:List Itw} {k:Nat} {ks:List By} {q:Chg} {x:Itw} {y:Cas} {b:Bool}
theorem keepd (hk:k<L.length) (hx:L.getD k Itw.z=x):((itsM L).drop k).any (keepI ks q)=(keepI ks q x.m||((itsM L).drop (k+1)).any (keepI ks q)):=by
 rw[oS hk,hx,List.any_cons]
theorem xR (h:decCas x.m.e=none):keepI ks q x.m=false:=by unfold keepI; rw[h]
theorem fk (h:decCas x.m.e=some y) (hb:keepC ks q y=b):keepI ks q x.m=b:=by unfold keepI; rw[h]; exact hb
theorem jQ (h1:y.n=q.n) (h2:y.t=q.t) (hb:eI ks q y=b):keepC ks q y=b:=by unfold keepC; rw[AQ h1,AQ h2,hb]; rfl
end
theorem vR (kv:Value) (ks:List By) (q:Chg) (hd:Hd) (iv:Value) (L:List Itw) (w0:World) (hkv:SlAt w0 kv 1 (ks.map λs=>[sv s])) (hiv:ItsAt w0 iv L) (hle:∀x∈L,x.m.e.length≤1000):
  Ff 68 #[kv,(E0 q),(EU hd iv)] w0 (.bool (keepsF ks q (itsM L))):=by
 have hxb:=hiv.len;refine CB func68 O ntmps68 (lb O) λa Y U=>aa λG1=>aR Y U O (EZ q) O λa w1 Y U=>aR Y U O (ET hd iv) O λa w2 Y U=>wla Y O λa Y=>G1<|ah λG2=>aa λG3=>wla Y O λa Y=>G3<|aw<|aV (λm a w=>∃(k:Nat),m=L.length- k∧(k≤L.length)∧(keepsF ks q (itsM L)=((itsM L).drop k).any (keepI ks q))∧Fr 79 [(0,kv),(4,pq w0.hz),(5,pq w1.hz),(7,jv (k:Int))] [] a∧St No w0 [blk w1.hz (ET hd iv) 50,blk w0.hz (EZ q) 36] w) _ ⟨0,O,A8 _,O,Y.pick [0,4,5,7],U.select [0,1] de⟩ ?_;rintro _ a w3 ⟨k,rfl,hk,hs,Y,U⟩;refine ah λG4=>aa λG5=>nv Y<|AL O<|AK (ac (v:=po w1.hz 4) O kr)<|AK (ld U 0 O O (isAgg48 _) O)<|AK ((aH (sT:=48) (U.arg hiv.1) O O (runUnderlying48 _)).asi (m':=(L.length:Int)) CU)<|AK (v_lt O O)<|λa Y=>G5<|ay Y O (λhc1=>?_) (λhc1=>?_)
 ·have hkx:k<L.length:=by omega
  refine ap<|G4<|ah λG6=>aw ?_;obtain⟨⟨⟨ix,e,pf⟩,pv⟩,hx⟩:∃x,L.getD k Itw.z=x:=⟨_,rfl⟩;have hxm:=bf (d:=Itw.z) hkx;rw[hx] at hxm;have hel:e.length≤1000:=hle _ hxm;refine aa λG7=>nv Y<|AK (ac (v:=po w1.hz 4) O kr)<|AK (ld U 0 O O (isAgg48 _) O)<|AL O<|AK ((ai (i:=(k:Int)) (sT:=48) (U.arg hiv.1) O O (runUnderlying48 _) (sizeOf110 _) om CH).as (v':=slAddr iv (k*3)) O)<|AK (aQ (k:=k*3) (j:=1) (U.arg hiv.1) (i:=k) CH O (λ_ _=>by kernel_rfl))<|AK (az (u:=sv e) (i:=k) (j:=1) (U.arg hiv.1) CH O (isAgg9 _) Dx)<|λa Y=>?_;rcases AR ((decCas e).isSome) with hb2|hb2
  ·obtain⟨y,hy⟩:=Bz.1 hb2;have hyl:=(Cas.bnd (kF hy).1).2.2.2.2;refine au Y U call118 O (iR (Br hel de) hy) λa w4 Y U=>nv Y<|AL O<|AK (aj O O)<|AK (aj O O)<|λa Y=>aE Y U (zeroValue55 _) Fc O λa w5 Y U=>aA 0 Y U (E1 y) O (sizeOf55 _) λa w6 Y U=>wla Y O λa Y=>G7 ?_;refine ah λG8=>aa λG9=>nv (Y.p6 0 4 5 7 8 9 O)<|AL O<|AK ((v_ne O O).asb (b':=false) O)<|AL O<|AN (ac (v:=pq w4.hz) O kr)<|AN (ld U 0 O O (isAgg3 _) O)<|AN (ac (v:=pq w0.hz) O kr)<|AN (ld U 2 O O (isAgg3 _) O)<|AN (v_ne O O)<|AK (ak O O)<|AL O<|λa Y=>?_;rcases (Decidable.em (y.n=q.n)).symm with hb3|hb3
   ·rw[AV hb3] at Y;have hno:keepI ks q (⟨⟨ix,e,pf⟩,pv⟩:Itw).m=false:=fk (x:=(⟨⟨ix,e,pf⟩,pv⟩:Itw)) hy (tO om);refine nv Y<|AO<|AO<|AO<|AO<|AO<|AK (aq O O)<|λa Y=>G9 ?_;replace Y:=Y.p6 0 4 5 7 8 45 O;refine aC Y O ?_;refine aN<|G6<|al<|nv Y<|AL O<|AK (aK O O ⟨om,om⟩)<|AM O<|λa Y=>ab ?_;refine⟨_,?_,k+1,O,om,Dn,Y.pick [0,4,5,7],U.select [1,2] de⟩;omega
   rw[AQ hb3] at Y;have hn1:y.n=q.n:=by omega
   refine nv Y<|AN (ac (v:=po w4.hz 1) O kr)<|AN (ld U 0 O O (isAgg3 _) O)<|AN (ac (v:=po w0.hz 3) O kr)<|AN (ld U 2 O O (isAgg3 _) O)<|AN (v_ne O O)<|AK (ak O O)<|λa Y=>G9 ?_;replace Y:=Y.p6 0 4 5 7 8 45 O;refine bV Y O (λhc4=>?_) (λhc4=>?_)
   ·have hno:keepI ks q (⟨⟨ix,e,pf⟩,pv⟩:Itw).m=false:=fk (x:=(⟨⟨ix,e,pf⟩,pv⟩:Itw)) hy (tB om);refine aN<|G6<|al<|nv Y<|AL O<|AK (aK O O ⟨om,om⟩)<|AM O<|λa Y=>ab ?_;refine⟨_,?_,k+1,O,om,Dn,Y.pick [0,4,5,7],U.select [1,2] de⟩;omega
   have ht1:y.t=q.t:=by omega
   refine ap<|G8<|aa λG10=>nv Y<|AK (ac (v:=po w4.hz 2) O kr)<|AK (ld U 0 O O (isAgg9 _) O)<|λa Y=>?_;rcases AR ((bH y.ev).isSome) with hb5|hb5
   ·obtain⟨⟨u,up⟩,hz⟩:=Bz.1 hb5;refine bp Y U call46 O (kS (Br hyl de) hz) λa w7 x7 hp Y U=>?_;revert x7 hp Y U; rintro dv6 hp Y U;clear hp;replace U:=U.n4 O;refine nv Y<|AL O<|AK (aj O O)<|AK (aj O O)<|AK (aj O O)<|λa Y=>aE Y U (zeroValue90 _) E4 O λa w8 Y U=>aA 0 Y U (EV u) O (sizeOf90 _) λa w9 Y U=>nv Y<|AM O<|AM O<|λa Y=>G10 ?_;replace U:=U.k4 27 O;refine aa λG11=>nv (Y.p7 0 4 5 7 10 11 12 O)<|AL O<|AK ((v_eq O O).asb (b':=true) O)<|AL O<|AN (ac (v:=po w7.hz 1) O kr)<|AN (ld U 0 O O (isAgg3 _) O)<|AN (ac (v:=po w0.hz 1) O kr)<|AN (ld U 3 O O (isAgg3 _) O)<|AN (v_eq O O)<|AK (aq O O)<|AL O<|λa Y=>?_;rcases Decidable.em (u.holder=q.h) with hb8|hb8
    ·rw[AQ hb8] at Y;have hh1:u.holder=q.h:=by omega
     refine nv Y<|AN (ac (v:=po w7.hz 4) O kr)<|AN (ld U 0 O O (isAgg3 _) O)<|AN (ac (v:=po w0.hz 2) O kr)<|AN (ld U 3 O O (isAgg3 _) O)<|AN (v_eq O O)<|AK (aq O O)<|AL O<|λa Y=>?_;rcases Decidable.em (u.carrier=q.c) with hb9|hb9
     ·rw[AQ hb9] at Y;have hc1:u.carrier=q.c:=by omega
      refine nv Y<|AN (ax O)<|AN (ar (U.g 0 O) O (isAgg90 _) (sizeOf90 _))<|AN (ax O)<|AN (ac (v:=pq w0.hz) O kr)<|AN (ld U 3 O O (isAgg3 _) O)<|AN (ac (v:=po w0.hz 3) O kr)<|AN (ld U 3 O O (isAgg3 _) O)<|λa Y=>aF Y U call119 O (vn kv dv6 ks u up q.n q.t _ (U.arg hkv) (U.ow 1 O)) λa w10 Y U=>wlv Y (aq O O) λa Y=>G11 ?_;replace Y:=Y.p5 0 4 5 7 78 O;replace U:=U.k2 12 O;refine bn Y O (λhc10=>?_) (λhc10=>?_)
      ·have hv1:validH ks u up q.n q.t=true:=by first|exact hc10|simpa using hc10
       have hyes:keepI ks q (⟨⟨ix,e,pf⟩,pv⟩:Itw).m=true:=fk (x:=(⟨⟨ix,e,pf⟩,pv⟩:Itw)) hy (oU hn1 ht1 hz hh1 hc1 hv1);refine aa λG12=>wla Y O λa Y=>G12<|ao<|am Y results68 (ae O ag) ?_;refine⟨?_,U.ext⟩;simp only[retv];refine Bh Value.bool ?_;rw[hs,keepd hkx hx,hyes,Bool.true_or]
      have hv1:validH ks u up q.n q.t=false:=by first|exact hc10|simpa using hc10
      have hno:keepI ks q (⟨⟨ix,e,pf⟩,pv⟩:Itw).m=false:=fk (x:=(⟨⟨ix,e,pf⟩,pv⟩:Itw)) hy (jQ hn1 ht1 (by rw[eE hz,hv1,Bx]));refine ap<|G6<|al<|nv Y<|AL O<|AK (aK O O ⟨om,om⟩)<|AM O<|λa Y=>ab ?_;refine⟨_,?_,k+1,O,om,Dn,Y.pick [0,4,5,7],U.select [0,1] de⟩;omega
     rw[AV hb9] at Y;have hno:keepI ks q (⟨⟨ix,e,pf⟩,pv⟩:Itw).m=false:=fk (x:=(⟨⟨ix,e,pf⟩,pv⟩:Itw)) hy (jQ hn1 ht1 (by rw[eE hz,AV (show ¬u.carrier=q.c by omega),Bx]; rfl));refine nv Y<|AO<|AO<|AO<|AO<|AO<|AO<|AO<|AO<|AK (ak O O)<|λa Y=>G11 ?_;replace Y:=Y.p5 0 4 5 7 78 O;replace U:=U.k2 12 O;refine aJ Y O ?_;refine ap<|G6<|al<|nv Y<|AL O<|AK (aK O O ⟨om,om⟩)<|AM O<|λa Y=>ab ?_;refine⟨_,?_,k+1,O,om,Dn,Y.pick [0,4,5,7],U.select [0,1] de⟩;omega
    rw[AV hb8] at Y;have hno:keepI ks q (⟨⟨ix,e,pf⟩,pv⟩:Itw).m=false:=fk (x:=(⟨⟨ix,e,pf⟩,pv⟩:Itw)) hy (jQ hn1 ht1 (by rw[eE hz,AV om]; rfl));refine nv Y<|AO<|AO<|AO<|AO<|AO<|AK (ak O O)<|AL O<|AO<|AO<|AO<|AO<|AO<|AO<|AO<|AO<|AK (ak O O)<|λa Y=>G11 ?_;replace Y:=Y.p5 0 4 5 7 78 O;replace U:=U.k2 12 O;refine aJ Y O ?_;refine ap<|G6<|al<|nv Y<|AL O<|AK (aK O O ⟨om,om⟩)<|AM O<|λa Y=>ab ?_;refine⟨_,?_,k+1,O,om,Dn,Y.pick [0,4,5,7],U.select [0,1] de⟩;omega
   have hz:bH y.ev=none:=by
    cases h:bH y.ev with
    | none=>rfl
    | some z=>rw[h] at hb5; cases hb5
   have hno:keepI ks q (⟨⟨ix,e,pf⟩,pv⟩:Itw).m=false:=fk (x:=(⟨⟨ix,e,pf⟩,pv⟩:Itw)) hy (jQ hn1 ht1 (oR hz));refine au Y U call46 O (mL (Br hyl de) hz) λa w11 Y U=>nv Y<|AL O<|AK (aj O O)<|AK (aj O O)<|AK (aj O O)<|λa Y=>aE Y U (zeroValue90 _) E4 O λa w12 Y U=>aA 0 Y U [jv 0,jv 0,jv 0,jv 0,jv 0,jv 0,jv 0,jv 0,sv ([]:By)] O (sizeOf90 _) λa w13 Y U=>nv Y<|AM O<|AM O<|λa Y=>G10 ?_;replace U:=U.k3 13 O;refine aa λG13=>nv (Y.p7 0 4 5 7 10 11 12 O)<|AL O<|AK ((v_eq O O).asb (b':=false) O)<|AL O<|AO<|AO<|AO<|AO<|AO<|AK (ak O O)<|AL O<|AO<|AO<|AO<|AO<|AO<|AK (ak O O)<|AL O<|AO<|AO<|AO<|AO<|AO<|AO<|AO<|AO<|AK (ak O O)<|λa Y=>G13 ?_;replace Y:=Y.p5 0 4 5 7 78 O;replace U:=U.k2 6 O;refine aJ Y O ?_;refine ap<|G6<|al<|nv Y<|AL O<|AK (aK O O ⟨om,om⟩)<|AM O<|λa Y=>ab ?_;refine⟨_,?_,k+1,O,om,Dn,Y.pick [0,4,5,7],U.select [0,1] de⟩;omega
  have hy:decCas e=none:=by
   cases h:decCas e with
   | none=>rfl
   | some z=>rw[h] at hb2; cases hb2
  have hno:keepI ks q (⟨⟨ix,e,pf⟩,pv⟩:Itw).m=false:=xR (x:=(⟨⟨ix,e,pf⟩,pv⟩:Itw)) hy;refine au Y U call118 O (ka (Br hel de) hy) λa w14 Y U=>nv Y<|AL O<|AK (aj O O)<|AK (aj O O)<|λa Y=>aE Y U (zeroValue55 _) Fc O λa w15 Y U=>aA 0 Y U [jv 0,jv 0,sv ([]:By)] O (sizeOf55 _) λa w16 Y U=>wla Y O λa Y=>G7 ?_;refine ah λG14=>aa λG15=>nv (Y.p6 0 4 5 7 8 9 O)<|AL O<|AK ((v_ne O O).asb (b':=true) O)<|AL O<|AO<|AO<|AO<|AO<|AO<|AK (aq O O)<|AL O<|AO<|AO<|AO<|AO<|AO<|AK (aq O O)<|λa Y=>G15 ?_;replace Y:=Y.p6 0 4 5 7 8 45 O;refine aC Y O ?_;refine aN<|G6<|al<|nv Y<|AL O<|AK (aK O O ⟨om,om⟩)<|AM O<|λa Y=>ab ?_;refine⟨_,?_,k+1,O,om,Dn,Y.pick [0,4,5,7],U.select [1,2] de⟩;omega
 have hall:keepsF ks q (itsM L)=false:=by rw[hs,show k=(itsM L).length by rw[dx]; omega,List.drop_length]; rfl
 refine aN<|G2<|aa λG16=>wla Y O λa Y=>G16 ?_;replace Y:=Y.p1 6 O;replace U:=U.k0 0 O;refine ao<|am Y results68 (ae O ag) ?_;refine⟨?_,U.ext⟩;simp only[retv];refine Bh Value.bool ?_;exact hall.symm
end Go.Proofs.YtliklcmddmpdfaaGreatDoor
namespace Go.Proofs.YtliklcmddmpdfaaGreatDoor
open Go.RowKit Go.PW _root_.Go.Proofs.Tryz
theorem yB {key:By} {hd:Hd} {l:List Itm} (h:checkP sha key hd l=true):ascX (-1) l:=by
 unfold checkP at h;rw[AU] at h;exact qC h.2
theorem ip {L:List Itw} {x:Itm}:x∈itsM L↔∃i,i<L.length∧(L.getD i Itw.z).m=x:=by
 unfold itsM;rw[BA];constructor
 ·rintro⟨z,hz,rfl⟩;obtain⟨i,hi,rfl⟩:=BJ hz;exact⟨i,hi,by rw[AY,A2 hi,Option.getD_some]⟩
 ·rintro⟨i,hi,rfl⟩;exact⟨_,bf (d:=Itw.z) hi,O⟩
theorem upto {P:Nat→Prop} {k:Nat} (h:∀i,i<k→P i) (hk:P k):∀i,i<k+1→P i:=λi hi=>by
 rcases Nat.lt_or_ge i k with h1|h1
 ·exact h i h1
 ·rw[show i=k by omega]; exact hk
def Mute (num:Int) (L:List Itw) (n ix:Int) (j:Nat):Prop:=∀d,decCas (L.getD j Itw.z).m.e=some d→¬((L.getD j Itw.z).m.ix=ix+1∧n<num∧num<d.n)
def Dumb (size num:Int) (L:List Itw) (i:Nat):Prop:=∀c,decCas (L.getD i Itw.z).m.e=some c→¬((c.n<num∧(L.getD i Itw.z).m.ix=size- 1)∨(num<c.n∧(L.getD i Itw.z).m.ix=0))∧∀j,j<L.length→Mute num L c.n (L.getD i Itw.z).m.ix j
section
variable {size num n ix:Int} {L:List Itw} {i j:Nat} {x y:Itw} {c d:Cas}
theorem vp (hx:L.getD j Itw.z=x) (h:decCas x.m.e=none):Mute num L n ix j:=λd hd=>by rw[hx,h] at hd; cases hd
theorem kw (hx:L.getD j Itw.z=x) (h:decCas x.m.e=some d) (hn:¬(x.m.ix=ix+1∧n<num∧num<d.n)):Mute num L n ix j:=λd2 hd=>by
 rw[hx,h] at hd; cases hd; rw[hx]; exact hn
theorem vS (hx:L.getD i Itw.z=x) (h:decCas x.m.e=none):Dumb size num L i:=λd hd=>by rw[hx,h] at hd; cases hd
theorem uI (hx:L.getD i Itw.z=x) (h:decCas x.m.e=some c) (he:¬((c.n<num∧x.m.ix=size- 1)∨(num<c.n∧x.m.ix=0))) (hq:∀j,j<L.length→Mute num L c.n x.m.ix j):Dumb size num L i:=λd hd=>by
 rw[hx,h] at hd; cases hd; rw[hx]; exact⟨he,hq⟩
theorem vw (ha:ascX (-1) (itsM L)) (hs:¬size=0) (h:∀i,i<L.length→Dumb size num L i):lackF size num (-1) false (itsM L)=false:=by
 rw[Bool.eq_false_iff];intro hl;rcases (fY ha).1 hl with h0|⟨x,hx,c,hc,hor⟩|⟨x,hx,y,hy,c,d,hc,hd,h1,h2,h3⟩
 ·exact hs h0
 ·obtain⟨i,hi,rfl⟩:=ip.1 hx;exact (h i hi c hc).1 hor
 ·obtain⟨i,hi,rfl⟩:=ip.1 hx;obtain⟨j,hj,rfl⟩:=ip.1 hy;exact (h i hi c hc).2 j hj d hd ⟨h1,h2,h3⟩
theorem xm (ha:ascX (-1) (itsM L)) (hi:i<L.length) (hx:L.getD i Itw.z=x) (hc:decCas x.m.e=some c) (h:(c.n<num∧x.m.ix=size- 1)∨(num<c.n∧x.m.ix=0)):lackF size num (-1) false (itsM L)=true:=
 (fY ha).2 (.inr (.inl ⟨x.m,ip.2 ⟨i,hi,by rw[hx]⟩,c,hc,h⟩))
theorem wc (ha:ascX (-1) (itsM L)) (hi:i<L.length) (hx:L.getD i Itw.z=x) (hj:j<L.length) (hy:L.getD j Itw.z=y) (hc:decCas x.m.e=some c) (hd:decCas y.m.e=some d) (h1:y.m.ix=x.m.ix+1) (h2:c.n<num) (h3:num<d.n):lackF size num (-1) false (itsM L)=true:=
 (fY ha).2 (.inr (.inr ⟨x.m,ip.2 ⟨i,hi,by rw[hx]⟩,y.m,ip.2 ⟨j,hj,by rw[hy]⟩,c,d,hc,hd,h1,h2,h3⟩))
theorem vN (ha:ascX (-1) (itsM L)) (h:size=0):lackF size num (-1) false (itsM L)=true:=(fY ha).2 (.inl h)
end
theorem vH (key:By) (hd:Hd) (iv:Value) (L:List Itw) (num:Int) (w0:World) (hiv:ItsAt w0 iv L) (hck:checkP sha key hd (itsM L)=true) (hnum:inB num 0 99999999=true):
  Ff 69 #[sv key,(EU hd iv),jv num] w0 (.bool (lackF hd.n num (-1) false (itsM L))):=by
 have hxb:=hiv.len;have hok:=gJ hck;have hasc:=yB hck;have hok1:=hok.1;have hok2:=hok.2.1;refine CB func69 O ntmps69 (lb O) λa Y U=>aa λG1=>aR Y U O (ET hd iv) O λa w1 Y U=>wla Y O λa Y=>G1<|ah λG2=>aa λG3=>nv Y<|AL O<|AK (ar (U.g 0 O) O (isAgg50 _) (sizeOf50 _))<|λa Y=>au Y U call67 O (cj hck (nP key hd iv L _ (cw U hiv))) λa w2 Y U=>nv Y<|AK ((bd O).asb (b':=false) O)<|AL O<|AN (ax O)<|λa Y=>aF Y U call66 O (cj hnum (dH num 0 99999999 _)) λa w3 Y U=>nv Y<|AN ((bd O).asb (b':=false) O)<|AK (ak O O)<|λa Y=>G3 ?_;replace Y:=Y.p4 2 4 6 21 O;refine aJ Y O ?_;refine ap<|G2<|ah λG4=>aa λG5=>nv Y<|AK (ac (v:=pq w0.hz) O kr)<|AK (ac (v:=po w0.hz 1) O kr)<|AK (ld U 0 O O (isAgg3 _) O)<|AK (v_eq O O)<|λa Y=>G5<|ay Y O (λhc1=>?_) (λhc1=>?_)
 ·have hres:=vN (num:=num) hasc hc1;refine aa λG6=>wla Y O λa Y=>G6<|ao<|am Y results69 (ae O ag) ?_;exact⟨Bh Value.bool hres.symm,U.ext⟩
 have hne:=hc1;refine ap<|G4<|ah λG7=>aa λG8=>wla Y O λa Y=>G8<|aw<|aV (λm a w=>∃(k:Nat),m=L.length- k∧(k≤L.length)∧(∀i,i<k→Dumb hd.n num L i)∧Fr 124 [(2,jv num),(4,pq w0.hz),(7,jv (k:Int))] [] a∧St No w0 [blk w0.hz (ET hd iv) 50] w) _ ⟨0,O,A8 _,(λi hi=>absurd hi (Cl i)),Y.pick [2,4,7],U.select [0] de⟩ ?_;rintro _ a w4 ⟨k,rfl,hk,hdu,Y,U⟩;refine ah λG9=>aa λG10=>nv Y<|AL O<|AK (ac (v:=po w0.hz 4) O kr)<|AK (ld U 0 O O (isAgg48 _) O)<|AK ((aH (sT:=48) (U.arg hiv.1) O O (runUnderlying48 _)).asi (m':=(L.length:Int)) CU)<|AK (v_lt O O)<|λa Y=>G10<|ay Y O (λhc2=>?_) (λhc2=>?_)
 ·have hkx:k<L.length:=by omega
  refine ap<|G9<|ah λG11=>aw ?_;obtain⟨⟨⟨ix,e,pf⟩,pv⟩,hx⟩:∃x,L.getD k Itw.z=x:=⟨_,rfl⟩;have hxm:=bf (d:=Itw.z) hkx;rw[hx] at hxm;have hel:e.length≤1000:=(hok.2.2 _ hxm).2.2;have hib:0≤ix∧ix<hd.n:=⟨(hok.2.2 _ hxm).1,(hok.2.2 _ hxm).2.1⟩;refine aa λG12=>nv Y<|AK (ac (v:=po w0.hz 4) O kr)<|AK (ld U 0 O O (isAgg48 _) O)<|AL O<|AK ((ai (i:=(k:Int)) (sT:=48) (U.arg hiv.1) O O (runUnderlying48 _) (sizeOf110 _) om CH).as (v':=slAddr iv (k*3)) Dp)<|AK (aQ (k:=k*3) (j:=1) (U.arg hiv.1) (i:=k) CH O (λ_ _=>by kernel_rfl))<|AK (az (u:=sv e) (i:=k) (j:=1) (U.arg hiv.1) CH O (isAgg9 _) Dx)<|λa Y=>?_;rcases AR ((decCas e).isSome) with hb3|hb3
  ·obtain⟨y,hy⟩:=Bz.1 hb3;refine au Y U call118 O (iR (Br hel de) hy) λa w5 Y U=>nv Y<|AL O<|AK (aj O O)<|AK (aj O O)<|λa Y=>aE Y U (zeroValue55 _) Fc O λa w6 Y U=>aA 0 Y U (E1 y) O (sizeOf55 _) λa w7 Y U=>wla Y O λa Y=>G12 ?_;refine ah λG13=>aa λG14=>nv (Y.p5 2 4 7 8 9 O)<|AL O<|AK ((v_ne O O).asb (b':=false) O)<|λa Y=>G14<|aJ Y O ?_;refine ap<|G13<|ah λG15=>ah λG16=>dQ (λa w=>∃(eb:Bool),(eb=decide ((y.n<num∧ix=hd.n- 1)∨(num<y.n∧ix=0)))∧Fr 124 [(2,jv num),(4,pq w0.hz),(7,jv (k:Int)),(8,pq w5.hz),(76,.bool eb)] [] a∧St No w0 [blk w5.hz (E1 y) 55,blk w0.hz (ET hd iv) 50] w) ?_ ?_
   ·refine aL (aM λw8 hxz=>?_);replace U:=U.grow hxz;refine aP (k:=0) 3 [1,2] Y ?_;refine bB 3 (Y.p7 2 4 7 8 9 43 44 O) U<|pl_v (ac (v:=po w0.hz 4) O kr)<|pl_w (λU=>ld U 1 O O (isAgg48 _) O)<|pl_m O λa w9 Y U=>?_;replace Y:=Y.p6 2 4 7 8 46 47 O;refine ab<|aI (k:=3) 8 [7] ?_;refine nv Y<|AK ((ai (i:=(k:Int)) (sT:=48) (U.arg hiv.1) O O (runUnderlying48 _) (sizeOf110 _) om CH).as (v':=slAddr iv (k*3)) Dp)<|AK (aQ (k:=k*3) (j:=0) (U.arg hiv.1) (i:=k) CH O (λ_ _=>by kernel_rfl))<|AK (az (u:=jv ix) (i:=k) (j:=0) (U.arg hiv.1) CH O (isAgg3 _) Dx)<|AK (v_eq O O)<|AL O<|λa Y=>ab ?_;rcases Decidable.em (ix=0) with hb4|hb4
    ·rw[AQ hb4] at Y;refine aP (k:=8) 11 [9,10] Y ?_;refine bB 3 (Y.p11 2 4 7 8 46 47 48 49 50 51 52 O) U<|pl_v (ac (v:=pq w5.hz) O kr)<|pl_w (λU=>ld U 0 O O (isAgg3 _) O)<|pl_m O λa w10 Y U=>?_;replace Y:=Y.p7 2 4 7 8 52 54 55 O;refine ab<|aI (k:=11) 14 [13] ?_;refine nv Y<|AN (v_gt O O)<|AK (aq O O)<|AL O<|λa Y=>ab ?_;rcases Decidable.em (num<y.n) with hb5|hb5
     ·rw[AQ hb5] at Y;refine bR (k:=14) 24 [19,23] (Y.p10 2 4 7 8 52 54 55 56 57 58 O) λa Y=>?_;replace Y:Fr 124 [(59,undef),(60,undef),(61,undef),(62,undef),(63,undef),(64,undef),(65,undef),(66,undef),(67,undef),(68,undef),(2,jv num),(4,pq w0.hz),(7,jv (k:Int)),(8,pq w5.hz),(52,.bool true),(54,jv y.n),(55,jv num),(56,.bool true),(57,.bool true),(58,.bool true)] [] a:=Y;refine aI (k:=24) 26 [25] ?_;refine nv Y<|AO<|AO<|λa Y=>ab<|bR (k:=26) 29 [27,28] (Y.p22 59 60 61 62 63 64 65 66 67 68 2 4 7 8 52 54 55 56 57 58 69 70 O) λa Y=>?_;replace Y:Fr 124 [(71,undef),(72,undef),(73,undef),(59,undef),(60,undef),(61,undef),(62,undef),(63,undef),(64,undef),(65,undef),(66,undef),(67,undef),(68,undef),(2,jv num),(4,pq w0.hz),(7,jv (k:Int)),(8,pq w5.hz),(52,.bool true),(54,jv y.n),(55,jv num),(56,.bool true),(57,.bool true),(58,.bool true),(69,undef),(70,undef)] [] a:=Y;refine aI (k:=29) 32 [31] ?_;refine bO Y λa Y=>nv Y<|AO<|AK (aq O O)<|λa Y=>ab<|aO ?_;exact⟨true,(by refine Bool.eq_iff_iff.2 ?_; simp only[AZ,true_iff,false_iff,B5]; omega),Y.pick [2,4,7,8,76],U.select [0,1] de⟩
     rw[AV hb5] at Y;refine aP (k:=14) 24 [19,23] Y ?_;replace Y:=Y.p10 2 4 7 8 52 54 55 56 57 58 O;refine bB 10 Y U<|pl_v (ac (v:=po w0.hz 4) O kr)<|pl_w (λU=>ld U 1 O O (isAgg48 _) O)<|pl_m O<|pl_w (λU=>(ai (i:=(k:Int)) (sT:=48) (U.arg hiv.1) O O (runUnderlying48 _) (sizeOf110 _) om CH).as (v':=slAddr iv (k*3)) Dp)<|pl_w (λU=>aQ (k:=k*3) (j:=0) (U.arg hiv.1) (i:=k) CH O (λ_ _=>by kernel_rfl))<|pl_w (λU=>az (u:=jv ix) (i:=k) (j:=0) (U.arg hiv.1) CH O (isAgg3 _) Dx)<|pl_v (ac (v:=pq w0.hz) O kr) ?_;refine pl_v (ac (v:=po w0.hz 1) O kr)<|pl_w (λU=>ld U 1 O O (isAgg3 _) O)<|pl_v (bF O O ⟨om,om⟩) λa w11 Y U=>?_;replace Y:=Y.p7 2 4 7 8 58 64 68 O;refine ab<|aI (k:=24) 26 [25] ?_;refine nv Y<|AN (v_eq O O)<|AN (ax O)<|λa Y=>ab ?_;rcases Decidable.em (ix=hd.n- 1) with hb6|hb6
     ·rw[AQ hb6] at Y;refine aP (k:=26) 29 [27,28] Y ?_;refine bB 3 (Y.p9 2 4 7 8 58 64 68 69 70 O) U<|pl_v (ac (v:=pq w5.hz) O kr)<|pl_w (λU=>ld U 0 O O (isAgg3 _) O)<|pl_m O λa w12 Y U=>?_;replace Y:=Y.p8 2 4 7 8 58 70 72 73 O;refine ab<|aI (k:=29) 32 [31] ?_;refine nv Y<|AN (v_lt O O)<|AN (aq O O)<|AK (ak O O)<|λa Y=>ab<|aO ?_;exact⟨(decide (y.n<num)),(by refine Bool.eq_iff_iff.2 ?_; simp only[AZ,true_iff,false_iff,B5]; omega),Y.pick [2,4,7,8,76],U.select [0,1] de⟩
     rw[AV hb6] at Y;refine bR (k:=26) 29 [27,28] (Y.p9 2 4 7 8 58 64 68 69 70 O) λa Y=>?_;replace Y:=Y.p12 71 72 73 2 4 7 8 58 64 68 69 70 O;refine aI (k:=29) 32 [31] ?_;refine nv Y<|AO<|AN (ak O O)<|AK (ak O O)<|λa Y=>ab<|aO ?_;exact⟨false,(by refine Bool.eq_iff_iff.2 ?_; simp only[AZ,true_iff,false_iff,B5]; omega),Y.pick [2,4,7,8,76],U.select [0,1] de⟩
    rw[AV hb4] at Y;refine bR (k:=8) 11 [9,10] (Y.p11 2 4 7 8 46 47 48 49 50 51 52 O) λa Y=>?_;replace Y:=Y.p14 53 54 55 2 4 7 8 46 47 48 49 50 51 52 O;refine aI (k:=11) 14 [13] ?_;refine nv Y<|AO<|AK (ak O O)<|AL O<|λa Y=>ab<|aP (k:=14) 24 [19,23] Y ?_;replace Y:=Y.p17 53 54 55 2 4 7 8 46 47 48 49 50 51 52 56 57 58 O;refine bB 10 Y U<|pl_v (ac (v:=po w0.hz 4) O kr)<|pl_w (λU=>ld U 1 O O (isAgg48 _) O)<|pl_m O<|pl_w (λU=>(ai (i:=(k:Int)) (sT:=48) (U.arg hiv.1) O O (runUnderlying48 _) (sizeOf110 _) om CH).as (v':=slAddr iv (k*3)) Dp)<|pl_w (λU=>aQ (k:=k*3) (j:=0) (U.arg hiv.1) (i:=k) CH O (λ_ _=>by kernel_rfl))<|pl_w (λU=>az (u:=jv ix) (i:=k) (j:=0) (U.arg hiv.1) CH O (isAgg3 _) Dx)<|pl_v (ac (v:=pq w0.hz) O kr) ?_;refine pl_v (ac (v:=po w0.hz 1) O kr)<|pl_w (λU=>ld U 1 O O (isAgg3 _) O)<|pl_v (bF O O ⟨om,om⟩) λa w13 Y U=>?_;replace Y:=Y.p7 2 4 7 8 58 64 68 O;refine ab<|aI (k:=24) 26 [25] ?_;refine nv Y<|AN (v_eq O O)<|AN (ax O)<|λa Y=>ab ?_;rcases Decidable.em (ix=hd.n- 1) with hb7|hb7
    ·rw[AQ hb7] at Y;refine aP (k:=26) 29 [27,28] Y ?_;refine bB 3 (Y.p9 2 4 7 8 58 64 68 69 70 O) U<|pl_v (ac (v:=pq w5.hz) O kr)<|pl_w (λU=>ld U 0 O O (isAgg3 _) O)<|pl_m O λa w14 Y U=>?_;replace Y:=Y.p8 2 4 7 8 58 70 72 73 O;refine ab<|aI (k:=29) 32 [31] ?_;refine nv Y<|AN (v_lt O O)<|AN (aq O O)<|AK (ak O O)<|λa Y=>ab<|aO ?_;exact⟨(decide (y.n<num)),(by refine Bool.eq_iff_iff.2 ?_; simp only[AZ,true_iff,false_iff,B5]; omega),Y.pick [2,4,7,8,76],U.select [0,1] de⟩
    rw[AV hb7] at Y;refine bR (k:=26) 29 [27,28] (Y.p9 2 4 7 8 58 64 68 69 70 O) λa Y=>?_;replace Y:=Y.p12 71 72 73 2 4 7 8 58 64 68 69 70 O;refine aI (k:=29) 32 [31] ?_;refine nv Y<|AO<|AN (ak O O)<|AK (ak O O)<|λa Y=>ab<|aO ?_;exact⟨false,(by refine Bool.eq_iff_iff.2 ?_; simp only[AZ,true_iff,false_iff,B5]; omega),Y.pick [2,4,7,8,76],U.select [0,1] de⟩
   rintro a w15 ⟨eb,heb,Y,U⟩;refine G16<|bn Y O (λhc8=>?_) (λhc8=>?_)
   ·have hres:=xm (x:=(⟨⟨ix,e,pf⟩,pv⟩:Itw)) hasc hkx hx hy (of_decide_eq_true (heb.symm.trans hc8));refine aa λG17=>wla Y O λa Y=>G17<|ao<|am Y results69 (ae O ag) ?_;exact⟨Bh Value.bool hres.symm,U.ext⟩
   replace heb:=of_decide_eq_false (heb.symm.trans hc8);refine ap<|G15<|aa λG18=>wla Y O λa Y=>G18<|aw<|aV (λm a w=>∃(j:Nat),m=L.length- j∧(j≤L.length)∧(∀i,i<j→Mute num L y.n ix i)∧Fr 124 [(2,jv num),(4,pq w0.hz),(7,jv (k:Int)),(8,pq w5.hz),(10,jv (j:Int))] [] a∧St No w0 [blk w5.hz (E1 y) 55,blk w0.hz (ET hd iv) 50] w) _ ⟨0,O,A8 _,(λi hi=>absurd hi (Cl i)),Y.pick [2,4,7,8,10],U.select [0,1] de⟩ ?_;rintro _ a w16 ⟨j,rfl,hj,hmu,Y,U⟩;refine ah λG19=>aa λG20=>nv Y<|AL O<|AK (ac (v:=po w0.hz 4) O kr)<|AK (ld U 1 O O (isAgg48 _) O)<|AK ((aH (sT:=48) (U.arg hiv.1) O O (runUnderlying48 _)).asi (m':=(L.length:Int)) CU)<|AK (v_lt O O)<|λa Y=>G20<|ay Y O (λhc9=>?_) (λhc9=>?_)
   ·have hjx:j<L.length:=by omega
    refine ap<|G19<|ah λG21=>aw ?_;obtain⟨⟨⟨ix2,e2,pf2⟩,pv2⟩,hx2⟩:∃x,L.getD j Itw.z=x:=⟨_,rfl⟩;have hxm2:=bf (d:=Itw.z) hjx;rw[hx2] at hxm2;have hel2:e2.length≤1000:=(hok.2.2 _ hxm2).2.2;have hib2:0≤ix2∧ix2<hd.n:=⟨(hok.2.2 _ hxm2).1,(hok.2.2 _ hxm2).2.1⟩;refine aa λG22=>nv Y<|AK (ac (v:=po w0.hz 4) O kr)<|AK (ld U 1 O O (isAgg48 _) O)<|AL O<|AK ((ai (i:=(j:Int)) (sT:=48) (U.arg hiv.1) O O (runUnderlying48 _) (sizeOf110 _) om CH).as (v':=slAddr iv (j*3)) (by rw[show ((j:Int)).toNat=j from by omega]))<|AK (aQ (k:=j*3) (j:=1) (U.arg hiv.1) (i:=j) CH O (λ_ _=>by kernel_rfl))<|AK (az (u:=sv e2) (i:=j) (j:=1) (U.arg hiv.1) CH O (isAgg9 _) (by rw[aU Itw.z,hx2]; rfl))<|λa Y=>?_;rcases AR ((decCas e2).isSome) with hb10|hb10
    ·obtain⟨y2,hy2⟩:=Bz.1 hb10;refine au Y U call118 O (iR (Br hel2 de) hy2) λa w17 Y U=>nv Y<|AL O<|AK (aj O O)<|AK (aj O O)<|λa Y=>aE Y U (zeroValue55 _) Fc O λa w18 Y U=>aA 0 Y U (E1 y2) O (sizeOf55 _) λa w19 Y U=>wla Y O λa Y=>G22 ?_;replace Y:=Y.p7 2 4 7 8 10 11 12 O;refine ah λG23=>aL (aM λw20 hxz=>?_);replace U:=U.grow hxz;refine aI (k:=0) 3 [2] ?_;refine nv Y<|AL O<|AK ((v_eq O O).asb (b':=true) O)<|AL O<|λa Y=>ab<|aP (k:=3) 16 [8,15] Y ?_;replace Y:=Y.p10 2 4 7 8 10 11 12 94 95 96 O;refine bB 13 Y U<|pl_v (ac (v:=po w0.hz 4) O kr)<|pl_w (λU=>ld U 2 O O (isAgg48 _) O)<|pl_m O<|pl_w (λU=>(ai (i:=(j:Int)) (sT:=48) (U.arg hiv.1) O O (runUnderlying48 _) (sizeOf110 _) om CH).as (v':=slAddr iv (j*3)) (by rw[show ((j:Int)).toNat=j from by omega]))<|pl_w (λU=>aQ (k:=j*3) (j:=0) (U.arg hiv.1) (i:=j) CH O (λ_ _=>by kernel_rfl))<|pl_w (λU=>az (u:=jv ix2) (i:=j) (j:=0) (U.arg hiv.1) CH O (isAgg3 _) (by rw[aU Itw.z,hx2]; rfl))<|pl_v (ac (v:=po w0.hz 4) O kr) ?_;refine pl_w (λU=>ld U 2 O O (isAgg48 _) O)<|pl_m O<|pl_w (λU=>(ai (i:=(k:Int)) (sT:=48) (U.arg hiv.1) O O (runUnderlying48 _) (sizeOf110 _) om CH).as (v':=slAddr iv (k*3)) Dp)<|pl_w (λU=>aQ (k:=k*3) (j:=0) (U.arg hiv.1) (i:=k) CH O (λ_ _=>by kernel_rfl))<|pl_w (λU=>az (u:=jv ix) (i:=k) (j:=0) (U.arg hiv.1) CH O (isAgg3 _) Dx)<|pl_v (aK O O ⟨om,om⟩) λa w21 Y U=>?_;replace Y:=Y.p9 2 4 7 8 10 11 96 102 109 O;refine ab<|aI (k:=16) 19 [18] ?_;refine nv Y<|AN (v_eq O O)<|AK (aq O O)<|AL O<|λa Y=>ab ?_;rcases Decidable.em (ix2=ix+1) with hb11|hb11
     ·rw[AQ hb11] at Y;refine aP (k:=19) 22 [20,21] Y ?_;refine bB 3 (Y.p12 2 4 7 8 10 11 96 102 109 110 111 112 O) U<|pl_v (ac (v:=pq w5.hz) O kr)<|pl_w (λU=>ld U 1 O O (isAgg3 _) O)<|pl_m O λa w22 Y U=>?_;replace Y:=Y.p9 2 4 7 8 10 11 112 114 115 O;refine ab<|aI (k:=22) 25 [24] ?_;refine nv Y<|AN (v_lt O O)<|AK (aq O O)<|AL O<|λa Y=>ab ?_;rcases Decidable.em (y.n<num) with hb12|hb12
      ·rw[AQ hb12] at Y;refine aP (k:=25) 28 [26,27] Y ?_;refine bB 3 (Y.p12 2 4 7 8 10 11 112 114 115 116 117 118 O) U<|pl_v (ac (v:=pq w17.hz) O kr)<|pl_w (λU=>ld U 0 O O (isAgg3 _) O)<|pl_m O λa w23 Y U=>?_;replace Y:=Y.p8 2 4 7 8 10 118 120 121 O;refine ab<|aI (k:=28) 30 [29] ?_;refine nv Y<|AN (v_gt O O)<|AK (aq O O)<|λa Y=>ab<|aO<|G23<|ay Y O (λhc13=>?_) (λhc13=>?_)
       ·have hres:=wc (size:=hd.n) (x:=(⟨⟨ix,e,pf⟩,pv⟩:Itw)) (y:=(⟨⟨ix2,e2,pf2⟩,pv2⟩:Itw)) hasc hkx hx hjx hx2 hy hy2 (show ix2=ix+1 by omega) om om;refine aa λG24=>wla Y O λa Y=>G24<|ao<|am Y results69 (ae O ag) ?_;exact⟨Bh Value.bool hres.symm,U.ext⟩
       have hmm:Mute num L y.n ix j:=kw (x:=(⟨⟨ix2,e2,pf2⟩,pv2⟩:Itw)) hx2 hy2 (show ¬(ix2=ix+1∧y.n<num∧num<y2.n) by omega);refine ap<|G21<|al<|nv Y<|AL O<|AK (aK O O ⟨om,om⟩)<|AM O<|λa Y=>ab ?_;refine⟨_,?_,j+1,O,om,(upto hmu hmm),Y.pick [2,4,7,8,10],U.select [1,2] de⟩;omega
      rw[AV hb12] at Y;have hmm:Mute num L y.n ix j:=kw (x:=(⟨⟨ix2,e2,pf2⟩,pv2⟩:Itw)) hx2 hy2 (show ¬(ix2=ix+1∧y.n<num∧num<y2.n) by omega);refine bR (k:=25) 28 [26,27] (Y.p12 2 4 7 8 10 11 112 114 115 116 117 118 O) λa Y=>?_;replace Y:=Y.p15 119 120 121 2 4 7 8 10 11 112 114 115 116 117 118 O;refine aI (k:=28) 30 [29] ?_;refine nv Y<|AO<|AK (ak O O)<|λa Y=>ab<|aO<|G23 ?_;replace Y:=Y.p6 2 4 7 8 10 123 O;replace U:=U.k2 6 O;refine aJ Y O ?_;refine ap<|G21<|al<|nv Y<|AL O<|AK (aK O O ⟨om,om⟩)<|AM O<|λa Y=>ab ?_;refine⟨_,?_,j+1,O,om,(upto hmu hmm),Y.pick [2,4,7,8,10],U.select [0,1] de⟩;omega
     rw[AV hb11] at Y;have hmm:Mute num L y.n ix j:=kw (x:=(⟨⟨ix2,e2,pf2⟩,pv2⟩:Itw)) hx2 hy2 (show ¬(ix2=ix+1∧y.n<num∧num<y2.n) by omega);refine bR (k:=19) 22 [20,21] (Y.p12 2 4 7 8 10 11 96 102 109 110 111 112 O) λa Y=>?_;replace Y:=Y.p15 113 114 115 2 4 7 8 10 11 96 102 109 110 111 112 O;refine aI (k:=22) 25 [24] ?_;refine nv Y<|AO<|AK (ak O O)<|AL O<|λa Y=>ab ?_;replace Y:Fr 124 [(113,undef),(114,undef),(115,undef),(2,jv num),(4,pq w0.hz),(7,jv (k:Int)),(8,pq w5.hz),(10,jv (j:Int)),(11,pq w17.hz),(96,.bool true),(102,jv ix2),(109,jv (ix+1)),(110,.bool false),(111,.bool false),(112,.bool false),(116,undef),(117,.bool false),(118,.bool false)] [] a:=Y.pick [113,114,115,2,4,7,8,10,11,96,102,109,110,111,112,116,117,118];refine bR (k:=25) 28 [26,27] Y λa Y=>?_;replace Y:Fr 124 [(119,undef),(120,undef),(121,undef),(113,undef),(114,undef),(115,undef),(2,jv num),(4,pq w0.hz),(7,jv (k:Int)),(8,pq w5.hz),(10,jv (j:Int)),(11,pq w17.hz),(96,.bool true),(102,jv ix2),(109,jv (ix+1)),(110,.bool false),(111,.bool false),(112,.bool false),(116,undef),(117,.bool false),(118,.bool false)] [] a:=Y;refine aI (k:=28) 30 [29] ?_;refine nv Y<|AO<|AK (ak O O)<|λa Y=>ab<|aO<|G23 ?_;replace Y:=Y.p6 2 4 7 8 10 123 O;replace U:=U.k2 6 O;refine aJ Y O ?_;refine ap<|G21<|al<|nv Y<|AL O<|AK (aK O O ⟨om,om⟩)<|AM O<|λa Y=>ab ?_;refine⟨_,?_,j+1,O,om,(upto hmu hmm),Y.pick [2,4,7,8,10],U.select [0,1] de⟩;omega
    have hy2:decCas e2=none:=Option.not_isSome_iff_eq_none.1 (by rw[hb10]; decide);have hmm:Mute num L y.n ix j:=vp (x:=(⟨⟨ix2,e2,pf2⟩,pv2⟩:Itw)) hx2 hy2;refine au Y U call118 O (ka (Br hel2 de) hy2) λa w24 Y U=>nv Y<|AL O<|AK (aj O O)<|AK (aj O O)<|λa Y=>aE Y U (zeroValue55 _) Fc O λa w25 Y U=>aA 0 Y U [jv 0,jv 0,sv ([]:By)] O (sizeOf55 _) λa w26 Y U=>wla Y O λa Y=>G22 ?_;replace Y:=Y.p7 2 4 7 8 10 11 12 O;refine ah λG25=>aL (aM λw27 hxz=>?_);replace U:=U.grow hxz;refine aI (k:=0) 3 [2] ?_;refine nv Y<|AL O<|AK ((v_eq O O).asb (b':=false) O)<|AL O<|λa Y=>ab<|bR (k:=3) 16 [8,15] (Y.p10 2 4 7 8 10 11 12 94 95 96 O) λa Y=>?_;replace Y:Fr 124 [(97,undef),(98,undef),(99,undef),(100,undef),(101,undef),(102,undef),(103,undef),(104,undef),(105,undef),(106,undef),(107,undef),(108,undef),(109,undef),(2,jv num),(4,pq w0.hz),(7,jv (k:Int)),(8,pq w5.hz),(10,jv (j:Int)),(11,pq w24.hz),(12,jv 210),(94,jv 210),(95,.bool false),(96,.bool false)] [] a:=Y;refine aI (k:=16) 19 [18] ?_;refine nv Y<|AO<|AK (ak O O)<|AL O<|λa Y=>ab ?_;replace Y:Fr 124 [(97,undef),(98,undef),(99,undef),(100,undef),(101,undef),(102,undef),(103,undef),(104,undef),(105,undef),(106,undef),(107,undef),(108,undef),(109,undef),(2,jv num),(4,pq w0.hz),(7,jv (k:Int)),(8,pq w5.hz),(10,jv (j:Int)),(11,pq w24.hz),(12,jv 210),(94,jv 210),(95,.bool false),(96,.bool false),(110,undef),(111,.bool false),(112,.bool false)] [] a:=Y.pick [97,98,99,100,101,102,103,104,105,106,107,108,109,2,4,7,8,10,11,12,94,95,96,110,111,112];refine bR (k:=19) 22 [20,21] Y λa Y=>?_;replace Y:Fr 124 [(113,undef),(114,undef),(115,undef),(97,undef),(98,undef),(99,undef),(100,undef),(101,undef),(102,undef),(103,undef),(104,undef),(105,undef),(106,undef),(107,undef),(108,undef),(109,undef),(2,jv num),(4,pq w0.hz),(7,jv (k:Int)),(8,pq w5.hz),(10,jv (j:Int)),(11,pq w24.hz),(12,jv 210),(94,jv 210),(95,.bool false),(96,.bool false),(110,undef),(111,.bool false),(112,.bool false)] [] a:=Y;refine aI (k:=22) 25 [24] ?_;refine nv Y<|AO<|AK (ak O O)<|AL O<|λa Y=>ab ?_;replace Y:Fr 124 [(113,undef),(114,undef),(115,undef),(97,undef),(98,undef),(99,undef),(100,undef),(101,undef),(102,undef),(103,undef),(104,undef),(105,undef),(106,undef),(107,undef),(108,undef),(109,undef),(2,jv num),(4,pq w0.hz),(7,jv (k:Int)),(8,pq w5.hz),(10,jv (j:Int)),(11,pq w24.hz),(12,jv 210),(94,jv 210),(95,.bool false),(96,.bool false),(110,undef),(111,.bool false),(112,.bool false),(116,undef),(117,.bool false),(118,.bool false)] [] a:=Y.pick [113,114,115,97,98,99,100,101,102,103,104,105,106,107,108,109,2,4,7,8,10,11,12,94,95,96,110,111,112,116,117,118];refine bR (k:=25) 28 [26,27] Y λa Y=>?_
    replace Y:Fr 124 [(119,undef),(120,undef),(121,undef),(113,undef),(114,undef),(115,undef),(97,undef),(98,undef),(99,undef),(100,undef),(101,undef),(102,undef),(103,undef),(104,undef),(105,undef),(106,undef),(107,undef),(108,undef),(109,undef),(2,jv num),(4,pq w0.hz),(7,jv (k:Int)),(8,pq w5.hz),(10,jv (j:Int)),(11,pq w24.hz),(12,jv 210),(94,jv 210),(95,.bool false),(96,.bool false),(110,undef),(111,.bool false),(112,.bool false),(116,undef),(117,.bool false),(118,.bool false)] [] a:=Y;refine aI (k:=28) 30 [29] ?_;refine nv Y<|AO<|AK (ak O O)<|λa Y=>ab<|aO<|G25 ?_;replace Y:=Y.p6 2 4 7 8 10 123 O;replace U:=U.k2 6 O;refine aJ Y O ?_;refine ap<|G21<|al<|nv Y<|AL O<|AK (aK O O ⟨om,om⟩)<|AM O<|λa Y=>ab ?_;refine⟨_,?_,j+1,O,om,(upto hmu hmm),Y.pick [2,4,7,8,10],U.select [0,1] de⟩;omega
   have hdm:Dumb hd.n num L k:=uI (x:=(⟨⟨ix,e,pf⟩,pv⟩:Itw)) hx hy heb λi hi=>hmu i om;refine aN<|G11<|al<|nv Y<|AL O<|AK (aK O O ⟨om,om⟩)<|AM O<|λa Y=>ab ?_;refine⟨_,?_,k+1,O,om,(upto hdu hdm),Y.pick [2,4,7],U.select [1] de⟩;omega
  have hy:decCas e=none:=Option.not_isSome_iff_eq_none.1 (by rw[hb3]; decide);have hdm:Dumb hd.n num L k:=vS (x:=(⟨⟨ix,e,pf⟩,pv⟩:Itw)) hx hy;refine au Y U call118 O (ka (Br hel de) hy) λa w28 Y U=>nv Y<|AL O<|AK (aj O O)<|AK (aj O O)<|λa Y=>aE Y U (zeroValue55 _) Fc O λa w29 Y U=>aA 0 Y U [jv 0,jv 0,sv ([]:By)] O (sizeOf55 _) λa w30 Y U=>wla Y O λa Y=>G12 ?_;refine ah λG26=>aa λG27=>nv (Y.p5 2 4 7 8 9 O)<|AL O<|AK ((v_ne O O).asb (b':=true) O)<|λa Y=>G27<|aC Y O ?_;refine aN<|G11<|al<|nv Y<|AL O<|AK (aK O O ⟨om,om⟩)<|AM O<|λa Y=>ab ?_;refine⟨_,?_,k+1,O,om,(upto hdu hdm),Y.pick [2,4,7],U.select [1] de⟩;omega
 have hres:=vw hasc hne λi hi=>hdu i om;refine aN<|G7<|aa λG28=>wla Y O λa Y=>G28 ?_;replace Y:=Y.p1 6 O;replace U:=U.k0 0 O;refine ao<|am Y results69 (ae O ag) ?_;exact⟨Bh Value.bool hres.symm,U.ext⟩
def stR (ks:List By) (key:By) (lim:Int) (q:Chg) (R:List Rpw) (t:Int):Int × Int × Int:=if dV key lim q R.length t=true then ((stateH sha ks key lim q (repsM R) t).1,(stateH sha ks key lim q (repsM R) t).2,0) else (0,0,210)
theorem iS {n lo hi:Int} (h:inB n lo hi=false):¬(lo≤n∧n≤hi):=λh2=>by
 rw[show inB n lo hi=true from by simpa [inB] using h2] at h; cases h
section
variable {ks:List By} {key:By} {lim t en:Int} {q:Chg} {R:List Rpw} {n:Nat} {ko bo o:Option Int} {r:Rpl} {ra:Int} {hd:Hd} {iv:Value} {L:List Itw} {b:Bool} {p:Rpl→Bool} {x:Int × Int}
theorem pk:dV key lim q n t=true↔(key.length=32∧(1≤lim∧lim≤1000000)∧((0≤q.h∧q.h≤63)∧(0≤q.c∧q.c≤7)∧(0≤q.n∧q.n≤99999999)∧(0≤q.a∧q.a≤10000000)∧0≤q.t∧q.t≤q.a)∧n≤10∧q.a≤t∧t≤11000000):=by
 simp only[dV,Chg.ok,inB,AU,AZ];omega
theorem gi (h:dV key lim q R.length t=true) (hs:stateH sha ks key lim q (repsM R) t=x):stR ks key lim q R t=(x.1,x.2,0):=by unfold stR; rw[Bi h,hs]
theorem fO (h:¬(key.length=32∧(1≤lim∧lim≤1000000)∧((0≤q.h∧q.h≤63)∧(0≤q.c∧q.c≤7)∧(0≤q.n∧q.n≤99999999)∧(0≤q.a∧q.a≤10000000)∧0≤q.t∧q.t≤q.a)∧R.length≤10∧q.a≤t∧t≤11000000)):stR ks key lim q R t=(0,0,210):=by unfold stR; rw[Bc λh2=>h (pk.1 h2)]
theorem jD (h:¬((q.a≤ra∧ra≤en- 1∧ra≤t)∧hd.c=q.c)):countB sha key q en t (Rpw.m ⟨ra,hd,iv,L⟩)=false:=by
 rw[Bool.eq_false_iff]; intro h2; have h3:=fa.1 h2; exact h ⟨h3.1,h3.2.1⟩
theorem sM (h:checkP sha key hd (itsM L)=false):countB sha key q en t (Rpw.m ⟨ra,hd,iv,L⟩)=false:=by
 rw[Bool.eq_false_iff]; intro h2; have h3:checkP sha key hd (itsM L)=true:=(fa.1 h2).2.2; rw[h] at h3; cases h3
theorem jt (h:countB sha key q en t r=false):keptB sha ks key q en t r=false:=by unfold keptB; rw[h]; rfl
theorem jJ (h:countB sha key q en t r=false):backB sha key q en t r=false:=by unfold backB; rw[h]; rfl
theorem um (hc:countB sha key q en t r=true) (h:keepsF ks q r.its=b):keptB sha ks key q en t r=b:=by unfold keptB; rw[hc,h]; rfl
theorem t1 (hc:countB sha key q en t r=true) (h:lackF r.hd.n q.n (-1) false r.its=b):backB sha key q en t r=b:=by unfold backB; rw[hc,h]; rfl
theorem qE (h:o.getD (-1)<0) (ho:∀b,o=some b→0≤b):lessO o ra=true:=by
 cases o with
 | none=>rfl
 | some b=>have h1:=ho b rfl; have h2:b<0:=h; omega
theorem qu (h:¬o.getD (-1)<0):lessO o ra=decide (ra<o.getD (-1)):=by
 cases o with
 | none=>exact absurd (show ((-1:Int))<0 by decide) h
 | some b=>rfl
theorem yn (h:true=(p r&&lessO o r.at_)):nextO p o r=some r.at_:=by unfold nextO; rw[←h]; rfl
theorem wk (h:false=(p r&&lessO o r.at_)):nextO p o r=o:=by unfold nextO; rw[←h]; rfl
theorem tN (h:0≤ra):∀b,some ra=some b→0≤b:=λb e=>by cases e; exact h
theorem pickR (hko:∀b,ko=some b→0≤b) (hbo:∀b,bo=some b→0≤b):pickS ko bo q en t=if 0≤bo.getD (-1)∧(ko.getD (-1)<0∨bo.getD (-1)≤ko.getD (-1)) then (3,bo.getD (-1)) else if 0≤ko.getD (-1) then (2,ko.getD (-1)) else if en≤t then (3,en) else (1,q.a):=by
 cases bo with
 | none=>
  rw[Bc (λh=>absurd (show (0:Int)≤ -1 from h.1) de)];cases ko with
  | none=>rw[Bc (show ¬0≤(none:Option Int).getD (-1) by decide)]; rfl
  | some k=>rw[Bi (show 0≤(some k).getD (-1) from hko k rfl)]; rfl
 | some b=>
  have h1:=hbo b rfl;cases ko with
  | none=>rw[Bi ⟨h1,.inl (show ((-1:Int))<0 by decide)⟩]; rfl
  | some k=>
   have h2:=hko k rfl;show (if b≤k then ((3:Int),b) else (2,k))=_
   by_cases h:b≤k
   ·rw[Bi h,Bi ⟨h1,.inr h⟩]; rfl
   ·rw[Bc h,Bc (λh3=>by have h4:k<0∨b≤k:=h3.2; omega),Bi (show 0≤(some k).getD (-1) from h2)]; rfl
end
theorem nF (kv lv:Value) (ks:List By) (key:By) (lim:Int) (q:Chg) (R:List Rpw) (t:Int) (w0:World) (hkv:SlAt w0 kv 1 (ks.map λs=>[sv s])) (hlv:RepAt w0 lv R):
  Ff 21 #[kv,sv key,jv lim,(E0 q),lv,jv t] w0 (.tuple #[jv ((stR ks key lim q R t).1),jv ((stR ks key lim q R t).2.1),jv ((stR ks key lim q R t).2.2)]):=by
 have hxb:=hlv.len;refine CC func21 O ntmps21 (lb O) λa Y U=>aa λG1=>aR Y U O (EZ q) O λa w1 Y U=>nv Y<|AM O<|AM O<|AM O<|λa Y=>G1<|ah λG2=>aa λG3=>nv Y<|AL O<|AK (aZ O O (runUnderlying9 _))<|AK (v_ne O O)<|AL O<|λa Y=>?_;rcases (Decidable.em ((key.length:Int)=32)).symm with hb1|hb1
 ·rw[AV hb1] at Y;refine nv Y<|AO<|AO<|AO<|AK (aq O O)<|AL O<|AO<|AO<|AO<|AK (aq O O)<|λa Y=>G3 ?_;replace Y:=Y.p10 0 1 2 4 5 9 12 13 14 31 O;refine aC Y O ?_;refine aa λG4=>nv Y<|AM O<|AM O<|AM O<|λa Y=>G4<|ao<|am Y results21 (ae O (ae O (ae O ag))) ?_;exact⟨by simp only[retv]; rw[fO om]; try rfl,U.ext⟩
 rw[AQ hb1] at Y;refine wly Y (ax O) λa Y=>aF Y U call66 O (dH lim 1 1000000 _) λa w2 Y U=>nv Y<|AN (bd O)<|AK (ak O O)<|AL O<|λa Y=>?_;rcases AR (!(inB lim 1 1000000)) with hb2|hb2
 ·rw[hb2] at Y
  try simp only[qz] at hb2
  have h9hb2:=iS hb2;refine nv Y<|AO<|AO<|AO<|AK (aq O O)<|λa Y=>G3 ?_;replace Y:=Y.p10 0 1 2 4 5 9 12 13 14 31 O;refine aC Y O ?_;refine aa λG5=>nv Y<|AM O<|AM O<|AM O<|λa Y=>G5<|ao<|am Y results21 (ae O (ae O (ae O ag))) ?_;exact⟨by simp only[retv]; rw[fO om]; try rfl,U.ext⟩
 rw[hb2] at Y
 try simp only[qz] at hb2
 have h9hb2:=fh hb2;refine nv Y<|AN (ax O)<|AN ((aH (sT:=38) (U.arg hlv.1) O O (runUnderlying38 _)).asi (m':=(R.length:Int)) CU)<|AN (v_gt O O)<|AK (ak O O)<|λa Y=>G3 ?_;replace Y:=Y.p10 0 1 2 4 5 9 12 13 14 31 O;refine ay Y O (λhc3=>?_) (λhc3=>?_)
 ·refine aa λG6=>nv Y<|AM O<|AM O<|AM O<|λa Y=>G6<|ao<|am Y results21 (ae O (ae O (ae O ag))) ?_;exact⟨by simp only[retv]; rw[fO om]; try rfl,U.ext⟩
 refine ap<|G2<|ah λG7=>aa λG8=>nv Y<|AK (ac (v:=pq w0.hz) O kr)<|AK (ld U 0 O O (isAgg3 _) O)<|λa Y=>au Y U call66 O (dH q.n 0 99999999 _) λa w3 Y U=>nv Y<|AK (bd O)<|AL O<|λa Y=>?_;rcases AR (!(inB q.n 0 99999999)) with hb4|hb4
 ·rw[hb4] at Y
  try simp only[qz] at hb4
  have h9hb4:=iS hb4;refine nv Y<|AO<|AO<|AO<|AO<|AK (aq O O)<|AL O<|AO<|AO<|AO<|AO<|AK (aq O O)<|AL O<|AO<|AO<|AO<|AO<|AK (aq O O)<|AL O<|AO<|AO<|AO<|AO<|AO<|AO<|AK (aq O O)<|AL O<|AO<|AO<|AO<|AO<|AO<|AK (aq O O)<|λa Y=>G8 ?_;replace Y:=Y.p10 0 1 2 4 5 9 12 13 14 68 O;refine aC Y O ?_;refine aa λG9=>nv Y<|AM O<|AM O<|AM O<|λa Y=>G9<|ao<|am Y results21 (ae O (ae O (ae O ag))) ?_;exact⟨by simp only[retv]; rw[fO om]; try rfl,U.ext⟩
 rw[hb4] at Y
 try simp only[qz] at hb4
 have h9hb4:=fh hb4;refine nv Y<|AN (ac (v:=po w0.hz 1) O kr)<|AN (ld U 0 O O (isAgg3 _) O)<|λa Y=>aF Y U call66 O (dH q.h 0 63 _) λa w4 Y U=>nv Y<|AN (bd O)<|AK (ak O O)<|AL O<|λa Y=>?_;rcases AR (!(inB q.h 0 63)) with hb5|hb5
 ·rw[hb5] at Y
  try simp only[qz] at hb5
  have h9hb5:=iS hb5;refine nv Y<|AO<|AO<|AO<|AO<|AK (aq O O)<|AL O<|AO<|AO<|AO<|AO<|AK (aq O O)<|AL O<|AO<|AO<|AO<|AO<|AO<|AO<|AK (aq O O)<|AL O<|AO<|AO<|AO<|AO<|AO<|AK (aq O O)<|λa Y=>G8 ?_;replace Y:=Y.p10 0 1 2 4 5 9 12 13 14 68 O;refine aC Y O ?_;refine aa λG10=>nv Y<|AM O<|AM O<|AM O<|λa Y=>G10<|ao<|am Y results21 (ae O (ae O (ae O ag))) ?_;exact⟨by simp only[retv]; rw[fO om]; try rfl,U.ext⟩
 rw[hb5] at Y
 try simp only[qz] at hb5
 have h9hb5:=fh hb5;refine nv Y<|AN (ac (v:=po w0.hz 2) O kr)<|AN (ld U 0 O O (isAgg3 _) O)<|λa Y=>aF Y U call66 O (dH q.c 0 7 _) λa w5 Y U=>nv Y<|AN (bd O)<|AK (ak O O)<|AL O<|λa Y=>?_;rcases AR (!(inB q.c 0 7)) with hb6|hb6
 ·rw[hb6] at Y
  try simp only[qz] at hb6
  have h9hb6:=iS hb6;refine nv Y<|AO<|AO<|AO<|AO<|AK (aq O O)<|AL O<|AO<|AO<|AO<|AO<|AO<|AO<|AK (aq O O)<|AL O<|AO<|AO<|AO<|AO<|AO<|AK (aq O O)<|λa Y=>G8 ?_;replace Y:=Y.p10 0 1 2 4 5 9 12 13 14 68 O;refine aC Y O ?_;refine aa λG11=>nv Y<|AM O<|AM O<|AM O<|λa Y=>G11<|ao<|am Y results21 (ae O (ae O (ae O ag))) ?_;exact⟨by simp only[retv]; rw[fO om]; try rfl,U.ext⟩
 rw[hb6] at Y
 try simp only[qz] at hb6
 have h9hb6:=fh hb6;refine nv Y<|AN (ac (v:=po w0.hz 4) O kr)<|AN (ld U 0 O O (isAgg3 _) O)<|λa Y=>aF Y U call66 O (dH q.a 0 10000000 _) λa w6 Y U=>nv Y<|AN (bd O)<|AK (ak O O)<|AL O<|λa Y=>?_;rcases AR (!(inB q.a 0 10000000)) with hb7|hb7
 ·rw[hb7] at Y
  try simp only[qz] at hb7
  have h9hb7:=iS hb7;refine nv Y<|AO<|AO<|AO<|AO<|AO<|AO<|AK (aq O O)<|AL O<|AO<|AO<|AO<|AO<|AO<|AK (aq O O)<|λa Y=>G8 ?_;replace Y:=Y.p10 0 1 2 4 5 9 12 13 14 68 O;refine aC Y O ?_;refine aa λG12=>nv Y<|AM O<|AM O<|AM O<|λa Y=>G12<|ao<|am Y results21 (ae O (ae O (ae O ag))) ?_;exact⟨by simp only[retv]; rw[fO om]; try rfl,U.ext⟩
 rw[hb7] at Y
 try simp only[qz] at hb7
 have h9hb7:=fh hb7;refine nv Y<|AN (ac (v:=po w0.hz 3) O kr)<|AN (ld U 0 O O (isAgg3 _) O)<|AN (ac (v:=po w0.hz 4) O kr)<|AN (ld U 0 O O (isAgg3 _) O)<|λa Y=>aF Y U call66 O (dH q.t 0 q.a _) λa w7 Y U=>nv Y<|AN (bd O)<|AK (ak O O)<|AL O<|λa Y=>?_;rcases AR (!(inB q.t 0 q.a)) with hb8|hb8
 ·rw[hb8] at Y
  try simp only[qz] at hb8
  have h9hb8:=iS hb8;refine nv Y<|AO<|AO<|AO<|AO<|AO<|AK (aq O O)<|λa Y=>G8 ?_;replace Y:=Y.p10 0 1 2 4 5 9 12 13 14 68 O;refine aC Y O ?_;refine aa λG13=>nv Y<|AM O<|AM O<|AM O<|λa Y=>G13<|ao<|am Y results21 (ae O (ae O (ae O ag))) ?_;exact⟨by simp only[retv]; rw[fO om]; try rfl,U.ext⟩
 rw[hb8] at Y
 try simp only[qz] at hb8
 have h9hb8:=fh hb8;refine nv Y<|AN (ax O)<|AN (ac (v:=po w0.hz 4) O kr)<|AN (ld U 0 O O (isAgg3 _) O)<|λa Y=>aF Y U call66 O (dH t q.a 11000000 _) λa w8 Y U=>nv Y<|AN (bd O)<|AK (ak O O)<|λa Y=>G8 ?_;replace Y:=Y.p10 0 1 2 4 5 9 12 13 14 68 O;refine bn Y O (λhc9=>?_) (λhc9=>?_)
 ·try simp only[qz] at hc9
  have h9hc9:=iS hc9;refine aa λG14=>nv Y<|AM O<|AM O<|AM O<|λa Y=>G14<|ao<|am Y results21 (ae O (ae O (ae O ag))) ?_;exact⟨by simp only[retv]; rw[fO om]; try rfl,U.ext⟩
 try simp only[qz] at hc9
 have h9hc9:=fh hc9;refine ap<|G7 ?_;have hso:dV key lim q R.length t=true:=pk.2 om;have hnum:inB q.n 0 99999999=true:=by assumption
 refine aa λG15=>wla Y O λa Y=>G15<|aa λG16=>wla Y O λa Y=>G16<|ah λG17=>aa λG18=>wla Y O λa Y=>G18<|aw<|aV (λm a w=>∃(k:Nat) (ko:Option Int) (bo:Option Int),m=R.length- k∧(k≤R.length)∧(firstF (keptB sha ks key q (q.a+lim) t) none (repsM R)=firstF (keptB sha ks key q (q.a+lim) t) ko ((repsM R).drop k))∧(firstF (backB sha key q (q.a+lim) t) none (repsM R)=firstF (backB sha key q (q.a+lim) t) bo ((repsM R).drop k))∧(∀b,ko=some b→0≤b)∧(∀b,bo=some b→0≤b)∧Fr 177 [(0,kv),(1,sv key),(2,jv lim),(4,lv),(5,jv t),(9,pq w0.hz),(12,jv 0),(13,jv 0),(14,jv 0),(17,jv (k:Int)),(15,jv (ko.getD (-1))),(16,jv (bo.getD (-1)))] [] a∧St No w0 [blk w0.hz (EZ q) 36] w) _ ⟨0,none,none,O,A8 _,O,O,(λb h=>by cases h),(λb h=>by cases h),Y.pick [0,1,2,4,5,9,12,13,14,17,15,16],U.select [0] de⟩ ?_;rintro _ a w9 ⟨k,ko,bo,rfl,hk,hfk,hfb,hko,hbo,Y,U⟩;refine ah λG19=>aa λG20=>nv Y<|AL O<|AL O<|AK ((aH (sT:=38) (U.arg hlv.1) O O (runUnderlying38 _)).asi (m':=(R.length:Int)) CU)<|AK (v_lt O O)<|λa Y=>G20<|ay Y O (λhc10=>?_) (λhc10=>?_)
 ·have hkx:k<R.length:=by omega
  refine ap<|G19<|ah λG21=>dQ (λa w=>∃(kz:Option Int),∃(bz:Option Int),(firstF (keptB sha ks key q (q.a+lim) t) none (repsM R)=firstF (keptB sha ks key q (q.a+lim) t) kz ((repsM R).drop (k+1)))∧(firstF (backB sha key q (q.a+lim) t) none (repsM R)=firstF (backB sha key q (q.a+lim) t) bz ((repsM R).drop (k+1)))∧(∀b,kz=some b→0≤b)∧(∀b,bz=some b→0≤b)∧Fr 177 [(0,kv),(1,sv key),(2,jv lim),(4,lv),(5,jv t),(9,pq w0.hz),(12,jv 0),(13,jv 0),(14,jv 0),(17,jv (k:Int)),(15,jv (kz.getD (-1))),(16,jv (bz.getD (-1)))] [] a∧St No w0 [blk w0.hz (EZ q) 36] w) ?_ ?_
  ·refine aw ?_;obtain⟨⟨ra,hd,iv,L⟩,hxr⟩:∃r,R.getD k Rpw.z=r:=⟨_,rfl⟩;have hxm:=bf (d:=Rpw.z) hkx;rw[hxr] at hxm;refine aa λG22=>nv Y<|AL O<|AL O<|AK ((ai (i:=(k:Int)) (sT:=38) (U.arg hlv.1) O O (runUnderlying38 _) (sizeOf52 _) om CH).as (v':=slAddr lv (k*6)) Dp)<|AK ((bI (U.arg hlv.1) (i:=k) CH O (isAgg52 _) (sizeOf52 _)).as (v':=.agg #[jv ra,jv hd.c,jv hd.n,sv hd.root,sv hd.tag,iv]) (by rw[aU Rpw.z,hxr]; rfl))<|λa Y=>aE Y U (zeroValue52 _) [jv 0,jv 0,jv 0,.string (⟨#[]⟩),.string (⟨#[]⟩),.slice none 0 0] O λa w10 Y U=>bj (us:=[jv ra,jv hd.c,jv hd.n,sv hd.root,sv hd.tag,iv]) 0 Y U O O O (sizeOf52 _) DJ (lb O) (ds:=[jv ra,jv hd.c,jv hd.n,sv hd.root,sv hd.tag,iv]) O O λa w11 Y U=>G22 ?_;refine ah λG23=>aa λG24=>nv (Y.p13 0 1 2 4 5 9 12 13 14 17 15 16 18 O)<|AK (ac (v:=pq w9.hz) O kr)<|AK (ld U 0 O O (isAgg3 _) O)<|AK (ac (v:=po w0.hz 4) O kr)<|AK (ld U 1 O O (isAgg3 _) O)<|AK (v_lt O O)<|AL O<|λa Y=>?_;rcases Decidable.em (ra<q.a) with hb11|hb11
   ·rw[AQ hb11] at Y;have hcf:countB sha key q (q.a+lim) t (Rpw.m (⟨ra,hd,iv,L⟩:Rpw))=false:=jD om;refine nv Y<|AO<|AO<|AO<|AO<|AO<|AO<|AO<|AK (aq O O)<|AL O<|AO<|AO<|AO<|AO<|AK (aq O O)<|AL O<|AO<|AO<|AO<|AO<|AO<|AK (aq O O)<|AL O<|AO<|AO<|AO<|AO<|AO<|AO<|AO<|AK (aq O O)<|λa Y=>G24 ?_;replace Y:=Y.p14 0 1 2 4 5 9 12 13 14 17 15 16 18 114 O;refine aC Y O ?_;refine aN ?_;exact⟨ko,bo,(cN hkx hxr hfk (ew (jt hcf))),(cN hkx hxr hfb (ew (jJ hcf))),hko,hbo,Y.pick [0,1,2,4,5,9,12,13,14,17,15,16],U.select [1] de⟩
   rw[AV hb11] at Y;refine nv Y<|AN (ac (v:=pq w9.hz) O kr)<|AN (ld U 0 O O (isAgg3 _) O)<|AN (ac (v:=po w0.hz 4) O kr)<|AN (ld U 1 O O (isAgg3 _) O)<|AN (ax O)<|AN (aK O O ⟨om,om⟩)<|AN (v_ge O O)<|AK (ak O O)<|AL O<|λa Y=>?_;rcases Decidable.em (q.a+lim≤ra) with hb12|hb12
   ·rw[AQ hb12] at Y;have hcf:countB sha key q (q.a+lim) t (Rpw.m (⟨ra,hd,iv,L⟩:Rpw))=false:=jD om;refine nv Y<|AO<|AO<|AO<|AO<|AK (aq O O)<|AL O<|AO<|AO<|AO<|AO<|AO<|AK (aq O O)<|AL O<|AO<|AO<|AO<|AO<|AO<|AO<|AO<|AK (aq O O)<|λa Y=>G24 ?_;replace Y:=Y.p14 0 1 2 4 5 9 12 13 14 17 15 16 18 114 O;refine aC Y O ?_;refine aN ?_;exact⟨ko,bo,(cN hkx hxr hfk (ew (jt hcf))),(cN hkx hxr hfb (ew (jJ hcf))),hko,hbo,Y.pick [0,1,2,4,5,9,12,13,14,17,15,16],U.select [1] de⟩
   rw[AV hb12] at Y;refine nv Y<|AN (ac (v:=pq w9.hz) O kr)<|AN (ld U 0 O O (isAgg3 _) O)<|AN (ax O)<|AN (v_gt O O)<|AK (ak O O)<|AL O<|λa Y=>?_;rcases Decidable.em (t<ra) with hb13|hb13
   ·rw[AQ hb13] at Y;have hcf:countB sha key q (q.a+lim) t (Rpw.m (⟨ra,hd,iv,L⟩:Rpw))=false:=jD om;refine nv Y<|AO<|AO<|AO<|AO<|AO<|AK (aq O O)<|AL O<|AO<|AO<|AO<|AO<|AO<|AO<|AO<|AK (aq O O)<|λa Y=>G24 ?_;replace Y:=Y.p14 0 1 2 4 5 9 12 13 14 17 15 16 18 114 O;refine aC Y O ?_;refine aN ?_;exact⟨ko,bo,(cN hkx hxr hfk (ew (jt hcf))),(cN hkx hxr hfb (ew (jJ hcf))),hko,hbo,Y.pick [0,1,2,4,5,9,12,13,14,17,15,16],U.select [1] de⟩
   rw[AV hb13] at Y;refine nv Y<|AN (ax O)<|AN (ac (v:=po w9.hz 1) O kr)<|AN (bJ (ds:=(ET hd iv)) (U.g 0 O) O (isAgg50 _) (sizeOf50 _) O)<|λa Y=>aF Y U call67 O (nP key hd iv L _ (cw U (hlv.2 _ hxm))) λa w12 Y U=>nv Y<|AN (bd O)<|AK (ak O O)<|AL O<|λa Y=>?_;rcases AR (!(checkP sha key hd (itsM L))) with hb14|hb14
   ·rw[hb14] at Y
    try simp only[qz] at hb14
    have hcf:countB sha key q (q.a+lim) t (Rpw.m (⟨ra,hd,iv,L⟩:Rpw))=false:=sM (by simpa using hb14);refine nv Y<|AO<|AO<|AO<|AO<|AO<|AO<|AO<|AK (aq O O)<|λa Y=>G24 ?_;replace Y:=Y.p14 0 1 2 4 5 9 12 13 14 17 15 16 18 114 O;refine aC Y O ?_;refine aN ?_;exact⟨ko,bo,(cN hkx hxr hfk (ew (jt hcf))),(cN hkx hxr hfb (ew (jJ hcf))),hko,hbo,Y.pick [0,1,2,4,5,9,12,13,14,17,15,16],U.select [1] de⟩
   rw[hb14] at Y
   try simp only[qz] at hb14
   have hck:checkP sha key hd (itsM L)=true:=by simpa using hb14
   have hok:=gJ hck;refine nv Y<|AN (ac (v:=po w9.hz 1) O kr)<|AN (ac (v:=po w9.hz 1) O kr)<|AN (ac (v:=po w9.hz 1) O kr)<|AN (ld U 0 O O (isAgg3 _) O)<|AN (ac (v:=po w0.hz 2) O kr)<|AN (ld U 1 O O (isAgg3 _) O)<|AN (v_ne O O)<|AK (ak O O)<|λa Y=>G24 ?_;replace Y:=Y.p14 0 1 2 4 5 9 12 13 14 17 15 16 18 114 O;refine bV Y O (λhc15=>?_) (λhc15=>?_)
   ·have hcf:countB sha key q (q.a+lim) t (Rpw.m (⟨ra,hd,iv,L⟩:Rpw))=false:=jD om;refine aN ?_;exact⟨ko,bo,(cN hkx hxr hfk (ew (jt hcf))),(cN hkx hxr hfb (ew (jJ hcf))),hko,hbo,Y.pick [0,1,2,4,5,9,12,13,14,17,15,16],U.select [1] de⟩
   have hcy:countB sha key q (q.a+lim) t (Rpw.m (⟨ra,hd,iv,L⟩:Rpw))=true:=fa.2 ⟨⟨show q.a≤ra by omega,show ra≤_ by omega,show ra≤t by omega⟩,show hd.c=q.c by omega,hck⟩;refine ap<|G23<|ah λG25=>ah λG26=>dQ (λa w=>∃(tk:Bool),(tk=(keptB sha ks key q (q.a+lim) t (Rpw.m (⟨ra,hd,iv,L⟩:Rpw))&&lessO ko (Rpl.at_ (Rpw.m (⟨ra,hd,iv,L⟩:Rpw)))))∧Fr 177 [(0,kv),(1,sv key),(2,jv lim),(4,lv),(5,jv t),(9,pq w0.hz),(12,jv 0),(13,jv 0),(14,jv 0),(17,jv (k:Int)),(15,jv (ko.getD (-1))),(16,jv (bo.getD (-1))),(18,pq w9.hz),(129,.bool tk)] [] a∧St No w0 [blk w9.hz [jv ra,jv hd.c,jv hd.n,sv hd.root,sv hd.tag,iv] 52,blk w0.hz (EZ q) 36] w) ?_ ?_
   ·refine al<|nv Y<|AL O<|AK (ar (U.g 1 O) O (isAgg36 _) (sizeOf36 _))<|AK (ac (v:=po w9.hz 1) O kr)<|AK (bJ (ds:=(ET hd iv)) (U.g 0 O) O (isAgg50 _) (sizeOf50 _) O)<|λa Y=>au Y U call68 O (vR kv ks q hd iv L _ (U.arg hkv) (cw U (hlv.2 _ hxm)) (λx hx=>(hok.2.2 x hx).2.2)) λa w13 Y U=>wlm Y O λa Y=>?_;rcases AR (keepsF ks q (itsM L)) with hb16|hb16
    ·rw[hb16] at Y;have hp:keptB sha ks key q (q.a+lim) t (Rpw.m (⟨ra,hd,iv,L⟩:Rpw))=true:=um hcy hb16;refine nv Y<|AN (ax O)<|AN (v_lt O O)<|AN (ax O)<|λa Y=>?_;rcases Decidable.em (ko.getD (-1)<0) with hb17|hb17
     ·rw[AQ hb17] at Y;refine nv Y<|AO<|AO<|AO<|AO<|AN (aq O O)<|AK (aq O O)<|λa Y=>ab ?_;exact⟨true,(by rw[hp,qE CL hko]; rfl),Y.pick [0,1,2,4,5,9,12,13,14,17,15,16,18,129],U.select [0,1] de⟩
     rw[AV hb17] at Y;refine nv Y<|AN (ac (v:=pq w9.hz) O kr)<|AN (ld U 0 O O (isAgg3 _) O)<|AN (ax O)<|AN (v_lt O O)<|AN (ak O O)<|AK (aq O O)<|λa Y=>ab ?_;exact⟨(decide (ra<ko.getD (-1))),(by rw[hp,qu CL,BN]; rfl),Y.pick [0,1,2,4,5,9,12,13,14,17,15,16,18,129],U.select [0,1] de⟩
    rw[hb16] at Y;have hp:keptB sha ks key q (q.a+lim) t (Rpw.m (⟨ra,hd,iv,L⟩:Rpw))=false:=um hcy hb16;refine nv Y<|AO<|AO<|AO<|λa Y=>bO Y λa Y=>bO Y λa Y=>bO Y λa Y=>bO Y λa Y=>nv Y<|AO<|AK (ak O O)<|λa Y=>ab ?_;exact⟨false,(by rw[hp]; rfl),Y.pick [0,1,2,4,5,9,12,13,14,17,15,16,18,129],U.select [0,1] de⟩
   rintro a w14 ⟨tk,htk,Y,U⟩;refine G26<|dQ (λa w=>∃(kq:Option Int),(nextO (keptB sha ks key q (q.a+lim) t) ko (Rpw.m (⟨ra,hd,iv,L⟩:Rpw))=kq)∧(∀b,kq=some b→0≤b)∧Fr 177 [(0,kv),(1,sv key),(2,jv lim),(4,lv),(5,jv t),(9,pq w0.hz),(12,jv 0),(13,jv 0),(14,jv 0),(17,jv (k:Int)),(16,jv (bo.getD (-1))),(18,pq w9.hz),(15,jv (kq.getD (-1)))] [] a∧St No w0 [blk w9.hz [jv ra,jv hd.c,jv hd.n,sv hd.root,sv hd.tag,iv] 52,blk w0.hz (EZ q) 36] w) ?_ ?_
   ·refine bn Y O (λhc18=>?_) (λhc18=>?_)
    ·refine al<|nv Y<|AK (ac (v:=pq w9.hz) O kr)<|AK (ld U 0 O O (isAgg3 _) O)<|AM O<|λa Y=>ab ?_;exact⟨(some ra),(yn (r:=(Rpw.m (⟨ra,hd,iv,L⟩:Rpw))) (by rw[←htk,hc18])),tN (show 0≤ra by omega),Y.pick [0,1,2,4,5,9,12,13,14,17,16,18,15],U.select [0,1] de⟩
    refine ap ?_;exact⟨ko,(wk (by rw[←htk,hc18])),hko,Y.pick [0,1,2,4,5,9,12,13,14,17,16,18,15],U.select [0,1] de⟩
   rintro a w15 ⟨kq,hnkq,hkq,Y,U⟩;refine G25<|ah λG27=>dQ (λa w=>∃(tb:Bool),(tb=(backB sha key q (q.a+lim) t (Rpw.m (⟨ra,hd,iv,L⟩:Rpw))&&lessO bo (Rpl.at_ (Rpw.m (⟨ra,hd,iv,L⟩:Rpw)))))∧Fr 177 [(0,kv),(1,sv key),(2,jv lim),(4,lv),(5,jv t),(9,pq w0.hz),(12,jv 0),(13,jv 0),(14,jv 0),(17,jv (k:Int)),(16,jv (bo.getD (-1))),(18,pq w9.hz),(15,jv (kq.getD (-1))),(147,.bool tb)] [] a∧St No w0 [blk w9.hz [jv ra,jv hd.c,jv hd.n,sv hd.root,sv hd.tag,iv] 52,blk w0.hz (EZ q) 36] w) ?_ ?_
   ·refine al<|nv Y<|AL O<|AK (ac (v:=po w9.hz 1) O kr)<|AK (bJ (ds:=(ET hd iv)) (U.g 0 O) O (isAgg50 _) (sizeOf50 _) O)<|AK (ac (v:=pq w0.hz) O kr)<|AK (ld U 1 O O (isAgg3 _) O)<|λa Y=>au Y U call69 O (vH key hd iv L q.n _ (cw U (hlv.2 _ hxm)) hck hnum) λa w16 Y U=>wlm Y O λa Y=>?_;rcases AR (lackF hd.n q.n (-1) false (itsM L)) with hb19|hb19
    ·rw[hb19] at Y;have hp:backB sha key q (q.a+lim) t (Rpw.m (⟨ra,hd,iv,L⟩:Rpw))=true:=t1 hcy hb19;refine nv Y<|AN (ax O)<|AN (v_lt O O)<|AN (ax O)<|λa Y=>?_;rcases Decidable.em (bo.getD (-1)<0) with hb20|hb20
     ·rw[AQ hb20] at Y;refine nv Y<|AO<|AO<|AO<|AO<|AN (aq O O)<|AK (aq O O)<|λa Y=>ab ?_;exact⟨true,(by rw[hp,qE CL hbo]; rfl),Y.pick [0,1,2,4,5,9,12,13,14,17,16,18,15,147],U.select [0,1] de⟩
     rw[AV hb20] at Y;refine nv Y<|AN (ac (v:=pq w9.hz) O kr)<|AN (ld U 0 O O (isAgg3 _) O)<|AN (ax O)<|AN (v_lt O O)<|AN (ak O O)<|AK (aq O O)<|λa Y=>ab ?_;exact⟨(decide (ra<bo.getD (-1))),(by rw[hp,qu CL,BN]; rfl),Y.pick [0,1,2,4,5,9,12,13,14,17,16,18,15,147],U.select [0,1] de⟩
    rw[hb19] at Y;have hp:backB sha key q (q.a+lim) t (Rpw.m (⟨ra,hd,iv,L⟩:Rpw))=false:=t1 hcy hb19;refine nv Y<|AO<|AO<|AO<|λa Y=>bO Y λa Y=>bO Y λa Y=>bO Y λa Y=>bO Y λa Y=>nv Y<|AO<|AK (ak O O)<|λa Y=>ab ?_;exact⟨false,(by rw[hp]; rfl),Y.pick [0,1,2,4,5,9,12,13,14,17,16,18,15,147],U.select [0,1] de⟩
   rintro a w17 ⟨tb,htb,Y,U⟩;refine G27<|bn Y O (λhc21=>?_) (λhc21=>?_)
   ·refine al<|nv Y<|AK (ac (v:=pq w9.hz) O kr)<|AK (ld U 0 O O (isAgg3 _) O)<|AM O<|λa Y=>ab ?_;exact⟨kq,(some ra),(cN hkx hxr hfk hnkq),(cN hkx hxr hfb (yn (r:=(Rpw.m (⟨ra,hd,iv,L⟩:Rpw))) (by rw[←htb,hc21]))),hkq,tN (show 0≤ra by omega),Y.pick [0,1,2,4,5,9,12,13,14,17,15,16],U.select [1] de⟩
   refine ap ?_;exact⟨kq,bo,(cN hkx hxr hfk hnkq),(cN hkx hxr hfb (wk (r:=(Rpw.m (⟨ra,hd,iv,L⟩:Rpw))) (by rw[←htb,hc21]))),hkq,hbo,Y.pick [0,1,2,4,5,9,12,13,14,17,15,16],U.select [1] de⟩
  rintro a w18 ⟨kz,bz,hfk,hfb,hkz,hbz,Y,U⟩;refine G21<|al<|nv Y<|AL O<|AK (aK O O ⟨om,om⟩)<|AM O<|λa Y=>ab ?_;refine⟨_,?_,k+1,kz,bz,O,om,hfk,hfb,hkz,hbz,Y.pick [0,1,2,4,5,9,12,13,14,17,15,16],U.select [0] de⟩;omega
 have hkd:(repsM R).drop k=[]:=List.drop_eq_nil_of_le (by unfold repsM; rw[AP]; omega);rw[hkd] at hfk hfb;replace hfk:firstF (keptB sha ks key q (q.a+lim) t) none (repsM R)=ko:=hfk;replace hfb:firstF (backB sha key q (q.a+lim) t) none (repsM R)=bo:=hfb;refine aN<|G17<|ah λG28=>aa λG29=>nv Y<|AL O<|AK (v_ge O O)<|AL O<|λa Y=>?_;rcases Decidable.em (0≤bo.getD (-1)) with hb22|hb22
 ·rw[AQ hb22] at Y;refine nv Y<|AN (ax O)<|AN (v_lt O O)<|AN (ax O)<|λa Y=>?_;rcases Decidable.em (ko.getD (-1)<0) with hb23|hb23
  ·rw[AQ hb23] at Y;refine nv Y<|AO<|AO<|AO<|AN (aq O O)<|AK (aq O O)<|λa Y=>G29 ?_;replace Y:=Y.p9 2 5 9 12 13 14 15 16 160 O;refine aC Y O ?_;refine aa λG30=>nv Y<|AL O<|AM O<|AM O<|AM O<|λa Y=>G30<|ao<|am Y results21 (ae O (ae O (ae O ag))) ?_;exact⟨by simp only[retv]; rw[gi hso (by unfold stateH; rw[hfk,hfb,pickR hko hbo,Bi om])]; try rfl,U.ext⟩
  rw[AV hb23] at Y;refine nv Y<|AN (ax O)<|AN (ax O)<|AN (v_ge O O)<|AN (ak O O)<|AK (aq O O)<|λa Y=>G29 ?_;replace Y:=Y.p9 2 5 9 12 13 14 15 16 160 O;refine ay Y O (λhc24=>?_) (λhc24=>?_)
  ·refine aa λG31=>nv Y<|AL O<|AM O<|AM O<|AM O<|λa Y=>G31<|ao<|am Y results21 (ae O (ae O (ae O ag))) ?_;exact⟨by simp only[retv]; rw[gi hso (by unfold stateH; rw[hfk,hfb,pickR hko hbo,Bi om])]; try rfl,U.ext⟩
  refine ap<|G28<|ah λG32=>aa λG33=>nv Y<|AL O<|AK (v_ge O O)<|λa Y=>G33<|ay Y O (λhc25=>?_) (λhc25=>?_)
  ·refine aa λG34=>nv Y<|AL O<|AM O<|AM O<|AM O<|λa Y=>G34 ?_;replace Y:=Y.p6 2 5 9 12 13 14 O;refine ao<|am Y results21 (ae O (ae O (ae O ag))) ?_;exact⟨by simp only[retv]; rw[gi hso (by unfold stateH; rw[hfk,hfb,pickR hko hbo,Bc om,Bi om])]; try rfl,U.ext⟩
  exfalso; omega
 rw[AV hb22] at Y;refine nv Y<|AO<|AO<|AO<|λa Y=>bO Y λa Y=>bO Y λa Y=>bO Y λa Y=>nv Y<|AO<|AK (ak O O)<|λa Y=>G29 ?_;replace Y:=Y.p9 2 5 9 12 13 14 15 16 160 O;refine aJ Y O ?_;refine ap<|G28<|ah λG35=>aa λG36=>nv Y<|AL O<|AK (v_ge O O)<|λa Y=>G36<|ay Y O (λhc26=>?_) (λhc26=>?_)
 ·refine aa λG37=>nv Y<|AL O<|AM O<|AM O<|AM O<|λa Y=>G37 ?_;replace Y:=Y.p6 2 5 9 12 13 14 O;refine ao<|am Y results21 (ae O (ae O (ae O ag))) ?_;exact⟨by simp only[retv]; rw[gi hso (by unfold stateH; rw[hfk,hfb,pickR hko hbo,Bc om,Bi om])]; try rfl,U.ext⟩
 refine ap<|G35<|ah λG38=>aa λG39=>nv Y<|AL O<|AK (ac (v:=po w0.hz 4) O kr)<|AK (ld U 0 O O (isAgg3 _) O)<|AL O<|AK (aK O O ⟨om,om⟩)<|AK (v_ge O O)<|λa Y=>G39 ?_;replace Y:=Y.p6 2 9 12 13 14 170 O;refine ay Y O (λhc27=>?_) (λhc27=>?_)
 ·refine ah λG40=>aL (aM λw19 hxz=>?_);replace U:=U.grow hxz;refine aP (k:=0) 5 [3,4] Y ?_;refine bB 5 (Y.p4 2 9 13 14 O) U<|pl_v (ac (v:=po w0.hz 4) O kr)<|pl_w (λU=>ld U 0 O O (isAgg3 _) O)<|pl_m O<|pl_v (aK O O ⟨om,om⟩)<|pl_v (cH O) λa w20 Y U=>?_;replace Y:=Y.p3 9 174 12 O;refine ab<|aI (k:=5) 7 [6] ?_;refine nv Y<|AM O<|AM O<|λa Y=>ab<|aO<|G40<|ao<|am Y results21 (ae O (ae O (ae O ag))) ?_;exact⟨by simp only[retv]; rw[gi hso (by unfold stateH; rw[hfk,hfb,pickR hko hbo,Bc om,Bc om,Bi om])]; try rfl,U.ext⟩
 refine ap<|G38<|ah λG41=>aL (aM λw21 hxz=>?_);replace U:=U.grow hxz;refine aP (k:=0) 3 [1,2] Y ?_;refine bB 3 (Y.p4 2 9 13 14 O) U<|pl_v (ac (v:=po w0.hz 4) O kr)<|pl_w (λU=>ld U 0 O O (isAgg3 _) O)<|pl_v (cH O) λa w22 Y U=>?_;replace Y:=Y.p2 176 12 O;refine ab<|aI (k:=3) 5 [4] ?_;refine nv Y<|AM O<|AM O<|λa Y=>ab<|aO<|G41<|ao<|am Y results21 (ae O (ae O (ae O ag))) ?_;exact⟨by simp only[retv]; rw[gi hso (by unfold stateH; rw[hfk,hfb,pickR hko hbo,Bc om,Bc om,Bc om])]; try rfl,U.ext⟩
end Go.Proofs.YtliklcmddmpdfaaGreatDoor
namespace Go.PW
open Go.RowKit Go.ChangeShapes Go.WideShapes Go.ChangeAt
section
variable {H:Type} {enc:TypeId × Value→H} {P:Program} {w:World} {base:Nat} {spare:Nat→Bool} {held:Bool} {fuel:Nat} {t e:TypeId} {cs:List Value} {x:DataW H × List MemPlace} {α:Type}
theorem xo {v:Value} (sz:Nat) (ht:P.underlying t=some (.slice e)) (hc:P.cellsOf e=sz) (hs:0<sz) (hby:0<P.bytesOf e) (hw:Wt P t x.1) (h:DataW.trod enc P w base spare held fuel t [v]=some x):
  ∃els:List (List Value),SlE w v sz els∧els.length*P.bytesOf e≤140737488355328∧(∀d∈els,d.length=sz)∧∀i (hi:i<els.length),∃n y,DataW.trod enc P w base spare held n e els[i]=some y∧Wt P e y.1:=by
 rcases DataW.trod_slice ht h with⟨h0,_⟩|⟨a,len,cap,elems,rest,n,_,hv,hx,hb,hl,hm,hlen,hel,_,_⟩
 ·cases h0;exact⟨[],.inl (fT _ _),by simp,by simp,λi hi=>absurd hi sm⟩
 ·cases hv
  have hwl:elems.length*P.bytesOf e≤140737488355328:=by
   have h1:=hw ((elems.length+rest.length)*P.bytesOf e) (by rw[hx]; simp[DataW.weights,ht]);have h2:=reachBytes_lt;have h3:elems.length*P.bytesOf e≤(elems.length+rest.length)*P.bytesOf e:=Nat.mul_le_mul om (Bs _);omega
  by_cases h0:len=0
  ·subst h0;exact⟨[],.inr ⟨O,a,cap,O⟩,by simp,by simp,λi hi=>absurd hi sm⟩
  obtain⟨b,off,spot⟩:=a
  have hfirst:w.cell? ⟨b,off,spot⟩≠none:=by
   have h1:=hel 0 om;rw[A2 om] at h1;cases hcs:w.cells? base ((⟨b,off,spot⟩:Addr).add (0*P.cellsOf e)) (P.cellsOf e) with
   | none=>rw[hcs] at h1; simp at h1
   | some ds=>
    obtain⟨_,hl1,hc1⟩:=World.cells?_some hcs;have h2:=hc1 0 om;rw[Nat.zero_mul,show ((⟨b,off,spot⟩:Addr).add 0).add 0=⟨b,off,spot⟩ from rfl,A2 om] at h2;rw[h2]; simp
  have hsp:spot=none∧b<w.heap.size:=by
   unfold World.cell? at hfirst;cases hh:w.heap[b]? with
   | none=>rw[hh] at hfirst; exact absurd rfl hfirst
   | some o=>
    refine⟨?_,(A9.1 hh).1⟩;rw[hh] at hfirst;cases spot with
    | none=>rfl
    | some s=>cases o<;>exact absurd rfl hfirst
  obtain⟨rfl,hlt⟩:=hsp
  have hwe:∀y∈elems,Wt P e y.1:=by
   intro y hy n hn;refine hw n ?_;rw[hx];simp only[DataW.weights,ht,A0,BO];exact .inr (.inl (wA (BA.2 ⟨y,hy,O⟩) n hn))
  have each:∀i,i<len→∃ds:List Value,(ds.length=sz∧∀j v,ds[j]?=some v→w.cell? ⟨b,off+i*sz+j,none⟩=some v)∧∃n y,DataW.trod enc P w base spare held n e ds=some y∧Wt P e y.1:=by
   intro i hi;have h1:=hel i hi;rw[A2 om,hc,cX] at h1;cases hcs:w.cells? base ⟨b,off+i*sz,none⟩ sz with
   | none=>rw[hcs] at h1; simp at h1
   | some ds=>
    rw[hcs] at h1;simp only[Cp] at h1;exact⟨ds,kU hcs,n,_,h1,hwe _ (BF _)⟩
  obtain⟨els,hel2,hp⟩:=ib len each
  have h1:∀d∈els,d.length=sz:=by
   intro d hd;obtain⟨i,hi,rfl⟩:=BJ hd;exact (hp i hi).1.1
  have hbg:elems.length≤big:=by
   have h3:elems.length*1≤elems.length*P.bytesOf e:=Nat.mul_le_mul (Bs _) hby;unfold big; omega
  refine⟨els,.inl ⟨h1,by omega,.inr ⟨b,off,cap,by rw[hel2],by omega,hlt,?_⟩⟩,by rw[hel2,←hlen]; exact hwl,h1,λi hi=>(hp i hi).2⟩;intro j v hj;have hjl:=(Bo.1 hj).1;rw[eM h1] at hjl;have hi:j / sz<els.length:=Nat.div_lt_of_lt_mul (by rw[Nat.mul_comm]; exact hjl)
  have:=(hp (j / sz) hi).1.2 (j%sz) v (by
   rw[←mn h1 hi,BQ,Bi (Nat.mod_lt _ hs),BX,Nat.div_add_mod' j sz];exact hj)
  rw[Nat.add_assoc,Nat.div_add_mod' j sz] at this;exact this
theorem zB {els:List (List Value)} {f:α→List Value} {q:α→Prop} (hp:∀i (hi:i<els.length),∃a,els[i]=f a∧q a):∃xs:List α,els=xs.map f∧∀a∈xs,q a:=by
 obtain⟨xs,hl,hx⟩:=ib (p:=λi a=>els[i]?=some (f a)∧q a) els.length λi hi=>by
  obtain⟨a,h1,h2⟩:=hp i hi;exact⟨a,by rw[A2 hi,h1],h2⟩
 refine⟨xs,?_,λa ha=>?_⟩
 ·refine Co (by simp[hl]) λi h1 h2=>?_;have:=(hx i om).1;rw[A2 h1] at this;simpa using this
 ·obtain⟨i,hi,rfl⟩:=BJ ha;exact (hx i hi).2
end
end Go.PW
namespace Go.PW
open Go.RowKit Go.ChangeShapes Go.WideShapes Go.ChangeAt
section
variable {H:Type} {enc:TypeId × Value→H}
theorem qc {a:Assume} {C:Checked} {os:Os} {f:FuncId} {fn:Func} {s:ChangeSpec} {conds:List PathCond} {apart fresh handsOn again:Bool} {X:World→Array Value→Prop}
  (hX:∀(w w':World) (args:Array Value),w.heap=w'.heap→X w args→X w' args)
  (own:ownKnob C.prog.godebug=none) (started:os.Started) (noInit:C.prog.inits.idxOf? f=none) (hfn:C.prog.funcs[f]?=some fn)
  (witness:∃(w:World) (tape:Tape) (i:Input),w.os=os∧(w.forCall tape i).Shaped C.prog∧i.vars=[]∧Input.okWide C.prog (w.forCall tape i) .any w.heap.size f i∧
   ((s.pre enc C.prog fn conds apart (w.forCall tape i).memory i.args∧X (w.forCall tape i).memory i.args)∧sizedMet enc C.prog fn (OpenSpec.ofChange s) apart (w.forCall tape i).memory i.args)∧a.holds C.prog (lone (Frame.enter C.prog f i.args .normal) [] (w.forCall tape i)))
  (contract:∀(W:World) (base:Nat) (args:Array Value) (ds gs:List (DataW H)) (before:List MemPlace),
   (∀(j:Nat) t v,fn.params[j]?=some t→args[j]?=some v→Value.okWide C.prog W .any base t v)→
   DataW.Whole enc C.prog fn.params.toList s.vars apart W args.toList ds gs before→
   conds.all (PathCond.test C.prog ⟨fn.params.toList,ds,s.plain.varTypes C.prog,gs⟩)=true→
   (DataW.weightsEach C.prog (fn.params.toList++s.plain.varTypes C.prog) (ds++gs)).all (·≤reachBytes)=true→X W args→W.ShapedOpen C.prog→
   Calls C.prog f args W λe W'=>∃v,e=.returned v∧s.post enc C.prog fn apart fresh handsOn again W args v W'):
  ReturnsInHanded a C os f .any (λw args=>(s.pre enc C.prog fn conds apart w args∧X w args)∧sizedMet enc C.prog fn (OpenSpec.ofChange s) apart w args) (s.post enc C.prog fn apart fresh handsOn again):=by
 refine returnsInHanded_of_calls own started noInit witness ?_;intro w tape i _ hsh _ hok hpre _;obtain⟨_,_,_,fn',hfn',_,_,_,_,hval⟩:=hok;have e:fn'=fn:=BZ (hfn'.symm.trans hfn);subst e;obtain⟨⟨⟨ds,gs,before,hw,hc⟩,hx⟩,hz⟩:=hpre;have hw':=DataW.Whole.of_heap (w':=w.forCall tape i) rfx hw;refine (contract (w.forCall tape i) w.heap.size i.args ds gs before hval hw' hc (hz.weights hw) (hX _ _ _ rfx hx) hsh).mono λe W' ⟨v,he,hp⟩=>?_;subst he;exact ChangeSpec.post_blind hp
end
section
variable {H:Type} {enc:TypeId × Value→H} {P:Program} {w:World} {base:Nat} {spare:Nat→Bool} {held:Bool} {fuel:Nat} {t e:TypeId} {cs:List Value} {x:DataW H × List MemPlace}
theorem tj {n:Nat} {ks:List Int} (ht:P.underlying t=some (.array n e)) (he:P.underlying e=some (.int .u32)) (hc:P.cellsOf e=1) (hct:P.cellsOf t=n) (h:DataW.trod enc P w base spare held fuel t cs=some x) (hx:x.1=.agg (ks.map λk=>.lit (.int .u32 k))):cs=ks.map (λk=>.int .u32 k):=by
 obtain⟨xs,m,rfl,rfl,hlen,hxs,hel⟩:=DataW.trod_array ht h;simp only[DataW.agg.injEq] at hx
 have hl:ks.length=n:=by
  have h:=Bh List.length hx;rw[AP,AP] at h;omega
 refine Co (by rw[hlen,hct,AP,hl]) λi h1 h2=>?_;have hi:i<n:=by rw[←hct,←hlen]; exact h1
 have hi2:i<ks.length:=by omega
 have h3:=hel i hi;rw[hc,Nat.mul_one,A2 om] at h3;obtain⟨k,e1,e2,_⟩:=DataW.trod_int he h3;rw[BK h1,List.take_succ_cons] at e1;injection e1 with e1 _;have h4:(xs.map (·.1))[i]?=(ks.map λk=>DataW.lit (H:=H) (.int .u32 k))[i]?:=by rw[hx]
 rw[BT,BT,A2 om,A2 hi2,Option.map_some,Option.map_some,e2] at h4;simp only[Option.some.injEq,DataW.lit.injEq,Lit.int.injEq,true_and] at h4;rw[e1,Ch,h4]
theorem xU {r:Reach} {b0:Nat} {v:Value} {d:DataW H} {ps:List MemPlace} {sp:Nat→Bool} (ht:P.underlying t=some .string) (hval:Value.okWide P w r b0 t v) (hw:Wt P t d) (hd:DataW.Trod enc P w base sp held t v d ps):
  ∃s:List UInt8,v=sv s∧s.length≤140737488355328:=by
 obtain⟨s,rfl,rfl,_,_⟩:=Go.ChangeMaps.open_string ht hval hd;refine⟨s.data.toList,O,?_⟩;have h1:=hw s.data.toList.length (by simp[DataW.weights]);have h2:=reachBytes_lt;omega
end
end Go.PW
namespace Go.Proofs.YtliklcmddmpdfaaGreatDoor
open Go.RowKit Go.PW _root_.Go.Proofs.Tryz
open Go.ChangeShapes Go.WideShapes Go.ChangeAt Go.RowKit Go.PW
theorem ownD:ownKnob Tryz.prog.godebug=none:=by kernel_rfl
theorem el:laidOutB Tryz.prog=true:=by kernel_rfl
def laid1:List (String × DataW Unit):=[("dialtone/digest.round",Rows.laid_dialtone_digest_round)]
theorem gRound:Tryz.prog.globalNamed "dialtone/digest.round"=some 0:=by kernel_rfl
theorem tRound:(Tryz.prog.globals[0]?).map (·.type)=some 258:=by kernel_rfl
theorem ze:(Rows.laid_dialtone_digest_round:DataW Unit)=.agg ((kOf.map λk=>(k.toNat:Int)).map λk=>.lit (.int .u32 k)):=by kernel_rfl
theorem xc (os:Os) (args:Array Value):laidMetH Tryz.prog laid1 ((World.doorLaid Tryz.prog 4000 os).forCall (λ_ _=>0) ⟨#[],args,[]⟩).memory:=
 laidMetH_of_parts3 (fuel:=8) (laidMet_of_run' 8 kr kr) kr kr
theorem rL (os:Os) (args:Array Value):((World.doorLaid Tryz.prog 4000 os).forCall (λ_ _=>0) ⟨#[],args,[]⟩).Shaped Tryz.prog:=World.shaped_of_RefB kr kr
theorem AH {W:World} (h:laidMetH Tryz.prog laid1 W) (hs:W.ShapedOpen Tryz.prog):(blk 0 (kOf.map wv) 258).ok W:=by
 rw[MakeChecks.laidMetH_plain _ _ _ kr] at h;obtain⟨ps,⟨g0,t0,cs0,f0,p0,q0,hg0,ht0,hv0,hd0,_,_⟩,_,_⟩:=h;obtain rfl:=BZ (gRound.symm.trans hg0);obtain rfl:=BZ (tRound.symm.trans ht0);obtain⟨cs,hcs,_,_⟩:=hs.1 0 (List.replicate 64 (.int .u32 0)).toArray 258 (of_decide_eq_true kr) kr
 have e:cs0=cs:=by
  have:=hv0;simp only[World.var?,gRound,Cp,hcs,Option.some.injEq] at this;exact this.symm
 subst e;have hw:=tj (ks:=kOf.map λk=>(k.toNat:Int)) underlying258 underlying206 kr kr hd0 ze
 have hl:cs0=(kOf.map wv).toArray:=by
  apply Array.toList_inj.1;rw[hw,Ca]; rfl
 show W.heap[0]?=some (.cells (kOf.map wv).toArray 258);rw[←hl]; exact hcs
open Go.ChangeShapes Go.WideShapes Go.ChangeAt
section
variable {H:Type} {enc:TypeId × Value→H} {W:World} {base b0:Nat} {sp:Nat→Bool} {hd:Bool} {v:Value} {d:DataW H} {ps:List MemPlace} {r:Reach}
theorem pp {n:Int} (h:Go.PW.i64 n):i64 n:=h
theorem len4 {α:Type} {l:List α} (h:l.length=4):∃a0 a1 a2 a3,l=[a0,a1,a2,a3]:=by
 match l,h with
 | [a0,a1,a2,a3],_=>exact⟨_,_,_,_,rfl⟩
theorem wW {fuel:Nat} {cs:List Value} {x:DataW H × List MemPlace} (hl:cs.length=4) (hw:Wt Tryz.prog 26 x.1) (h:DataW.trod enc Tryz.prog W base sp hd fuel 26 cs=some x):
  ∃(n0:Int) (v1:Value) (v2:Value) (v3:Value),cs=[jv n0,v1,v2,v3]∧(i64 n0)∧(∃n z,DataW.trod enc Tryz.prog W base sp hd n 22 [v1]=some z∧Wt Tryz.prog 22 z.1)∧(∃n z,DataW.trod enc Tryz.prog W base sp hd n 23 [v2]=some z∧Wt Tryz.prog 23 z.1)∧(∃n z,DataW.trod enc Tryz.prog W base sp hd n 24 [v3]=some z∧Wt Tryz.prog 24 z.1):=by
 obtain⟨c0,c1,c2,c3,rfl⟩:=len4 hl;obtain⟨m0,z0,h0,w0⟩:=dq 0 _ underlying26 hw h rfl;have k0:Tryz.prog.cellsOf 3=1:=by kernel_rfl
 replace h0:DataW.trod enc Tryz.prog W base sp hd m0 3 [c0]=some z0:=by rw[show[c0]=([c0,c1,c2,c3].drop 0).take (Tryz.prog.cellsOf 3) from by rw[k0]; rfl]; exact h0
 obtain⟨m1,z1,h1,w1⟩:=dq 1 _ underlying26 hw h rfl;have k1:Tryz.prog.cellsOf 22=1:=by kernel_rfl
 replace h1:DataW.trod enc Tryz.prog W base sp hd m1 22 [c1]=some z1:=by rw[show[c1]=([c0,c1,c2,c3].drop 1).take (Tryz.prog.cellsOf 22) from by rw[k1]; rfl]; exact h1
 obtain⟨m2,z2,h2,w2⟩:=dq 2 _ underlying26 hw h rfl;have k2:Tryz.prog.cellsOf 23=1:=by kernel_rfl
 replace h2:DataW.trod enc Tryz.prog W base sp hd m2 23 [c2]=some z2:=by rw[show[c2]=([c0,c1,c2,c3].drop 2).take (Tryz.prog.cellsOf 23) from by rw[k2]; rfl]; exact h2
 obtain⟨m3,z3,h3,w3⟩:=dq 3 _ underlying26 hw h rfl;have k3:Tryz.prog.cellsOf 24=1:=by kernel_rfl
 replace h3:DataW.trod enc Tryz.prog W base sp hd m3 24 [c3]=some z3:=by rw[show[c3]=([c0,c1,c2,c3].drop 3).take (Tryz.prog.cellsOf 24) from by rw[k3]; rfl]; exact h3
 obtain⟨n0,e0,f0⟩:=fS underlying3 h0;obtain rfl:c0=jv n0:=by simpa using e0
 obtain⟨v1,e1⟩:∃q,q=c1:=⟨_,rfl⟩;subst e1;obtain⟨v2,e2⟩:∃q,q=c2:=⟨_,rfl⟩;subst e2;obtain⟨v3,e3⟩:∃q,q=c3:=⟨_,rfl⟩;subst e3;exact⟨n0,v1,v2,v3,O,f0,⟨m1,z1,h1,w1⟩,⟨m2,z2,h2,w2⟩,⟨m3,z3,h3,w3⟩⟩
theorem len2 {α:Type} {l:List α} (h:l.length=2):∃a0 a1,l=[a0,a1]:=by
 match l,h with
 | [a0,a1],_=>exact⟨_,_,rfl⟩
theorem mU {fuel:Nat} {cs:List Value} {x:DataW H × List MemPlace} (hl:cs.length=2) (hw:Wt Tryz.prog 63 x.1) (h:DataW.trod enc Tryz.prog W base sp hd fuel 63 cs=some x):
  ∃(n0:Int) (n1:Int),cs=[jv n0,jv n1]∧(i64 n0)∧(i64 n1):=by
 obtain⟨zs,hz,he,hy⟩:=iA 2 underlying63 underlying3 kr h hl;obtain⟨n0,n1,rfl⟩:=len2 hz;exact⟨n0,n1,he,hy n0 sm,hy n1 sm⟩
theorem vl {fuel:Nat} {v:Value} {x:DataW H × List MemPlace} (hok:Cell.okWide Tryz.prog W r b0 22 v) (hw:Wt Tryz.prog 22 x.1) (h:DataW.trod enc Tryz.prog W base sp hd fuel 22 [v]=some x):
  ∃xs:List Pr2,SlAt W v 2 (xs.map Pr2.cells)∧∀a∈xs,a.wt:=by
 obtain⟨els,h1,h2⟩:=lw 2 underlying22 kr de (of_decide_eq_true kr) hok hw h
 exact o3 (f:=Pr2.cells) (q:=λa=>a.wt) h1 λi hi=>by
  obtain⟨n,y,hy,hwy⟩:=h2 i hi;obtain⟨n0,n1,he,hf⟩:=mU (h1.1 _ (BF hi)) hwy hy;exact⟨⟨n0,n1⟩,he,hf⟩
theorem len8 {α:Type} {l:List α} (h:l.length=8):∃a0 a1 a2 a3 a4 a5 a6 a7,l=[a0,a1,a2,a3,a4,a5,a6,a7]:=by
 match l,h with
 | [a0,a1,a2,a3,a4,a5,a6,a7],_=>exact⟨_,_,_,_,_,_,_,_,rfl⟩
theorem yr {fuel:Nat} {cs:List Value} {x:DataW H × List MemPlace} (hl:cs.length=8) (hw:Wt Tryz.prog 84 x.1) (h:DataW.trod enc Tryz.prog W base sp hd fuel 84 cs=some x):
  ∃(n0:Int) (n1:Int) (n2:Int) (n3:Int) (n4:Int) (n5:Int) (n6:Int) (v7:Value),cs=[jv n0,jv n1,jv n2,jv n3,jv n4,jv n5,jv n6,v7]∧(i64 n0)∧(i64 n1)∧(i64 n2)∧(i64 n3)∧(i64 n4)∧(i64 n5)∧(i64 n6)∧(∃n z,DataW.trod enc Tryz.prog W base sp hd n 82 [v7]=some z∧Wt Tryz.prog 82 z.1):=by
 obtain⟨c0,c1,c2,c3,c4,c5,c6,c7,rfl⟩:=len8 hl;obtain⟨m0,z0,h0,w0⟩:=dq 0 _ underlying84 hw h rfl;have k0:Tryz.prog.cellsOf 3=1:=by kernel_rfl
 replace h0:DataW.trod enc Tryz.prog W base sp hd m0 3 [c0]=some z0:=by rw[show[c0]=([c0,c1,c2,c3,c4,c5,c6,c7].drop 0).take (Tryz.prog.cellsOf 3) from by rw[k0]; rfl]; exact h0
 obtain⟨m1,z1,h1,w1⟩:=dq 1 _ underlying84 hw h rfl;have k1:Tryz.prog.cellsOf 63=2:=by kernel_rfl
 replace h1:DataW.trod enc Tryz.prog W base sp hd m1 63 [c1,c2]=some z1:=by rw[show[c1,c2]=([c0,c1,c2,c3,c4,c5,c6,c7].drop 1).take (Tryz.prog.cellsOf 63) from by rw[k1]; rfl]; exact h1
 obtain⟨m2,z2,h2,w2⟩:=dq 2 _ underlying84 hw h rfl;have k2:Tryz.prog.cellsOf 63=2:=by kernel_rfl
 replace h2:DataW.trod enc Tryz.prog W base sp hd m2 63 [c3,c4]=some z2:=by rw[show[c3,c4]=([c0,c1,c2,c3,c4,c5,c6,c7].drop 3).take (Tryz.prog.cellsOf 63) from by rw[k2]; rfl]; exact h2
 obtain⟨m3,z3,h3,w3⟩:=dq 3 _ underlying84 hw h rfl;have k3:Tryz.prog.cellsOf 3=1:=by kernel_rfl
 replace h3:DataW.trod enc Tryz.prog W base sp hd m3 3 [c5]=some z3:=by rw[show[c5]=([c0,c1,c2,c3,c4,c5,c6,c7].drop 5).take (Tryz.prog.cellsOf 3) from by rw[k3]; rfl]; exact h3
 obtain⟨m4,z4,h4,w4⟩:=dq 4 _ underlying84 hw h rfl;have k4:Tryz.prog.cellsOf 3=1:=by kernel_rfl
 replace h4:DataW.trod enc Tryz.prog W base sp hd m4 3 [c6]=some z4:=by rw[show[c6]=([c0,c1,c2,c3,c4,c5,c6,c7].drop 6).take (Tryz.prog.cellsOf 3) from by rw[k4]; rfl]; exact h4
 obtain⟨m5,z5,h5,w5⟩:=dq 5 _ underlying84 hw h rfl;have k5:Tryz.prog.cellsOf 82=1:=by kernel_rfl
 replace h5:DataW.trod enc Tryz.prog W base sp hd m5 82 [c7]=some z5:=by rw[show[c7]=([c0,c1,c2,c3,c4,c5,c6,c7].drop 7).take (Tryz.prog.cellsOf 82) from by rw[k5]; rfl]; exact h5
 obtain⟨n0,e0,f0⟩:=fS underlying3 h0;obtain rfl:c0=jv n0:=by simpa using e0
 obtain⟨n1,n2,e1,f1_0,f1_1⟩:=mU rfl w1 h1;simp only[List.cons.injEq,and_true] at e1;obtain⟨rfl,rfl⟩:=e1;obtain⟨n3,n4,e2,f2_0,f2_1⟩:=mU rfl w2 h2;simp only[List.cons.injEq,and_true] at e2;obtain⟨rfl,rfl⟩:=e2;obtain⟨n5,e3,f3⟩:=fS underlying3 h3;obtain rfl:c5=jv n5:=by simpa using e3
 obtain⟨n6,e4,f4⟩:=fS underlying3 h4;obtain rfl:c6=jv n6:=by simpa using e4
 obtain⟨v7,e5⟩:∃q,q=c7:=⟨_,rfl⟩;subst e5;exact⟨n0,n1,n2,n3,n4,n5,n6,v7,O,f0,f1_0,f1_1,f2_0,f2_1,f3,f4,⟨m5,z5,h5,w5⟩⟩
theorem len5 {α:Type} {l:List α} (h:l.length=5):∃a0 a1 a2 a3 a4,l=[a0,a1,a2,a3,a4]:=by
 match l,h with
 | [a0,a1,a2,a3,a4],_=>exact⟨_,_,_,_,_,rfl⟩
theorem uC {fuel:Nat} {cs:List Value} {x:DataW H × List MemPlace} (hl:cs.length=5) (hw:Wt Tryz.prog 142 x.1) (h:DataW.trod enc Tryz.prog W base sp hd fuel 142 cs=some x):
  ∃(n0:Int) (n1:Int) (n2:Int) (n3:Int) (n4:Int),cs=[jv n0,jv n1,jv n2,jv n3,jv n4]∧(i64 n0)∧(i64 n1)∧(i64 n2)∧(i64 n3)∧(i64 n4):=by
 obtain⟨zs,hz,he,hy⟩:=iA 5 underlying142 underlying3 kr h hl;obtain⟨n0,n1,n2,n3,n4,rfl⟩:=len5 hz;exact⟨n0,n1,n2,n3,n4,he,hy n0 sm,hy n1 sm,hy n2 sm,hy n3 sm,hy n4 sm⟩
theorem xP {fuel:Nat} {v:Value} {x:DataW H × List MemPlace} (hw:Wt Tryz.prog 82 x.1) (h:DataW.trod enc Tryz.prog W base sp hd fuel 82 [v]=some x):
  ∃ys:List Cin,SlE W v 5 (ys.map Cin.cells)∧(∀y∈ys,y.wt)∧ys.length≤3518437208883:=by
 obtain⟨els,h1,h2,h3,h4⟩:=xo 5 underlying82 kr de (of_decide_eq_true kr) hw h
 obtain⟨ys,rfl,hq⟩:=zB (els:=els) (f:=Cin.cells) (q:=Cin.wt) λi hi=>by
  obtain⟨n,y,hy,hwy⟩:=h4 i hi;obtain⟨n0,n1,n2,n3,n4,he,hf⟩:=uC (h3 _ (BF hi)) hwy hy;exact⟨⟨n0,n1,n2,n3,n4⟩,he,hf⟩
 refine⟨ys,h1,hq,?_⟩;rw[AP,show Tryz.prog.bytesOf 142=40 from by kernel_rfl] at h2;omega
theorem uO {fuel:Nat} {v:Value} {x:DataW H × List MemPlace} (hok:Cell.okWide Tryz.prog W r b0 23 v) (hw:Wt Tryz.prog 23 x.1) (h:DataW.trod enc Tryz.prog W base sp hd fuel 23 [v]=some x):
  ∃xs:List Nin,SlAt W v 8 (xs.map Nin.cells)∧∀a∈xs,a.wt W:=by
 obtain⟨els,h1,h2⟩:=lw 8 underlying23 kr de (of_decide_eq_true kr) hok hw h
 exact o3 (f:=Nin.cells) (q:=λa=>a.wt W) h1 λi hi=>by
  obtain⟨n,y,hy,hwy⟩:=h2 i hi;obtain⟨n0,n1,n2,n3,n4,n5,n6,v7,he,f0,f1,f2,f3,f4,f5,f6,n9,z,hz,hwz⟩:=yr (h1.1 _ (BF hi)) hwy hy;obtain⟨ys,g1,g2,g3⟩:=xP hwz hz;exact⟨⟨n0,n1,n2,n3,n4,n5,n6,v7,ys⟩,he,⟨f0,f1,f2,f3,f4,f5,f6⟩,g1,g2,g3⟩
theorem uJ {fuel:Nat} {v:Value} {x:DataW H × List MemPlace} (hok:Cell.okWide Tryz.prog W r b0 24 v) (hw:Wt Tryz.prog 24 x.1) (h:DataW.trod enc Tryz.prog W base sp hd fuel 24 [v]=some x):
  ∃xs:List Int,SlAt W v 1 (xs.map (λz:Int=>[jv z]))∧∀a∈xs,i64 a:=by
 obtain⟨els,h1,h2⟩:=lw 1 underlying24 kr de (of_decide_eq_true kr) hok hw h
 exact o3 (f:=λz:Int=>[jv z]) (q:=λa=>i64 a) h1 λi hi=>by
  obtain⟨n,y,hy,hwy⟩:=h2 i hi;obtain⟨n0,he,f0⟩:=fS underlying3 hy;exact⟨n0,he,f0⟩
theorem mY (hval:Value.okWide Tryz.prog W r b0 26 v) (hw:Wt Tryz.prog 26 d) (hd0:DataW.Trod enc Tryz.prog W base sp hd 26 v d ps):
  ∃(n0:Int) (v1:Value) (xv1:List Pr2) (v2:Value) (xv2:List Nin) (v3:Value) (xv3:List Int),v=.agg #[jv n0,v1,v2,v3]∧(i64 n0)∧(SlAt W v1 2 (xv1.map Pr2.cells))∧(∀a∈xv1,a.wt)∧(SlAt W v2 8 (xv2.map Nin.cells))∧(∀a∈xv2,a.wt W)∧(SlAt W v3 1 (xv3.map (λz:Int=>[jv z])))∧(∀a∈xv3,i64 a):=by
 obtain⟨csA,rfl,hsz,hrow⟩:=kW kr hval;obtain⟨fuel,hf⟩:=hd0;have hc:Tryz.prog.cellsOf 26=4:=by kernel_rfl
 obtain⟨n0,v1,v2,v3,he,g0,g1,g2,g3⟩:=wW (cs:=csA.toList) (by rw[Cg,hsz,hc]) hw hf
 obtain rfl:csA=#[jv n0,v1,v2,v3]:=by
  have he2:csA.toList=[jv n0,v1,v2,v3]:=he;cases csA; simp only at he2; rw[he2]
 obtain⟨n1_,z1_,h1_,w1_⟩:=g1;obtain⟨xv1,k1_,q1_⟩:=vl (mJ (i:=1) (ts:=[3,22,23,24]) kr rfl hrow rfl) w1_ h1_;obtain⟨n2_,z2_,h2_,w2_⟩:=g2;obtain⟨xv2,k2_,q2_⟩:=uO (mJ (i:=2) (ts:=[3,22,23,24]) kr rfl hrow rfl) w2_ h2_;obtain⟨n3_,z3_,h3_,w3_⟩:=g3;obtain⟨xv3,k3_,q3_⟩:=uJ (mJ (i:=3) (ts:=[3,22,23,24]) kr rfl hrow rfl) w3_ h3_;exact⟨n0,v1,xv1,v2,xv2,v3,xv3,O,g0,k1_,q1_,k2_,q2_,k3_,q3_⟩
theorem xx {fuel:Nat} {cs:List Value} {x:DataW H × List MemPlace} (hl:cs.length=4) (hw:Wt Tryz.prog 27 x.1) (h:DataW.trod enc Tryz.prog W base sp hd fuel 27 cs=some x):
  ∃(n0:Int) (n1:Int) (n2:Int) (n3:Int),cs=[jv n0,jv n1,jv n2,jv n3]∧(i64 n0)∧(i64 n1)∧(i64 n2)∧(i64 n3):=by
 obtain⟨zs,hz,he,hy⟩:=iA 4 underlying27 underlying3 kr h hl;obtain⟨n0,n1,n2,n3,rfl⟩:=len4 hz;exact⟨n0,n1,n2,n3,he,hy n0 sm,hy n1 sm,hy n2 sm,hy n3 sm⟩
theorem tl (hval:Value.okWide Tryz.prog W r b0 27 v) (hw:Wt Tryz.prog 27 d) (hd0:DataW.Trod enc Tryz.prog W base sp hd 27 v d ps):
  ∃(n0:Int) (n1:Int) (n2:Int) (n3:Int),v=.agg #[jv n0,jv n1,jv n2,jv n3]∧(i64 n0)∧(i64 n1)∧(i64 n2)∧(i64 n3):=by
 obtain⟨csA,rfl,hsz,hrow⟩:=kW kr hval;obtain⟨fuel,hf⟩:=hd0;have hc:Tryz.prog.cellsOf 27=4:=by kernel_rfl
 obtain⟨n0,n1,n2,n3,he,g0,g1,g2,g3⟩:=xx (cs:=csA.toList) (by rw[Cg,hsz,hc]) hw hf
 obtain rfl:csA=#[jv n0,jv n1,jv n2,jv n3]:=by
  have he2:csA.toList=[jv n0,jv n1,jv n2,jv n3]:=he;cases csA; simp only at he2; rw[he2]
 exact⟨n0,n1,n2,n3,O,g0,g1,g2,g3⟩
theorem len3 {α:Type} {l:List α} (h:l.length=3):∃a0 a1 a2,l=[a0,a1,a2]:=by
 match l,h with
 | [a0,a1,a2],_=>exact⟨_,_,_,rfl⟩
theorem uR {fuel:Nat} {cs:List Value} {x:DataW H × List MemPlace} (hl:cs.length=3) (hw:Wt Tryz.prog 112 x.1) (h:DataW.trod enc Tryz.prog W base sp hd fuel 112 cs=some x):
  ∃(n0:Int) (n1:Int) (n2:Int),cs=[jv n0,jv n1,jv n2]∧(i64 n0)∧(i64 n1)∧(i64 n2):=by
 obtain⟨zs,hz,he,hy⟩:=iA 3 underlying112 underlying3 kr h hl;obtain⟨n0,n1,n2,rfl⟩:=len3 hz;exact⟨n0,n1,n2,he,hy n0 sm,hy n1 sm,hy n2 sm⟩
theorem vM {fuel:Nat} {v:Value} {x:DataW H × List MemPlace} (hok:Cell.okWide Tryz.prog W r b0 28 v) (hw:Wt Tryz.prog 28 x.1) (h:DataW.trod enc Tryz.prog W base sp hd fuel 28 [v]=some x):
  ∃xs:List Pr3,SlAt W v 3 (xs.map Pr3.cells)∧∀a∈xs,a.wt:=by
 obtain⟨els,h1,h2⟩:=lw 3 underlying28 kr de (of_decide_eq_true kr) hok hw h
 exact o3 (f:=Pr3.cells) (q:=λa=>a.wt) h1 λi hi=>by
  obtain⟨n,y,hy,hwy⟩:=h2 i hi;obtain⟨n0,n1,n2,he,hf⟩:=uR (h1.1 _ (BF hi)) hwy hy;exact⟨⟨n0,n1,n2⟩,he,hf⟩
theorem sH (hval:Value.okWide Tryz.prog W r b0 28 v) (hw:Wt Tryz.prog 28 d) (hd0:DataW.Trod enc Tryz.prog W base sp hd 28 v d ps):
  ∃xs:List Pr3,SlAt W v 3 (xs.map Pr3.cells)∧∀a∈xs,a.wt:=by
 obtain⟨fuel,hf⟩:=hd0
 have hcs:v.cells.toList=[v]:=by
  rcases mZ (by rw[underlying28]) hval with h
  have:∃a n c,v=.slice a n c:=by
   unfold Cell.okWide Cell.ok at h;rw[underlying28] at h;cases v<;>simp_all
  obtain⟨a,n,c,rfl⟩:=this;rfl
 rw[hcs] at hf;exact vM (mZ (by rw[underlying28]) hval) hw hf
end
end Go.Proofs.YtliklcmddmpdfaaGreatDoor
namespace Go.Proofs.YtliklcmddmpdfaaGreatDoor
open Go.RowKit Go.PW _root_.Go.Proofs.Tryz
theorem sc {w:World} {v:Value} {sz:Nat} {els:List (List Value)} (h:SlAt w v sz els):∃a n c,v=.slice a n c:=cQ h
theorem Aq {P:Program} {w:World} {L:List (Nat × Value)} {dst:Option Tmp} {T T' ty:TypeId} {pos:String} {af:Array Edge} {x y:Operand} {m n k:Int} (hk:IntKind.i64.wrap (m+n)=k) (hx:ev L x=some (jv m)) (hy:ev L y=some (jv n)):OpV P ⟨dst,.binOp .add T x y T',ty,pos,af,none⟩ L w (jv k):=
 dk hx hy (by rw[ea (.inl rfl)]; exact Bh (λz=>Result.ok (jv z) w) hk)
def Chg.cells (q:Chg):List Value:=(EZ q)
def Chg.z:Chg:=⟨0,0,0,0,0⟩
theorem pO {w:World} {v:Value} {R:List Rpw} (h:SlAt w v 6 (R.map Rpw.cells)) (h2:(repsE R).ok w):RepAt w v R:=⟨h,h2⟩
theorem xa (kv lv:Value) (ks:List By) (key:By) (lim:Int) (q:Chg) (R:List Rpw) (t:Int) (w0:World) (hno:¬(key.length=32∧(1≤lim∧lim≤1000000)∧((0≤q.h∧q.h≤63)∧(0≤q.c∧q.c≤7)∧(0≤q.n∧q.n≤99999999)∧(0≤q.a∧q.a≤10000000)∧0≤q.t∧q.t≤q.a)∧R.length≤10∧q.a≤t∧t≤11000000)) (hkv:SlAt w0 kv 1 (ks.map λs=>[sv s])) (hlv:RepAt w0 lv R):
  Ff 17 #[kv,sv key,jv lim,(E0 q),lv,jv t] w0 (.tuple #[jv 0,jv 0,jv 210]):=by
 have hxb:=hlv.len;refine CC func17 O ntmps17 (lb O) λa Y U=>aa λG1=>aR Y U O [kv] (by rw[(U.arg hkv).cells]) λa w1 Y U=>aR Y U O [sv key] O λa w2 Y U=>aR Y U O (EZ q) O λa w3 Y U=>aR Y U O [jv t] O λa w4 Y U=>nv Y<|AM O<|AM O<|AM O<|λa Y=>G1<|ah λG2=>aa λG3=>nv Y<|AK (ld U 2 O O (isAgg9 _) O)<|AK (aZ O O (runUnderlying9 _))<|AK (v_ne O O)<|AL O<|λa Y=>?_;rcases (Decidable.em ((key.length:Int)=32)).symm with hb1|hb1
 ·rw[AV hb1] at Y;refine nv Y<|AO<|AO<|AO<|AK (aq O O)<|AL O<|AO<|AO<|AO<|AK (aq O O)<|AL O<|AO<|AO<|AO<|AK (aq O O)<|AL O<|AO<|AO<|AO<|AO<|AO<|AK (aq O O)<|λa Y=>G3 ?_;replace Y:=Y.p10 2 4 6 7 9 11 12 13 14 46 O;refine aC Y O ?_;refine aa λG4=>nv Y<|AM O<|AM O<|AM O<|λa Y=>G4<|ao<|am Y results17 (ae O (ae O (ae O ag))) ?_;exact⟨by rfl,U.ext⟩
 rw[AQ hb1] at Y;refine wly Y (ax O) λa Y=>aF Y U call49 O (da lim 1 1000000 _) λa w5 Y U=>nv Y<|AN (bd O)<|AK (ak O O)<|AL O<|λa Y=>?_;rcases AR (!(inB lim 1 1000000)) with hb2|hb2
 ·rw[hb2] at Y
  try simp only[qz] at hb2
  refine nv Y<|AO<|AO<|AO<|AK (aq O O)<|AL O<|AO<|AO<|AO<|AK (aq O O)<|AL O<|AO<|AO<|AO<|AO<|AO<|AK (aq O O)<|λa Y=>G3 ?_;replace Y:=Y.p10 2 4 6 7 9 11 12 13 14 46 O;refine aC Y O ?_;refine aa λG5=>nv Y<|AM O<|AM O<|AM O<|λa Y=>G5<|ao<|am Y results17 (ae O (ae O (ae O ag))) ?_;exact⟨by rfl,U.ext⟩
 rw[hb2] at Y
 try simp only[qz] at hb2
 have h9hb2:=fh hb2;refine wly Y (ar (U.g 1 O) O (isAgg36 _) (sizeOf36 _)) λa Y=>aF Y U call50 O (xq q _) λa w6 Y U=>nv Y<|AN (bd O)<|AK (ak O O)<|AL O<|λa Y=>?_;rcases AR (!q.ok) with hb3|hb3
 ·rw[hb3] at Y
  try simp only[qz] at hb3
  refine nv Y<|AO<|AO<|AO<|AK (aq O O)<|AL O<|AO<|AO<|AO<|AO<|AO<|AK (aq O O)<|λa Y=>G3 ?_;replace Y:=Y.p10 2 4 6 7 9 11 12 13 14 46 O;refine aC Y O ?_;refine aa λG6=>nv Y<|AM O<|AM O<|AM O<|λa Y=>G6<|ao<|am Y results17 (ae O (ae O (ae O ag))) ?_;exact⟨by rfl,U.ext⟩
 rw[hb3] at Y
 try simp only[qz] at hb3
 have h9hb3:=tF hb3;refine nv Y<|AN (ax O)<|AN ((aH (sT:=38) (U.arg hlv.1) O O (runUnderlying38 _)).asi (m':=(R.length:Int)) CU)<|AN (v_gt O O)<|AK (ak O O)<|AL O<|λa Y=>?_;rcases Decidable.em (10<(R.length:Int)) with hb4|hb4
 ·rw[AQ hb4] at Y;refine nv Y<|AO<|AO<|AO<|AO<|AO<|AK (aq O O)<|λa Y=>G3 ?_;replace Y:=Y.p10 2 4 6 7 9 11 12 13 14 46 O;refine aC Y O ?_;refine aa λG7=>nv Y<|AM O<|AM O<|AM O<|λa Y=>G7<|ao<|am Y results17 (ae O (ae O (ae O ag))) ?_;exact⟨by rfl,U.ext⟩
 rw[AV hb4] at Y;refine nv Y<|AN (ld U 0 O O (isAgg3 _) O)<|AN (ac (v:=po w2.hz 4) O kr)<|AN (ld U 1 O O (isAgg3 _) O)<|λa Y=>aF Y U call49 O (da t q.a 11000000 _) λa w7 Y U=>nv Y<|AN (bd O)<|AK (ak O O)<|λa Y=>G3 ?_;replace Y:=Y.p10 2 4 6 7 9 11 12 13 14 46 O;refine bn Y O (λhc5=>?_) (λhc5=>?_)
 ·try simp only[qz] at hc5
  refine aa λG8=>nv Y<|AM O<|AM O<|AM O<|λa Y=>G8<|ao<|am Y results17 (ae O (ae O (ae O ag))) ?_;exact⟨by rfl,U.ext⟩
 try simp only[qz] at hc5
 have h9hc5:=fh hc5;exfalso; omega
theorem nA (kv lv:Value) (ks:List By) (key:By) (lim:Int) (q:Chg) (R:List Rpw) (t:Int) (w0:World) (hkv:SlAt w0 kv 1 (ks.map λs=>[sv s])) (hlv:RepAt w0 lv R) (hRp:∀r∈R,∀x∈r.L,x.m.pf.length≤1000) (hk0:(blk 0 (kOf.map wv) 258).ok w0):Ff 17 #[kv,sv key,jv lim,(E0 q),lv,jv t] w0 (.tuple #[jv ((stR ks key lim q R t).1),jv ((stR ks key lim q R t).2.1),jv ((stR ks key lim q R t).2.2)]):=by
 by_cases hso:dV key lim q R.length t=true
 ·exact gy (by rw[gi hso O]) (nk kv lv ks key lim q R t w0 hkv hlv hRp hso hk0)
 ·exact gy (by rw[fO λh=>hso (pk.2 h)]) (xa kv lv ks key lim q R t w0 (λh=>hso (pk.2 h)) hkv hlv)
theorem qD (cr:Int) (v1:Value) (cs:List Pr2) (v2:Value) (ns:List Nin) (v3:Value) (hs:List Int) (cr2:Int) (v12:Value) (cs2:List Pr2) (v22:Value) (ns2:List Nin) (v32:Value) (hs2:List Int) (x0 x1 x2 x3:Int) (xv:Value) (xs:List Pr3) (limit t how n:Int) (key:By) (w0:World) (hv1:SlAt w0 v1 2 (cs.map Pr2.cells)) (hv2:SlAt w0 v2 8 (ns.map Nin.cells)) (hns:∀u∈ns,u.wt w0) (hv3:SlAt w0 v3 1 (hs.map λz:Int=>[jv z])) (hcr:i64 cr) (hcs:∀y∈cs,y.wt) (hhs:∀z∈hs,i64 z) (hv12:SlAt w0 v12 2 (cs2.map Pr2.cells)) (hv22:SlAt w0 v22 8 (ns2.map Nin.cells)) (hns2:∀u∈ns2,u.wt w0) (hv32:SlAt w0 v32 1 (hs2.map λz:Int=>[jv z])) (hcr2:i64 cr2) (hcs2:∀y∈cs2,y.wt) (hhs2:∀z∈hs2,i64 z) (hx0:i64 x0) (hx1:i64 x1) (hx2:i64 x2) (hx3:i64 x3) (hxv:SlAt w0 xv 3 (xs.map Pr3.cells)) (hxs:∀y∈xs,y.wt) (h_limit:i64 limit) (h_t:i64 t) (h_how:i64 how) (h_n:i64 n) (hkey:key.length≤140737488355328) (hk0:(blk 0 (kOf.map wv) 258).ok w0):
  Ff 5 #[.agg #[jv cr,v1,v2,v3],.agg #[jv cr2,v12,v22,v32],.agg #[jv x0,jv x1,jv x2,jv x3],xv,jv limit,jv t,jv how,jv n,sv key] w0 (.bool true):=by
 have wlimit:=h_limit;unfold i64 at wlimit;have wt:=h_t;unfold i64 at wt;have whow:=h_how;unfold i64 at whow;have wn:=h_n;unfold i64 at wn;have hk10:=km;have hplb:=ba limit (n:=60) de;obtain⟨pl,hpl⟩:∃z,pickI limit 60=z:=⟨_,rfl⟩;rw[hpl] at hplb;have hptb:=ba t (n:=70) de;obtain⟨pt,hpt⟩:∃z,pickI t 70=z:=⟨_,rfl⟩;rw[hpt] at hptb;obtain⟨pn,hpn⟩:∃z:Nat,pickI n 11=(z:Int):=⟨_,(B2 (ba n (n:=11) de).1).symm⟩;have hpnb:=(ba n (n:=11) de).2;rw[hpn] at hpnb;refine CD func5 O ntmps5 (lb O) λa Y U=>aa λG1=>aR Y U O [jv cr,v1,v2,v3] O λa w1 Y U=>aR Y U O [jv cr2,v12,v22,v32] O λa w2 Y U=>aR Y U O [jv x0,jv x1,jv x2,jv x3] O λa w3 Y U=>wla Y O λa Y=>G1<|aa λG2=>au Y U call11 O (zF _ (U.keepb hk0)) λa w4 Y U=>wla Y O λa Y=>G2<|ah λG3=>aa λG4=>nv Y<|AL O<|AK ((bd O).asb (b':=false) O)<|λa Y=>G4<|aJ Y O ?_;refine ap<|G3<|aa λG5=>wlv Y (ar (U.g 2 O) O (isAgg26 _) (sizeOf26 _)) λa Y=>bp Y U call12 O (oo cr v1 cs v2 ns v3 hs _ (U.arg hv1) (U.arg hv2) (λu h=>(hns u h).grow U.ext) (U.arg hv3) hcr hcs hhs) λa w5 x1 hp Y U=>?_;obtain⟨dc,dv,dl⟩:=x1;have hD:=hp
 try dsimp only at U
 replace U:=U.n4 O;refine aE Y U (zeroValue32 _) [jv 0,.slice none 0 0] O λa w6 Y U=>bj (us:=[jv dc,dv]) 0 Y U O O O (sizeOf32 _) DY (lb O) (ds:=[jv dc,dv]) O O λa w7 Y U=>G5 ?_;replace Y:=Y.p11 3 4 5 6 7 8 10 11 18 19 20 O;replace U:=U.k4 15 O;have hD:Doc dc dl:=hD;obtain⟨hdok,hdl,hdb⟩:=id hD;have hcb:=hD.car;obtain⟨kk,hkk⟩:∃k,keyG dc=k:=⟨_,rfl⟩;have hk32:kk.length=32:=by rw[←hkk]; exact fR _
 obtain⟨hd,hhd⟩:∃h,hdOf sha kk dc (entC dl) dl.length=h:=⟨_,rfl⟩;have hreg:=gu hD.1;have hel:=dI dl;refine aa λG6=>nv Y<|AK (ar (U.g 0 O) O (isAgg32 _) (sizeOf32 _))<|AK (ar (U.g 2 O) O (isAgg27 _) (sizeOf27 _))<|λa Y=>bp Y U call14 O (xY dc dv dl x0 x1 x2 x3 _ (U.ow 1 O) hD hx0 hx1 hx2 hx3) λa w8 x2 hp Y U=>?_;revert x2 hp Y U; rintro cg hp Y U;have hcg:=hp;replace U:=U.n4 O;refine aE Y U (zeroValue36 _) [jv 0,jv 0,jv 0,jv 0,jv 0] O λa w9 Y U=>aA 0 Y U (EZ cg) O (sizeOf36 _) λa w10 Y U=>G6<|ah λG7=>?_;obtain⟨hgn,hgh,hgc,hgt,hga,hgb⟩:=id hcg;refine aL (aM λw11 hxz=>?_);replace U:=U.grow hxz;refine aP (k:=0) 5 [0,2,3,4] Y ?_;replace Y:=Y.p15 3 4 5 6 7 8 10 11 18 19 20 45 46 47 21 O;refine bE [2] (λi=>match i with|2=>pm (λx:Int × Value × List Cas=>.agg #[jv x.1,x.2.1]) (λx=>[own x.2.1 55 3 (x.2.2.map Cas.cells)]) (λx=>Doc x.1 x.2.2)|_=>λ_ _=>False) 5 [[],[],[1],[],[]] [.agg #[jv dc,dv],.agg #[jv cr2,v12,v22,v32],undef,(E0 cg),xv] Y U ?_ ?_ ?_
 ·exact CG<|hqw (λU=>ar (U.g 1 rfl) rfl (isAgg32 _) (sizeOf32 _))<|hqw (λU=>ar (U.g 4 rfl) rfl (isAgg26 _) (sizeOf26 _))<|CE (λh=>absurd sm h)<|hqw (λU=>ar (U.g 0 rfl) rfl (isAgg36 _) (sizeOf36 _))<|hqv (ax rfl)<|CF
 ·intro i hi;simp only[A0,A4,Bm] at hi;subst hi
  ·intro w U;exact eo call12 O (oo cr2 v12 cs2 v22 ns2 v32 hs2 _ (U.arg hv12) (U.arg hv22) (λu h=>(hns2 u h).grow U.ext) (U.arg hv32) hcr2 hcs2 hhs2)
 clear Y U;rintro _ _ ⟨⟨dc93,dv93,dl93⟩,rfl,hD93,rfl⟩ a w12 Y U;replace Y:=Y.p13 48 50 51 52 4 5 6 7 8 18 19 20 21 O
 try dsimp only at U
 replace U:=U.n6 O;refine ab<|aI (k:=5) 7 [6] ?_;refine bp Y U call15 O (rD dc dv dl dc93 dv93 dl93 cg xv xs _ (U.ow 3 O) hD (U.ow 0 O) hD93 hcg (U.arg hxv) hxs) λa w13 x4 hp Y U=>?_;obtain⟨rv,R⟩:=x4;obtain⟨hRl,hRp6,hRa⟩:=hp
 try dsimp only at U
 replace U:=U.n8 O;refine wla Y O λa Y=>ab<|aO<|G7 ?_;replace Y:=Y.p10 4 5 6 7 8 18 19 20 21 22 O;replace U:=U.k5 59 O;have hRp:∀r∈R,∀x∈r.L,x.m.pf.length≤1000:=λr h x hx=>Br (hRp6 r h x hx) de;refine aa λG8=>wlv Y (ar (U.g 2 O) O (isAgg36 _) (sizeOf36 _)) λa Y=>aE Y U (zeroValue36 _) [jv 0,jv 0,jv 0,jv 0,jv 0] O λa w14 Y U=>aA 0 Y U (EZ cg) O (sizeOf36 _) λa w15 Y U=>G8<|ah λG9=>aa λG10=>wlm Y O λa Y=>au Y U call16 O (ga how 5 _ ⟨om,om⟩ ⟨om,om⟩) λa w16 Y U=>G10<|dQ (λa w=>∃(tn:Int),∃(th:Int),∃(tc:Int),∃(tt:Int),∃(ta:Int),Fr 172 [(4,jv limit),(5,jv t),(7,jv n),(8,sv key),(18,.bool false),(19,.bool true),(20,pq w5.hz),(21,pq w8.hz),(22,rv),(23,pq w13.hz)] [] a∧St No w0 [blk w13.hz [jv tn,jv th,jv tc,jv tt,jv ta] 36,own rv 52 6 ((R).map Rpw.cells),repsE R,blk w8.hz (EZ cg) 36,blk w5.hz [jv dc,dv] 32,own dv 55 3 ((dl).map Cas.cells)] w) ?_ ?_
 ·refine aw<|aa λG11=>nv Y<|AK (v_eq O O)<|AM O<|λa Y=>G11<|ay Y O (λhc5=>?_) (λhc5=>?_)
  ·refine al<|nv Y<|AL O<|AK (ac (v:=pq w13.hz) O kr)<|λa Y=>aA 0 Y U [jv n,jv cg.h,jv cg.c,jv cg.t,jv cg.a] O (sizeOf3 _) λa w17 Y U=>ab ?_;exact⟨n,cg.h,cg.c,cg.t,cg.a,Y.pick [4,5,7,8,18,19,20,21,22,23],U.select [0,1,2,3,4,5] de⟩
  refine aa λG12=>nv Y<|AK (v_eq O O)<|AM O<|λa Y=>G12 ?_;replace Y:=Y.p12 4 5 7 8 18 19 20 21 22 23 56 63 O;refine ay Y O (λhc6=>?_) (λhc6=>?_)
  ·refine al<|nv Y<|AL O<|AK (ac (v:=po w13.hz 1) O kr)<|λa Y=>aA 0 Y U [jv cg.n,jv n,jv cg.c,jv cg.t,jv cg.a] O (sizeOf3 _) λa w18 Y U=>ab ?_;exact⟨cg.n,n,cg.c,cg.t,cg.a,Y.pick [4,5,7,8,18,19,20,21,22,23],U.select [0,1,2,3,4,5] de⟩
  refine aa λG13=>nv Y<|AK (v_eq O O)<|AM O<|λa Y=>G13<|ay Y O (λhc7=>?_) (λhc7=>?_)
  ·refine al<|nv Y<|AL O<|AK (ac (v:=po w13.hz 2) O kr)<|λa Y=>aA 0 Y U [jv cg.n,jv cg.h,jv n,jv cg.t,jv cg.a] O (sizeOf3 _) λa w19 Y U=>ab ?_;exact⟨cg.n,cg.h,n,cg.t,cg.a,Y.pick [4,5,7,8,18,19,20,21,22,23],U.select [0,1,2,3,4,5] de⟩
  refine aa λG14=>nv Y<|AK (v_eq O O)<|AM O<|λa Y=>G14<|ay Y O (λhc8=>?_) (λhc8=>?_)
  ·refine al<|nv Y<|AL O<|AK (ac (v:=po w13.hz 3) O kr)<|λa Y=>aA 0 Y U [jv cg.n,jv cg.h,jv cg.c,jv n,jv cg.a] O (sizeOf3 _) λa w20 Y U=>ab ?_;exact⟨cg.n,cg.h,cg.c,n,cg.a,Y.pick [4,5,7,8,18,19,20,21,22,23],U.select [0,1,2,3,4,5] de⟩
  refine al<|nv Y<|AL O<|AK (ac (v:=po w13.hz 4) O kr)<|λa Y=>aA 0 Y U [jv cg.n,jv cg.h,jv cg.c,jv cg.t,jv n] O (sizeOf3 _) λa w21 Y U=>ab ?_;exact⟨cg.n,cg.h,cg.c,cg.t,n,Y.pick [4,5,7,8,18,19,20,21,22,23],U.select [0,1,2,3,4,5] de⟩
 rintro a w22 ⟨tn,th,tc,tt,ta,Y,U⟩;refine G9<|aa λG15=>nv Y<|AK (ac (v:=pq w5.hz) O kr)<|AK (ld U 4 O O (isAgg3 _) O)<|λa Y=>au Y U call13 O (gy (by rw[hkk]) (jw dc _ om)) λa w23 Y U=>wla Y O λa Y=>G15<|aa λG16=>bp Y U call18 O (tz _) λa w24 x10 hp Y U=>?_;revert x10 hp Y U; rintro kv9 hp Y U;clear hp;replace U:=U.n7 O;refine wla Y O λa Y=>G16<|ah λG17=>aa λG18=>nv Y<|AK (ar (U.g 4 O) O (isAgg36 _) (sizeOf36 _))<|AK (ar (U.g 1 O) O (isAgg36 _) (sizeOf36 _))<|λa Y=>aG (E:=36) (sz:=5) O [(EZ cg),[jv tn,jv th,jv tc,jv tt,jv ta]] kr sm O de de Y U λa w25 Y U=>nv Y<|AK ((aH (sT:=62) (U.ow 0 O) O O (runUnderlying62 _)).asi (m':=2) rfx)<|AL O<|λa Y=>G18 ?_;replace Y:=Y.p12 4 5 7 8 18 19 22 24 25 81 82 83 O;replace U:=U.k5 155 O;refine aw ?_;obtain⟨zs,hzzs⟩:∃z:List Chg,[(⟨cg.n,cg.h,cg.c,cg.t,cg.a⟩:Chg),(⟨tn,th,tc,tt,ta⟩:Chg)]=z:=⟨_,rfl⟩;have hlzs:zs.length=2:=by rw[←hzzs]; rfl
 replace U:St No w0 [own (.slice (some ⟨w24.hz,0,none⟩) 2 2) 36 5 (zs.map Chg.cells),own kv9 9 1 (keysH.map λs=>[sv s]),own rv 52 6 ((R).map Rpw.cells),repsE R,own dv 55 3 ((dl).map Cas.cells)] w25:=by rw[←hzzs]; exact U
 refine aV (λm a w=>∃(k1:Nat),m=2- k1∧(k1≤2)∧Fr 172 [(4,jv limit),(5,jv t),(7,jv n),(8,sv key),(19,.bool true),(22,rv),(24,sv kk),(25,kv9),(81,(.slice (some ⟨w24.hz,0,none⟩) 2 2)),(82,jv 2),(83,jv (k1:Int))] [] a∧St No w0 [own (.slice (some ⟨w24.hz,0,none⟩) 2 2) 36 5 (zs.map Chg.cells),own kv9 9 1 (keysH.map λs=>[sv s]),own rv 52 6 ((R).map Rpw.cells),repsE R,own dv 55 3 ((dl).map Cas.cells)] w) _ ⟨0,O,A8 _,Y.pick [4,5,7,8,19,22,24,25,81,82,83],U.select [0,1,2,3,4] de⟩ ?_;rintro _ a w26 ⟨k1,rfl,hkk1,Y,U⟩;refine aa λG19=>wlv Y (v_lt O O) λa Y=>G19<|ah λG20=>ay Y O (λhc11=>?_) (λhc11=>?_)
 ·refine ap<|G20<|ah λG21=>aw ?_;obtain⟨z,hz⟩:∃z,zs.getD k1 Chg.z=z:=⟨_,rfl⟩;refine aa λG22=>nv Y<|AK ((ai (i:=(k1:Int)) (sT:=62) (U.ow 0 O) O O (runUnderlying62 _) (sizeOf36 _) om CH).as (v':=slAddr (.slice (some ⟨w24.hz,0,none⟩) 2 2) (k1*5)) (by rw[show ((k1:Int)).toNat=k1 from by omega]))<|AK ((bI (U.ow 0 O) (i:=k1) CH O (isAgg36 _) (sizeOf36 _)).as (v':=(E0 z)) (by rw[aU Chg.z,hz]; rfl))<|λa Y=>aE Y U (zeroValue36 _) [jv 0,jv 0,jv 0,jv 0,jv 0] O λa w27 Y U=>aA 0 Y U (EZ z) O (sizeOf36 _) λa w28 Y U=>G22<|ah λG23=>?_;obtain⟨mt,hmt⟩:∃m,IntKind.i64.wrap (z.a+pt)=m:=⟨_,rfl⟩;refine aL ?_;replace Y:=Y.p14 4 5 7 8 19 22 24 25 81 82 83 85 86 27 O;refine bE [12] (λi=>match i with|12=>pm (λb:Nat=>.slice (some ⟨b,0,none⟩) 2 2) (λb=>[own (.slice (some ⟨b,0,none⟩) 2 2) 63 2 [[jv limit,jv t],[jv (1+pl),jv mt]]]) (λ_=>True)|_=>λ_ _=>False) 15 [[],[],[0,1],[],[3],[4],[],[6],[],[8],[7,9],[5,10],[2,11],[12],[]] [jv limit,jv t,.agg #[jv limit,jv t],jv limit,jv pl,jv (1+pl),po w26.hz 4,jv z.a,jv t,jv pt,jv mt,.agg #[jv (1+pl),jv mt],undef,jv 2,jv 0] Y U ?_ ?_ ?_
  ·intro i hi hiq
   match i,hi,hiq with
   | 0,_,_=>exact λw U=>OpV.g (ax O)
   | 1,_,_=>exact λw U=>OpV.g (ax O)
   | 2,_,_=>exact λw U=>OpV.g (aW (v:=.agg #[jv limit,jv t]) O kr)
   | 3,_,_=>exact λw U=>OpV.g (ax O)
   | 4,_,_=>exact λw U=>bu call16 O (ig hpl (ga limit 60 _ ⟨om,om⟩ ⟨om,om⟩))
   | 5,_,_=>exact λw U=>OpV.g (aK O O ⟨om,om⟩)
   | 6,_,_=>exact λw U=>OpV.g (ac (v:=po w26.hz 4) O kr)
   | 7,_,_=>exact λw U=>OpV.g (ld U 0 O O (isAgg3 _) O)
   | 8,_,_=>exact λw U=>OpV.g (ax O)
   | 9,_,_=>exact λw U=>bu call16 O (ig hpt (ga t 70 _ ⟨om,om⟩ ⟨om,om⟩))
   | 10,_,_=>exact λw U=>OpV.g (Aq hmt O O)
   | 11,_,_=>exact λw U=>OpV.g (aW (v:=.agg #[jv (1+pl),jv mt]) O kr)
   | 12,_,h=>exact absurd sm h
   | 13,_,_=>
    rintro _ _ ⟨b12,rfl, -,rfl⟩;intro w U;exact OpV.g ((aH (sT:=22) (U.ow 0 O) O O (runUnderlying22 _)).asi (m':=2) rfx)
   | 14,_,_=>exact λw U=>OpV.g (ax O)
   | i+15,h,_=>exact absurd h om
  ·intro i hi;simp only[A0,A4,Bm] at hi;subst hi
   ·intro w U;exact bL (E:=63) (sz:=2) O [[jv limit,jv t],[jv (1+pl),jv mt]] (λ_=>by kernel_rfl) sm O de
  clear Y U;rintro _ _ ⟨b12,rfl, -,rfl⟩ a w29 Y U;replace Y:=Y.p15 99 100 101 4 5 7 8 19 22 24 25 81 82 83 27 O;replace U:=U.n7 O;refine ab<|G23<|aw ?_;obtain⟨ms,hzms⟩:∃z:List Pr2,[(⟨limit,t⟩:Pr2),(⟨1+pl,mt⟩:Pr2)]=z:=⟨_,rfl⟩;have hlms:ms.length=2:=by rw[←hzms]; rfl
  replace U:St No w0 [own (.slice (some ⟨b12,0,none⟩) 2 2) 63 2 (ms.map Pr2.cells),blk w26.hz (EZ z) 36,own (.slice (some ⟨w24.hz,0,none⟩) 2 2) 36 5 (zs.map Chg.cells),own kv9 9 1 (keysH.map λs=>[sv s]),own rv 52 6 ((R).map Rpw.cells),repsE R,own dv 55 3 ((dl).map Cas.cells)] w29:=by rw[←hzms]; exact U
  refine aV (λm a w=>∃(k2:Nat),m=2- k2∧(k2≤2)∧Fr 172 [(4,jv limit),(5,jv t),(7,jv n),(8,sv key),(19,.bool true),(22,rv),(24,sv kk),(25,kv9),(81,(.slice (some ⟨w24.hz,0,none⟩) 2 2)),(82,jv 2),(83,jv (k1:Int)),(27,pq w26.hz),(99,(.slice (some ⟨b12,0,none⟩) 2 2)),(100,jv 2),(101,jv (k2:Int))] [] a∧St No w0 [own (.slice (some ⟨b12,0,none⟩) 2 2) 63 2 (ms.map Pr2.cells),blk w26.hz (EZ z) 36,own (.slice (some ⟨w24.hz,0,none⟩) 2 2) 36 5 (zs.map Chg.cells),own kv9 9 1 (keysH.map λs=>[sv s]),own rv 52 6 ((R).map Rpw.cells),repsE R,own dv 55 3 ((dl).map Cas.cells)] w) _ ⟨0,O,A8 _,Y.pick [4,5,7,8,19,22,24,25,81,82,83,27,99,100,101],U.select [0,1,2,3,4,5,6] de⟩ ?_;rintro _ a w30 ⟨k2,rfl,hkk2,Y,U⟩;refine aa λG24=>wlv Y (v_lt O O) λa Y=>G24<|ah λG25=>ay Y O (λhc13=>?_) (λhc13=>?_)
  ·refine ap<|G25<|ah λG26=>aw ?_;obtain⟨⟨lm,tm⟩,hm⟩:∃z,ms.getD k2 Pr2.z=z:=⟨_,rfl⟩;refine aa λG27=>nv Y<|AK ((ai (i:=(k2:Int)) (sT:=22) (U.ow 0 O) O O (runUnderlying22 _) (sizeOf63 _) om CH).as (v':=slAddr (.slice (some ⟨b12,0,none⟩) 2 2) (k2*2)) (by rw[show ((k2:Int)).toNat=k2 from by omega]))<|AK ((bI (U.ow 0 O) (i:=k2) CH O (isAgg63 _) (sizeOf63 _)).as (v':=.agg #[jv lm,jv tm]) (by rw[aU Pr2.z,hm]; rfl))<|λa Y=>aE Y U (zeroValue63 _) [jv 0,jv 0] O λa w31 Y U=>aA 0 Y U [jv lm,jv tm] O (sizeOf63 _) λa w32 Y U=>G27<|aa λG28=>nv Y<|AL O<|AL O<|AL O<|AK (aZ O O (runUnderlying9 _))<|AK (so O O)<|AK ((eN (xs:=key) (l:=0) (h:=(min key.length 33)) O O O underlying9 (.inl ⟨O,O⟩) (.inr (by rw[show (min (key.length:Int) 33:Int)=(((min key.length 33):Nat):Int) from by omega]<;>rfl)) om DQ).as (v':=sv (key.take (min key.length 33))) O)<|λa Y=>aG (E:=9) (sz:=1) O [[sv kk],[sv (key.take (min key.length 33))]] kr sm O de de Y U λa w33 Y U=>nv Y<|AK ((aH (sT:=44) (U.ow 0 O) O O (runUnderlying44 _)).asi (m':=2) rfx)<|AL O<|λa Y=>G28 ?_;replace Y:Fr 172 [(4,_),(5,_),(7,_),(8,_),(19,_),(22,_),(24,_),(25,_),(81,_),(82,_),(83,_),(27,_),(99,_),(100,_),(101,_),(29,_),(111,_),(112,_),(113,_)] [] a:=Y.pick [4,5,7,8,19,22,24,25,81,82,83,27,99,100,101,29,111,112,113];refine aw ?_;obtain⟨kl,hzkl⟩:∃z:List By,[kk,key.take (min key.length 33)]=z:=⟨_,rfl⟩;have hlkl:kl.length=2:=by rw[←hzkl]; rfl
   replace U:St No w0 [own (.slice (some ⟨w32.hz,0,none⟩) 2 2) 9 1 (kl.map λs=>[sv s]),blk w30.hz [jv lm,jv tm] 63,own (.slice (some ⟨b12,0,none⟩) 2 2) 63 2 (ms.map Pr2.cells),blk w26.hz (EZ z) 36,own (.slice (some ⟨w24.hz,0,none⟩) 2 2) 36 5 (zs.map Chg.cells),own kv9 9 1 (keysH.map λs=>[sv s]),own rv 52 6 ((R).map Rpw.cells),repsE R,own dv 55 3 ((dl).map Cas.cells)] w33:=by rw[←hzkl]; exact U
   refine aV (λm a w=>∃(k3:Nat),m=2- k3∧(k3≤2)∧Fr 172 [(4,jv limit),(5,jv t),(7,jv n),(8,sv key),(19,.bool true),(22,rv),(24,sv kk),(25,kv9),(81,(.slice (some ⟨w24.hz,0,none⟩) 2 2)),(82,jv 2),(83,jv (k1:Int)),(27,pq w26.hz),(99,(.slice (some ⟨b12,0,none⟩) 2 2)),(100,jv 2),(101,jv (k2:Int)),(29,pq w30.hz),(111,(.slice (some ⟨w32.hz,0,none⟩) 2 2)),(112,jv 2),(113,jv (k3:Int))] [] a∧St No w0 [own (.slice (some ⟨w32.hz,0,none⟩) 2 2) 9 1 (kl.map λs=>[sv s]),blk w30.hz [jv lm,jv tm] 63,own (.slice (some ⟨b12,0,none⟩) 2 2) 63 2 (ms.map Pr2.cells),blk w26.hz (EZ z) 36,own (.slice (some ⟨w24.hz,0,none⟩) 2 2) 36 5 (zs.map Chg.cells),own kv9 9 1 (keysH.map λs=>[sv s]),own rv 52 6 ((R).map Rpw.cells),repsE R,own dv 55 3 ((dl).map Cas.cells)] w) _ ⟨0,O,A8 _,Y.pick [4,5,7,8,19,22,24,25,81,82,83,27,99,100,101,29,111,112,113],U.select [0,1,2,3,4,5,6,7,8] de⟩ ?_;rintro _ a w34 ⟨k3,rfl,hkk3,Y,U⟩;refine aa λG29=>wlv Y (v_lt O O) λa Y=>G29<|ah λG30=>ay Y O (λhc14=>?_) (λhc14=>?_)
   ·refine ap<|G30<|ah λG31=>aw ?_;obtain⟨ky,hky⟩:∃z,kl.getD k3 []=z:=⟨_,rfl⟩;refine aa λG32=>nv Y<|AK ((ai (i:=(k3:Int)) (sT:=44) (U.ow 0 O) O O (runUnderlying44 _) (sizeOf9 _) om CH).as (v':=slAddr (.slice (some ⟨w32.hz,0,none⟩) 2 2) (k3*1)) (by rw[show ((k3:Int)).toNat=k3 from by omega]))<|AK (az (u:=sv ky) (i:=k3) (j:=0) (U.ow 0 O) CH O (isAgg9 _) (by rw[aU ([]:By),hky]; rfl))<|AM O<|λa Y=>G32<|aa λG33=>nv Y<|AL O<|AL O<|AL O<|λa Y=>au Y U call16 O (ig hpn (ga n 11 _ ⟨om,om⟩ ⟨om,om⟩)) λa w35 Y U=>wlv Y (bT (l:=0) (h:=pn) (U.ow 5 O) O O O underlying44 kr (.inl ⟨O,O⟩) (.inr O) (A8 _) CS) λa Y=>aG (E:=44) (sz:=1) O [[kv9],[(cut kv9 1 0 pn (slCap kv9))]] (by obtain⟨_,_,_,e0_⟩:=sc (U.ow 5 rfl); rw[e0_]; kernel_rfl) sm O de de Y U λa w36 Y U=>nv Y<|AK ((aH (sT:=64) (U.ow 0 O) O O (runUnderlying64 _)).asi (m':=2) rfx)<|AL O<|λa Y=>G33 ?_;replace Y:=Y.p23 4 5 7 8 19 22 24 25 81 82 83 27 99 100 101 29 111 112 113 31 122 123 124 O;refine aw<|eA 3 ?_;refine bS<|aa λG34=>wlv Y ((v_lt O O).asb (b':=true) O) λa Y=>G34<|ah λG35=>aC Y O ?_;refine ap<|G35<|ah λG36=>aw<|aa λG37=>nv Y<|AK ((ai (i:=0) (sT:=64) (U.ow 0 O) O O (runUnderlying64 _) (sizeOf44 _) om sm).as (v':=slAddr (.slice (some ⟨w35.hz,0,none⟩) 2 2) (0*1)) O)<|AK (az (u:=kv9) (i:=0) (j:=0) (U.ow 0 O) sm O (isAgg44 _) rfx)<|AM O<|λa Y=>G37<|aa λG38=>nv Y<|AL O<|AL O<|AK (aS (v:=pq w30.hz) O O kr)<|AK (ld U 2 O O (isAgg3 _) O)<|AK (ar (U.g 4 O) O (isAgg36 _) (sizeOf36 _))<|AL O<|AK (aS (v:=po w30.hz 1) O O kr)<|AK (ld U 2 O O (isAgg3 _) O)<|λa Y=>au Y U call17 O (nA kv9 rv (keysH) ky lm z R tm _ (U.ow 6 O) (pO (U.ow 7 O) (U.g 8 O)) hRp (U.keepb hk0)) λa w37 Y U=>nv Y<|AL O<|AK (aj O O)<|AK (aj O O)<|AK (aj O O)<|AM O<|AM O<|AM O<|λa Y=>G38 ?_;replace Y:Fr 172 [(4,_),(5,_),(7,_),(8,_),(19,_),(22,_),(24,_),(25,_),(81,_),(82,_),(83,_),(27,_),(99,_),(100,_),(101,_),(29,_),(111,_),(112,_),(113,_),(31,_),(122,_),(123,_),(124,_),(33,_),(34,_),(35,_),(36,_)] [] a:=Y.pick [4,5,7,8,19,22,24,25,81,82,83,27,99,100,101,29,111,112,113,31,122,123,124,33,34,35,36];refine aa λG39=>nv Y<|AL O<|AL O<|AK (aS (v:=pq w30.hz) O O kr)<|AK (ld U 2 O O (isAgg3 _) O)<|AK (ar (U.g 4 O) O (isAgg36 _) (sizeOf36 _))<|AL O<|AK (aS (v:=po w30.hz 1) O O kr)<|AK (ld U 2 O O (isAgg3 _) O)<|λa Y=>au Y U call21 O (nF kv9 rv (keysH) ky lm z R tm _ (U.ow 6 O) (pO (U.ow 7 O) (U.g 8 O))) λa w38 Y U=>nv Y<|AL O<|AK (aj O O)<|AK (aj O O)<|AK (aj O O)<|AM O<|AM O<|AM O<|λa Y=>G39 ?_;refine aa λG40=>nv (Y.p29 4 5 7 8 19 22 24 25 81 82 83 27 99 100 101 29 111 112 113 31 122 123 124 34 35 36 37 38 39 O)<|AL O<|AL O<|AK ((v_ne O O).asb (b':=false) sm)<|AL O<|AN (ax O)<|AN (ax O)<|AN ((v_ne O O).asb (b':=false) sm)<|AK (ak O O)<|AL O<|AN (ax O)<|AN (ax O)<|AN ((v_ne O O).asb (b':=false) sm)<|AK (ak O O)<|λa Y=>G40 ?_;replace Y:=Y.p24 4 5 7 8 19 22 24 25 81 82 83 27 99 100 101 29 111 112 113 31 122 123 124 166 O;refine aJ Y O ?_
    refine ap<|G36<|al<|nv Y<|AK ((aK O O de).asi (m':=1) O)<|AL O<|λa Y=>ab<|bS<|aa λG41=>wlv Y ((v_lt O O).asb (b':=true) O) λa Y=>G41<|ah λG42=>aC Y O ?_;refine ap<|G42<|ah λG43=>aw<|aa λG44=>nv Y<|AK ((ai (i:=1) (sT:=64) (U.ow 0 O) O O (runUnderlying64 _) (sizeOf44 _) om sm).as (v':=slAddr (.slice (some ⟨w35.hz,0,none⟩) 2 2) (1*1)) O)<|AK (az (u:=(cut kv9 1 0 pn (slCap kv9))) (i:=1) (j:=0) (U.ow 0 O) sm O (isAgg44 _) rfx)<|AM O<|λa Y=>G44<|aa λG45=>nv Y<|AL O<|AL O<|AK (aS (v:=pq w30.hz) O O kr)<|AK (ld U 2 O O (isAgg3 _) O)<|AK (ar (U.g 4 O) O (isAgg36 _) (sizeOf36 _))<|AL O<|AK (aS (v:=po w30.hz 1) O O kr)<|AK (ld U 2 O O (isAgg3 _) O)<|λa Y=>au Y U call17 O (nA (cut kv9 1 0 pn (slCap kv9)) rv ((keysH).take pn) ky lm z R tm _ ((U.ow 6 O).cut0 (h:=pn) CP) (pO (U.ow 7 O) (U.g 8 O)) hRp (U.keepb hk0)) λa w39 Y U=>nv Y<|AL O<|AK (aj O O)<|AK (aj O O)<|AK (aj O O)<|AM O<|AM O<|AM O<|λa Y=>G45 ?_;replace Y:Fr 172 [(4,_),(5,_),(7,_),(8,_),(19,_),(22,_),(24,_),(25,_),(81,_),(82,_),(83,_),(27,_),(99,_),(100,_),(101,_),(29,_),(111,_),(112,_),(113,_),(31,_),(122,_),(123,_),(124,_),(33,_),(34,_),(35,_),(36,_)] [] a:=Y.pick [4,5,7,8,19,22,24,25,81,82,83,27,99,100,101,29,111,112,113,31,122,123,124,33,34,35,36];refine aa λG46=>nv Y<|AL O<|AL O<|AK (aS (v:=pq w30.hz) O O kr)<|AK (ld U 2 O O (isAgg3 _) O)<|AK (ar (U.g 4 O) O (isAgg36 _) (sizeOf36 _))<|AL O<|AK (aS (v:=po w30.hz 1) O O kr)<|AK (ld U 2 O O (isAgg3 _) O)<|λa Y=>au Y U call21 O (nF (cut kv9 1 0 pn (slCap kv9)) rv ((keysH).take pn) ky lm z R tm _ ((U.ow 6 O).cut0 (h:=pn) CP) (pO (U.ow 7 O) (U.g 8 O))) λa w40 Y U=>nv Y<|AL O<|AK (aj O O)<|AK (aj O O)<|AK (aj O O)<|AM O<|AM O<|AM O<|λa Y=>G46 ?_;refine aa λG47=>nv (Y.p29 4 5 7 8 19 22 24 25 81 82 83 27 99 100 101 29 111 112 113 31 122 123 124 34 35 36 37 38 39 O)<|AL O<|AL O<|AK ((v_ne O O).asb (b':=false) sm)<|AL O<|AN (ax O)<|AN (ax O)<|AN ((v_ne O O).asb (b':=false) sm)<|AK (ak O O)<|AL O<|AN (ax O)<|AN (ax O)<|AN ((v_ne O O).asb (b':=false) sm)<|AK (ak O O)<|λa Y=>G47 ?_;replace Y:=Y.p24 4 5 7 8 19 22 24 25 81 82 83 27 99 100 101 29 111 112 113 31 122 123 124 166 O;refine aJ Y O ?_;refine ap<|G43<|al<|nv Y<|AK ((aK O O de).asi (m':=2) O)<|AL O<|λa Y=>ab<|bS<|aa λG48=>wlv Y ((v_lt O O).asb (b':=false) O) λa Y=>G48<|ah λG49=>aJ Y O ?_;refine aN<|G31<|al<|nv Y<|AK (aK O O ⟨om,om⟩)<|AL O<|λa Y=>ab ?_;refine⟨_,?_,k3+1,O,om,Y.pick [4,5,7,8,19,22,24,25,81,82,83,27,99,100,101,29,111,112,113],U.select [1,2,3,4,5,6,7,8,9] de⟩;omega
   refine aN<|G26<|al<|nv Y<|AK (aK O O ⟨om,om⟩)<|AL O<|λa Y=>ab ?_;refine⟨_,?_,k2+1,O,om,Y.pick [4,5,7,8,19,22,24,25,81,82,83,27,99,100,101],U.select [2,3,4,5,6,7,8] de⟩;omega
  refine aN<|G21<|al<|nv Y<|AK (aK O O ⟨om,om⟩)<|AL O<|λa Y=>ab ?_;refine⟨_,?_,k1+1,O,om,Y.pick [4,5,7,8,19,22,24,25,81,82,83],U.select [2,3,4,5,6] de⟩;omega
 refine aN<|G17<|aa λG50=>nv Y<|AL O<|AM O<|λa Y=>G50 ?_;replace Y:=Y.p1 18 O;replace U:=U.k3 28 O;refine ao<|am Y results5 (ae O ag) ?_;exact⟨by rfl,U.ext⟩
end Go.Proofs.YtliklcmddmpdfaaGreatDoor
