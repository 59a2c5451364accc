/- Texts joined: RclF, RclG, RclH, RclI. -/
import Derived.Test.YtliklcmddmpdfaaGreatDoorPTH
import Derived.Test.YtliklcmddmpdfaaGreatDoorPTD
import Derived.Test.YtliklcmddmpdfaaGreatDoorPTG
import Derived.Test.YtliklcmddmpdfaaGreatDoorPTB
import Derived.Test.YtliklcmddmpdfaaGreatDoorPTA
set_option linter.unusedVariables false
set_option linter.unusedSimpArgs false
set_option maxRecDepth 4000
set_option maxHeartbeats 4000000
namespace Go.Proofs.YtliklcmddmpdfaaGreatDoor
open Go.RowKit Go.PW _root_.Go.Proofs.Tryz
theorem zp (q:Chg) (w0:World):
  Ret Tryz.prog 50 #[.agg #[jv q.n,jv q.h,jv q.c,jv q.t,jv q.a]] w0 λv w=>v=.bool q.ok∧Ext No w0 w:=by
 refine BG func50 O ntmps50 (lb O) λa Y U=>?_
 refine aa λ_ G1=>aS Y U O [jv q.n,jv q.h,jv q.c,jv q.t,jv q.a] O λa w1 Y U=>wla Y O λa Y=>G1<|aa λ_ G2=>?_
 refine nv Y<|zM (ac (v:=po w0.hz 1) O kr)<|zM (ld U 0 O O (isAgg3 _) O)<|λa Y=>ax Y U call49 O (dy q.h 0 63 _) λa w2 Y U=>wlm Y O λa Y=>?_
 rcases zX (inB q.h 0 63) with hb1|hb1
 ·rw[hb1] at Y
  refine nv Y<|zP (ac (v:=po w0.hz 2) O kr)<|zP (ld U 0 O O (isAgg3 _) O)<|λa Y=>aF Y U call49 O (dy q.c 0 7 _) λa w3 Y U=>nv Y<|zM (ay O O)<|zO O<|λa Y=>G2 ?_
  refine aa λ_ G3=>nv (Y.p3 1 2 3 O)<|zN O<|zN O<|λa Y=>?_
  rcases zX (inB q.c 0 7) with hb2|hb2
  ·rw[hb2] at Y
   refine nv Y<|zP (ac (v:=pq w0.hz) O kr)<|zP (ld U 0 O O (isAgg3 _) O)<|λa Y=>aF Y U call49 O (dy q.n 0 99999999 _) λa w4 Y U=>nv Y<|zM (ay O O)<|zN O<|λa Y=>?_
   rcases zX (inB q.n 0 99999999) with hb3|hb3
   ·rw[hb3] at Y
    refine nv Y<|zP (ac (v:=po w0.hz 4) O kr)<|zP (ld U 0 O O (isAgg3 _) O)<|λa Y=>aF Y U call49 O (dy q.a 0 10000000 _) λa w5 Y U=>nv Y<|zM (ay O O)<|zN O<|λa Y=>?_
    rcases zX (inB q.a 0 10000000) with hb4|hb4
    ·rw[hb4] at Y
     refine nv Y<|zP (ac (v:=po w0.hz 3) O kr)<|zP (ld U 0 O O (isAgg3 _) O)<|zP (ac (v:=po w0.hz 4) O kr)<|zP (ld U 0 O O (isAgg3 _) O)<|λa Y=>aF Y U call49 O (dy q.t 0 q.a _) λa w6 Y U=>nv Y<|zM (ay O O)<|zO O<|λa Y=>G3 ?_
     replace Y:=Y.p1 2 O
     replace U:=U.k0 0 O
     refine aq<|am Y results50 (ae O ag) ?_
     exact⟨by simp only[retv]; unfold Chg.ok; simp[hb1,hb2,hb3,hb4],U.ext⟩
    rw[hb4] at Y
    refine nv Y<|zQ<|zQ<|zQ<|zQ<|zQ<|zM (al O O)<|zO O<|λa Y=>G3 ?_
    replace Y:=Y.p1 2 O
    replace U:=U.k0 0 O
    refine aq<|am Y results50 (ae O ag) ?_
    exact⟨by simp only[retv]; unfold Chg.ok; simp[hb1,hb2,hb3,hb4],U.ext⟩
   rw[hb3] at Y
   refine nv Y<|zQ<|zQ<|zQ<|zM (al O O)<|zN O<|zQ<|zQ<|zQ<|zQ<|zQ<|zM (al O O)<|zO O<|λa Y=>G3 ?_
   replace Y:=Y.p1 2 O
   replace U:=U.k0 0 O
   refine aq<|am Y results50 (ae O ag) ?_
   exact⟨by simp only[retv]; unfold Chg.ok; simp[hb1,hb2,hb3],U.ext⟩
  rw[hb2] at Y
  refine nv Y<|zQ<|zQ<|zQ<|zM (al O O)<|zN O<|zQ<|zQ<|zQ<|zM (al O O)<|zN O<|zQ<|zQ<|zQ<|zQ<|zQ<|zM (al O O)<|zO O<|λa Y=>G3 ?_
  replace Y:=Y.p1 2 O
  replace U:=U.k0 0 O
  refine aq<|am Y results50 (ae O ag) ?_
  exact⟨by simp only[retv]; unfold Chg.ok; simp[hb1,hb2],U.ext⟩
 rw[hb1] at Y
 refine nv Y<|zQ<|zQ<|zQ<|zM (al O O)<|zO O<|λa Y=>G2 ?_
 refine aa λ_ G4=>nv (Y.p3 1 2 3 O)<|zN O<|zN O<|zQ<|zQ<|zQ<|zM (al O O)<|zN O<|zQ<|zQ<|zQ<|zM (al O O)<|zN O<|zQ<|zQ<|zQ<|zQ<|zQ<|zM (al O O)<|zO O<|λa Y=>G4 ?_
 replace Y:=Y.p1 2 O
 replace U:=U.k0 0 O
 refine aq<|am Y results50 (ae O ag) ?_
 exact⟨by simp only[retv]; unfold Chg.ok; simp[hb1],U.ext⟩
theorem fU (kv lv:Value) (ks:List By) (key:By) (lim:Int) (q:Chg) (R:List Rpw) (t:Int) (w0:World) (hkv:SlAt w0 kv 1 (ks.map λs=>[sv s])) (hlv:RepAt w0 lv R) (hRp:∀r∈R,∀x∈r.L,x.m.pf.length≤1000) (hso:fk key lim q R.length t=true) (hk0:(blk 0 (kOf.map wv) 258).ok w0):
  Ret Tryz.prog 17 #[kv,sv key,jv lim,.agg #[jv q.n,jv q.h,jv q.c,jv q.t,jv q.a],lv,jv t] w0 λv w=>v=.tuple #[jv ((stateH sha ks key lim q (repsM R) t).1),jv ((stateH sha ks key lim q (repsM R) t).2),jv 0]∧Ext No w0 w:=by
 obtain⟨hk32,hlim,hqo,hrl,hta,htb⟩:=ml hso
 obtain⟨hq1,hq2,hq3,hq4,hq5,hq6⟩:=xr hqo
 have hxb:=hlv.len
 obtain⟨ko,hko⟩:∃o,firstF (keptB sha ks key q (q.a+lim) t) none (repsM R)=o:=⟨_,rfl⟩
 obtain⟨bo,hbo⟩:∃o,firstF (backB sha key q (q.a+lim) t) none (repsM R)=o:=⟨_,rfl⟩
 refine BK func17 O ntmps17 (lb O) λa Y U=>?_
 refine aa λ_ G1=>aS Y U O [kv] (by rw[(U.arg hkv).cells]) λa w1 Y U=>aS Y U O [sv key] O λa w2 Y U=>aS Y U O [jv q.n,jv q.h,jv q.c,jv q.t,jv q.a] O λa w3 Y U=>aS Y U O [jv t] O λa w4 Y U=>nv Y<|zO O<|zO O<|zO O<|λa Y=>G1<|ah λ_ G2=>?_
 refine aa λ_ G3=>nv Y<|zM (ld U 2 O O (isAgg9 _) O)<|zM (bp O O (runUnderlying9 _))<|zM (v_ne O O)<|zN O<|λa Y=>?_
 rcases (Decidable.em ((key.length:Int)=32)).symm with hb1|hb1
 ·rw[zW hb1] at Y
  exfalso; omega
 rw[zU hb1] at Y
 refine wly Y (au O) λa Y=>aF Y U call49 O (dy lim 1 1000000 _) λa w5 Y U=>nv Y<|zP (bB O)<|zM (al O O)<|zN O<|λa Y=>?_
 rcases zX (!(inB lim 1 1000000)) with hb2|hb2
 ·rw[hb2] at Y
  try simp only[qz] at hb2
  exfalso; simp only[inB,Af,At] at hb2; omega
 rw[hb2] at Y
 try simp only[qz] at hb2
 refine wly Y (ap (U.g 1 O) O (isAgg36 _) (sizeOf36 _)) λa Y=>aF Y U call50 O (zp q _) λa w6 Y U=>nv Y<|zP (bB O)<|zM (al O O)<|zN O<|λa Y=>?_
 rcases zX (!q.ok) with hb3|hb3
 ·rw[hb3] at Y
  try simp only[qz] at hb3
  rw[hqo] at hb3; cases hb3
 rw[hb3] at Y
 try simp only[qz] at hb3
 refine nv Y<|zP (au O)<|zP ((aK (sT:=38) (U.arg hlv.1) O O (runUnderlying38 _)).asi (m':=(R.length:Int)) B9)<|zP (v_gt O O)<|zM (al O O)<|zN O<|λa Y=>?_
 rcases Decidable.em (10<(R.length:Int)) with hb4|hb4
 ·rw[zU hb4] at Y
  exfalso; omega
 rw[zW hb4] at Y
 refine nv Y<|zP (ld U 0 O O (isAgg3 _) O)<|zP (ac (v:=po w2.hz 4) O kr)<|zP (ld U 1 O O (isAgg3 _) O)<|λa Y=>aF Y U call49 O (dy t q.a 11000000 _) λa w7 Y U=>nv Y<|zP (bB O)<|zM (al O O)<|λa Y=>G3 ?_
 replace Y:=Y.p10 2 4 6 7 9 11 12 13 14 46 O
 refine bF Y O (λhc5=>?_) (λhc5=>?_)
 ·try simp only[qz] at hc5
  exfalso; simp only[inB,Af,At] at hc5; omega
 try simp only[qz] at hc5
 refine ar<|G2<|aa λ_ G4=>nv Y<|zM (ac (v:=po w2.hz 4) O kr)<|zM (ld U 1 O O (isAgg3 _) O)<|zN O<|zM (aL O O ⟨om,om⟩)<|λa Y=>aE Y U (zeroValue3 _) [jv 0] O λa w8 Y U=>aB 0 Y U [jv (q.a+lim)] O (sizeOf3 _) λa w9 Y U=>G4 ?_
 refine aa λ_ G5=>wlv (Y.p9 4 6 7 9 11 12 13 14 15 O) (ck O O) λa Y=>aE Y U (zeroValue116 _) [.nilFunc] O λa w10 Y U=>aB 0 Y U [.func (.func 51) #[] #[pq w2.hz,pq w7.hz,pq w3.hz,pq w1.hz]] O (sizeOf116 _) λa w11 Y U=>G5<|aa λ_ G6=>?_
 refine wla Y O λa Y=>G6<|aa λ_ G7=>?_
 refine nv Y<|zN O<|zN O<|zM (ck O O)<|λa Y=>ax Y U call54 O (vv (by rw[hko]) (pD lv R (keptB sha ks key q (q.a+lim) t) 55 [pq w9.hz,pq w0.hz,pq w2.hz] _ call55 (iQ U hlv) (λr wq hm hx=>xY kv ks w9.hz w0.hz r q (q.a+lim) t key w2.hz w7.hz w3.hz w1.hz wq (((iQ U hlv).2 r hm).grow hx) (hRp r hm) om (dm (U.g 3 O) hx) (dm (U.g 1 O) hx) (dm (U.g 2 O) hx) (dm (U.g 4 O) hx) (dm (U.g 0 O) hx) (dm (U.g 5 O) hx) ((U.arg hkv).grow hx) (dm (U.keepb hk0) hx)))) λa w12 Y U=>nv Y<|zN O<|zM (ak O O)<|zM (ak O O)<|zO O<|zO O<|λa Y=>G7 ?_
 replace U:=U.k5 31 O
 refine aa λ_ G8=>nv (Y.p11 4 9 11 12 13 14 15 16 17 18 19 O)<|zN O<|zN O<|zM (ck O O)<|λa Y=>ax Y U call54 O (vv (by rw[hbo]) (pD lv R (backB sha key q (q.a+lim) t) 57 [pq w9.hz,pq w2.hz] _ call57 (iQ U hlv) (λr wq hm hx=>u0 w9.hz r q (q.a+lim) t key w2.hz w7.hz w3.hz w1.hz wq (((iQ U hlv).2 r hm).grow hx) (hRp r hm) om (dm (U.g 3 O) hx) (dm (U.g 1 O) hx) (dm (U.g 2 O) hx) (dm (U.g 4 O) hx) (dm (U.g 0 O) hx) (dm (U.keepb hk0) hx)))) λa w13 Y U=>nv Y<|zN O<|zM (ak O O)<|zM (ak O O)<|zO O<|zO O<|λa Y=>G8 ?_
 replace U:=U.k4 30 O
 refine ah λ_ G9=>aw<|aa λ_ G10=>nv (Y.p10 9 11 12 13 14 15 18 19 20 21 O)<|zN O<|zN O<|λa Y=>?_
 rcases zX (bo.isSome) with hb6|hb6
 ·rw[hb6] at Y
  refine nv Y<|zP (au O)<|zP (bB O)<|zP (au O)<|λa Y=>?_
  rcases zX (!ko.isSome) with hb7|hb7
  ·rw[hb7] at Y
   try simp only[qz] at hb7
   refine nv Y<|zQ<|zQ<|zQ<|zP (ay O O)<|zM (ay O O)<|zO O<|λa Y=>G10 ?_
   replace Y:=Y.p10 9 11 12 13 14 15 18 19 20 66 O
   replace U:=U.k3 7 O
   refine aM Y O ?_
   refine aa λ_ G11=>nv Y<|zN O<|zO O<|zO O<|zO O<|λa Y=>G11 ?_
   replace Y:=Y.p4 9 12 13 14 O
   replace U:=U.k1 4 O
   refine aq<|am Y results17 (ae O (ae O (ae O ag))) ?_
   refine⟨?_,U.ext⟩
   simp only[retv]
   unfold stateH
   rw[hko,hbo,show pickS ko bo q (q.a+lim) t=(3,bo.getD 0) from by first|exact fw (ko:=ko) (bo:=bo) BT BT|exact fy (ko:=ko) (bo:=bo) BT BT om|exact fm (ko:=ko) (bo:=bo) BT BT|exact fg (ko:=ko) (bo:=bo) BT BT om|exact gj (ko:=ko) (bo:=bo) BT BT om|exact gp (ko:=ko) (bo:=bo) BT BT om|exact Bool.noConfusion ((show ko.isSome=true by assumption).symm.trans (show ko.isSome=false by assumption))]
   try rfl
  rw[hb7] at Y
  try simp only[qz] at hb7
  refine nv Y<|zP (au O)<|zP (au O)<|zP (v_le O O)<|zP (al O O)<|zM (ay O O)<|zO O<|λa Y=>G10 ?_
  replace Y:=Y.p10 9 11 12 13 14 15 18 19 20 66 O
  replace U:=U.k3 7 O
  refine az Y O (λhc8=>?_) (λhc8=>?_)
  ·refine aa λ_ G12=>nv Y<|zN O<|zO O<|zO O<|zO O<|λa Y=>G12 ?_
   replace Y:=Y.p4 9 12 13 14 O
   replace U:=U.k1 4 O
   refine aq<|am Y results17 (ae O (ae O (ae O ag))) ?_
   refine⟨?_,U.ext⟩
   simp only[retv]
   unfold stateH
   rw[hko,hbo,show pickS ko bo q (q.a+lim) t=(3,bo.getD 0) from by first|exact fw (ko:=ko) (bo:=bo) BT BT|exact fy (ko:=ko) (bo:=bo) BT BT om|exact fm (ko:=ko) (bo:=bo) BT BT|exact fg (ko:=ko) (bo:=bo) BT BT om|exact gj (ko:=ko) (bo:=bo) BT BT om|exact gp (ko:=ko) (bo:=bo) BT BT om|exact Bool.noConfusion ((show ko.isSome=true by assumption).symm.trans (show ko.isSome=false by assumption))]
   try rfl
  refine aa λ_ G13=>nv Y<|zN O<|zO O<|λa Y=>G13<|bF Y O (λhc9=>?_) (λhc9=>?_)
  ·refine aa λ_ G14=>nv Y<|zN O<|zO O<|zO O<|zO O<|λa Y=>G14 ?_
   replace Y:=Y.p4 9 12 13 14 O
   replace U:=U.k1 4 O
   refine aq<|am Y results17 (ae O (ae O (ae O ag))) ?_
   refine⟨?_,U.ext⟩
   simp only[retv]
   unfold stateH
   rw[hko,hbo,show pickS ko bo q (q.a+lim) t=(2,ko.getD 0) from by first|exact fw (ko:=ko) (bo:=bo) BT BT|exact fy (ko:=ko) (bo:=bo) BT BT om|exact fm (ko:=ko) (bo:=bo) BT BT|exact fg (ko:=ko) (bo:=bo) BT BT om|exact gj (ko:=ko) (bo:=bo) BT BT om|exact gp (ko:=ko) (bo:=bo) BT BT om|exact Bool.noConfusion ((show ko.isSome=true by assumption).symm.trans (show ko.isSome=false by assumption))]
   try rfl
  refine aa λ_ G15=>nv Y<|zM (ld U 1 O O (isAgg3 _) O)<|zM (ld U 0 O O (isAgg3 _) O)<|zM (v_ge O O)<|zO O<|λa Y=>G15 ?_
  replace Y:=Y.p6 9 12 13 14 15 81 O
  replace U:=U.k2 5 O
  refine az Y O (λhc10=>?_) (λhc10=>?_)
  ·refine ah λ_ G16=>aH (aI λw14 hxz=>?_)
   replace U:=U.grow hxz
   refine aQ (k:=0) 2 [0,1] Y ?_
   refine bI 2 (Y.p4 9 13 14 15 O) U<|pl_w (λU=>ld U 0 O O (isAgg3 _) O)<|pl_v (bX O) λa w15 Y U=>?_
   replace Y:=Y.p3 9 85 12 O
   refine ab<|aJ (k:=2) 4 [3] ?_
   refine nv Y<|zO O<|zO O<|λa Y=>ab<|aR<|G16<|aq<|am Y results17 (ae O (ae O (ae O ag))) ?_
   refine⟨?_,U.ext⟩
   simp only[retv]
   unfold stateH
   rw[hko,hbo,show pickS ko bo q (q.a+lim) t=(3,q.a+lim) from by first|exact fw (ko:=ko) (bo:=bo) BT BT|exact fy (ko:=ko) (bo:=bo) BT BT om|exact fm (ko:=ko) (bo:=bo) BT BT|exact fg (ko:=ko) (bo:=bo) BT BT om|exact gj (ko:=ko) (bo:=bo) BT BT om|exact gp (ko:=ko) (bo:=bo) BT BT om|exact Bool.noConfusion ((show ko.isSome=true by assumption).symm.trans (show ko.isSome=false by assumption))]
   try rfl
  refine ar<|G9<|ah λ_ G17=>aH (aI λw16 hxz=>?_)
  replace U:=U.grow hxz
  refine aQ (k:=0) 3 [1,2] Y ?_
  refine bI 3 (Y.p4 9 13 14 15 O) U<|pl_v (ac (v:=po w2.hz 4) O kr)<|pl_w (λU=>ld U 1 O O (isAgg3 _) O)<|pl_v (bX O) λa w17 Y U=>?_
  replace Y:=Y.p2 87 12 O
  refine ab<|aJ (k:=3) 5 [4] ?_
  refine nv Y<|zO O<|zO O<|λa Y=>ab<|aR<|G17<|aq<|am Y results17 (ae O (ae O (ae O ag))) ?_
  refine⟨?_,U.ext⟩
  simp only[retv]
  unfold stateH
  rw[hko,hbo,show pickS ko bo q (q.a+lim) t=(1,q.a) from by first|exact fw (ko:=ko) (bo:=bo) BT BT|exact fy (ko:=ko) (bo:=bo) BT BT om|exact fm (ko:=ko) (bo:=bo) BT BT|exact fg (ko:=ko) (bo:=bo) BT BT om|exact gj (ko:=ko) (bo:=bo) BT BT om|exact gp (ko:=ko) (bo:=bo) BT BT om|exact Bool.noConfusion ((show ko.isSome=true by assumption).symm.trans (show ko.isSome=false by assumption))]
  try rfl
 rw[hb6] at Y
 refine nv Y<|zQ<|zQ<|zQ<|λa Y=>cf Y λa Y=>cf Y λa Y=>cf Y λa Y=>nv Y<|zQ<|zM (al O O)<|zO O<|λa Y=>G10 ?_
 replace Y:=Y.p10 9 11 12 13 14 15 18 19 20 66 O
 replace U:=U.k3 7 O
 refine aG Y O ?_
 refine aa λ_ G18=>nv Y<|zN O<|zO O<|λa Y=>G18<|bF Y O (λhc11=>?_) (λhc11=>?_)
 ·refine aa λ_ G19=>nv Y<|zN O<|zO O<|zO O<|zO O<|λa Y=>G19 ?_
  replace Y:=Y.p4 9 12 13 14 O
  replace U:=U.k1 4 O
  refine aq<|am Y results17 (ae O (ae O (ae O ag))) ?_
  refine⟨?_,U.ext⟩
  simp only[retv]
  unfold stateH
  rw[hko,hbo,show pickS ko bo q (q.a+lim) t=(2,ko.getD 0) from by first|exact fw (ko:=ko) (bo:=bo) BT BT|exact fy (ko:=ko) (bo:=bo) BT BT om|exact fm (ko:=ko) (bo:=bo) BT BT|exact fg (ko:=ko) (bo:=bo) BT BT om|exact gj (ko:=ko) (bo:=bo) BT BT om|exact gp (ko:=ko) (bo:=bo) BT BT om|exact Bool.noConfusion ((show ko.isSome=true by assumption).symm.trans (show ko.isSome=false by assumption))]
  try rfl
 refine aa λ_ G20=>nv Y<|zM (ld U 1 O O (isAgg3 _) O)<|zM (ld U 0 O O (isAgg3 _) O)<|zM (v_ge O O)<|zO O<|λa Y=>G20 ?_
 replace Y:=Y.p6 9 12 13 14 15 81 O
 replace U:=U.k2 5 O
 refine az Y O (λhc12=>?_) (λhc12=>?_)
 ·refine ah λ_ G21=>aH (aI λw18 hxz=>?_)
  replace U:=U.grow hxz
  refine aQ (k:=0) 2 [0,1] Y ?_
  refine bI 2 (Y.p4 9 13 14 15 O) U<|pl_w (λU=>ld U 0 O O (isAgg3 _) O)<|pl_v (bX O) λa w19 Y U=>?_
  replace Y:=Y.p3 9 85 12 O
  refine ab<|aJ (k:=2) 4 [3] ?_
  refine nv Y<|zO O<|zO O<|λa Y=>ab<|aR<|G21<|aq<|am Y results17 (ae O (ae O (ae O ag))) ?_
  refine⟨?_,U.ext⟩
  simp only[retv]
  unfold stateH
  rw[hko,hbo,show pickS ko bo q (q.a+lim) t=(3,q.a+lim) from by first|exact fw (ko:=ko) (bo:=bo) BT BT|exact fy (ko:=ko) (bo:=bo) BT BT om|exact fm (ko:=ko) (bo:=bo) BT BT|exact fg (ko:=ko) (bo:=bo) BT BT om|exact gj (ko:=ko) (bo:=bo) BT BT om|exact gp (ko:=ko) (bo:=bo) BT BT om|exact Bool.noConfusion ((show ko.isSome=true by assumption).symm.trans (show ko.isSome=false by assumption))]
  try rfl
 refine ar<|G9<|ah λ_ G22=>aH (aI λw20 hxz=>?_)
 replace U:=U.grow hxz
 refine aQ (k:=0) 3 [1,2] Y ?_
 refine bI 3 (Y.p4 9 13 14 15 O) U<|pl_v (ac (v:=po w2.hz 4) O kr)<|pl_w (λU=>ld U 1 O O (isAgg3 _) O)<|pl_v (bX O) λa w21 Y U=>?_
 replace Y:=Y.p2 87 12 O
 refine ab<|aJ (k:=3) 5 [4] ?_
 refine nv Y<|zO O<|zO O<|λa Y=>ab<|aR<|G22<|aq<|am Y results17 (ae O (ae O (ae O ag))) ?_
 refine⟨?_,U.ext⟩
 simp only[retv]
 unfold stateH
 rw[hko,hbo,show pickS ko bo q (q.a+lim) t=(1,q.a) from by first|exact fw (ko:=ko) (bo:=bo) BT BT|exact fy (ko:=ko) (bo:=bo) BT BT om|exact fm (ko:=ko) (bo:=bo) BT BT|exact fg (ko:=ko) (bo:=bo) BT BT om|exact gj (ko:=ko) (bo:=bo) BT BT om|exact gp (ko:=ko) (bo:=bo) BT BT om|exact Bool.noConfusion ((show ko.isSome=true by assumption).symm.trans (show ko.isSome=false by assumption))]
 try rfl
def keyG (c:Int):By:=List.replicate 32 (UInt8.ofNat ((100+c)%256).toNat)
theorem fJ (c:Int):(keyG c).length=32:=by unfold keyG; simp
theorem nw {n m:Int} (hm:m<n):∀{l:List Int} {p:Int},p<m→ascI m p l=true→ascI n p (l++[m])=true
 | [],p,hp,h=>by rw[Az,ascI,zU hp,zU hm]; rfl
 | i::l,p,hp,h=>by
  rw[ascI,zT,zT,zZ,zZ] at h
  rw[AN,ascI,zU h.1.1,zU (by omega:i<n),nw hm h.1.2 h.2]; rfl
theorem nP {n m:Int} (hm:m≤n):∀{l:List Int} {p:Int},ascI m p l=true→ascI n p l=true
 | [],p,h=>rfl
 | i::l,p,h=>by
  rw[ascI,zT,zT,zZ,zZ] at h
  rw[ascI,zU h.1.1,zU (by omega:i<n),nP hm h.2]; rfl
theorem yX {es:List By} {k:Nat} (hk:k<es.length) (h:¬1000<(es.getD k []).length) (ha:∀s∈es.take k,s.length≤1000):∀s∈es.take (k+1),s.length≤1000:=by
 rw[cH [] hk]
 exact bT ha om
theorem tJ (n m:Int) (w0:World) (hn: -9223372036854775808≤n∧n≤9223372036854775807) (hm:0<m∧m≤9223372036854775807):
  Ret Tryz.prog 77 #[jv n,jv m] w0 λv w=>v=jv (pickI n m)∧Ext No w0 w:=by
 refine BF func77 O ntmps77 (lb O) λa Y U=>?_
 refine aa λ_ G1=>wla Y O λa Y=>G1<|ah λ_ G2=>?_
 refine aa λ_ G3=>nv Y<|zN O<|zM (v_lt O O)<|λa Y=>G3<|az Y O (λhc1=>?_) (λhc1=>?_)
 ·refine aj<|nv Y<|zN O<|zM (aL O O ⟨om,om⟩)<|zM (j2 O om om)<|zO O<|λa Y=>ab<|G2<|aa λ_ G4=>nv Y<|zN O<|zN O<|zM (fx O O om om)<|zO O<|λa Y=>G4 ?_
  replace Y:=Y.p1 4 O
  refine aq<|am Y results77 (ae O ag) ?_
  exact⟨by simp only[retv,pickI]; simp[hc1],U.ext⟩
 refine ar<|G2<|aa λ_ G5=>nv Y<|zN O<|zN O<|zM (fx O O om om)<|zO O<|λa Y=>G5 ?_
 replace Y:=Y.p1 4 O
 refine aq<|am Y results77 (ae O ag) ?_
 exact⟨by simp only[retv,pickI]; simp[hc1],U.ext⟩
theorem bO (n m:Int) (w0:World) (hn: -9223372036854775808≤n∧n≤9223372036854775807) (hm:0<m∧m≤9223372036854775807):
  Ret Tryz.prog 44 #[jv n,jv m] w0 λv w=>v=jv (pickI n m)∧Ext No w0 w:=by
 refine BF func44 O ntmps44 (lb O) λa Y U=>?_
 refine aa λ_ G1=>wla Y O λa Y=>G1<|ah λ_ G2=>?_
 refine aa λ_ G3=>nv Y<|zN O<|zM (v_lt O O)<|λa Y=>G3<|az Y O (λhc1=>?_) (λhc1=>?_)
 ·refine aj<|nv Y<|zN O<|zM (aL O O ⟨om,om⟩)<|zM (j2 O om om)<|zO O<|λa Y=>ab<|G2<|aa λ_ G4=>nv Y<|zN O<|zN O<|zM (fx O O om om)<|zO O<|λa Y=>G4 ?_
  replace Y:=Y.p1 4 O
  refine aq<|am Y results44 (ae O ag) ?_
  exact⟨by simp only[retv,pickI]; simp[hc1],U.ext⟩
 refine ar<|G2<|aa λ_ G5=>nv Y<|zN O<|zN O<|zM (fx O O om om)<|zO O<|λa Y=>G5 ?_
 replace Y:=Y.p1 4 O
 refine aq<|am Y results44 (ae O ag) ?_
 exact⟨by simp only[retv,pickI]; simp[hc1],U.ext⟩
theorem ge (n m:Int) (w0:World) (hn: -9223372036854775808≤n∧n≤9223372036854775807) (hm:0<m∧m≤9223372036854775807):
  Ret Tryz.prog 16 #[jv n,jv m] w0 λv w=>v=jv (pickI n m)∧Ext No w0 w:=by
 refine BF func16 O ntmps16 (lb O) λa Y U=>?_
 refine aa λ_ G1=>wla Y O λa Y=>G1<|ah λ_ G2=>?_
 refine aa λ_ G3=>nv Y<|zN O<|zM (v_lt O O)<|λa Y=>G3<|az Y O (λhc1=>?_) (λhc1=>?_)
 ·refine aj<|nv Y<|zN O<|zM (aL O O ⟨om,om⟩)<|zM (j2 O om om)<|zO O<|λa Y=>ab<|G2<|aa λ_ G4=>nv Y<|zN O<|zN O<|zM (fx O O om om)<|zO O<|λa Y=>G4 ?_
  replace Y:=Y.p1 4 O
  refine aq<|am Y results16 (ae O ag) ?_
  exact⟨by simp only[retv,pickI]; simp[hc1],U.ext⟩
 refine ar<|G2<|aa λ_ G5=>nv Y<|zN O<|zN O<|zM (fx O O om om)<|zO O<|λa Y=>G5 ?_
 replace Y:=Y.p1 4 O
 refine aq<|am Y results16 (ae O ag) ?_
 exact⟨by simp only[retv,pickI]; simp[hc1],U.ext⟩
theorem jd (h:Int) (w0:World) (hb:0≤h∧h≤1000):
  Ret Tryz.prog 13 #[jv h] w0 λv w=>v=sv (keyG h)∧Ext No w0 w:=by
 refine BG func13 O ntmps13 (lb O) λa Y U=>?_
 refine aa λ_ G1=>wla Y O λa Y=>G1<|aa λ_ G2=>?_
 refine jt (n:=32) (E:=5) (sz:=1) O O ((kfill (UInt8.ofNat ((100+h)%256).toNat) 0).map λb=>[yv b]) kr C9 (by simp[kfill]) de de Y U λa w1 Y U=>?_
 refine wla Y O λa Y=>G2<|ah λ_ G3=>?_
 refine aa λ_ G4=>wla Y O λa Y=>G4<|aw ?_
 refine aZ (λm a w=>∃(k:Nat),m=32- k∧(k≤32)∧Fr 20 [(0,jv h),(2,sv ([])),(3,(.slice (some ⟨w0.hz,0,none⟩) 32 32)),(4,jv (k:Int))] [] a∧St No w0 [own (.slice (some ⟨w0.hz,0,none⟩) 32 32) 5 1 ((kfill (UInt8.ofNat ((100+h)%256).toNat) k).map λb=>[yv b])] w) _ ⟨0,O,Ah _,Y.pick [0,2,3,4],U⟩ ?_
 rintro _ a w2 ⟨k,rfl,hk,Y,U⟩
 refine ah λ_ G5=>aa λ_ G6=>nv Y<|zN O<|zN O<|zM ((aK (sT:=60) (U.ow 0 O) O O (runUnderlying60 _)).asi (m':=32) (by rw[zR,eN om]; rfl))<|zM (v_lt O O)<|λa Y=>G6<|az Y O (λhc1=>?_) (λhc1=>?_)
 ·have hk2:k<32:=by omega
  refine ar<|G5<|ah λ_ G7=>aw<|aj<|nv Y<|zN O<|zN O<|zN O<|zM (aL O O ⟨om,om⟩)<|zM (lj (n:=100+h) O kr underlying5)<|zM ((ai (i:=(k:Int)) (sT:=60) (U.ow 0 O) O O (runUnderlying60 _) (sizeOf5 _) om DD).as (v':=slAddr (.slice (some ⟨w0.hz,0,none⟩) 32 32) (k*1)) O)<|λa Y=>kc (k:=k) (us:=[yv (UInt8.ofNat ((100+h)%256).toNat)]) 0 Y U O O O DD om (sizeOf5 _) O (by first|rfl|simp[Value.oneCell',yv,wv,sv]) O O λa w3 Y U=>ab<|G7 ?_
  refine aj<|nv (Y.p4 0 2 3 4 O)<|zN O<|zM (aL O O ⟨om,om⟩)<|zO O<|λa Y=>ab ?_
  rw[show ((kfill (UInt8.ofNat ((100+h)%256).toNat) k).map λb=>[yv b]).set k [yv (UInt8.ofNat ((100+h)%256).toNat)]=((kfill (UInt8.ofNat ((100+h)%256).toNat) (k+1)).map λb=>[yv b]) from by rw[←nA hk2,Bx]] at U
  refine⟨_,?_,k+1,O,om,Y.pick [0,2,3,4],U⟩
  omega
 obtain rfl:k=32:=by omega
 refine aP<|G3<|aa λ_ G8=>nv Y<|zN O<|zM (eY (U.ow 0 O) O underlying60 underlying5 underlying9)<|zO O<|λa Y=>G8 ?_
 replace Y:=Y.p1 2 O
 replace U:=U.k0 0 O
 refine aq<|am Y results13 (ae O ag) ?_
 exact⟨by rw[nq]; rfl,U.ext⟩
theorem qf (bits:Int) (n:Nat) (w0:World) (hbi:i64 bits) (hn:n≤60):
  Ret Tryz.prog 28 #[jv bits,jv (n:Int)] w0 (MemR w0 (λx:Value × List Int=>x.1) (λx=>[own x.1 3 1 (x.2.map λz:Int=>[jv z])]) (λx=>ascI (n:Int) (-1) x.2=true∧x.2.length≤n)):=by
 obtain⟨pb,hpb⟩:∃m:Nat,pickI bits 65536=(m:Int):=⟨_,(Bd (ba bits (n:=65536) de).1).symm⟩
 refine BF func28 O ntmps28 (lb O) λa Y U=>?_
 refine aa λ_ G1=>wla Y O λa Y=>G1<|aa λ_ G2=>?_
 refine wla Y O λa Y=>G2<|ah λ_ G3=>?_
 refine aa λ_ G4=>wla Y O λa Y=>G4<|aw ?_
 replace U:St No w0 [own (.slice none 0 0) 3 1 (([]).map λn=>[jv n])] w0:=U.nil_own
 refine aZ (λm a w=>∃(k:Nat) (v:Value) (l:List Int),m=n- k∧(k≤n)∧(ascI (k:Int) (-1) l=true)∧(l.length≤k)∧Fr 23 [(0,jv bits),(1,jv (n:Int)),(4,.slice none 0 0),(5,v),(6,jv (k:Int))] [] a∧St No w0 [own v 3 1 ((l).map λn=>[jv n])] w) _ ⟨0,.slice none 0 0,[],O,Ah _,O,Ay _,Y.pick [0,1,4,5,6],U.select [0] de⟩ ?_
 rintro _ a w1 ⟨k,v,l,rfl,hk,hl,hll,Y,U⟩
 refine ah λ_ G5=>aa λ_ G6=>nv Y<|zN O<|zN O<|zM (v_lt O O)<|λa Y=>G6<|az Y O (λhc1=>?_) (λhc1=>?_)
 ·refine ar<|G5<|ah λ_ G7=>aw<|aa λ_ G8=>wlm Y O λa Y=>ax Y U call77 O (g7 hpb (tJ bits 65536 _ hbi de)) λa w2 Y U=>nv Y<|zN O<|zM (qO (m:=pb) (n:=k) O O om)<|zM (fx O O (Int.natCast_nonneg _) de)<|zM (v_eq O O)<|λa Y=>G8 ?_
  replace Y:=Y.p6 0 1 4 5 6 17 O
  refine az Y O (λhc2=>?_) (λhc2=>?_)
  ·refine aj<|nv Y<|zN O<|zN O<|λa Y=>aD (E:=3) (sz:=1) O [[jv (k:Int)]] kr sm O de de Y U λa w3 Y U=>aY (i:=1) (sT:=24) (inf:=Tryz.t3) (z:=jv 0) (b:=0) (off:=0) (m:=0) (c:=0) O O O (U.ow 0 O) sm underlying24 O O O O de BS BU BU de Y U λa w4 s3 Y U _=>wla Y O λa Y=>ab<|G7<|aj<|nv Y<|zN O<|zM (aL O O ⟨om,om⟩)<|zO O<|λa Y=>ab ?_
   replace U:St No w0 [own (.slice (some ⟨w2.hz,0,none⟩) 1 1) 3 1 ([[jv (k:Int)]]),own s3 3 1 (((l++[(k:Int)])).map λn=>[jv n])] w4:=by rw[show (((l++[(k:Int)])).map λn=>[jv n])=((l).map λn=>[jv n])++([[jv (k:Int)]]) from by rw[AH]; rfl]; exact U
   refine⟨_,?_,k+1,s3,(l++[(k:Int)]),O,om,(nw om om hl),(by rw[zS]; simp; omega),Y.pick [0,1,4,5,6],U.select [1] de⟩
   omega
  refine ar<|G7<|aj<|nv Y<|zN O<|zM (aL O O ⟨om,om⟩)<|zO O<|λa Y=>ab ?_
  refine⟨_,?_,k+1,v,l,O,om,(nP om hl),om,Y.pick [0,1,4,5,6],U.select [0] de⟩
  omega
 refine aP<|G3<|aa λ_ G9=>nv Y<|zN O<|zO O<|λa Y=>G9 ?_
 replace Y:=Y.p1 4 O
 refine aq<|am Y results28 (ae O ag) ?_
 have hkn:k=n:=by omega
 subst hkn
 exact⟨(v,l),O,⟨hl,hll⟩,U.ext,St.out (E:=[own v 3 1 (l.map λz:Int=>[jv z])]) (H:=[]) U⟩
theorem kL (n lo hi:Int) (w0:World):
  Ret Tryz.prog 111 #[jv n,jv lo,jv hi] w0 λv w=>v=.bool (inB n lo hi)∧Ext No w0 w:=by
 refine BH func111 O ntmps111 (lb O) λa Y U=>?_
 refine aa λ_ G1=>wla Y O λa Y=>G1<|aa λ_ G2=>?_
 refine nv Y<|zN O<|zN O<|zM (v_ge O O)<|zN O<|λa Y=>dh (N:=15) (df:=[]) 4 [(14,.bool ((decide (lo≤n))&&(decide (n≤hi)))),(0,jv n),(1,jv lo),(2,jv hi),(6,.bool false)] ?_ (λhj=>?_)
 rotate_left
 ·rcases zX (decide (lo≤n)) with hb1|hb1
  ·rw[hb1] at Y
   have hb1b:=hb1
   try simp only[qz,zT,An,Af,Ao] at hb1
   refine nv Y<|zP (au O)<|zP (au O)<|zP (v_le O O)<|zM (ay O O)<|λa Y=>hj _ ?_
   try rw[hb1b]
   exact Y.pick [14,0,1,2,6]
  rw[hb1] at Y
  have hb1b:=hb1
  try simp only[qz,zT,An,Af,Ao] at hb1
  refine nv Y<|zQ<|zQ<|zQ<|zM (al O O)<|λa Y=>hj _ ?_
  try rw[hb1b]
  exact Y.pick [14,0,1,2,6]
 intro a Y
 refine wla Y O λa Y=>G2<|aq ?_
 refine am Y results111 (ae O ag) ?_
 exact⟨by simp only[retv]; unfold inB; rfl,U.ext⟩
theorem pZ {c:Int} {es:List By} (h1:inB c 0 7=true) (h2:es.length≤60) (h3:∀s∈es,s.length≤1000):regOk c es=true:=by
 unfold regOk
 rw[h1,zU h2]
 simp only[A8,AG,A5,longE,zZ]
 exact λs hs=>by have:=h3 s hs; omega
theorem rO {c:Int} {es:List By} {s:By} (h:s∈es) (hl:1000<s.length):regOk c es=false:=by
 rw[Bool.eq_false_iff]; intro hr; have:=(dB hr).2.2.2 s h; omega
theorem rC {c:Int} {es:List By} (h:60<es.length):regOk c es=false:=by
 rw[Bool.eq_false_iff]; intro hr; have:=(dB hr).2.2.1; omega
theorem uj {c:Int} {es:List By} (h:inB c 0 7=false):regOk c es=false:=by unfold regOk; rw[h]; rfl
theorem pa (c:Int) (ev:Value) (es:List By) (w0:World) (hev:SlAt w0 ev 1 (es.map λs=>[sv s])):
  Ret Tryz.prog 154 #[.agg #[jv c,ev]] w0 λv w=>v=.bool (regOk c es)∧Ext No w0 w:=by
 have hxb:=hev.2.1
 simp only[zR,big] at hxb
 refine BG func154 O ntmps154 (lb O) λa Y U=>?_
 refine aa λ_ G1=>aS Y U O [jv c,ev] O λa w1 Y U=>wla Y O λa Y=>G1<|ah λ_ G2=>?_
 refine aa λ_ G3=>nv Y<|zM (ac (v:=pq w0.hz) O kr)<|zM (ld U 0 O O (isAgg3 _) O)<|λa Y=>ax Y U call111 O (kL c 0 7 _) λa w2 Y U=>nv Y<|zM (bB O)<|zN O<|λa Y=>?_
 rcases zX (!(inB c 0 7)) with hb1|hb1
 ·rw[hb1] at Y
  try simp only[qz] at hb1
  refine nv Y<|zQ<|zQ<|zQ<|zQ<|zM (ay O O)<|λa Y=>G3 ?_
  replace Y:=Y.p3 1 2 13 O
  refine aM Y O ?_
  refine aa λ_ G4=>wla Y O λa Y=>G4<|aq ?_
  refine am Y results154 (ae O ag) ?_
  refine⟨?_,U.ext⟩
  simp only[retv]
  refine Ap Value.bool ?_
  symm
  exact uj (by simpa using hb1)
 rw[hb1] at Y
 try simp only[qz] at hb1
 refine nv Y<|zP (ac (v:=po w0.hz 1) O kr)<|zP (ld U 0 O O (isAgg44 _) O)<|zP ((aK (sT:=44) (U.arg hev) O O (runUnderlying44 _)).asi (m':=(es.length:Int)) B9)<|zP (v_gt O O)<|zM (al O O)<|λa Y=>G3 ?_
 replace Y:=Y.p3 1 2 13 O
 refine az Y O (λhc2=>?_) (λhc2=>?_)
 ·refine aa λ_ G5=>wla Y O λa Y=>G5<|aq ?_
  refine am Y results154 (ae O ag) ?_
  refine⟨?_,U.ext⟩
  simp only[retv]
  refine Ap Value.bool ?_
  symm
  exact rC om
 refine ar<|G2<|ah λ_ G6=>aa λ_ G7=>wla Y O λa Y=>G7<|aw ?_
 refine aZ (λm a w=>∃(k:Nat),m=es.length- k∧(k≤es.length)∧(∀s∈es.take k,s.length≤1000)∧Fr 28 [(1,pq w0.hz),(3,jv (k:Int))] [] a∧St No w0 [blk w0.hz [jv c,ev] 75] w) _ ⟨0,O,Ah _,sm,Y.pick [1,3],U.select [0] de⟩ ?_
 rintro _ a w3 ⟨k,rfl,hk,ha,Y,U⟩
 refine ah λ_ G8=>aa λ_ G9=>nv Y<|zN O<|zM (ac (v:=po w0.hz 1) O kr)<|zM (ld U 0 O O (isAgg44 _) O)<|zM ((aK (sT:=44) (U.arg hev) O O (runUnderlying44 _)).asi (m':=(es.length:Int)) B9)<|zM (v_lt O O)<|λa Y=>G9<|az Y O (λhc3=>?_) (λhc3=>?_)
 ·have hkx:k<es.length:=by omega
  refine ar<|G8<|ah λ_ G10=>aw<|aa λ_ G11=>nv Y<|zM (ac (v:=po w0.hz 1) O kr)<|zM (ld U 0 O O (isAgg44 _) O)<|zN O<|zM ((ai (i:=(k:Int)) (sT:=44) (U.arg hev) O O (runUnderlying44 _) (sizeOf9 _) om BQ).as (v':=slAddr ev (k*1)) O)<|zM (aA (u:=sv ((es).getD k [])) (i:=k) (j:=0) (U.arg hev) BQ O (isAgg9 _) CQ)<|zM (bp O O (runUnderlying9 _))<|zM (v_gt O O)<|λa Y=>G11 ?_
  replace Y:=Y.p3 1 3 27 O
  refine az Y O (λhc4=>?_) (λhc4=>?_)
  ·refine aa λ_ G12=>wla Y O λa Y=>G12<|aq ?_
   refine am Y results154 (ae O ag) ?_
   refine⟨?_,U.ext⟩
   simp only[retv]
   refine Ap Value.bool ?_
   symm
   exact rO (bC (d:=([]:By)) hkx) om
  refine ar<|G10<|aj<|nv Y<|zN O<|zM (aL O O ⟨om,om⟩)<|zO O<|λa Y=>ab ?_
  refine⟨_,?_,k+1,O,om,(yX hkx om ha),Y.pick [1,3],U.select [0] de⟩
  omega
 have hke:k=es.length:=by omega
 rw[hke,List.take_length] at ha
 refine aP<|G6<|aa λ_ G13=>wla Y O λa Y=>G13 ?_
 replace Y:=Y.p1 2 O
 replace U:=U.k0 0 O
 refine aq<|am Y results154 (ae O ag) ?_
 refine⟨?_,U.ext⟩
 simp only[retv]
 refine Ap Value.bool ?_
 symm
 refine pZ (by simpa using hb1) om ha
theorem rE (hd:Hd) (w0:World) (hc:0≤hd.c∧hd.c≤1000) (hn:0≤hd.n∧hd.n≤1000) (hr:hd.root.length≤1000):
  Ret Tryz.prog 186 #[.agg #[jv hd.c,jv hd.n,sv hd.root,sv hd.tag]] w0 λv w=>v=sv (hdText hd.c hd.n hd.root)∧Ext No w0 w:=by
 have hp4:=bQ 4
 have hpc:=bQ hd.c
 have hpn:=bQ hd.n
 refine BG func186 O ntmps186 (lb O) λa Y U=>?_
 refine aa λ_ G1=>aS Y U O [jv hd.c,jv hd.n,sv hd.root,sv hd.tag] O λa w1 Y U=>wla Y O λa Y=>G1<|aa λ_ G2=>?_
 refine ax Y U call129 O (dJ 4 _ B4) λa w2 Y U=>nv Y<|zN O<|zM (ak O O)<|zM (ak O O)<|zO O<|zO O<|λa Y=>G2 ?_
 refine aa λ_ G3=>nv (Y.p3 1 2 3 O)<|zM (ac (v:=pq w0.hz) O kr)<|zM (ld U 0 O O (isAgg3 _) O)<|λa Y=>ax Y U call129 O (dJ hd.c _ B4) λa w3 Y U=>nv Y<|zN O<|zM (ak O O)<|zM (ak O O)<|zO O<|zO O<|λa Y=>G3 ?_
 refine aa λ_ G4=>nv (Y.p4 1 2 3 5 O)<|zM (ac (v:=po w0.hz 1) O kr)<|zM (ld U 0 O O (isAgg3 _) O)<|λa Y=>ax Y U call129 O (dJ hd.n _ B4) λa w4 Y U=>nv Y<|zN O<|zM (ak O O)<|zM (ak O O)<|zO O<|zO O<|λa Y=>G4 ?_
 refine aa λ_ G5=>nv (Y.p5 1 2 3 5 7 O)<|zN O<|zN O<|zM (dI O O Cv)<|zN O<|zM (dI O O Cv)<|zM (ac (v:=po w0.hz 2) O kr)<|zM (ld U 0 O O (isAgg9 _) O)<|zM (dI O O Cv)<|zO O<|λa Y=>G5 ?_
 replace Y:=Y.p1 2 O
 replace U:=U.k0 0 O
 refine aq<|am Y results186 (ae O ag) ?_
 exact⟨by simp only[retv]; simp[hdText,puts],U.ext⟩
theorem si (c n:Int) (root:By):(hdText c n root).length≤27+root.length:=by
 have h1:=bQ 4
 have h2:=bQ c
 have h3:=bQ n
 simp only[hdText,puts,AA,Bt,zS,Aa]
 omega
theorem rT (key:By) (hd:Hd) (w0:World) (hc:0≤hd.c∧hd.c≤1000) (hn:0≤hd.n∧hd.n≤1000) (hr:hd.root.length≤1000) (hk:key.length≤40000000):
  Ret Tryz.prog 156 #[sv key,.agg #[jv hd.c,jv hd.n,sv hd.root,sv hd.tag]] w0 λv w=>v=sv (sealR sha key hd.c hd.n hd.root)∧Ext No w0 w:=by
 have hxl:=si hd.c hd.n hd.root
 refine BF func156 O ntmps156 (lb O) λa Y U=>?_
 refine aa λ_ G1=>aS Y U O [jv hd.c,jv hd.n,sv hd.root,sv hd.tag] O λa w1 Y U=>wla Y O λa Y=>G1<|aa λ_ G2=>?_
 refine nv Y<|zN O<|zM (ap (U.g 0 O) O (isAgg47 _) (sizeOf47 _))<|λa Y=>ax Y U call186 O (rE hd _ hc hn om) λa w2 Y U=>ax Y U call36 O (lG (hdText hd.c hd.n hd.root) _ om) λa w3 Y U=>ax Y U call175 O (lK key (leafH sha (hdText hd.c hd.n hd.root)) _ om (by rw[gE dw]; decide)) λa w4 Y U=>wla Y O λa Y=>G2 ?_
 replace Y:=Y.p1 4 O
 replace U:=U.k0 0 O
 refine aq<|am Y results156 (ae O ag) ?_
 exact⟨by rfl,U.ext⟩
theorem qH (key:By) (n:Nat) (hd:Hd) (c:Int) (ev:Value) (es:List By) (w0:World) (hev:SlAt w0 ev 1 (es.map λs=>[sv s])) (hk32:key.length=32) (hr:regOk c es=true) (hn:n≤es.length) (hhd:hdOf sha key c es n=hd):
  Ret Tryz.prog 110 #[sv key,.agg #[jv c,ev],jv (n:Int)] w0 λv w=>v=.tuple #[.agg #[jv hd.c,jv hd.n,sv hd.root,sv hd.tag],jv 0]∧Ext No w0 w:=by
 obtain⟨hrc0,hrc1,hrl,hel⟩:=dB hr
 refine BH func110 O ntmps110 (lb O) λa Y U=>?_
 refine aa λ_ G1=>aS Y U O [jv c,ev] O λa w1 Y U=>aE Y U (zeroValue47 _) [jv 0,jv 0,.string (⟨#[]⟩),.string (⟨#[]⟩)] O λa w2 Y U=>wla Y O λa Y=>G1<|ah λ_ G2=>?_
 refine aa λ_ G3=>nv Y<|zN O<|zM (bp O O (runUnderlying9 _))<|zM (v_ne O O)<|zN O<|λa Y=>?_
 rcases (Decidable.em ((key.length:Int)=32)).symm with hb1|hb1
 ·rw[zW hb1] at Y
  exfalso; omega
 rw[zU hb1] at Y
 refine wly Y (ap (U.g 1 O) O (isAgg75 _) (sizeOf75 _)) λa Y=>aF Y U call154 O (cC hr (pa c ev es _ (U.arg hev))) λa w3 Y U=>nv Y<|zP ((bB O).asb (b':=false) O)<|zM (al O O)<|zN O<|zP (au O)<|zP (ac (v:=po w0.hz 1) O kr)<|zP (ld U 1 O O (isAgg44 _) O)<|zP ((aK (sT:=44) (U.arg hev) O O (runUnderlying44 _)).asi (m':=(es.length:Int)) B9)<|λa Y=>aF Y U call111 O (kL (n:Int) 0 (es.length:Int) _) λa w4 Y U=>nv Y<|zP (bB O)<|zM (al O O)<|λa Y=>G3 ?_
 replace Y:=Y.p6 0 2 4 6 7 24 O
 refine bF Y O (λhc2=>?_) (λhc2=>?_)
 ·try simp only[qz] at hc2
  rw[show inB (n:Int) 0 (es.length:Int)=true from by simp[inB]; omega] at hc2; cases hc2
 try simp only[qz] at hc2
 refine ar<|G2<|ah λ_ G4=>aH (aI λw5 hxz=>?_)
 replace U:=U.grow hxz
 refine aQ (k:=0) 10 [8,9] Y ?_
 replace Y:=Y.p5 0 2 4 6 7 O
 refine bn [9] (λi=>match i with|9=>pm (λb:Nat=>pq b) (λb=>[blk b [jv 0,jv 0,.string (⟨#[]⟩),.string (⟨#[]⟩)] 47]) (λ_=>True)|_=>λ_ _=>False) 10 [[],[0],[],[],[3],[],[4,5],[6],[1,2,7],[]] [pq w0.hz,jv c,jv (n:Int),po w0.hz 1,ev,jv (n:Int),(cut ev 1 0 n (slCap ev)),sv (rootH sha (es.take n)),.agg #[jv c,jv (n:Int),sv (rootH sha (es.take n)),sv ([]:By)],undef] Y U ?_ ?_ ?_
 ·exact BO<|hqv (ac (v:=pq w0.hz) rfl kr)<|hqw (λU=>ld U 1 rfl rfl (isAgg3 _) rfl)<|hqv (au rfl)<|hqv (ac (v:=po w0.hz 1) rfl kr)<|hqw (λU=>ld U 1 rfl rfl (isAgg44 _) rfl)<|hqv (au rfl)<|hqw (λU=>cd (l:=0) (h:=n) (U.arg hev) rfl rfl rfl underlying44 kr (.inl ⟨rfl,rfl⟩) (.inr rfl) (Ah _) B5)<|BM (λ_ _ U=>bD call155 rfl (lf _ (cut ev 1 0 n (slCap ev)) (es.take n) _ rfl ((U.arg hev).cut0 (h:=n) BZ) Cp (λs h=>AD (hel _ (AF h)) de)))<|hqv (aV (v:=.agg #[jv c,jv (n:Int),sv (rootH sha (es.take n)),sv ([]:By)]) rfl kr)<|BM (λh=>absurd sm h)<|BN
 ·intro i hi
  simp only[zY,Ab,As] at hi
  subst hi
  ·intro w U
   exact fi (zeroValue47 _) (cs:=[jv 0,jv 0,.string (⟨#[]⟩),.string (⟨#[]⟩)]) O
 clear Y U
 rintro _ _ ⟨b3,rfl, -,rfl⟩ a w6 Y U
 replace Y:=Y.p5 34 8 0 6 7 O
 replace U:=U.n3 O
 refine ab<|aJ (k:=10) 11 [10] ?_
 refine aB 0 Y U [jv c,jv (n:Int),sv (rootH sha (es.take n)),sv ([]:By)] O (sizeOf47 _) λa w7 Y U=>ab<|aR<|G4 ?_
 replace U:=U.k2 3 O
 refine aa λ_ G5=>nv (Y.p4 0 6 7 8 O)<|zN O<|zM (ap (U.g 0 O) O (isAgg47 _) (sizeOf47 _))<|λa Y=>ax Y U call156 O (rT key (⟨c,(n:Int),rootH sha (es.take n),([]:By)⟩:Hd) _ (show 0≤c∧c≤1000 by omega) (show 0≤(n:Int)∧(n:Int)≤1000 by omega) (by first|exact AD (Nat.le_of_eq (eg dw _)) de|omega) om) λa w8 Y U=>wlv Y (ac (v:=po b3 3) O kr) λa Y=>aB 0 Y U [jv c,jv (n:Int),sv (rootH sha (es.take n)),sv (sealR sha key c (n:Int) (rootH sha (es.take n)))] O (sizeOf9 _) λa w9 Y U=>G5<|aa λ_ G6=>?_
 refine wlv Y (ap (U.g 0 O) O (isAgg47 _) (sizeOf47 _)) λa Y=>aB 1 Y U [jv c,jv (n:Int),sv (rootH sha (es.take n)),sv (sealR sha key c (n:Int) (rootH sha (es.take n)))] O (sizeOf47 _) λa w10 Y U=>wla Y O λa Y=>G6 ?_
 replace Y:=Y.p2 6 7 O
 replace U:=U.k1 2 O
 refine aq<|am Y results110 (ao O (bd (U.g 0 O) (isAgg47 _) (sizeOf47 _)) (ae O ag)) ?_
 subst hhd
 exact⟨O,U.ext⟩
theorem iw (key:By) (n:Nat) (hd:Hd) (lv:Value) (ix:List Int) (c:Int) (ev:Value) (es:List By) (w0:World) (hev:SlAt w0 ev 1 (es.map λs=>[sv s])) (hlv:SlAt w0 lv 1 ((ix).map λn=>[jv n])) (hk32:key.length=32) (hr:regOk c es=true) (hn:n≤es.length) (hix:ascI (n:Int) (-1) ix=true) (hil:ix.length≤1000) (hhd:hdOf sha key c es n=hd):
  Ret Tryz.prog 48 #[sv key,.agg #[jv c,ev],jv (n:Int),lv] w0 (MemR w0 (λx:Value × List Itw=>.tuple #[.agg #[jv hd.c,jv hd.n,sv hd.root,sv hd.tag,x.1],jv 0]) (λx=>[itsE x.1 x.2]) (λx=>itsM x.2=showIs sha es n ix)):=by
 obtain⟨hrc0,hrc1,hrl,hel⟩:=dB hr
 have hxb:=hlv.2.1
 simp only[zR,big] at hxb
 refine BI func48 O ntmps48 (lb O) λa Y U=>?_
 refine aa λ_ G1=>aS Y U O [jv c,ev] O λa w1 Y U=>aE Y U (zeroValue50 _) [jv 0,jv 0,.string (⟨#[]⟩),.string (⟨#[]⟩),.slice none 0 0] O λa w2 Y U=>wla Y O λa Y=>G1<|aa λ_ G2=>?_
 refine nv Y<|zN O<|zM (ap (U.g 1 O) O (isAgg75 _) (sizeOf75 _))<|zN O<|λa Y=>ax Y U call110 O (qH key n hd c ev es _ (U.arg hev) hk32 hr hn hhd) λa w3 Y U=>nv Y<|zN O<|zM (ak O O)<|zM (ak O O)<|λa Y=>aE Y U (zeroValue47 _) [jv 0,jv 0,.string (⟨#[]⟩),.string (⟨#[]⟩)] O λa w4 Y U=>aB 0 Y U [jv hd.c,jv hd.n,sv hd.root,sv hd.tag] O (sizeOf47 _) λa w5 Y U=>wla Y O λa Y=>G2 ?_
 refine ah λ_ G3=>aa λ_ G4=>nv (Y.p7 2 3 5 8 9 10 11 O)<|zN O<|zM ((v_ne O O).asb (b':=false) O)<|λa Y=>G4<|aG Y O ?_
 refine ar<|G3<|aa λ_ G5=>nv Y<|zM (ap (U.g 0 O) O (isAgg47 _) (sizeOf47 _))<|zM (aV (v:=.agg #[jv hd.c,jv hd.n,sv hd.root,sv hd.tag,.slice none 0 0]) O kr)<|λa Y=>aE Y U (zeroValue50 _) [jv 0,jv 0,.string (⟨#[]⟩),.string (⟨#[]⟩),.slice none 0 0] O λa w6 Y U=>aB 0 Y U [jv hd.c,jv hd.n,sv hd.root,sv hd.tag,.slice none 0 0] O (sizeOf50 _) λa w7 Y U=>G5 ?_
 replace U:=U.k3 13 O
 refine ah λ_ G6=>aa λ_ G7=>wla (Y.p6 2 3 5 8 9 12 O) O λa Y=>G7<|aw ?_
 replace U:St No w0 [own (.slice none 0 0) 110 3 (([]).map Itw.cells),blk w5.hz [jv hd.c,jv hd.n,sv hd.root,sv hd.tag,.slice none 0 0] 50,blk w1.hz [jv 0,jv 0,.string (⟨#[]⟩),.string (⟨#[]⟩),.slice none 0 0] 50,blk w0.hz [jv c,ev] 75] w7:=U.nil_own
 replace U:St No w0 [pfsE ([]),own (.slice none 0 0) 110 3 (([]).map Itw.cells),blk w5.hz [jv hd.c,jv hd.n,sv hd.root,sv hd.tag,.slice none 0 0] 50,blk w1.hz [jv 0,jv 0,.string (⟨#[]⟩),.string (⟨#[]⟩),.slice none 0 0] 50,blk w0.hz [jv c,ev] 75] w7:=sI U
 refine aZ (λm a w=>∃(k:Nat) (vi:Value) (L:List Itw),m=ix.length- k∧(k≤ix.length)∧(itsM L=showIs sha es n (ix.take k))∧Fr 91 [(2,jv (n:Int)),(3,lv),(5,pq w0.hz),(8,pq w1.hz),(12,pq w5.hz),(13,jv (k:Int))] [] a∧St No w0 [own vi 110 3 ((L).map Itw.cells),pfsE L,blk w5.hz [jv hd.c,jv hd.n,sv hd.root,sv hd.tag,vi] 50,blk w1.hz [jv 0,jv 0,.string (⟨#[]⟩),.string (⟨#[]⟩),.slice none 0 0] 50,blk w0.hz [jv c,ev] 75] w) _ ⟨0,.slice none 0 0,[],O,Ah _,O,Y.pick [2,3,5,8,12,13],U.select [1,0,2,3,4] de⟩ ?_
 rintro _ a w8 ⟨k,vi,L,rfl,hk,hL,Y,U⟩
 refine ah λ_ G8=>aa λ_ G9=>nv Y<|zN O<|zN O<|zM ((aK (sT:=24) (U.arg hlv) O O (runUnderlying24 _)).asi (m':=(ix.length:Int)) B9)<|zM (v_lt O O)<|λa Y=>G9<|az Y O (λhc1=>?_) (λhc1=>?_)
 ·have hkx:k<ix.length:=by omega
  refine ar<|G8<|ah λ_ G10=>aw<|ah λ_ G11=>ah λ_ G12=>?_
  obtain⟨hia,hib,hic⟩:=oN hix (k:=k) hkx
  obtain⟨iq,hki⟩:∃iq:Nat,ix.getD k 0=(iq:Int):=⟨(ix.getD k 0).toNat,by omega⟩
  rw[hki] at hia hib hic
  refine aH (aI λw9 hxz=>?_)
  replace U:=U.grow hxz
  refine aQ (k:=0) 6 [3,5] Y ?_
  refine bI 6 (Y.p9 2 3 5 8 12 13 28 29 30 O) U<|pl_m O<|pl_m O<|pl_w (λU=>(ai (i:=(k:Int)) (sT:=24) (U.arg hlv) O O (runUnderlying24 _) (sizeOf3 _) om BQ).as (v':=slAddr lv (k*1)) O)<|pl_w (λU=>aA (u:=jv (iq:Int)) (i:=k) (j:=0) (U.arg hlv) BQ O (isAgg3 _) Cw)<|pl_m O<|pl_v (bJ O O ⟨om,om⟩) λa w10 Y U=>?_
  replace Y:=Y.p8 2 3 5 8 12 13 37 39 O
  refine ab<|aJ (k:=6) 12 [11] ?_
  refine ax Y U call111 O (cC (show inB (iq:Int) 0 ((n:Int)- 1)=true from by simp only[inB,zT,zZ]; omega) (kL (iq:Int) 0 ((n:Int)- 1) _)) λa w11 Y U=>nv Y<|zM ((bB O).asb (b':=false) O)<|zN O<|zP (au O)<|zP (v_gt O O)<|zP (au O)<|λa Y=>ab ?_
  rcases Decidable.em (0<(k:Int)) with hb2|hb2
  ·rw[zU hb2] at Y
   have hic:=hic om
   refine aQ (k:=12) 21 [15,20] Y ?_
   replace Y:=Y.p14 2 3 5 8 12 13 37 39 40 41 42 43 44 45 O
   refine bI 9 Y U<|pl_m O<|pl_m O<|pl_w (λU=>(ai (i:=(k:Int)) (sT:=24) (U.arg hlv) O O (runUnderlying24 _) (sizeOf3 _) om BQ).as (v':=slAddr lv (k*1)) O)<|pl_w (λU=>aA (u:=jv (iq:Int)) (i:=k) (j:=0) (U.arg hlv) BQ O (isAgg3 _) Cw)<|pl_m O<|pl_m O<|pl_v (bJ O O ⟨om,om⟩)<|pl_w (λU=>(ai (i:=(k:Int)- 1) (sT:=24) (U.arg hlv) O O (runUnderlying24 _) (sizeOf3 _) om BQ).as (v':=slAddr lv ((k- 1)*1)) Cr) ?_
   refine pl_w (λU=>aA (u:=jv (ix.getD (k- 1) 0)) (i:=(k- 1)) (j:=0) (U.arg hlv) BQ O (isAgg3 _) Ca) λa w12 Y U=>?_
   replace Y:=Y.p10 2 3 5 8 12 13 42 45 49 54 O
   refine ab<|aJ (k:=21) 24 [23] ?_
   refine nv Y<|zP ((v_le O O).asb (b':=false) CI)<|zP (ay O O)<|zM (al O O)<|λa Y=>ab<|aR<|G12 ?_
   replace Y:=Y.p7 2 3 5 8 12 13 57 O
   refine aG Y O ?_
   refine ar<|G11<|ah λ_ G13=>aH (aI λw13 hxz=>?_)
   replace U:=U.grow hxz
   refine aQ (k:=0) 8 [3,7] Y ?_
   refine bI 8 (Y.p7 2 3 5 8 12 13 57 O) U<|pl_v (ac (v:=po w0.hz 1) O kr)<|pl_w (λU=>ld U 4 O O (isAgg44 _) O)<|pl_m O<|pl_w (λU=>cd (l:=0) (h:=n) (U.arg hev) O O O underlying44 kr (.inl ⟨O,O⟩) (.inr O) (Ah _) B5)<|pl_m O<|pl_m O<|pl_w (λU=>(ai (i:=(k:Int)) (sT:=24) (U.arg hlv) O O (runUnderlying24 _) (sizeOf3 _) om BQ).as (v':=slAddr lv (k*1)) O)<|pl_w (λU=>aA (u:=jv (iq:Int)) (i:=k) (j:=0) (U.arg hlv) BQ O (isAgg3 _) Cw) λa w14 Y U=>?_
   replace Y:=Y.p8 2 3 5 8 12 13 63 67 O
   refine ab<|aJ (k:=8) 10 [9] ?_
   refine bf Y U call112 O (mw _ (cut ev 1 0 n (slCap ev)) (es.take n) iq _ O ((U.arg hev).cut0 (h:=n) BZ) Cp Cp (λs h=>AD (hel _ (AF h)) de)) λa w15 x4 hp Y U=>?_
   revert x4 hp Y U; rintro pv3 hp Y U
   clear hp
   replace U:=U.n6 O
   refine wlm Y O λa Y=>ab<|aQ (k:=10) 13 [11,12] Y ?_
   refine bI 3 (Y.p10 2 3 5 8 12 13 63 67 68 59 O) U<|pl_v (ak O O)<|pl_v (ak O O)<|pl_v (bX O) λa w16 Y U=>?_
   replace Y:=Y.p8 2 3 5 8 12 13 70 14 O
   refine ab<|aJ (k:=13) 14 [13] ?_
   refine wla Y O λa Y=>ab<|aR<|G13<|aH (aI λw17 hxz=>?_)
   replace U:=U.grow hxz
   refine aQ (k:=0) 17 [1,16] Y ?_
   replace Y:=Y.p9 2 3 5 8 12 13 70 14 15 O
   refine bn [16] (λi=>match i with|16=>pm (λb:Nat=>.slice (some ⟨b,0,none⟩) 1 1) (λb=>[own (.slice (some ⟨b,0,none⟩) 1 1) 110 3 [[jv (iq:Int),sv ((es).getD iq []),pv3]]]) (λ_=>True)|_=>λ_ _=>False) 17 [[],[0],[],[],[2,3],[4],[],[6],[],[],[8,9],[10],[7,11],[12],[],[5,13,14],[15]] [po w5.hz 4,vi,lv,jv (k:Int),slAddr lv (k*1),jv (iq:Int),po w0.hz 1,ev,lv,jv (k:Int),slAddr lv (k*1),jv (iq:Int),slAddr ev (iq*1),sv ((es).getD iq []),pv3,.agg #[jv (iq:Int),sv ((es).getD iq []),pv3],undef] Y U ?_ ?_ ?_
   ·exact BO<|hqv (ac (v:=po w5.hz 4) rfl kr)<|hqw (λU=>ld U 3 rfl rfl (isAgg48 _) rfl)<|hqv (au rfl)<|hqv (au rfl)<|hqw (λU=>(ai (i:=(k:Int)) (sT:=24) (U.arg hlv) rfl rfl (runUnderlying24 _) (sizeOf3 _) om BQ).as (v':=slAddr lv (k*1)) rfl)<|hqw (λU=>aA (u:=jv (iq:Int)) (i:=k) (j:=0) (U.arg hlv) BQ rfl (isAgg3 _) Cw)<|hqv (ac (v:=po w0.hz 1) rfl kr)<|hqw (λU=>ld U 5 rfl rfl (isAgg44 _) rfl)<|hqv (au rfl)<|hqv (au rfl)<|hqw (λU=>(ai (i:=(k:Int)) (sT:=24) (U.arg hlv) rfl rfl (runUnderlying24 _) (sizeOf3 _) om BQ).as (v':=slAddr lv (k*1)) rfl)<|hqw (λU=>aA (u:=jv (iq:Int)) (i:=k) (j:=0) (U.arg hlv) BQ rfl (isAgg3 _) Cw)<|
     hqw (λU=>(ai (i:=(iq:Int)) (sT:=44) (U.arg hev) rfl rfl (runUnderlying44 _) (sizeOf9 _) om BQ).as (v':=slAddr ev (iq*1)) CC)<|hqw (λU=>aA (u:=sv ((es).getD iq [])) (i:=iq) (j:=0) (U.arg hev) BQ rfl (isAgg9 _) CQ)<|hqv (au rfl)<|hqw (λU=>aV (v:=.agg #[jv (iq:Int),sv ((es).getD iq []),pv3]) rfl Cz)<|BM (λh=>absurd sm h)<|BN
   ·intro i hi
    simp only[zY,Ab,As] at hi
    subst hi
    ·intro w U
     exact bP (E:=110) (sz:=3) O [[jv (iq:Int),sv ((es).getD iq []),pv3]] (λ_=>by obtain⟨_,_,_,e0_⟩:=cT (U.ow 0 rfl); rw[e0_]; kernel_rfl) sm O de
   clear Y U
   rintro _ _ ⟨b5,rfl, -,rfl⟩ a w18 Y U
   replace Y:=Y.p8 72 87 2 3 5 8 12 13 O
   replace U:=U.n7 O
   refine ab<|aJ (k:=17) 20 [19] ?_
   refine aY (i:=2) (sT:=48) (inf:=Tryz.t110) (z:=.agg #[jv 0,.string (⟨#[]⟩),.slice none 0 0]) (b:=0) (off:=0) (m:=0) (c:=0) O O O (U.ow 0 O) sm underlying48 O O O O de Cq BW BW de Y U λa w19 s6 Y U _=>?_
   replace U:St No w0 [own (.slice (some ⟨b5,0,none⟩) 1 1) 110 3 ([[jv (iq:Int),sv ((es).getD iq []),pv3]]),own pv3 9 1 ((proofH sha (es.take n) iq).map λs=>[sv s]),own s6 110 3 (((L++[(⟨⟨(iq:Int),es.getD iq [],proofH sha (es.take n) iq⟩,pv3⟩:Itw)])).map Itw.cells),pfsE L,blk w5.hz [jv hd.c,jv hd.n,sv hd.root,sv hd.tag,vi] 50,blk w1.hz [jv 0,jv 0,.string (⟨#[]⟩),.string (⟨#[]⟩),.slice none 0 0] 50,blk w0.hz [jv c,ev] 75] w19:=by rw[show (((L++[(⟨⟨(iq:Int),es.getD iq [],proofH sha (es.take n) iq⟩,pv3⟩:Itw)])).map Itw.cells)=((L).map Itw.cells)++([[jv (iq:Int),sv ((es).getD iq []),pv3]]) from by rw[AH]; rfl]; exact U
   refine wlv Y (ac (v:=po w5.hz 4) O kr) λa Y=>cb 4 Y U (U.ow 2 O) O O O (sizeOf48 _) (lb O) (ds:=[jv hd.c,jv hd.n,sv hd.root,sv hd.tag,s6]) O O λa w20 Y U=>ab<|aR<|G10 ?_
   replace U:=U.k6 126 O
   refine aj<|nv (Y.p6 2 3 5 8 12 13 O)<|zN O<|zM (aL O O ⟨om,om⟩)<|zO O<|λa Y=>ab ?_
   replace U:=U.s6 [0,2,1,3,4,5] de rfl
   replace U:St No w0 [pfsE (L++[(⟨⟨(iq:Int),es.getD iq [],proofH sha (es.take n) iq⟩,pv3⟩:Itw)]),own s6 110 3 (((L++[(⟨⟨(iq:Int),es.getD iq [],proofH sha (es.take n) iq⟩,pv3⟩:Itw)])).map Itw.cells),blk w5.hz [jv hd.c,jv hd.n,sv hd.root,sv hd.tag,s6] 50,blk w1.hz [jv 0,jv 0,.string (⟨#[]⟩),.string (⟨#[]⟩),.slice none 0 0] 50,blk w0.hz [jv c,ev] 75] w20:=jc ⟨⟨(iq:Int),es.getD iq [],proofH sha (es.take n) iq⟩,pv3⟩ U
   refine⟨_,?_,k+1,s6,(L++[(⟨⟨(iq:Int),es.getD iq [],proofH sha (es.take n) iq⟩,pv3⟩:Itw)]),O,om,(gP hL hkx hki),Y.pick [2,3,5,8,12,13],U.select [1,0,2,3,4] de⟩
   omega
  rw[zW hb2] at Y
  refine dk (k:=12) 21 [15,20] (Y.p14 2 3 5 8 12 13 37 39 40 41 42 43 44 45 O) λa Y=>?_
  replace Y:Fr 91 [(46,undef),(47,undef),(48,undef),(49,undef),(50,undef),(51,undef),(52,undef),(53,undef),(54,undef),(2,jv (n:Int)),(3,lv),(5,pq w0.hz),(8,pq w1.hz),(12,pq w5.hz),(13,jv (k:Int)),(37,jv (iq:Int)),(39,jv ((n:Int)- 1)),(40,.bool true),(41,.bool false),(42,.bool false),(43,jv (k:Int)),(44,.bool false),(45,.bool false)] [] a:=Y
  refine aJ (k:=21) 24 [23] ?_
  refine nv Y<|zQ<|zP (al O O)<|zM (al O O)<|λa Y=>ab<|aR<|G12 ?_
  replace Y:=Y.p7 2 3 5 8 12 13 57 O
  refine aG Y O ?_
  refine ar<|G11<|ah λ_ G14=>aH (aI λw21 hxz=>?_)
  replace U:=U.grow hxz
  refine aQ (k:=0) 8 [3,7] Y ?_
  refine bI 8 (Y.p7 2 3 5 8 12 13 57 O) U<|pl_v (ac (v:=po w0.hz 1) O kr)<|pl_w (λU=>ld U 4 O O (isAgg44 _) O)<|pl_m O<|pl_w (λU=>cd (l:=0) (h:=n) (U.arg hev) O O O underlying44 kr (.inl ⟨O,O⟩) (.inr O) (Ah _) B5)<|pl_m O<|pl_m O<|pl_w (λU=>(ai (i:=(k:Int)) (sT:=24) (U.arg hlv) O O (runUnderlying24 _) (sizeOf3 _) om BQ).as (v':=slAddr lv (k*1)) O)<|pl_w (λU=>aA (u:=jv (iq:Int)) (i:=k) (j:=0) (U.arg hlv) BQ O (isAgg3 _) Cw) λa w22 Y U=>?_
  replace Y:=Y.p8 2 3 5 8 12 13 63 67 O
  refine ab<|aJ (k:=8) 10 [9] ?_
  refine bf Y U call112 O (mw _ (cut ev 1 0 n (slCap ev)) (es.take n) iq _ O ((U.arg hev).cut0 (h:=n) BZ) Cp Cp (λs h=>AD (hel _ (AF h)) de)) λa w23 x8 hp Y U=>?_
  revert x8 hp Y U; rintro pv7 hp Y U
  clear hp
  replace U:=U.n6 O
  refine wlm Y O λa Y=>ab<|aQ (k:=10) 13 [11,12] Y ?_
  refine bI 3 (Y.p10 2 3 5 8 12 13 63 67 68 59 O) U<|pl_v (ak O O)<|pl_v (ak O O)<|pl_v (bX O) λa w24 Y U=>?_
  replace Y:=Y.p8 2 3 5 8 12 13 70 14 O
  refine ab<|aJ (k:=13) 14 [13] ?_
  refine wla Y O λa Y=>ab<|aR<|G14<|aH (aI λw25 hxz=>?_)
  replace U:=U.grow hxz
  refine aQ (k:=0) 17 [1,16] Y ?_
  replace Y:=Y.p9 2 3 5 8 12 13 70 14 15 O
  refine bn [16] (λi=>match i with|16=>pm (λb:Nat=>.slice (some ⟨b,0,none⟩) 1 1) (λb=>[own (.slice (some ⟨b,0,none⟩) 1 1) 110 3 [[jv (iq:Int),sv ((es).getD iq []),pv7]]]) (λ_=>True)|_=>λ_ _=>False) 17 [[],[0],[],[],[2,3],[4],[],[6],[],[],[8,9],[10],[7,11],[12],[],[5,13,14],[15]] [po w5.hz 4,vi,lv,jv (k:Int),slAddr lv (k*1),jv (iq:Int),po w0.hz 1,ev,lv,jv (k:Int),slAddr lv (k*1),jv (iq:Int),slAddr ev (iq*1),sv ((es).getD iq []),pv7,.agg #[jv (iq:Int),sv ((es).getD iq []),pv7],undef] Y U ?_ ?_ ?_
  ·exact BO<|hqv (ac (v:=po w5.hz 4) rfl kr)<|hqw (λU=>ld U 3 rfl rfl (isAgg48 _) rfl)<|hqv (au rfl)<|hqv (au rfl)<|hqw (λU=>(ai (i:=(k:Int)) (sT:=24) (U.arg hlv) rfl rfl (runUnderlying24 _) (sizeOf3 _) om BQ).as (v':=slAddr lv (k*1)) rfl)<|hqw (λU=>aA (u:=jv (iq:Int)) (i:=k) (j:=0) (U.arg hlv) BQ rfl (isAgg3 _) Cw)<|hqv (ac (v:=po w0.hz 1) rfl kr)<|hqw (λU=>ld U 5 rfl rfl (isAgg44 _) rfl)<|hqv (au rfl)<|hqv (au rfl)<|hqw (λU=>(ai (i:=(k:Int)) (sT:=24) (U.arg hlv) rfl rfl (runUnderlying24 _) (sizeOf3 _) om BQ).as (v':=slAddr lv (k*1)) rfl)<|hqw (λU=>aA (u:=jv (iq:Int)) (i:=k) (j:=0) (U.arg hlv) BQ rfl (isAgg3 _) Cw)<|
    hqw (λU=>(ai (i:=(iq:Int)) (sT:=44) (U.arg hev) rfl rfl (runUnderlying44 _) (sizeOf9 _) om BQ).as (v':=slAddr ev (iq*1)) CC)<|hqw (λU=>aA (u:=sv ((es).getD iq [])) (i:=iq) (j:=0) (U.arg hev) BQ rfl (isAgg9 _) CQ)<|hqv (au rfl)<|hqw (λU=>aV (v:=.agg #[jv (iq:Int),sv ((es).getD iq []),pv7]) rfl Cz)<|BM (λh=>absurd sm h)<|BN
  ·intro i hi
   simp only[zY,Ab,As] at hi
   subst hi
   ·intro w U
    exact bP (E:=110) (sz:=3) O [[jv (iq:Int),sv ((es).getD iq []),pv7]] (λ_=>by obtain⟨_,_,_,e0_⟩:=cT (U.ow 0 rfl); rw[e0_]; kernel_rfl) sm O de
  clear Y U
  rintro _ _ ⟨b9,rfl, -,rfl⟩ a w26 Y U
  replace Y:=Y.p8 72 87 2 3 5 8 12 13 O
  replace U:=U.n7 O
  refine ab<|aJ (k:=17) 20 [19] ?_
  refine aY (i:=2) (sT:=48) (inf:=Tryz.t110) (z:=.agg #[jv 0,.string (⟨#[]⟩),.slice none 0 0]) (b:=0) (off:=0) (m:=0) (c:=0) O O O (U.ow 0 O) sm underlying48 O O O O de Cq BW BW de Y U λa w27 s10 Y U _=>?_
  replace U:St No w0 [own (.slice (some ⟨b9,0,none⟩) 1 1) 110 3 ([[jv (iq:Int),sv ((es).getD iq []),pv7]]),own pv7 9 1 ((proofH sha (es.take n) iq).map λs=>[sv s]),own s10 110 3 (((L++[(⟨⟨(iq:Int),es.getD iq [],proofH sha (es.take n) iq⟩,pv7⟩:Itw)])).map Itw.cells),pfsE L,blk w5.hz [jv hd.c,jv hd.n,sv hd.root,sv hd.tag,vi] 50,blk w1.hz [jv 0,jv 0,.string (⟨#[]⟩),.string (⟨#[]⟩),.slice none 0 0] 50,blk w0.hz [jv c,ev] 75] w27:=by rw[show (((L++[(⟨⟨(iq:Int),es.getD iq [],proofH sha (es.take n) iq⟩,pv7⟩:Itw)])).map Itw.cells)=((L).map Itw.cells)++([[jv (iq:Int),sv ((es).getD iq []),pv7]]) from by rw[AH]; rfl]; exact U
  refine wlv Y (ac (v:=po w5.hz 4) O kr) λa Y=>cb 4 Y U (U.ow 2 O) O O O (sizeOf48 _) (lb O) (ds:=[jv hd.c,jv hd.n,sv hd.root,sv hd.tag,s10]) O O λa w28 Y U=>ab<|aR<|G10 ?_
  replace U:=U.k6 126 O
  refine aj<|nv (Y.p6 2 3 5 8 12 13 O)<|zN O<|zM (aL O O ⟨om,om⟩)<|zO O<|λa Y=>ab ?_
  replace U:=U.s6 [0,2,1,3,4,5] de rfl
  replace U:St No w0 [pfsE (L++[(⟨⟨(iq:Int),es.getD iq [],proofH sha (es.take n) iq⟩,pv7⟩:Itw)]),own s10 110 3 (((L++[(⟨⟨(iq:Int),es.getD iq [],proofH sha (es.take n) iq⟩,pv7⟩:Itw)])).map Itw.cells),blk w5.hz [jv hd.c,jv hd.n,sv hd.root,sv hd.tag,s10] 50,blk w1.hz [jv 0,jv 0,.string (⟨#[]⟩),.string (⟨#[]⟩),.slice none 0 0] 50,blk w0.hz [jv c,ev] 75] w28:=jc ⟨⟨(iq:Int),es.getD iq [],proofH sha (es.take n) iq⟩,pv7⟩ U
  refine⟨_,?_,k+1,s10,(L++[(⟨⟨(iq:Int),es.getD iq [],proofH sha (es.take n) iq⟩,pv7⟩:Itw)]),O,om,(gP hL hkx hki),Y.pick [2,3,5,8,12,13],U.select [1,0,2,3,4] de⟩
  omega
 obtain rfl:k=ix.length:=by omega
 rw[List.take_length] at hL
 refine aP<|G6<|aa λ_ G15=>wlv Y (ap (U.g 2 O) O (isAgg50 _) (sizeOf50 _)) λa Y=>bj (us:=[jv hd.c,jv hd.n,sv hd.root,sv hd.tag,vi]) 3 Y U O O O (sizeOf50 _) CU (lb O) (ds:=[jv hd.c,jv hd.n,sv hd.root,sv hd.tag,vi]) O O λa w29 Y U=>?_
 refine wla Y O λa Y=>G15 ?_
 replace Y:=Y.p2 8 9 O
 replace U:=U.k3 11 O
 refine aq<|am Y results48 (ao O (bd (U.g 2 O) (isAgg50 _) (sizeOf50 _)) (ae O ag)) ?_
 replace U:=U.s3 [0,1,2] de rfl
 replace U:St No w0 [itsE vi L,blk w1.hz [jv hd.c,jv hd.n,sv hd.root,sv hd.tag,vi] 50] w29:=wT U
 exact⟨(vi,L),O,hL,U.ext,St.out (E:=[itsE vi L]) (H:=[]) (U.select [0] de)⟩
section
variable {l:List Cas} {k:Nat} {num:Int} {p:Cas→Prop}
def IxP (l:List Cas) (k:Nat) (P:Int→Prop) (i:Int):Prop:=i= -1∨(0≤i∧i<(k:Int)∧P (l.getD i.toNat Cas.z).n)
theorem wH {P:Int→Prop}:IxP l 0 P (-1):=.inl rfl
theorem cz {P:Int→Prop} {i:Int} (h:IxP l k P i):IxP l (k+1) P i:=h.elim .inl λh=>.inr ⟨h.1,by omega,h.2.2⟩
theorem dx {P:Int→Prop} (h:P (l.getD k Cas.z).n):IxP l (k+1) P (k:Int):=.inr ⟨by omega,by omega,by rw[AL]; exact h⟩
theorem sb {P:Int→Prop} {i:Int} (h:IxP l k P i) (h0:0≤i):i<(k:Int):=h.elim (λh=>by omega) λh=>h.2.1
theorem ot {n i:Int} (h0:0≤i) (h1:i<n):ascI n (-1) [i]=true:=by rw[ascI,zU (by omega: -1<i),zU h1]; rfl
theorem yQ {c:Int} (hd:docOk c l=true) {i j:Int} (hi:IxP l l.length (λz=>z<num) i) (hj:IxP l l.length (λz=>num<z) j) (h0:0≤i) (h1:0≤j):ascI (l.length:Int) (-1) [i,j]=true:=by
 rcases hi with hi|⟨_,hi,hip⟩
 ·omega
 ·rcases hj with hj|⟨_,hj,hjp⟩
  ·omega
  ·have hlt:i<j:=by
    rcases Int.lt_or_le i j with h|h
    ·exact h
    ·exfalso
     rcases Int.lt_or_eq_of_le h with h|h
     ·have:=jl (gX hd) j.toNat i.toNat om om; omega
     ·subst h; omega
   rw[ascI,zU (by omega: -1<i),zU hi,ascI,zU hlt,zU hj]; rfl
end
theorem iX (n lo hi:Int) (w0:World):
  Ret Tryz.prog 66 #[jv n,jv lo,jv hi] w0 λv w=>v=.bool (inB n lo hi)∧Ext No w0 w:=by
 refine BH func66 O ntmps66 (lb O) λa Y U=>?_
 refine aa λ_ G1=>wla Y O λa Y=>G1<|aa λ_ G2=>?_
 refine nv Y<|zN O<|zN O<|zM (v_ge O O)<|zN O<|λa Y=>dh (N:=15) (df:=[]) 4 [(14,.bool ((decide (lo≤n))&&(decide (n≤hi)))),(0,jv n),(1,jv lo),(2,jv hi),(6,.bool false)] ?_ (λhj=>?_)
 rotate_left
 ·rcases zX (decide (lo≤n)) with hb1|hb1
  ·rw[hb1] at Y
   have hb1b:=hb1
   try simp only[qz,zT,An,Af,Ao] at hb1
   refine nv Y<|zP (au O)<|zP (au O)<|zP (v_le O O)<|zM (ay O O)<|λa Y=>hj _ ?_
   try rw[hb1b]
   exact Y.pick [14,0,1,2,6]
  rw[hb1] at Y
  have hb1b:=hb1
  try simp only[qz,zT,An,Af,Ao] at hb1
  refine nv Y<|zQ<|zQ<|zQ<|zM (al O O)<|λa Y=>hj _ ?_
  try rw[hb1b]
  exact Y.pick [14,0,1,2,6]
 intro a Y
 refine wla Y O λa Y=>G2<|aq ?_
 refine am Y results66 (ae O ag) ?_
 exact⟨by simp only[retv]; unfold inB; rfl,U.ext⟩
theorem kY (x:Cas) (w0:World):
  Ret Tryz.prog 128 #[.agg #[jv x.n,jv x.t,sv x.ev]] w0 λv w=>v=.bool x.ok∧Ext No w0 w:=by
 refine BG func128 O ntmps128 (lb O) λa Y U=>?_
 refine aa λ_ G1=>aS Y U O [jv x.n,jv x.t,sv x.ev] O λa w1 Y U=>wla Y O λa Y=>G1<|aa λ_ G2=>?_
 refine nv Y<|zM (ac (v:=pq w0.hz) O kr)<|zM (ld U 0 O O (isAgg3 _) O)<|λa Y=>ax Y U call66 O (iX x.n 0 99999999 _) λa w2 Y U=>wlm Y O λa Y=>?_
 rcases zX (inB x.n 0 99999999) with hb1|hb1
 ·rw[hb1] at Y
  refine nv Y<|zP (ac (v:=po w0.hz 1) O kr)<|zP (ld U 0 O O (isAgg3 _) O)<|λa Y=>aF Y U call66 O (iX x.t 0 10000000 _) λa w3 Y U=>nv Y<|zM (ay O O)<|zN O<|λa Y=>?_
  rcases zX (inB x.t 0 10000000) with hb2|hb2
  ·rw[hb2] at Y
   refine nv Y<|zP (ac (v:=po w0.hz 2) O kr)<|zP (ld U 0 O O (isAgg9 _) O)<|zP (bp O O (runUnderlying9 _))<|zP (v_le O O)<|zM (ay O O)<|zO O<|λa Y=>G2 ?_
   replace Y:=Y.p1 2 O
   replace U:=U.k0 0 O
   refine aq<|am Y results128 (ae O ag) ?_
   refine⟨?_,U.ext⟩
   simp only[retv]
   refine Ap Value.bool ?_
   unfold Cas.ok
   simp only[hb1,hb2,A8]
   exact decide_eq_decide.2 om
  rw[hb2] at Y
  refine nv Y<|zQ<|zQ<|zQ<|zQ<|zM (al O O)<|zO O<|λa Y=>G2 ?_
  replace Y:=Y.p1 2 O
  replace U:=U.k0 0 O
  refine aq<|am Y results128 (ae O ag) ?_
  refine⟨?_,U.ext⟩
  simp only[retv]
  refine Ap Value.bool ?_
  unfold Cas.ok
  simp only[hb1,hb2,A8,Br]
 rw[hb1] at Y
 refine nv Y<|zQ<|zQ<|zQ<|zM (al O O)<|zN O<|zQ<|zQ<|zQ<|zQ<|zM (al O O)<|zO O<|λa Y=>G2 ?_
 replace Y:=Y.p1 2 O
 replace U:=U.k0 0 O
 refine aq<|am Y results128 (ae O ag) ?_
 refine⟨?_,U.ext⟩
 simp only[retv]
 refine Ap Value.bool ?_
 unfold Cas.ok
 simp only[hb1,A8,Br]
theorem xk (x:Cas) (w0:World):
  Ret Tryz.prog 76 #[.agg #[jv x.n,jv x.t,sv x.ev]] w0 λv w=>v=.tuple #[sv (encP x),jv (cE x)]∧Ext No w0 w:=by
 refine BG func76 O ntmps76 (lb O) λa Y U=>?_
 refine aa λ_ G1=>aS Y U O [jv x.n,jv x.t,sv x.ev] O λa w1 Y U=>nv Y<|zO O<|zO O<|λa Y=>G1<|ah λ_ G2=>?_
 refine aa λ_ G3=>wlv Y (ap (U.g 0 O) O (isAgg55 _) (sizeOf55 _)) λa Y=>ax Y U call128 O (kY x _) λa w2 Y U=>wlv Y (bB O) λa Y=>G3<|bF Y O (λhc1=>?_) (λhc1=>?_)
 ·try simp only[qz] at hc1
  refine aa λ_ G4=>nv Y<|zO O<|zO O<|λa Y=>G4<|aq ?_
  refine am Y results76 (ae O (ae O ag)) ?_
  exact⟨by simp only[retv]; unfold encP cE; rw[Ai (by rw[hc1]; decide),Ai (by rw[hc1]; decide)]; rfl,U.ext⟩
 try simp only[qz] at hc1
 have hbd:=Cas.bnd hc1
 have hl1:=bQ x.n
 have hl2:=bQ x.t
 have hl3:=bQ (x.ev.length:Int)
 have hl4:(putS x.ev).length≤1000:=by unfold putS; rw[zS]; omega
 refine ar<|G2<|aa λ_ G5=>nv Y<|zM (ac (v:=pq w0.hz) O kr)<|zM (ld U 0 O O (isAgg3 _) O)<|λa Y=>ax Y U call129 O (dJ x.n _ B4) λa w3 Y U=>nv Y<|zN O<|zM (ak O O)<|zM (ak O O)<|zO O<|zO O<|λa Y=>G5 ?_
 refine aa λ_ G6=>nv (Y.p4 1 2 3 4 O)<|zM (ac (v:=po w0.hz 1) O kr)<|zM (ld U 0 O O (isAgg3 _) O)<|λa Y=>ax Y U call129 O (dJ x.t _ B4) λa w4 Y U=>nv Y<|zN O<|zM (ak O O)<|zM (ak O O)<|zO O<|zO O<|λa Y=>G6 ?_
 refine aa λ_ G7=>nv (Y.p5 1 2 3 4 6 O)<|zM (ac (v:=po w0.hz 2) O kr)<|zM (ld U 0 O O (isAgg9 _) O)<|λa Y=>ax Y U call130 O (mq x.ev _ om) λa w5 Y U=>nv Y<|zN O<|zM (ak O O)<|zM (ak O O)<|zO O<|zO O<|λa Y=>G7 ?_
 replace U:=U.k0 0 O
 refine aa λ_ G8=>nv (Y.p5 2 3 4 6 8 O)<|zN O<|zN O<|zM (dI O O Cv)<|zN O<|zM (dI O O Cv)<|zO O<|zO O<|λa Y=>G8 ?_
 replace Y:=Y.p2 2 3 O
 refine aq<|am Y results76 (ae O (ae O ag)) ?_
 exact⟨by simp only[retv]; unfold encP cE; rw[Am hc1,Am hc1]; simp[Cas.enc,puts],U.ext⟩
theorem oH (c:Int) (lv:Value) (l:List Cas) (w0:World) (hlv:SlAt w0 lv 3 (l.map Cas.cells)) (hle:l.length≤1000):
  Ret Tryz.prog 27 #[.agg #[jv c,lv]] w0 (MemR w0 (λv:Value=>.agg #[jv c,v]) (λv=>[own v 9 1 ((entC (l)).map λs=>[sv s])]) (λ_=>True)):=by
 have hxb:=hlv.2.1
 simp only[zR,big] at hxb
 refine BG func27 O ntmps27 (lb O) λa Y U=>?_
 refine aa λ_ G1=>aS Y U O [jv c,lv] O λa w1 Y U=>aE Y U (zeroValue75 _) [jv 0,.slice none 0 0] O λa w2 Y U=>G1<|aa λ_ G2=>?_
 refine nv Y<|zM (ac (v:=pq w0.hz) O kr)<|zM (ld U 1 O O (isAgg3 _) O)<|zM (aV (v:=.agg #[jv c,.slice none 0 0]) O kr)<|λa Y=>aE Y U (zeroValue75 _) [jv 0,.slice none 0 0] O λa w3 Y U=>aB 0 Y U [jv c,.slice none 0 0] O (sizeOf75 _) λa w4 Y U=>G2<|ah λ_ G3=>?_
 refine aa λ_ G4=>wla Y O λa Y=>G4<|aw ?_
 replace U:St No w0 [own (.slice none 0 0) 9 1 ((entC (l.take 0)).map λs=>[sv s]),blk w2.hz [jv c,.slice none 0 0] 75,blk w1.hz [jv 0,.slice none 0 0] 75,blk w0.hz [jv c,lv] 32] w4:=U.nil_own
 refine aZ (λm a w=>∃(k:Nat) (v:Value),m=l.length- k∧(k≤l.length)∧Fr 33 [(1,pq w0.hz),(2,pq w1.hz),(3,pq w2.hz),(4,jv (k:Int))] [] a∧St No w0 [own v 9 1 ((entC (l.take k)).map λs=>[sv s]),blk w2.hz [jv c,v] 75,blk w1.hz [jv 0,.slice none 0 0] 75,blk w0.hz [jv c,lv] 32] w) _ ⟨0,.slice none 0 0,O,Ah _,Y.pick [1,2,3,4],U.select [0,1,2,3] de⟩ ?_
 rintro _ a w5 ⟨k,v,rfl,hk,Y,U⟩
 refine ah λ_ G5=>aa λ_ G6=>nv Y<|zN O<|zM (ac (v:=po w0.hz 1) O kr)<|zM (ld U 3 O O (isAgg30 _) O)<|zM ((aK (sT:=30) (U.arg hlv) O O (runUnderlying30 _)).asi (m':=(l.length:Int)) B9)<|zM (v_lt O O)<|λa Y=>G6<|az Y O (λhc1=>?_) (λhc1=>?_)
 ·have hkx:k<l.length:=by omega
  refine ar<|G5<|ah λ_ G7=>aw<|aa λ_ G8=>nv Y<|zM (ac (v:=po w0.hz 1) O kr)<|zM (ld U 3 O O (isAgg30 _) O)<|zN O<|zM ((ai (i:=(k:Int)) (sT:=30) (U.arg hlv) O O (runUnderlying30 _) (sizeOf55 _) om BQ).as (v':=slAddr lv (k*3)) O)<|zM ((bN (U.arg hlv) (i:=k) BQ O (isAgg55 _) (sizeOf55 _)).as (v':=.agg #[jv ((l.getD k Cas.z).n),jv ((l.getD k Cas.z).t),sv ((l.getD k Cas.z).ev)]) Co)<|λa Y=>ax Y U call76 O (xk (l.getD k Cas.z) _) λa w6 Y U=>nv Y<|zN O<|zM (ak O O)<|zM (ak O O)<|zO O<|zO O<|λa Y=>G8 ?_
  refine aj<|nv (Y.p5 1 2 3 4 5 O)<|zM (ac (v:=po w2.hz 1) O kr)<|zM (ld U 1 O O (isAgg44 _) O)<|zN O<|λa Y=>aD (E:=9) (sz:=1) O [[sv (encP (l.getD k Cas.z))]] kr sm O de de Y U λa w7 Y U=>aY (i:=1) (sT:=44) (inf:=Tryz.t9) (z:=.string (⟨#[]⟩)) (b:=0) (off:=0) (m:=0) (c:=0) O O O (U.ow 0 O) sm underlying44 O O O O de BS Cu Cu de Y U λa w8 s2 Y U _=>?_
  rw[show ((entC (l.take k)).map λs=>[sv s])++([[sv (encP (l.getD k Cas.z))]])=((entC (l.take (k+1))).map λs=>[sv s]) from by rw[mL hkx,AH]; rfl] at U
  refine wlv Y (ac (v:=po w2.hz 1) O kr) λa Y=>cb 2 Y U (U.ow 1 O) O O O (sizeOf44 _) (lb O) (ds:=[jv c,s2]) O O λa w9 Y U=>ab<|G7 ?_
  replace U:=U.k4 30 O
  refine aj<|nv (Y.p4 1 2 3 4 O)<|zN O<|zM (aL O O ⟨om,om⟩)<|zO O<|λa Y=>ab ?_
  refine⟨_,?_,k+1,s2,O,om,Y.pick [1,2,3,4],U.select [0,1,2,3] de⟩
  omega
 obtain rfl:k=l.length:=by omega
 rw[List.take_length] at U
 refine aP<|G3<|aa λ_ G9=>wlv Y (ap (U.g 1 O) O (isAgg75 _) (sizeOf75 _)) λa Y=>bj (us:=[jv c,v]) 2 Y U O O O (sizeOf75 _) Ck (lb O) (ds:=[jv c,v]) O O λa w10 Y U=>?_
 refine G9 ?_
 replace Y:=Y.p1 2 O
 replace U:=U.k2 5 O
 refine aq<|am Y results27 (ao O (bd (U.g 1 O) (isAgg75 _) (sizeOf75 _)) ag) ?_
 exact⟨v,O,trivial,U.ext,St.out (E:=[own v 9 1 ((entC (l)).map λs=>[sv s])]) (H:=[]) (U.select [0] de)⟩
theorem wC (c:Int) (lv:Value) (l:List Cas) (w0:World) (hlv:SlAt w0 lv 3 (l.map Cas.cells)):
  Ret Tryz.prog 109 #[.agg #[jv c,lv]] w0 λv w=>v=.bool (docOk c l)∧Ext No w0 w:=by
 have hxb:=hlv.2.1
 simp only[zR,big] at hxb
 refine BG func109 O ntmps109 (lb O) λa Y U=>?_
 refine aa λ_ G1=>aS Y U O [jv c,lv] O λa w1 Y U=>wla Y O λa Y=>G1<|ah λ_ G2=>?_
 refine aa λ_ G3=>nv Y<|zM (ac (v:=pq w0.hz) O kr)<|zM (ld U 0 O O (isAgg3 _) O)<|λa Y=>ax Y U call66 O (iX c 0 7 _) λa w2 Y U=>nv Y<|zM (bB O)<|zN O<|λa Y=>?_
 rcases zX (!(inB c 0 7)) with hb1|hb1
 ·rw[hb1] at Y
  try simp only[qz] at hb1
  have hbad:docOk c l=false:=by unfold docOk; rw[show inB c 0 7=false from by simpa using hb1]; simp
  refine nv Y<|zQ<|zQ<|zQ<|zQ<|zM (ay O O)<|λa Y=>G3 ?_
  replace Y:=Y.p3 1 2 13 O
  refine aM Y O ?_
  refine aa λ_ G4=>wla Y O λa Y=>G4<|aq ?_
  refine am Y results109 (ae O ag) ?_
  refine⟨?_,U.ext⟩
  simp only[retv]
  refine Ap Value.bool ?_
  rw[hbad]
 rw[hb1] at Y
 try simp only[qz] at hb1
 have hib:inB c 0 7=true:=by simpa using hb1
 refine nv Y<|zP (ac (v:=po w0.hz 1) O kr)<|zP (ld U 0 O O (isAgg30 _) O)<|zP ((aK (sT:=30) (U.arg hlv) O O (runUnderlying30 _)).asi (m':=(l.length:Int)) B9)<|zP (v_gt O O)<|zM (al O O)<|λa Y=>G3 ?_
 replace Y:=Y.p3 1 2 13 O
 refine az Y O (λhc2=>?_) (λhc2=>?_)
 ·have hbad:docOk c l=false:=by unfold docOk; rw[zW (by omega:¬l.length≤60)]; simp
  refine aa λ_ G5=>wla Y O λa Y=>G5<|aq ?_
  refine am Y results109 (ae O ag) ?_
  refine⟨?_,U.ext⟩
  simp only[retv]
  refine Ap Value.bool ?_
  rw[hbad]
 refine ar<|G2<|ah λ_ G6=>aa λ_ G7=>wla Y O λa Y=>G7<|aw ?_
 refine aZ (λm a w=>∃(k:Nat),m=l.length- k∧(k≤l.length)∧(ascC (-1) l=ascC (prevN l k) (l.drop k))∧Fr 48 [(1,pq w0.hz),(3,jv (k:Int))] [] a∧St No w0 [blk w0.hz [jv c,lv] 32] w) _ ⟨0,O,Ah _,O,Y.pick [1,3],U.select [0] de⟩ ?_
 rintro _ a w3 ⟨k,rfl,hk,hs,Y,U⟩
 refine ah λ_ G8=>aa λ_ G9=>nv Y<|zN O<|zM (ac (v:=po w0.hz 1) O kr)<|zM (ld U 0 O O (isAgg30 _) O)<|zM ((aK (sT:=30) (U.arg hlv) O O (runUnderlying30 _)).asi (m':=(l.length:Int)) B9)<|zM (v_lt O O)<|λa Y=>G9<|az Y O (λhc3=>?_) (λhc3=>?_)
 ·have hkx:k<l.length:=by omega
  refine ar<|G8<|ah λ_ G10=>aw<|ah λ_ G11=>aH (aI λw4 hxz=>?_)
  replace U:=U.grow hxz
  refine aQ (k:=0) 3 [1,2] Y ?_
  refine bI 3 (Y.p6 1 3 14 15 16 17 O) U<|pl_v (ac (v:=po w0.hz 1) O kr)<|pl_w (λU=>ld U 0 O O (isAgg30 _) O)<|pl_m O λa w5 Y U=>?_
  replace Y:=Y.p4 1 3 22 23 O
  refine ab<|aJ (k:=3) 11 [10] ?_
  refine nv Y<|zM ((ai (i:=(k:Int)) (sT:=30) (U.arg hlv) O O (runUnderlying30 _) (sizeOf55 _) om BQ).as (v':=slAddr lv (k*3)) O)<|zM ((bN (U.arg hlv) (i:=k) BQ O (isAgg55 _) (sizeOf55 _)).as (v':=.agg #[jv ((l.getD k Cas.z).n),jv ((l.getD k Cas.z).t),sv ((l.getD k Cas.z).ev)]) Co)<|λa Y=>ax Y U call128 O (kY (l.getD k Cas.z) _) λa w6 Y U=>nv Y<|zM (bB O)<|zN O<|λa Y=>?_
  rcases zX (!((l.getD k Cas.z).ok)) with hb4|hb4
  ·rw[hb4] at Y
   try simp only[qz] at hb4
   have hbad:docOk c l=false:=by unfold docOk; rw[show ascC (-1) l=false from by rw[hs]; exact wK hkx (by simpa using hb4)]; rfl
   refine nv Y<|zQ<|zQ<|zQ<|λa Y=>ab<|dk (k:=11) 24 [16,23] (Y.p12 1 3 22 23 24 25 26 27 28 29 30 31 O) λa Y=>?_
   replace Y:Fr 48 [(32,undef),(33,undef),(34,undef),(35,undef),(36,undef),(37,undef),(38,undef),(39,undef),(40,undef),(41,undef),(42,undef),(43,undef),(44,undef),(1,pq w0.hz),(3,jv (k:Int)),(22,lv),(23,jv (k:Int)),(24,slAddr lv (k*3)),(25,.agg #[jv ((l.getD k Cas.z).n),jv ((l.getD k Cas.z).t),sv ((l.getD k Cas.z).ev)]),(26,.bool ((l.getD k Cas.z).ok)),(27,.bool true),(28,.bool true),(29,undef),(30,undef),(31,undef)] [] a:=Y
   refine aJ (k:=24) 27 [26] ?_
   refine cf Y λa Y=>nv Y<|zQ<|zM (ay O O)<|λa Y=>ab<|aR<|G11 ?_
   replace Y:=Y.p3 1 3 47 O
   refine aM Y O ?_
   refine aa λ_ G12=>wla Y O λa Y=>G12<|aq ?_
   refine am Y results109 (ae O ag) ?_
   refine⟨?_,U.ext⟩
   simp only[retv]
   refine Ap Value.bool ?_
   rw[hbad]
  rw[hb4] at Y
  try simp only[qz] at hb4
  have hok:(l.getD k Cas.z).ok=true:=by simpa using hb4
  have hbn:=Cas.bnd hok
  refine nv Y<|zP (au O)<|zP (v_gt O O)<|zP (au O)<|λa Y=>ab ?_
  rcases Decidable.em (0<(k:Int)) with hb5|hb5
  ·rw[zU hb5] at Y
   have hpv:=mC (l:=l) (k:=k) om
   refine aQ (k:=11) 24 [16,23] Y ?_
   replace Y:=Y.p12 1 3 22 23 24 25 26 27 28 29 30 31 O
   refine bI 13 Y U<|pl_v (ac (v:=po w0.hz 1) O kr)<|pl_w (λU=>ld U 0 O O (isAgg30 _) O)<|pl_m O<|pl_w (λU=>(ai (i:=(k:Int)) (sT:=30) (U.arg hlv) O O (runUnderlying30 _) (sizeOf55 _) om BQ).as (v':=slAddr lv (k*3)) O)<|pl_w (λU=>bA (k:=k*3) (j:=0) (U.arg hlv) (i:=k) BQ O (λ_ _=>by kernel_rfl))<|pl_w (λU=>aA (u:=jv ((l.getD k Cas.z).n)) (i:=k) (j:=0) (U.arg hlv) BQ O (isAgg3 _) Co)<|pl_v (ac (v:=po w0.hz 1) O kr) ?_
   refine pl_w (λU=>ld U 0 O O (isAgg30 _) O)<|pl_m O<|pl_v (bJ O O ⟨om,om⟩)<|pl_w (λU=>(ai (i:=(k:Int)- 1) (sT:=30) (U.arg hlv) O O (runUnderlying30 _) (sizeOf55 _) om BQ).as (v':=slAddr lv ((k- 1)*3)) Cr)<|pl_w (λU=>bA (k:=(k- 1)*3) (j:=0) (U.arg hlv) (i:=(k- 1)) BQ O (λ_ _=>by kernel_rfl))<|pl_w (λU=>aA (u:=jv ((l.getD (k- 1) Cas.z).n)) (i:=(k- 1)) (j:=0) (U.arg hlv) BQ O (isAgg3 _) Co) λa w7 Y U=>?_
   replace Y:=Y.p6 1 3 28 31 37 44 O
   refine ab<|aJ (k:=24) 27 [26] ?_
   refine nv Y<|zP (v_le O O)<|zP (ay O O)<|zM (al O O)<|λa Y=>ab<|aR<|G11 ?_
   replace Y:=Y.p3 1 3 47 O
   refine az Y O (λhc6=>?_) (λhc6=>?_)
   ·have hbad:docOk c l=false:=by unfold docOk; rw[show ascC (-1) l=false from by rw[hs]; exact vo hkx (by rw[hpv]; omega)]; rfl
    refine aa λ_ G13=>wla Y O λa Y=>G13<|aq ?_
    refine am Y results109 (ae O ag) ?_
    refine⟨?_,U.ext⟩
    simp only[retv]
    refine Ap Value.bool ?_
    rw[hbad]
   have hgo:prevN l k<(l.getD k Cas.z).n:=by rw[hpv]; omega
   refine ar<|G10<|aj<|nv Y<|zN O<|zM (aL O O ⟨om,om⟩)<|zO O<|λa Y=>ab ?_
   refine⟨_,?_,k+1,O,om,Da,Y.pick [1,3],U.select [0] de⟩
   omega
  rw[zW hb5] at Y
  have hgo:prevN l k<(l.getD k Cas.z).n:=by
   have h0:k=0:=by omega
   rw[h0] at hbn⊢; show-1<_; omega
  refine dk (k:=11) 24 [16,23] (Y.p12 1 3 22 23 24 25 26 27 28 29 30 31 O) λa Y=>?_
  replace Y:Fr 48 [(32,undef),(33,undef),(34,undef),(35,undef),(36,undef),(37,undef),(38,undef),(39,undef),(40,undef),(41,undef),(42,undef),(43,undef),(44,undef),(1,pq w0.hz),(3,jv (k:Int)),(22,lv),(23,jv (k:Int)),(24,slAddr lv (k*3)),(25,.agg #[jv ((l.getD k Cas.z).n),jv ((l.getD k Cas.z).t),sv ((l.getD k Cas.z).ev)]),(26,.bool ((l.getD k Cas.z).ok)),(27,.bool false),(28,.bool false),(29,jv (k:Int)),(30,.bool false),(31,.bool false)] [] a:=Y
  refine aJ (k:=24) 27 [26] ?_
  refine nv Y<|zQ<|zP (al O O)<|zM (al O O)<|λa Y=>ab<|aR<|G11 ?_
  replace Y:=Y.p3 1 3 47 O
  refine aG Y O ?_
  refine ar<|G10<|aj<|nv Y<|zN O<|zM (aL O O ⟨om,om⟩)<|zO O<|λa Y=>ab ?_
  refine⟨_,?_,k+1,O,om,Da,Y.pick [1,3],U.select [0] de⟩
  omega
 have hall:ascC (-1) l=true:=by rw[hs,show k=l.length by omega,List.drop_length]; rfl
 refine aP<|G6<|aa λ_ G14=>wla Y O λa Y=>G14 ?_
 replace Y:=Y.p1 2 O
 replace U:=U.k0 0 O
 refine aq<|am Y results109 (ae O ag) ?_
 refine⟨?_,U.ext⟩
 simp only[retv]
 refine Ap Value.bool ?_
 unfold docOk; rw[hall,hib,show decide (l.length≤60)=true from zU om]; rfl
theorem lS (key:By) (hd:Hd) (c:Int) (lv:Value) (l:List Cas) (num:Int) (w0:World) (hlv:SlAt w0 lv 3 (l.map Cas.cells)) (hk32:key.length=32) (hdoc:docOk c l=true) (hhd:hdOf sha key c (entC l) l.length=hd) (hnum:0≤num∧num≤99999999):
  Ret Tryz.prog 47 #[sv key,.agg #[jv c,lv],jv num] w0 (MemR w0 (λx:Value × List Itw=>.tuple #[.agg #[jv hd.c,jv hd.n,sv hd.root,sv hd.tag,x.1],jv 0]) (λx=>[itsE x.1 x.2]) (λx=>∃ix,ascI (l.length:Int) (-1) ix=true∧ix.length≤60∧itsM x.2=showIs sha (entC l) l.length ix)):=by
 have hxb:=hlv.2.1
 simp only[zR,big] at hxb
 have hll:=g8 hdoc
 have hcb:=eP hdoc
 have hreg:=gb hdoc
 refine BH func47 O ntmps47 (lb O) λa Y U=>?_
 refine aa λ_ G1=>aS Y U O [jv c,lv] O λa w1 Y U=>aE Y U (zeroValue50 _) [jv 0,jv 0,.string (⟨#[]⟩),.string (⟨#[]⟩),.slice none 0 0] O λa w2 Y U=>wla Y O λa Y=>G1<|ah λ_ G2=>?_
 refine aa λ_ G3=>wlv Y (ap (U.g 1 O) O (isAgg32 _) (sizeOf32 _)) λa Y=>ax Y U call109 O (cC hdoc (wC c lv l _ (U.arg hlv))) λa w3 Y U=>nv Y<|zM ((bB O).asb (b':=false) O)<|zN O<|zP (au O)<|λa Y=>aF Y U call66 O (cC (show inB num 0 99999999=true from by simp only[inB,zT,zZ]; omega) (iX num 0 99999999 _)) λa w4 Y U=>nv Y<|zP ((bB O).asb (b':=false) O)<|zM (al O O)<|λa Y=>G3 ?_
 replace Y:=Y.p6 0 2 4 6 7 22 O
 refine aG Y O ?_
 refine ar<|G2<|aa λ_ G4=>wla Y O λa Y=>G4<|aa λ_ G5=>?_
 refine wla Y O λa Y=>G5<|aa λ_ G6=>?_
 refine wla Y O λa Y=>G6<|ah λ_ G7=>?_
 refine aa λ_ G8=>wla Y O λa Y=>G8<|aw ?_
 refine aZ (λm a w=>∃(k:Nat) (be:Int) (th:Int) (af:Int),m=l.length- k∧(k≤l.length)∧(IxP l k (λz=>z<num) be)∧(IxP l k (λz=>z=num) th)∧(IxP l k (λz=>num<z) af)∧Fr 93 [(0,sv key),(2,jv num),(4,pq w0.hz),(6,pq w1.hz),(7,jv 0),(8,jv be),(9,jv th),(10,jv af),(11,jv (k:Int))] [] a∧St No w0 [blk w1.hz [jv 0,jv 0,.string (⟨#[]⟩),.string (⟨#[]⟩),.slice none 0 0] 50,blk w0.hz [jv c,lv] 32] w) _ ⟨0, -1, -1, -1,O,Ah _,wH,wH,wH,Y.pick [0,2,4,6,7,8,9,10,11],U.select [0,1] de⟩ ?_
 rintro _ a w5 ⟨k,be,th,af,rfl,hk,h0,h1,h2,Y,U⟩
 refine ah λ_ G9=>aa λ_ G10=>nv Y<|zN O<|zM (ac (v:=po w0.hz 1) O kr)<|zM (ld U 1 O O (isAgg30 _) O)<|zM ((aK (sT:=30) (U.arg hlv) O O (runUnderlying30 _)).asi (m':=(l.length:Int)) B9)<|zM (v_lt O O)<|λa Y=>G10<|az Y O (λhc1=>?_) (λhc1=>?_)
 ·have hkx:k<l.length:=by omega
  refine ar<|G9<|ah λ_ G11=>aw<|ah λ_ G12=>aa λ_ G13=>nv Y<|zM (ac (v:=po w0.hz 1) O kr)<|zM (ld U 1 O O (isAgg30 _) O)<|zN O<|zM ((ai (i:=(k:Int)) (sT:=30) (U.arg hlv) O O (runUnderlying30 _) (sizeOf55 _) om BQ).as (v':=slAddr lv (k*3)) O)<|zM (bA (k:=k*3) (j:=0) (U.arg hlv) (i:=k) BQ O (λ_ _=>by kernel_rfl))<|zM (aA (u:=jv ((l.getD k Cas.z).n)) (i:=k) (j:=0) (U.arg hlv) BQ O (isAgg3 _) Co)<|zN O<|zM (v_lt O O)<|λa Y=>G13 ?_
  replace Y:=Y.p10 0 2 4 6 7 8 9 10 11 38 O
  refine az Y O (λhc2=>?_) (λhc2=>?_)
  ·refine aj<|nv Y<|zN O<|zO O<|λa Y=>ab<|G12<|ah λ_ G14=>aa λ_ G15=>nv Y<|zM (ac (v:=po w0.hz 1) O kr)<|zM (ld U 1 O O (isAgg30 _) O)<|zN O<|zM ((ai (i:=(k:Int)) (sT:=30) (U.arg hlv) O O (runUnderlying30 _) (sizeOf55 _) om BQ).as (v':=slAddr lv (k*3)) O)<|zM (bA (k:=k*3) (j:=0) (U.arg hlv) (i:=k) BQ O (λ_ _=>by kernel_rfl))<|zM (aA (u:=jv ((l.getD k Cas.z).n)) (i:=k) (j:=0) (U.arg hlv) BQ O (isAgg3 _) Co)<|zN O<|zM (v_eq O O)<|λa Y=>G15 ?_
   replace Y:=Y.p10 0 2 4 6 7 9 10 11 8 47 O
   refine az Y O (λhc3=>?_) (λhc3=>?_)
   ·refine aj<|nv Y<|zN O<|zO O<|λa Y=>ab<|G14<|aa λ_ G16=>nv Y<|zM (ac (v:=po w0.hz 1) O kr)<|zM (ld U 1 O O (isAgg30 _) O)<|zN O<|zM ((ai (i:=(k:Int)) (sT:=30) (U.arg hlv) O O (runUnderlying30 _) (sizeOf55 _) om BQ).as (v':=slAddr lv (k*3)) O)<|zM (bA (k:=k*3) (j:=0) (U.arg hlv) (i:=k) BQ O (λ_ _=>by kernel_rfl))<|zM (aA (u:=jv ((l.getD k Cas.z).n)) (i:=k) (j:=0) (U.arg hlv) BQ O (isAgg3 _) Co)<|zN O<|zM (v_gt O O)<|zN O<|λa Y=>?_
    rcases Decidable.em (num<(l.getD k Cas.z).n) with hb4|hb4
    ·rw[zU hb4] at Y
     refine nv Y<|zP (au O)<|zP (v_lt O O)<|zM (ay O O)<|λa Y=>G16 ?_
     replace Y:=Y.p10 0 2 4 6 7 10 11 8 9 60 O
     refine az Y O (λhc5=>?_) (λhc5=>?_)
     ·refine aj<|nv Y<|zN O<|zO O<|λa Y=>ab<|G11<|aj<|nv Y<|zN O<|zM (aL O O ⟨om,om⟩)<|zO O<|λa Y=>ab ?_
      refine⟨_,?_,k+1,(k:Int),(k:Int),(k:Int),O,om,dx om,dx om,dx om,Y.pick [0,2,4,6,7,8,9,10,11],U.select [0,1] de⟩
      omega
     refine ar<|G11<|aj<|nv Y<|zN O<|zM (aL O O ⟨om,om⟩)<|zO O<|λa Y=>ab ?_
     refine⟨_,?_,k+1,(k:Int),(k:Int),af,O,om,dx om,dx om,cz h2,Y.pick [0,2,4,6,7,8,9,10,11],U.select [0,1] de⟩
     omega
    rw[zW hb4] at Y
    refine nv Y<|zQ<|zQ<|zM (al O O)<|λa Y=>G16 ?_
    replace Y:=Y.p10 0 2 4 6 7 10 11 8 9 60 O
    refine aG Y O ?_
    refine ar<|G11<|aj<|nv Y<|zN O<|zM (aL O O ⟨om,om⟩)<|zO O<|λa Y=>ab ?_
    refine⟨_,?_,k+1,(k:Int),(k:Int),af,O,om,dx om,dx om,cz h2,Y.pick [0,2,4,6,7,8,9,10,11],U.select [0,1] de⟩
    omega
   refine ar<|G14<|aa λ_ G17=>nv Y<|zM (ac (v:=po w0.hz 1) O kr)<|zM (ld U 1 O O (isAgg30 _) O)<|zN O<|zM ((ai (i:=(k:Int)) (sT:=30) (U.arg hlv) O O (runUnderlying30 _) (sizeOf55 _) om BQ).as (v':=slAddr lv (k*3)) O)<|zM (bA (k:=k*3) (j:=0) (U.arg hlv) (i:=k) BQ O (λ_ _=>by kernel_rfl))<|zM (aA (u:=jv ((l.getD k Cas.z).n)) (i:=k) (j:=0) (U.arg hlv) BQ O (isAgg3 _) Co)<|zN O<|zM (v_gt O O)<|zN O<|λa Y=>?_
   rcases Decidable.em (num<(l.getD k Cas.z).n) with hb6|hb6
   ·rw[zU hb6] at Y
    refine nv Y<|zP (au O)<|zP (v_lt O O)<|zM (ay O O)<|λa Y=>G17 ?_
    replace Y:=Y.p10 0 2 4 6 7 9 10 11 8 60 O
    refine az Y O (λhc7=>?_) (λhc7=>?_)
    ·refine aj<|nv Y<|zN O<|zO O<|λa Y=>ab<|G11<|aj<|nv Y<|zN O<|zM (aL O O ⟨om,om⟩)<|zO O<|λa Y=>ab ?_
     refine⟨_,?_,k+1,(k:Int),th,(k:Int),O,om,dx om,cz h1,dx om,Y.pick [0,2,4,6,7,8,9,10,11],U.select [0,1] de⟩
     omega
    refine ar<|G11<|aj<|nv Y<|zN O<|zM (aL O O ⟨om,om⟩)<|zO O<|λa Y=>ab ?_
    refine⟨_,?_,k+1,(k:Int),th,af,O,om,dx om,cz h1,cz h2,Y.pick [0,2,4,6,7,8,9,10,11],U.select [0,1] de⟩
    omega
   rw[zW hb6] at Y
   refine nv Y<|zQ<|zQ<|zM (al O O)<|λa Y=>G17 ?_
   replace Y:=Y.p10 0 2 4 6 7 9 10 11 8 60 O
   refine aG Y O ?_
   refine ar<|G11<|aj<|nv Y<|zN O<|zM (aL O O ⟨om,om⟩)<|zO O<|λa Y=>ab ?_
   refine⟨_,?_,k+1,(k:Int),th,af,O,om,dx om,cz h1,cz h2,Y.pick [0,2,4,6,7,8,9,10,11],U.select [0,1] de⟩
   omega
  refine ar<|G12<|ah λ_ G18=>aa λ_ G19=>nv Y<|zM (ac (v:=po w0.hz 1) O kr)<|zM (ld U 1 O O (isAgg30 _) O)<|zN O<|zM ((ai (i:=(k:Int)) (sT:=30) (U.arg hlv) O O (runUnderlying30 _) (sizeOf55 _) om BQ).as (v':=slAddr lv (k*3)) O)<|zM (bA (k:=k*3) (j:=0) (U.arg hlv) (i:=k) BQ O (λ_ _=>by kernel_rfl))<|zM (aA (u:=jv ((l.getD k Cas.z).n)) (i:=k) (j:=0) (U.arg hlv) BQ O (isAgg3 _) Co)<|zN O<|zM (v_eq O O)<|λa Y=>G19 ?_
  replace Y:=Y.p10 0 2 4 6 7 8 9 10 11 47 O
  refine az Y O (λhc8=>?_) (λhc8=>?_)
  ·refine aj<|nv Y<|zN O<|zO O<|λa Y=>ab<|G18<|aa λ_ G20=>nv Y<|zM (ac (v:=po w0.hz 1) O kr)<|zM (ld U 1 O O (isAgg30 _) O)<|zN O<|zM ((ai (i:=(k:Int)) (sT:=30) (U.arg hlv) O O (runUnderlying30 _) (sizeOf55 _) om BQ).as (v':=slAddr lv (k*3)) O)<|zM (bA (k:=k*3) (j:=0) (U.arg hlv) (i:=k) BQ O (λ_ _=>by kernel_rfl))<|zM (aA (u:=jv ((l.getD k Cas.z).n)) (i:=k) (j:=0) (U.arg hlv) BQ O (isAgg3 _) Co)<|zN O<|zM (v_gt O O)<|zN O<|λa Y=>?_
   rcases Decidable.em (num<(l.getD k Cas.z).n) with hb9|hb9
   ·rw[zU hb9] at Y
    refine nv Y<|zP (au O)<|zP (v_lt O O)<|zM (ay O O)<|λa Y=>G20 ?_
    replace Y:=Y.p10 0 2 4 6 7 8 10 11 9 60 O
    refine az Y O (λhc10=>?_) (λhc10=>?_)
    ·refine aj<|nv Y<|zN O<|zO O<|λa Y=>ab<|G11<|aj<|nv Y<|zN O<|zM (aL O O ⟨om,om⟩)<|zO O<|λa Y=>ab ?_
     refine⟨_,?_,k+1,be,(k:Int),(k:Int),O,om,cz h0,dx om,dx om,Y.pick [0,2,4,6,7,8,9,10,11],U.select [0,1] de⟩
     omega
    refine ar<|G11<|aj<|nv Y<|zN O<|zM (aL O O ⟨om,om⟩)<|zO O<|λa Y=>ab ?_
    refine⟨_,?_,k+1,be,(k:Int),af,O,om,cz h0,dx om,cz h2,Y.pick [0,2,4,6,7,8,9,10,11],U.select [0,1] de⟩
    omega
   rw[zW hb9] at Y
   refine nv Y<|zQ<|zQ<|zM (al O O)<|λa Y=>G20 ?_
   replace Y:=Y.p10 0 2 4 6 7 8 10 11 9 60 O
   refine aG Y O ?_
   refine ar<|G11<|aj<|nv Y<|zN O<|zM (aL O O ⟨om,om⟩)<|zO O<|λa Y=>ab ?_
   refine⟨_,?_,k+1,be,(k:Int),af,O,om,cz h0,dx om,cz h2,Y.pick [0,2,4,6,7,8,9,10,11],U.select [0,1] de⟩
   omega
  refine ar<|G18<|aa λ_ G21=>nv Y<|zM (ac (v:=po w0.hz 1) O kr)<|zM (ld U 1 O O (isAgg30 _) O)<|zN O<|zM ((ai (i:=(k:Int)) (sT:=30) (U.arg hlv) O O (runUnderlying30 _) (sizeOf55 _) om BQ).as (v':=slAddr lv (k*3)) O)<|zM (bA (k:=k*3) (j:=0) (U.arg hlv) (i:=k) BQ O (λ_ _=>by kernel_rfl))<|zM (aA (u:=jv ((l.getD k Cas.z).n)) (i:=k) (j:=0) (U.arg hlv) BQ O (isAgg3 _) Co)<|zN O<|zM (v_gt O O)<|zN O<|λa Y=>?_
  rcases Decidable.em (num<(l.getD k Cas.z).n) with hb11|hb11
  ·rw[zU hb11] at Y
   refine nv Y<|zP (au O)<|zP (v_lt O O)<|zM (ay O O)<|λa Y=>G21 ?_
   replace Y:=Y.p10 0 2 4 6 7 8 9 10 11 60 O
   refine az Y O (λhc12=>?_) (λhc12=>?_)
   ·refine aj<|nv Y<|zN O<|zO O<|λa Y=>ab<|G11<|aj<|nv Y<|zN O<|zM (aL O O ⟨om,om⟩)<|zO O<|λa Y=>ab ?_
    refine⟨_,?_,k+1,be,th,(k:Int),O,om,cz h0,cz h1,dx om,Y.pick [0,2,4,6,7,8,9,10,11],U.select [0,1] de⟩
    omega
   refine ar<|G11<|aj<|nv Y<|zN O<|zM (aL O O ⟨om,om⟩)<|zO O<|λa Y=>ab ?_
   refine⟨_,?_,k+1,be,th,af,O,om,cz h0,cz h1,cz h2,Y.pick [0,2,4,6,7,8,9,10,11],U.select [0,1] de⟩
   omega
  rw[zW hb11] at Y
  refine nv Y<|zQ<|zQ<|zM (al O O)<|λa Y=>G21 ?_
  replace Y:=Y.p10 0 2 4 6 7 8 9 10 11 60 O
  refine aG Y O ?_
  refine ar<|G11<|aj<|nv Y<|zN O<|zM (aL O O ⟨om,om⟩)<|zO O<|λa Y=>ab ?_
  refine⟨_,?_,k+1,be,th,af,O,om,cz h0,cz h1,cz h2,Y.pick [0,2,4,6,7,8,9,10,11],U.select [0,1] de⟩
  omega
 obtain rfl:k=l.length:=by omega
 have hz0:=sb h0
 have hz1:=sb h1
 have hz2:=sb h2
 refine aP<|G7<|aa λ_ G22=>wla Y O λa Y=>G22 ?_
 replace Y:=Y.p8 0 4 6 7 8 9 10 12 O
 refine ah λ_ G23=>aa λ_ G24=>nv Y<|zN O<|zM (v_ge O O)<|λa Y=>G24<|hC (λa w=>∃(av:Value),∃(ix:List Int),(ascI (l.length:Int) (-1) ix=true)∧(ix.length≤2)∧Fr 93 [(0,sv key),(4,pq w0.hz),(6,pq w1.hz),(7,jv 0),(12,av)] [] a∧St No w0 [own av 3 1 ((ix).map λn=>[jv n]),blk w1.hz [jv 0,jv 0,.string (⟨#[]⟩),.string (⟨#[]⟩),.slice none 0 0] 50,blk w0.hz [jv c,lv] 32] w) ?_ ?_
 ·refine az Y O (λhc13=>?_) (λhc13=>?_)
  ·refine aj<|wlm Y O λa Y=>aD (E:=3) (sz:=1) O [[jv th]] kr sm O de de Y U λa w6 Y U=>wla Y O λa Y=>ab ?_
   replace U:=U.n3 O
   exact⟨(.slice (some ⟨w5.hz,0,none⟩) 1 1),([th]:List Int),ot om om,sm,Y.pick [0,4,6,7,12],U.select [0,1,2] de⟩
  refine ah λ_ G25=>aa λ_ G26=>nv Y<|zN O<|zM (v_ge O O)<|λa Y=>G26<|az Y O (λhc14=>?_) (λhc14=>?_)
  ·refine aj<|nv Y<|zN O<|zN O<|λa Y=>aD (E:=3) (sz:=1) O [[jv be]] kr sm O de de Y U λa w7 Y U=>?_
   replace U:St No w0 (own (.slice none 0 0) 3 1 []::[_,_,_]) w7:=U.nil_own
   refine aY (i:=0) (sT:=24) (inf:=Tryz.t3) (z:=jv 0) (b:=0) (off:=0) (m:=0) (c:=0) O O O (U.ow 1 O) sm underlying24 O O O O de BS BU BU de Y U λa w8 s15 Y U _=>wla Y O λa Y=>ab<|G25 ?_
   replace Y:=Y.p6 0 4 6 7 10 12 O
   replace U:=U.k3 13 O
   refine aa λ_ G27=>nv Y<|zN O<|zM (v_ge O O)<|λa Y=>G27<|az Y O (λhc16=>?_) (λhc16=>?_)
   ·refine aj<|nv Y<|zN O<|zN O<|λa Y=>aD (E:=3) (sz:=1) O [[jv af]] kr sm O de de Y U λa w9 Y U=>aY (i:=1) (sT:=24) (inf:=Tryz.t3) (z:=jv 0) (b:=0) (off:=0) (m:=0) (c:=0) O O O (U.ow 0 O) sm underlying24 O O O O de BS BU BU de Y U λa w10 s17 Y U _=>wla Y O λa Y=>ab ?_
    replace U:=U.n4 O
    exact⟨s17,([be,af]:List Int),yQ hdoc h0 h2 om om,sm,Y.pick [0,4,6,7,12],U.select [1,2,3] de⟩
   refine ar ?_
   replace U:=U.n3 O
   exact⟨s15,([be]:List Int),ot om om,sm,Y.pick [0,4,6,7,12],U.select [0,1,2] de⟩
  refine ar<|G25<|aa λ_ G28=>nv Y<|zN O<|zM (v_ge O O)<|λa Y=>G28 ?_
  replace Y:=Y.p7 0 4 6 7 10 12 73 O
  refine az Y O (λhc18=>?_) (λhc18=>?_)
  ·refine aj<|nv Y<|zN O<|zN O<|λa Y=>aD (E:=3) (sz:=1) O [[jv af]] kr sm O de de Y U λa w11 Y U=>?_
   replace U:St No w0 (own (.slice none 0 0) 3 1 []::[_,_,_]) w11:=U.nil_own
   refine aY (i:=0) (sT:=24) (inf:=Tryz.t3) (z:=jv 0) (b:=0) (off:=0) (m:=0) (c:=0) O O O (U.ow 1 O) sm underlying24 O O O O de BS BU BU de Y U λa w12 s19 Y U _=>wla Y O λa Y=>ab ?_
   replace U:=U.n4 O
   exact⟨s19,([af]:List Int),ot om om,sm,Y.pick [0,4,6,7,12],U.select [0,2,3] de⟩
  refine ar ?_
  replace U:St No w0 [own (.slice none 0 0) 3 1 ([]),blk w1.hz [jv 0,jv 0,.string (⟨#[]⟩),.string (⟨#[]⟩),.slice none 0 0] 50,blk w0.hz [jv c,lv] 32] w5:=U.nil_own
  replace U:=U.n3 O
  exact⟨.slice none 0 0,([]:List Int),O,sm,Y.pick [0,4,6,7,12],U.select [0,1,2] de⟩
 rintro a w13 ⟨av,ix,hix,hxl2,Y,U⟩
 refine G23<|ah λ_ G29=>aH (aI λw14 hxz=>?_)
 replace U:=U.grow hxz
 refine aQ (k:=0) 13 [10,12] Y ?_
 replace Y:=Y.p5 0 4 6 7 12 O
 refine fc 11 12 9 [(8,7,λu=>u),(9,8,λu=>tupAt u 0)] 50 [jv 0,jv 0,.string (⟨#[]⟩),.string (⟨#[]⟩),.slice none 0 0] (λu=>u.cells.toList) 13 [[],[],[1],[],[3],[4],[],[0,2,5,6],[7],[8],[8],[],[9,11]] (λi=>match i with|0=>pv (sv key)|1=>pv (.agg #[jv c,lv])|2=>pm (λv:Value=>.agg #[jv c,v]) (λv=>[own v 9 1 ((entC l).map λs=>[sv s])]) (λ_=>True)|3=>pv (po w0.hz 1)|4=>pv (lv)|5=>pv (jv (l.length:Int))|6=>pv (av)|7=>pm (λx:Value × List Itw=>.tuple #[.agg #[jv hd.c,jv hd.n,sv hd.root,sv hd.tag,x.1],jv 0]) (λx=>[itsE x.1 x.2]) (λx=>itsM x.2=showIs sha (entC l) l.length ix)|8=>λv E=>(∃sa0 sn0 sc0,v=.tuple #[.agg #[jv hd.c,jv hd.n,sv hd.root,sv hd.tag,(.slice sa0 sn0 sc0)],jv 0])∧E=[]|9=>λv E=>(∃sa0 sn0 sc0,v=.agg #[jv hd.c,jv hd.n,sv hd.root,sv hd.tag,(.slice sa0 sn0 sc0)])∧E=[]|10=>pv (jv 0)|11=>λv E=>∃b,v=ptr b∧E=[]|12=>λv E=>v=undef∧E=[]|_=>λ_ _=>False) Y (H:=[own av 3 1 ((ix).map λn=>[jv n]),blk w1.hz [jv 0,jv 0,.string (⟨#[]⟩),.string (⟨#[]⟩),.slice none 0 0] 50,blk w0.hz [jv c,lv] 32]) U kr kr kr kr de de de de de de de kr CR ?_ (λ_ _ h=>h) ⟨O,O⟩ (λ_ _=>Iff.rfl) ?_ ?_ ?_ ?_ ?_
 ·intro i v E h
  match i,h with
  | 0,_=>exact by decide
  | 1,_=>exact by decide
  | 2,_=>exact by decide
  | 3,_=>exact by decide
  | 4,_=>exact by decide
  | 5,_=>exact by decide
  | 6,_=>exact by decide
  | 7,_=>exact by decide
  | 8,_=>exact by decide
  | 9,_=>exact by decide
  | 10,_=>exact by decide
  | 11,_=>exact by decide
  | 12,_=>exact by decide
  | i+13,h=>exact h.elim
 ·intro i hi hia hij hil e
  match i,hi,hia,hij,hil with
  | 0,_,_,_,_=>
   intro hl9 w U
   exact OpV.g (au O)
  | 1,_,_,_,_=>
   intro hl9 w U
   exact OpV.g (ap (U.g 3 O) O (isAgg32 _) (sizeOf32 _))
  | 2,_,_,_,_=>
   rintro _ _ ⟨rfl,rfl⟩
   intro hl9 w U
   exact dt call27 O (oH c lv l _ (U.arg hlv) om)
  | 3,_,_,_,_=>
   intro hl9 w U
   exact OpV.g (ac (v:=po w0.hz 1) O kr)
  | 4,_,_,_,_=>
   rintro _ _ ⟨rfl,rfl⟩
   intro hl9 w U
   exact OpV.g (ld U 3 O O (isAgg30 _) O)
  | 5,_,_,_,_=>
   rintro _ _ ⟨rfl,rfl⟩
   intro hl9 w U
   exact OpV.g ((aK (sT:=30) (U.arg hlv) O O (runUnderlying30 _)).asi (m':=(l.length:Int)) B9)
  | 6,_,_,_,_=>
   intro hl9 w U
   exact OpV.g (au O)
  | 7,_,_,_,_=>
   rintro _ _ ⟨rfl,rfl⟩ _ _ ⟨ev21,rfl, -,rfl⟩ _ _ ⟨rfl,rfl⟩ _ _ ⟨rfl,rfl⟩
   intro hl9 w U
   exact dt call48 O (iw key l.length hd av ix c ev21 (entC l) _ (U.ow 0 O) (U.ow 2 O) hk32 hreg Dp hix (AD hxl2 de) hhd)
  | 8,_,_,_,h=>exact absurd de h
  | 9,_,_,_,h=>exact absurd de h
  | 10,_,_,_,_=>
   rintro _ _ ⟨⟨sa0,sn0,sc0,rfl⟩,rfl⟩
   intro hl9 w U
   exact OpV.g (ak O O)
  | 11,_,h,_,_=>exact absurd O h
  | 12,_,_,h,_=>exact absurd O h
  | i+13,h,_,_,_=>exact absurd h om
 ·intro x hx e
  simp only[zY,Ab,As] at hx
  rcases hx with rfl|rfl
  ·rintro _ _ ⟨⟨iv22,Liv22⟩,rfl,hL,rfl⟩
   intro w U
   obtain⟨sa0,sn0,sc0,rfl⟩:=cT (bG (k:=0) U rfl).1
   exact OpV.hopv (OpV.g (au O)) ⟨⟨_,_,_,O⟩,O⟩
  ·rintro _ _ ⟨⟨sa0,sn0,sc0,rfl⟩,rfl⟩
   intro w U
   exact OpV.hopv (OpV.g (ak O O)) ⟨⟨_,_,_,O⟩,O⟩
 ·exact λLv w=>eJ (zeroValue50 _)
 ·rintro _ _ ⟨⟨sa0,sn0,sc0,rfl⟩,rfl⟩ _ _ ⟨b20,rfl,rfl⟩
  intro b hb u hu w h
  have hb:some (ptr b20)=some (ptr b):=hb
  cases hb
  have hu:some (.agg #[jv hd.c,jv hd.n,sv hd.root,sv hd.tag,(.slice sa0 sn0 sc0)])=some u:=hu
  cases hu
  exact dH O O h (sizeOf50 _) O (lb O) O
 clear Y U
 rintro V bq hva hlk _ _ ⟨⟨rfl,rfl⟩, -⟩ _ _ ⟨⟨rfl,rfl⟩, -⟩ _ _ ⟨⟨ev21,rfl, -,rfl⟩, -⟩ _ _ ⟨⟨rfl,rfl⟩, -⟩ _ _ ⟨⟨rfl,rfl⟩, -⟩ _ _ ⟨⟨rfl,rfl⟩, -⟩ _ _ ⟨⟨rfl,rfl⟩, -⟩ _ _ ⟨⟨⟨iv22,Liv22⟩,rfl,hL,rfl⟩,hv7_⟩ v8_ _ ⟨⟨-,rfl⟩,hv8_⟩ v9_ _ ⟨⟨-,rfl⟩,hv9_⟩ _ _ ⟨⟨rfl,rfl⟩, -⟩ _ _ ⟨⟨b20,rfl,rfl⟩,hva9⟩ a w15 Y U
 obtain rfl:b20=bq:=fV (hva9.trans hva)
 obtain rfl:v8_=.tuple #[.agg #[jv hd.c,jv hd.n,sv hd.root,sv hd.tag,iv22],jv 0]:=hv8_.trans ((hlk 0 _ rfl).trans (Ap (λu=>u) hv7_.symm))
 obtain rfl:v9_=.agg #[jv hd.c,jv hd.n,sv hd.root,sv hd.tag,iv22]:=hv9_.trans ((hlk 1 _ rfl).trans (Ap (λu=>tupAt u 0) hv8_.symm))
 rw[←hv9_] at U
 replace Y:=Y.p17 79 80 81 82 83 84 85 86 78 87 88 13 0 4 6 7 12 O
 try dsimp only at U
 replace U:=U.n6 O
 clear hva9 hva hlk hv9_ hv8_ hv7_
 refine ab<|aJ (k:=13) 14 [13] ?_
 refine wla Y O λa Y=>ab<|aR<|G29 ?_
 replace U:=U.k4 30 O
 refine ah λ_ G30=>aa λ_ G31=>nv (Y.p4 6 7 13 14 O)<|zN O<|zM ((v_ne O O).asb (b':=false) O)<|λa Y=>G31<|aG Y O ?_
 refine ar<|G30<|aa λ_ G32=>wlv Y (ap (U.g 1 O) O (isAgg50 _) (sizeOf50 _)) λa Y=>bj (us:=[jv hd.c,jv hd.n,sv hd.root,sv hd.tag,iv22]) 3 Y U O O O (sizeOf50 _) Cg (lb O) (ds:=[jv hd.c,jv hd.n,sv hd.root,sv hd.tag,iv22]) O O λa w16 Y U=>?_
 refine wla Y O λa Y=>G32<|aq ?_
 refine am Y results47 (ao O (bd (U.g 3 O) (isAgg50 _) (sizeOf50 _)) (ae O ag)) ?_
 exact⟨(iv22,Liv22),O,⟨ix,hix,AD hxl2 de,hL⟩,U.ext,St.out (E:=[itsE iv22 Liv22]) (H:=[]) (U.select [0] de)⟩
end Go.Proofs.YtliklcmddmpdfaaGreatDoor
namespace Go.Proofs.YtliklcmddmpdfaaGreatDoor
open Go.RowKit Go.PW _root_.Go.Proofs.Tryz
structure Nin where
 h:Int
 r0:Int
 r1:Int
 s0:Int
 s1:Int
 ca:Int
 se:Int
 cv:Value
 ys:List Cin
def Nin.z:Nin:=⟨0,0,0,0,0,0,0,.slice none 0 0,[]⟩
def Nin.cells (u:Nin):List Value:=[jv u.h,jv u.r0,jv u.r1,jv u.s0,jv u.s1,jv u.ca,jv u.se,u.cv]
def Nin.wt (w:World) (u:Nin):Prop:=(i64 u.h∧i64 u.r0∧i64 u.r1∧i64 u.s0∧i64 u.s1∧i64 u.ca∧i64 u.se)∧SlE w u.cv 5 (u.ys.map Cin.cells)∧(∀y∈u.ys,y.wt)∧u.ys.length≤3518437208883
theorem Nin.wt.grow {w w':World} {u:Nin} (h:u.wt w) (hx:Ext No w w'):u.wt w':=⟨h.1,h.2.1.grow hx,h.2.2⟩
structure Pr2 where
 a:Int
 b:Int
def Pr2.z:Pr2:=⟨0,0⟩
def Pr2.cells (y:Pr2):List Value:=[jv y.a,jv y.b]
def Pr2.wt (y:Pr2):Prop:=i64 y.a∧i64 y.b
structure Pr3 where
 a:Int
 b:Int
 c:Int
def Pr3.z:Pr3:=⟨0,0,0⟩
def Pr3.cells (y:Pr3):List Value:=[jv y.a,jv y.b,jv y.c]
def Pr3.wt (y:Pr3):Prop:=i64 y.a∧i64 y.b∧i64 y.c
def Cin.put (y:Cin):Nat→Cin
 | 0=>{y with y0:=0}
 | 1=>{y with y1:=0}
 | 2=>{y with y2:=0}
 | 3=>{y with y3:=0}
 | _=>{y with y4:=0}
theorem Cin.put_wt {y:Cin} (h:y.wt) (j:Nat):(y.put j).wt:=by
 obtain⟨h0,h1,h2,h3,h4⟩:=h
 have hz:i64 0:=⟨by decide,by decide⟩
 match j with
 | 0=>exact⟨hz,h1,h2,h3,h4⟩
 | 1=>exact⟨h0,hz,h2,h3,h4⟩
 | 2=>exact⟨h0,h1,hz,h3,h4⟩
 | 3=>exact⟨h0,h1,h2,hz,h4⟩
 | j+4=>exact⟨h0,h1,h2,h3,hz⟩
theorem vK {zs:List Cin} {k j:Nat} (hk:k<(zs.map Cin.cells).length) (hj:j<5) (hw:∀y∈zs,y.wt):∃zs':List Cin,(zs.map Cin.cells).set k (splice (zs.map Cin.cells)[k] j [jv 0])=zs'.map Cin.cells∧zs'.length=zs.length∧∀y∈zs',y.wt:=by
 have hk':k<zs.length:=by simpa using hk
 refine⟨zs.set k (zs[k].put j),?_,by simp,?_⟩
 ·rw[Bx]
  congr 1
  rw[Bo]
  match j,hj with
  | 0,_=>rfl
  | 1,_=>rfl
  | 2,_=>rfl
  | 3,_=>rfl
  | 4,_=>rfl
 ·intro y hy
  rcases List.mem_or_eq_of_mem_set hy with hy|rfl
  ·exact hw _ hy
  ·exact Cin.put_wt (hw _ (AM hk')) j
theorem j9:∀{l:List Pxy},(∀p∈l,p.sig.length=32)→(l.flatMap Pxy.text).length≤95*l.length
 | [],h=>by simp
 | p::l,h=>by
  have h1:=h p sm
  have h2:=j9 (l:=l) (λq hq=>h q CL)
  have h3:=fM p
  rw[AA,zS,Pxy.text,zS,z7]
  omega
theorem jJ {x:Wsh} {ps:List Pxy} {t:By} {e:Int} (h:encT x ps=(t,e)):t.length≤900:=by
 unfold encT at h
 cases hq:cx x ps with
 | none=>rw[hq] at h; cases h; simp
 | some z=>
  rw[hq] at h; cases h
  obtain⟨h1,h2,h3,rfl⟩:=cV.1 hq
  have h4:=ig h1
  have h5:=j9 h3
  have h6:=fP x
  have h7:=(bQ (ps.length:Int)).2
  simp only[zS,Wsh.text]
  omega
def lastC:Int→List Cas→Int
 | p,[]=>p
 | _,x::l=>lastC x.n l
theorem nT {x:Cas}:∀{l:List Cas} {p:Int},ascC p (l++[x])=(ascC p l&&(x.ok&&decide (lastC p l<x.n)))
 | [],p=>by rw[Az,ascC]; show ((x.ok&&decide (p<x.n))&&true)=(true&&(x.ok&&decide (p<x.n))); rw[Bw,A8]
 | y::l,p=>by rw[AN,ascC,ascC,nT (l:=l),lastC]; simp only[Bool.and_assoc]
theorem fY {x:Cas}:∀{l:List Cas} {p:Int},lastC p (l++[x])=x.n
 | [],p=>rfl
 | y::l,p=>fY (l:=l)
def Doc (c:Int) (l:List Cas):Prop:=docOk c l=true∧l.length≤6∧∀x∈l,x.n≤23∧x.t<10000
theorem wd {c:Int} {l:List Cas} (hc:0≤c∧c<8) (h:ascC (-1) l=true) (hl:l.length≤6) (ha:∀x∈l,x.n≤23∧x.t<10000):Doc c l:=by
 refine⟨?_,hl,ha⟩
 unfold docOk inB
 rw[h,zU (by omega:0≤c),zU (by omega:c≤7),zU (by omega:l.length≤60)]; rfl
theorem oC {l:List Cas} {x:Cas} {n:Int} (h:ascC (-1) l=true) (hn:lastC (-1) l=n) (hlt:n<x.n) (h0:0≤x.n) (h1:x.n≤23) (h2:0≤x.t) (h3:x.t<10000) (h4:x.ev.length≤900):ascC (-1) (l++[x])=true:=by
 rw[nT,h,hn,zU hlt]
 unfold Cas.ok inB
 rw[zU h0,zU (by omega:x.n≤99999999),zU h2,zU (by omega:x.t≤10000000),zU h4]; rfl
theorem yd (u:Nin) (ca nu ti how:Int) (w0:World) (hu:u.wt w0) (h1:i64 ca) (h2:i64 nu) (h3:i64 ti) (h4:i64 how):
  Ret Tryz.prog 45 #[.agg #[jv u.h,jv u.r0,jv u.r1,jv u.s0,jv u.s1,jv u.ca,jv u.se,u.cv],jv ca,jv nu,jv ti,jv how] w0 (MemR w0 (λs:By=>sv s) (λ_=>[]) (λs=>s.length≤900)):=by
 obtain⟨⟨u1,u2,u3,u4,u5,u6,u7⟩,hce,hyw,hyl⟩:=id hu
 have g0:=u3
 unfold i64 at g0
 have g1:=u5
 unfold i64 at g1
 have g2:=h1
 unfold i64 at g2
 have g3:=h2
 unfold i64 at g3
 have g4:=h3
 unfold i64 at g4
 have g5:=h4
 unfold i64 at g5
 have hhow:=g5
 have p1:=ba u.r1 (n:=5) de
 have p2:=ba u.s1 (n:=5) de
 have p3:=ba how (n:=10) de
 refine BJ func45 O ntmps45 (lb O) λa Y U=>?_
 refine aa λ_ G1=>aS Y U O [jv u.h,jv u.r0,jv u.r1,jv u.s0,jv u.s1,jv u.ca,jv u.se,u.cv] O λa w1 Y U=>wla Y O λa Y=>G1<|ah λ_ G2=>?_
 refine aa λ_ G3=>wlm Y O λa Y=>ax Y U call44 O (bO how 8 _ BX Cf) λa w2 Y U=>wlv Y (v_eq O O) λa Y=>G3<|az Y O (λhc1=>?_) (λhc1=>?_)
 ·refine aa λ_ G4=>wla Y O λa Y=>G4<|aq ?_
  refine am Y results45 (ae O ag) ?_
  exact⟨[],O,de,U.ext,St.out (E:=[]) (H:=[]) (U.select [] de)⟩
 refine ar<|G2<|aa λ_ G5=>nv Y<|zN O<|zM (ac (v:=po w0.hz 1) O kr)<|zM (aT (v:=po w0.hz 2) O O kr)<|zM (ld U 0 O O (isAgg3 _) O)<|λa Y=>ax Y U call44 O (bO u.r1 5 _ BX Cf) λa w3 Y U=>nv Y<|zM (aV (v:=.agg #[jv nu,jv (pickI u.r1 5)]) O kr)<|zM (ac (v:=po w0.hz 1) O kr)<|λa Y=>aB 0 Y U [jv u.h,jv nu,jv (pickI u.r1 5),jv u.s0,jv u.s1,jv u.ca,jv u.se,u.cv] O (sizeOf63 _) λa w4 Y U=>G5 ?_
 refine aa λ_ G6=>nv (Y.p5 1 3 4 5 10 O)<|zN O<|zM (ac (v:=po w0.hz 3) O kr)<|zM (aT (v:=po w0.hz 4) O O kr)<|zM (ld U 0 O O (isAgg3 _) O)<|λa Y=>ax Y U call44 O (bO u.s1 5 _ BX Cf) λa w5 Y U=>nv Y<|zM (aV (v:=.agg #[jv ti,jv (pickI u.s1 5)]) O kr)<|zM (ac (v:=po w0.hz 3) O kr)<|λa Y=>aB 0 Y U [jv u.h,jv nu,jv (pickI u.r1 5),jv ti,jv (pickI u.s1 5),jv u.ca,jv u.se,u.cv] O (sizeOf63 _) λa w6 Y U=>G6 ?_
 refine aa λ_ G7=>nv (Y.p4 1 4 5 10 O)<|zN O<|zM (ac (v:=po w0.hz 5) O kr)<|λa Y=>aB 0 Y U [jv u.h,jv nu,jv (pickI u.r1 5),jv ti,jv (pickI u.s1 5),jv ca,jv u.se,u.cv] O (sizeOf3 _) λa w7 Y U=>G7<|aa λ_ G8=>?_
 refine aD (E:=142) (sz:=5) O [] kr sm O de de Y U λa w8 Y U=>nv Y<|zM (ac (v:=po w0.hz 7) O kr)<|zM (ld U 1 O O (isAgg82 _) O)<|λa Y=>qa (i:=0) (sT:=82) (inf:=Tryz.t142) (z:=.agg #[jv 0,jv 0,jv 0,jv 0,jv 0]) O O O (U.arge hu.2.1) underlying82 O O O O de (by intro e he; obtain⟨y,_,rfl⟩:=AB.1 he; simp[Cin.cells,Value.oneCell']) Dv Dv de Y U λa w9 s2 Y U=>?_
 rw[Az] at U
 refine wla Y O λa Y=>G8 ?_
 refine ah λ_ G9=>aa λ_ G10=>wla (Y.p4 4 5 10 11 O) O λa Y=>G10<|aw ?_
 refine aZ (λm a w=>∃(k:Nat) (zs:List Cin),m=zs.length- k∧(k≤zs.length)∧(∀y∈zs,y.wt)∧(zs.length≤3518437208883)∧Fr 80 [(4,jv how),(5,pq w0.hz),(10,sv ([])),(11,s2),(12,jv (k:Int))] [] a∧St No w0 [own s2 142 5 (zs.map Cin.cells),blk w0.hz [jv u.h,jv nu,jv (pickI u.r1 5),jv ti,jv (pickI u.s1 5),jv ca,jv u.se,u.cv] 84] w) _ ⟨0,u.ys,O,Ah _,hyw,hyl,Y.pick [4,5,10,11,12],U.select [0,1] de⟩ ?_
 rintro _ a w10 ⟨k,zs,rfl,hk,hzw,hzl,Y,U⟩
 refine ah λ_ G11=>aa λ_ G12=>nv Y<|zN O<|zN O<|zM ((aK (sT:=82) (U.ow 0 O) O O (runUnderlying82 _)).asi (m':=(zs.length:Int)) B9)<|zM (v_lt O O)<|λa Y=>G12<|az Y O (λhc3=>?_) (λhc3=>?_)
 ·refine ar<|G11<|ah λ_ G13=>aw<|aa λ_ G14=>nv Y<|zN O<|zN O<|zM ((ai (i:=(k:Int)) (sT:=82) (U.ow 0 O) O O (runUnderlying82 _) (sizeOf142 _) om BQ).as (v':=slAddr s2 (k*5)) O)<|zM (cK (k:=k*5) (j:=1) (U.ow 0 O) (i:=k) BQ O O (λ_ _=>by kernel_rfl))<|λa Y=>?_
  obtain⟨zt4,hezt4,hlzt4,hwzt4⟩:=vK (zs:=zs) (k:=k) (j:=1) BQ de BT
  refine eM (k:=k) (j:=1) (els':=(zt4.map Cin.cells)) 0 Y U O O O BQ om (sizeOf3 _) DA de hezt4 O λa w11 Y U=>G14 ?_
  refine aj<|nv (Y.p5 4 5 10 11 12 O)<|zN O<|zN O<|zM ((ai (i:=(k:Int)) (sT:=82) (U.ow 0 O) O O (runUnderlying82 _) (sizeOf142 _) om BQ).as (v':=slAddr s2 (k*5)) O)<|zM (cK (k:=k*5) (j:=3) (U.ow 0 O) (i:=k) BQ O O (λ_ _=>by kernel_rfl))<|λa Y=>?_
  obtain⟨zt5,hezt5,hlzt5,hwzt5⟩:=vK (zs:=zt4) (k:=k) (j:=3) BQ de BT
  refine eM (k:=k) (j:=3) (els':=(zt5.map Cin.cells)) 0 Y U O O O BQ om (sizeOf3 _) DA de hezt5 O λa w12 Y U=>ab<|G13<|aj<|nv Y<|zN O<|zM (aL O O ⟨om,om⟩)<|zO O<|λa Y=>ab ?_
  refine⟨_,?_,k+1,zt5,O,om,hwzt5,om,Y.pick [4,5,10,11,12],U.select [0,1] de⟩
  omega
 refine aP<|G9<|aa λ_ G15=>nv Y<|zN O<|zM (ac (v:=po w0.hz 7) O kr)<|λa Y=>cb 1 Y U (U.ow 0 O) O O O (sizeOf82 _) (lb O) (ds:=[jv u.h,jv nu,jv (pickI u.r1 5),jv ti,jv (pickI u.s1 5),jv ca,jv u.se,s2]) O O λa w13 Y U=>G15 ?_
 replace Y:=Y.p3 4 5 10 O
 obtain⟨x,hx⟩:∃x,madeW u.h nu (pickI u.r1 5) ti (pickI u.s1 5) ca u.se zs=x:=⟨_,rfl⟩
 obtain⟨ps,hps⟩:∃ps,madeL u.h nu (pickI u.r1 5) ti (pickI u.s1 5) zs=ps:=⟨_,rfl⟩
 have hmk:Mk x ps:=by rw[←hx,←hps]; exact yE _ _ _ _ _ _ _ _
 have hxd:=Wsh.ok_bnd hmk.ok
 obtain⟨xb,hbw⟩:∃bw,bentW x (how.tdiv 8) (pickI how 10)=bw:=⟨_,rfl⟩
 refine aa λ_ G16=>wlv Y (ap (U.g 1 O) O (isAgg84 _) (sizeOf84 _)) λa Y=>bf Y U call32 O (zu hx hps (U.ow 0 O) hzw u1 CT CT CT CT CT u7) λa w14 x7 hp Y U=>?_
 revert x7 hp Y U; rintro pv6 hp Y U
 clear hp
 replace U:=U.n3 O
 refine nv Y<|zN O<|zM (ak O O)<|zM (ak O O)<|λa Y=>aE Y U (zeroValue90 _) [jv 0,jv 0,jv 0,jv 0,jv 0,jv 0,jv 0,jv 0,.string (⟨#[]⟩)] O λa w15 Y U=>aB 0 Y U [jv x.signer,jv x.holder,jv x.rf,jv x.rt,jv x.carrier,jv x.serial,jv x.sf,jv x.st,sv x.sig] O (sizeOf90 _) λa w16 Y U=>wla Y O λa Y=>G16 ?_
 replace Y:=Y.p4 4 10 13 14 O
 replace U:=U.k3 7 O
 refine ah λ_ G17=>aa λ_ G18=>wlm Y O λa Y=>ax Y U call44 O (bO how 8 _ BX Cf) λa w17 Y U=>wlv Y (v_eq O O) λa Y=>G18<|az Y O (λhc8=>?_) (λhc8=>?_)
 ·refine aH (aI λw18 hxz=>?_)
  replace U:=U.grow hxz
  refine aQ (k:=0) 5 [0,2,4] Y ?_
  refine bI 5 (Y.p6 4 10 13 14 61 62 O) U<|pl_w (λU=>ap (U.g 0 O) O (isAgg90 _) (sizeOf90 _))<|pl_m O<|pl_v (jR O O de ⟨om,om⟩)<|pl_m O<|pl_r (λU=>bD call44 O (bO how 10 _ BX Cf)) λa w19 Y U=>?_
  replace Y:=Y.p6 10 13 14 65 67 69 O
  refine ab<|aJ (k:=5) 7 [6] ?_
  refine ax Y U call105 O (ze hbw (fN hhow de) om om) λa w20 Y U=>wlm Y O λa Y=>ab<|aQ (k:=7) 10 [8,9] Y ?_
  replace Y:=Y.p8 10 13 14 65 67 69 70 64 O
  replace U:=U.s3 [0,1,2] de rfl
  refine ew [2] (λq=>if q=2 then blk w14.hz [jv x.signer,jv x.holder,jv x.rf,jv x.rt,jv x.carrier,jv x.serial,jv x.sf,jv x.st,sv x.sig] 90 else join []) (λq=>if q=2 then blk w14.hz [jv xb.signer,jv xb.holder,jv xb.rf,jv xb.rt,jv xb.carrier,jv xb.serial,jv xb.sf,jv xb.st,sv xb.sig] 90 else join []) 3 [[],[],[0]] (λi=>match i with|0=>pv (.agg #[jv xb.signer,jv xb.holder,jv xb.rf,jv xb.rt,jv xb.carrier,jv xb.serial,jv xb.sf,jv xb.st,sv xb.sig])|1=>pv (.bool (!(decide (xb=x))))|2=>λv E=>v=undef∧E=[]|_=>λ_ _=>False) Dy Y (H:=[own pv6 144 7 (ps.map Pxy.cells),own s2 142 5 (zs.map Cin.cells)]) U kr kr kr kr de de ?_ ?_ ?_ ?_ ?_ ?_
  ·intro i v E h
   match i,h with
   | 0,_=>exact by decide
   | 1,_=>exact by decide
   | 2,_=>exact by decide
   | i+3,h=>exact h.elim
  ·intro q v E hq h
   simp only[zY,Ab,As] at hq
   rcases hq with rfl<;>exact h
  ·intro q hq
   simp only[zY,Ab,As] at hq
   rcases hq with rfl<;>exact⟨rfl,rfl⟩
  ·intro i hi hiq e
   match i,hi,hiq with
   | 0,_,_=>exact λw U=>OpV.g (ak O O)
   | 1,_,_=>exact λw U=>OpV.g (ak O O)
   | 2,_,h=>exact absurd de h
  ·intro q hq
   simp only[zY,Ab,As] at hq
   rcases hq with rfl
   ·rintro _ _ ⟨rfl,rfl⟩
    intro w h
    exact dH (cs:=[jv x.signer,jv x.holder,jv x.rf,jv x.rt,jv x.carrier,jv x.serial,jv x.sf,jv x.st,sv x.sig]) (ds:=[jv xb.signer,jv xb.holder,jv xb.rf,jv xb.rt,jv xb.carrier,jv xb.serial,jv xb.sf,jv xb.st,sv xb.sig]) O O h (sizeOf90 _) O (lb O) O
  clear Y U
  rintro _ _ ⟨rfl,rfl⟩ _ _ ⟨rfl,rfl⟩ a w21 Y U
  replace Y:=Y.p10 71 72 10 13 14 65 67 69 70 64 O
  try dsimp only at U
  replace U:=U.n3 O
  refine ab<|aR<|G17 ?_
  refine aa λ_ G19=>nv (Y.p3 10 13 14 O)<|zM (ap (U.g 0 O) O (isAgg90 _) (sizeOf90 _))<|zN O<|λa Y=>?_
  obtain⟨et,ee,hen⟩:∃t e,encT xb ps=(t,e):=⟨_,_,rfl⟩
  have hel:=jJ hen
  refine ax Y U call106 O (jS (x:=xb) (ps:=ps) (t:=et) (e:=ee) hen (U.ow 1 O)) λa w22 Y U=>nv Y<|zN O<|zM (ak O O)<|zM (ak O O)<|zO O<|zO O<|λa Y=>G19 ?_
  replace U:=U.k1 4 O
  refine aa λ_ G20=>nv (Y.p2 10 15 O)<|zN O<|zO O<|λa Y=>G20<|aq ?_
  refine am Y results45 (ae O ag) ?_
  exact⟨et,O,hel,U.ext,St.out (E:=[]) (H:=[]) (U.select [] de)⟩
 refine ar<|G17<|aa λ_ G21=>nv Y<|zM (ap (U.g 0 O) O (isAgg90 _) (sizeOf90 _))<|zN O<|λa Y=>?_
 obtain⟨et,ee,hen⟩:∃t e,encT x ps=(t,e):=⟨_,_,rfl⟩
 have hel:=jJ hen
 refine ax Y U call106 O (jS (x:=x) (ps:=ps) (t:=et) (e:=ee) hen (U.ow 1 O)) λa w23 Y U=>nv Y<|zN O<|zM (ak O O)<|zM (ak O O)<|zO O<|zO O<|λa Y=>G21 ?_
 replace U:=U.k1 4 O
 refine aa λ_ G22=>nv (Y.p2 10 15 O)<|zN O<|zO O<|λa Y=>G22<|aq ?_
 refine am Y results45 (ae O ag) ?_
 exact⟨et,O,hel,U.ext,St.out (E:=[]) (H:=[]) (U.select [] de)⟩
theorem jF (cr:Int) (v1:Value) (cs:List Pr2) (v2:Value) (ns:List Nin) (v3:Value) (hs:List Int) (w0:World) (hv1:SlAt w0 v1 2 (cs.map Pr2.cells)) (hv2:SlAt w0 v2 8 (ns.map Nin.cells)) (hns:∀u∈ns,u.wt w0) (hv3:SlAt w0 v3 1 (hs.map λz:Int=>[jv z])) (hcr:i64 cr) (hcs:∀y∈cs,y.wt) (hhs:∀z∈hs,i64 z):
  Ret Tryz.prog 12 #[.agg #[jv cr,v1,v2,v3]] w0 (MemR w0 (λx:Int × Value × List Cas=>.agg #[jv x.1,x.2.1]) (λx=>[own x.2.1 55 3 (x.2.2.map Cas.cells)]) (λx=>Doc x.1 x.2.2)):=by
 have hxb1:=hv1.2.1
 have hxb2:=hv2.2.1
 have hxb3:=hv3.2.1
 simp only[zR,big] at hxb1 hxb2 hxb3
 obtain⟨c,hcc⟩:∃c,pickI cr 8=c:=⟨_,rfl⟩
 have hcb:=ba cr (n:=8) de
 rw[hcc] at hcb
 have hcr1:=hcr
 unfold i64 at hcr1
 refine BG func12 O ntmps12 (lb O) λa Y U=>?_
 refine aa λ_ G1=>aS Y U O [jv cr,v1,v2,v3] O λa w1 Y U=>aE Y U (zeroValue32 _) [jv 0,.slice none 0 0] O λa w2 Y U=>G1<|aa λ_ G2=>?_
 refine nv Y<|zM (ac (v:=pq w0.hz) O kr)<|zM (ld U 1 O O (isAgg3 _) O)<|λa Y=>ax Y U call44 O (g7 hcc (bO cr 8 _ BX de)) λa w3 Y U=>wlv Y (aV (v:=.agg #[jv c,.slice none 0 0]) O kr) λa Y=>aE Y U (zeroValue32 _) [jv 0,.slice none 0 0] O λa w4 Y U=>aB 0 Y U [jv c,.slice none 0 0] O (sizeOf32 _) λa w5 Y U=>G2<|aa λ_ G3=>?_
 refine wla Y O λa Y=>G3<|ah λ_ G4=>?_
 refine aa λ_ G5=>wla Y O λa Y=>G5<|aw ?_
 replace U:St No w0 [own (.slice none 0 0) 55 3 (([]:List Cas).map Cas.cells),blk w3.hz [jv c,.slice none 0 0] 32,blk w1.hz [jv 0,.slice none 0 0] 32,blk w0.hz [jv cr,v1,v2,v3] 26] w5:=U.nil_own
 refine aZ (λm a w=>∃(k:Nat) (n:Int) (v:Value) (l:List Cas),m=6- k∧(k≤6)∧(l.length=k)∧(ascC (-1) l=true)∧(lastC (-1) l=n)∧(-1≤n∧n<4*(k:Int))∧(∀x∈l,x.n≤23∧x.t<10000)∧Fr 78 [(1,pq w0.hz),(2,pq w1.hz),(3,pq w3.hz),(4,jv n),(5,jv (k:Int))] [] a∧St No w0 [own v 55 3 ((l).map Cas.cells),blk w3.hz [jv c,v] 32,blk w1.hz [jv 0,.slice none 0 0] 32,blk w0.hz [jv cr,v1,v2,v3] 26] w) _ ⟨0, -1,.slice none 0 0,[],O,de,O,O,O,de,sm,Y.pick [1,2,3,4,5],U.select [0,1,2,3] de⟩ ?_
 rintro _ a w6 ⟨k,n,v,l,rfl,hk,hlen,hasc,hln,hnb,hall,Y,U⟩
 refine ah λ_ G6=>aa λ_ G7=>nv Y<|zN O<|zM (ac (v:=po w0.hz 1) O kr)<|zM (ld U 3 O O (isAgg22 _) O)<|zM ((aK (sT:=22) (U.arg hv1) O O (runUnderlying22 _)).asi (m':=(cs.length:Int)) B9)<|zM (v_lt O O)<|zN O<|λa Y=>?_
 rcases Decidable.em ((k:Int)<(cs.length:Int)) with hb1|hb1
 ·rw[zU hb1] at Y
  have hkx:k<cs.length:=by omega
  refine nv Y<|zP (au O)<|zP (v_lt O O)<|zM (ay O O)<|λa Y=>G7 ?_
  replace Y:=Y.p6 1 2 3 4 5 19 O
  refine az Y O (λhc2=>?_) (λhc2=>?_)
  ·refine ar<|G6<|ah λ_ G8=>aw ?_
   obtain⟨y,hy⟩:∃y,cs.getD k Pr2.z=y:=⟨_,rfl⟩
   have hyw:=hcs _ (bC (d:=Pr2.z) hkx)
   rw[hy] at hyw
   obtain⟨hya,hyb⟩:=hyw
   have g1:=hya
   have g2:=hyb
   unfold i64 at g1 g2
   have p1:=ba y.a (n:=4) de
   have p2:=ba y.b (n:=10000) de
   refine aa λ_ G9=>nv Y<|zN O<|zM (aL O O ⟨om,om⟩)<|zM (ac (v:=po w0.hz 1) O kr)<|zM (ld U 3 O O (isAgg22 _) O)<|zN O<|zM ((ai (i:=(k:Int)) (sT:=22) (U.arg hv1) O O (runUnderlying22 _) (sizeOf63 _) om BQ).as (v':=slAddr v1 (k*2)) O)<|zM (cK (k:=k*2) (j:=0) (U.arg hv1) (i:=k) BQ O O (λ_ _=>by kernel_rfl))<|zM (aA (u:=jv y.a) (i:=k) (j:=0) (U.arg hv1) BQ O (isAgg3 _) (by rw[aX Pr2.z,hy]; rfl))<|λa Y=>ax Y U call44 O (bO y.a 4 _ BX de) λa w7 Y U=>nv Y<|zM (aL O O ⟨om,om⟩)<|zO O<|λa Y=>G9 ?_
   refine aa λ_ G10=>nv (Y.p5 1 2 3 5 4 O)<|zN O<|zM (ac (v:=po w0.hz 1) O kr)<|zM (ld U 3 O O (isAgg22 _) O)<|zN O<|zM ((ai (i:=(k:Int)) (sT:=22) (U.arg hv1) O O (runUnderlying22 _) (sizeOf63 _) om BQ).as (v':=slAddr v1 (k*2)) O)<|zM (cK (k:=k*2) (j:=1) (U.arg hv1) (i:=k) BQ O O (λ_ _=>by kernel_rfl))<|zM (aA (u:=jv y.b) (i:=k) (j:=1) (U.arg hv1) BQ O (isAgg3 _) (by rw[aX Pr2.z,hy]; rfl))<|λa Y=>ax Y U call44 O (bO y.b 10000 _ BX de) λa w8 Y U=>wlv Y (aV (v:=.agg #[jv ((n+1)+(pickI y.a 4)),jv (pickI y.b 10000),sv ([]:By)]) O kr) λa Y=>aE Y U (zeroValue55 _) [jv 0,jv 0,.string (⟨#[]⟩)] O λa w9 Y U=>?_
   refine aB 0 Y U [jv ((n+1)+(pickI y.a 4)),jv (pickI y.b 10000),sv ([]:By)] O (sizeOf55 _) λa w10 Y U=>G10 ?_
   refine ah λ_ G11=>aa λ_ G12=>nv (Y.p6 1 2 3 5 4 6 O)<|zN O<|zM (ac (v:=po w0.hz 2) O kr)<|zM (ld U 4 O O (isAgg23 _) O)<|zM ((aK (sT:=23) (U.arg hv2) O O (runUnderlying23 _)).asi (m':=(ns.length:Int)) B9)<|zM (v_lt O O)<|zN O<|λa Y=>?_
   rcases Decidable.em ((k:Int)<(ns.length:Int)) with hb3|hb3
   ·rw[zU hb3] at Y
    refine nv Y<|zP (au O)<|zP (ac (v:=po w0.hz 3) O kr)<|zP (ld U 4 O O (isAgg24 _) O)<|zP ((aK (sT:=24) (U.arg hv3) O O (runUnderlying24 _)).asi (m':=(hs.length:Int)) B9)<|zP (v_lt O O)<|zM (ay O O)<|λa Y=>G12 ?_
    replace Y:=Y.p7 1 2 3 5 4 6 52 O
    refine az Y O (λhc4=>?_) (λhc4=>?_)
    ·obtain⟨u,hud⟩:∃u,ns.getD k Nin.z=u:=⟨_,rfl⟩
     have huw:=hns _ (bC (d:=Nin.z) (show k<ns.length by omega))
     rw[hud] at huw
     have hhw:=hhs _ (bC (d:=(0:Int)) (show k<hs.length by omega))
     refine aH (aI λw11 hxz=>?_)
     replace U:=U.grow hxz
     refine aQ (k:=0) 16 [4,6,8,10,15] Y ?_
     replace Y:=Y.p6 1 2 3 5 4 6 O
     refine bI 16 Y U<|pl_v (ac (v:=po w0.hz 2) O kr)<|pl_w (λU=>ld U 4 O O (isAgg23 _) O)<|pl_m O<|pl_w (λU=>(ai (i:=(k:Int)) (sT:=23) (U.arg hv2) O O (runUnderlying23 _) (sizeOf84 _) om BQ).as (v':=slAddr v2 (k*8)) O)<|pl_w (λU=>(bN (U.arg hv2) (i:=k) BQ O (isAgg84 _) (sizeOf84 _)).as (v':=.agg #[jv u.h,jv u.r0,jv u.r1,jv u.s0,jv u.s1,jv u.ca,jv u.se,u.cv]) (by rw[aX Nin.z,hud]; rfl))<|pl_v (ac (v:=pq w3.hz) O kr)<|pl_w (λU=>ld U 2 O O (isAgg3 _) O) ?_
     refine pl_v (ac (v:=pq w8.hz) O kr)<|pl_w (λU=>ld U 0 O O (isAgg3 _) O)<|pl_v (ac (v:=po w8.hz 1) O kr)<|pl_w (λU=>ld U 0 O O (isAgg3 _) O)<|pl_v (ac (v:=po w0.hz 3) O kr)<|pl_w (λU=>ld U 4 O O (isAgg24 _) O)<|pl_m O<|pl_w (λU=>(ai (i:=(k:Int)) (sT:=24) (U.arg hv3) O O (runUnderlying24 _) (sizeOf3 _) om BQ).as (v':=slAddr v3 (k*1)) O) ?_
     refine pl_w (λU=>aA (u:=jv (hs.getD k 0)) (i:=k) (j:=0) (U.arg hv3) BQ O (isAgg3 _) Ca) λa w12 Y U=>?_
     replace Y:=Y.p11 1 2 3 5 4 6 57 59 61 63 68 O
     refine ab<|aJ (k:=16) 19 [18] ?_
     refine bf Y U call45 O (yd u c ((n+1)+(pickI y.a 4)) (pickI y.b 10000) (hs.getD k 0) _ (huw.grow U.ext) CT CT CT hhw) λa w13 x6 hp Y U=>?_
     revert x6 hp Y U; rintro es5 hp Y U
     have hes5:=hp
     replace U:=U.n5 O
     refine wlv Y (ac (v:=po w8.hz 2) O kr) λa Y=>aB 0 Y U [jv ((n+1)+(pickI y.a 4)),jv (pickI y.b 10000),sv es5] O (sizeOf9 _) λa w14 Y U=>ab<|aR<|G11 ?_
     refine aj<|nv (Y.p6 1 2 3 5 4 6 O)<|zM (ac (v:=po w3.hz 1) O kr)<|zM (ld U 2 O O (isAgg30 _) O)<|zM (ap (U.g 0 O) O (isAgg55 _) (sizeOf55 _))<|λa Y=>aD (E:=55) (sz:=3) O [[jv ((n+1)+(pickI y.a 4)),jv (pickI y.b 10000),sv es5]] kr sm O de de Y U λa w15 Y U=>aY (i:=2) (sT:=30) (inf:=Tryz.t55) (z:=.agg #[jv 0,jv 0,.string (⟨#[]⟩)]) (b:=0) (off:=0) (m:=0) (c:=0) O O O (U.ow 0 O) sm underlying30 O O O O de BS Ch Ch de Y U λa w16 s7 Y U _=>?_
     rw[show ((l).map Cas.cells)++([[jv ((n+1)+(pickI y.a 4)),jv (pickI y.b 10000),sv es5]])=((l++[(⟨((n+1)+(pickI y.a 4)),(pickI y.b 10000),es5⟩:Cas)]).map Cas.cells) from by rw[AH]; rfl] at U
     refine wlv Y (ac (v:=po w3.hz 1) O kr) λa Y=>cb 3 Y U (U.ow 2 O) O O O (sizeOf30 _) (lb O) (ds:=[jv c,s7]) O O λa w17 Y U=>ab<|G8 ?_
     replace U:=U.k4 60 O
     refine aj<|nv (Y.p5 1 2 3 5 4 O)<|zN O<|zM (aL O O ⟨om,om⟩)<|zO O<|λa Y=>ab ?_
     refine⟨_,?_,k+1,((n+1)+(pickI y.a 4)),s7,(l++[(⟨((n+1)+(pickI y.a 4)),(pickI y.b 10000),es5⟩:Cas)]),O,om,(by simp[hlen]),(oC hasc hln Dl De Cy (ba y.b (n:=10000) de).1 (ba y.b (n:=10000) de).2 (by first|assumption|simp)),fY,om,(bT hall ⟨Cy,(ba y.b (n:=10000) de).2⟩),Y.pick [1,2,3,4,5],U.select [0,1,2,3] de⟩
     omega
    refine ar<|G11<|aj<|nv Y<|zM (ac (v:=po w3.hz 1) O kr)<|zM (ld U 2 O O (isAgg30 _) O)<|zM (ap (U.g 0 O) O (isAgg55 _) (sizeOf55 _))<|λa Y=>aD (E:=55) (sz:=3) O [[jv ((n+1)+(pickI y.a 4)),jv (pickI y.b 10000),sv ([]:By)]] kr sm O de de Y U λa w18 Y U=>aY (i:=2) (sT:=30) (inf:=Tryz.t55) (z:=.agg #[jv 0,jv 0,.string (⟨#[]⟩)]) (b:=0) (off:=0) (m:=0) (c:=0) O O O (U.ow 0 O) sm underlying30 O O O O de BS Ch Ch de Y U λa w19 s8 Y U _=>?_
    rw[show ((l).map Cas.cells)++([[jv ((n+1)+(pickI y.a 4)),jv (pickI y.b 10000),sv ([]:By)]])=((l++[(⟨((n+1)+(pickI y.a 4)),(pickI y.b 10000),([]:By)⟩:Cas)]).map Cas.cells) from by rw[AH]; rfl] at U
    refine wlv Y (ac (v:=po w3.hz 1) O kr) λa Y=>cb 3 Y U (U.ow 2 O) O O O (sizeOf30 _) (lb O) (ds:=[jv c,s8]) O O λa w20 Y U=>ab<|G8 ?_
    replace U:=U.k4 60 O
    refine aj<|nv (Y.p5 1 2 3 5 4 O)<|zN O<|zM (aL O O ⟨om,om⟩)<|zO O<|λa Y=>ab ?_
    refine⟨_,?_,k+1,((n+1)+(pickI y.a 4)),s8,(l++[(⟨((n+1)+(pickI y.a 4)),(pickI y.b 10000),([]:By)⟩:Cas)]),O,om,(by simp[hlen]),(oC hasc hln Dl De Cy (ba y.b (n:=10000) de).1 (ba y.b (n:=10000) de).2 (by first|assumption|simp)),fY,om,(bT hall ⟨Cy,(ba y.b (n:=10000) de).2⟩),Y.pick [1,2,3,4,5],U.select [0,1,2,3] de⟩
    omega
   rw[zW hb3] at Y
   refine nv Y<|zQ<|zQ<|zQ<|zQ<|zQ<|zM (al O O)<|λa Y=>G12 ?_
   replace Y:=Y.p7 1 2 3 5 4 6 52 O
   refine aG Y O ?_
   refine ar<|G11<|aj<|nv Y<|zM (ac (v:=po w3.hz 1) O kr)<|zM (ld U 2 O O (isAgg30 _) O)<|zM (ap (U.g 0 O) O (isAgg55 _) (sizeOf55 _))<|λa Y=>aD (E:=55) (sz:=3) O [[jv ((n+1)+(pickI y.a 4)),jv (pickI y.b 10000),sv ([]:By)]] kr sm O de de Y U λa w21 Y U=>aY (i:=2) (sT:=30) (inf:=Tryz.t55) (z:=.agg #[jv 0,jv 0,.string (⟨#[]⟩)]) (b:=0) (off:=0) (m:=0) (c:=0) O O O (U.ow 0 O) sm underlying30 O O O O de BS Ch Ch de Y U λa w22 s9 Y U _=>?_
   rw[show ((l).map Cas.cells)++([[jv ((n+1)+(pickI y.a 4)),jv (pickI y.b 10000),sv ([]:By)]])=((l++[(⟨((n+1)+(pickI y.a 4)),(pickI y.b 10000),([]:By)⟩:Cas)]).map Cas.cells) from by rw[AH]; rfl] at U
   refine wlv Y (ac (v:=po w3.hz 1) O kr) λa Y=>cb 3 Y U (U.ow 2 O) O O O (sizeOf30 _) (lb O) (ds:=[jv c,s9]) O O λa w23 Y U=>ab<|G8 ?_
   replace U:=U.k4 60 O
   refine aj<|nv (Y.p5 1 2 3 5 4 O)<|zN O<|zM (aL O O ⟨om,om⟩)<|zO O<|λa Y=>ab ?_
   refine⟨_,?_,k+1,((n+1)+(pickI y.a 4)),s9,(l++[(⟨((n+1)+(pickI y.a 4)),(pickI y.b 10000),([]:By)⟩:Cas)]),O,om,(by simp[hlen]),(oC hasc hln Dl De Cy (ba y.b (n:=10000) de).1 (ba y.b (n:=10000) de).2 (by first|assumption|simp)),fY,om,(bT hall ⟨Cy,(ba y.b (n:=10000) de).2⟩),Y.pick [1,2,3,4,5],U.select [0,1,2,3] de⟩
   omega
  refine aP<|G4<|aa λ_ G13=>wlv Y (ap (U.g 1 O) O (isAgg32 _) (sizeOf32 _)) λa Y=>bj (us:=[jv c,v]) 2 Y U O O O (sizeOf32 _) Ck (lb O) (ds:=[jv c,v]) O O λa w24 Y U=>?_
  refine G13 ?_
  replace Y:=Y.p1 2 O
  replace U:=U.k2 5 O
  refine aq<|am Y results12 (ao O (bd (U.g 1 O) (isAgg32 _) (sizeOf32 _)) ag) ?_
  exact⟨(c,v,l),O,wd hcb hasc (show l.length≤6 by omega) hall,U.ext,St.out (E:=[own v 55 3 (l.map Cas.cells)]) (H:=[]) (U.select [0] de)⟩
 rw[zW hb1] at Y
 refine nv Y<|zQ<|zQ<|zM (al O O)<|λa Y=>G7 ?_
 replace Y:=Y.p6 1 2 3 4 5 19 O
 refine aG Y O ?_
 refine aP<|G4<|aa λ_ G14=>wlv Y (ap (U.g 1 O) O (isAgg32 _) (sizeOf32 _)) λa Y=>bj (us:=[jv c,v]) 2 Y U O O O (sizeOf32 _) Ck (lb O) (ds:=[jv c,v]) O O λa w25 Y U=>?_
 refine G14 ?_
 replace Y:=Y.p1 2 O
 replace U:=U.k2 5 O
 refine aq<|am Y results12 (ao O (bd (U.g 1 O) (isAgg32 _) (sizeOf32 _)) ag) ?_
 exact⟨(c,v,l),O,wd hcb hasc (show l.length≤6 by omega) hall,U.ext,St.out (E:=[own v 55 3 (l.map Cas.cells)]) (H:=[]) (U.select [0] de)⟩
end Go.Proofs.YtliklcmddmpdfaaGreatDoor
