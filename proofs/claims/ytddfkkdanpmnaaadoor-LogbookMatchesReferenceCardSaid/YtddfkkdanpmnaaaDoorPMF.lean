/- Texts joined: LgG, LgH, LgI, LgJ, LgK, Laid, Door, OpenL. -/
import Derived.Test.YtddfkkdanpmnaaaDoorPME
import Derived.Test.YtddfkkdanpmnaaaDoorPMD
import Derived.Test.YtddfkkdanpmnaaaDoorPMC
import Derived.Test.YtddfkkdanpmnaaaDoorPMB
import Derived.Test.YtddfkkdanpmnaaaDoorPMA
import Derived.LaidMore
import Derived.OpenShut
import Derived.Stop.Joined
import Derived.SevenTiedAt
import Derived.ChangeMaps5
import Derived.Test.YtddfkkdanpmnaaaDoorRows
set_option linter.unusedVariables false
set_option linter.unusedSimpArgs false
set_option maxRecDepth 4000
set_option maxHeartbeats 4000000
namespace Go.Proofs.YtddfkkdanpmnaaaDoor
open Go.RowKit Go.PW _root_.Go.Proofs.Tryd
theorem gy {M : Nat → Prop} {w0 : World} (T : TypeId) (b : Nat) (ad v : Value) (bs s : By) (ws : World) (hlie : liesAt Tryd.prog Tryd.prog.depth T (2 / Tryd.prog.cellsOf T) 0 83 1 = true) (had : ad = .pointer none ∨ ad = pq b) (hne : s ≠ []) (hbn : bs.length + s.length ≤ 1000000000) (U : St M w0 [bld T b ad v bs] ws) :
  Ret Tryd.prog 51 #[pq b, sv s] ws fun u w => u = .tuple #[iv (s.length : Int), .nilIface] ∧ ∃ v2, St M w0 [bld T b (pq b) v2 (bs ++ s)] w := by
 rcases had with rfl | rfl
 ·exact kL T b v bs s ws hlie hne hbn U
 ·exact l7 T b v bs s ws hlie hne hbn U
theorem la (n : Int) : putI n ≠ [] := fun h => by have := (bE n).1; rw [h] at this; simp at this
theorem kR (s : By) : putS s ≠ [] := fun h => la _ (List.append_eq_nil_iff.1 h).1
theorem mO {a b : By} (h : b ≠ []) : a ++ b ≠ [] := fun e => h (List.append_eq_nil_iff.1 e).2
theorem kN {s : By} (h : s.length = 32) : s ≠ [] := fun e => by rw [e] at h; cases h
def encRb (l : List Rec) (k : Nat) : List Value := [iv (k : Int), .agg (l.getD k Rec.z).cells.toArray]
theorem dL (n lo hi : Int) (w0 : World) :
  Ret Tryd.prog 46 #[iv n, iv lo, iv hi] w0 fun v w => v = .bool (inB n lo hi) ∧ Ext No w0 w := by
 refine aI func46 rfl ntmps46 (lb rfl) fun a Y => ?_
 replace Y := Y.p3 0 1 2 rfl
 replace U : St No w0 [] w0 := St.init w0
 refine aa fun K1 hK1 => wla Y rfl fun a Y => ab (hK1 _ _ <| aa fun K2 hK2 => ?_)
 refine wlm Y rfl fun a Y => wlm Y rfl fun a Y => wlv Y (v_le rfl rfl) fun a Y => wlm Y rfl fun a Y => ?_
 refine cK (N := 15) (df := []) 4 [(14, .bool ((decide (lo ≤ n)) && (decide (n ≤ hi)))), (0, iv n), (1, iv lo), (2, iv hi), (6, .bool false)] ?_ (fun hj => ?_)
 rotate_left
 ·rcases Bool.eq_false_or_eq_true (decide (lo ≤ n)) with hb1 | hb1
  ·rw [hb1] at Y
   have hb1b := hb1
   try simp only [qz, Bool.and_eq_true, Bool.or_eq_true, Bool.and_eq_false_iff, Bool.or_eq_false_iff] at hb1
   refine wly Y (ai rfl) fun a Y => wly Y (ai rfl) fun a Y => wly Y (v_le rfl rfl) fun a Y => wlv Y (aB rfl rfl) fun a Y => ?_
   refine hj _ ?_
   try rw [hb1b]
   exact Y.pick [14, 0, 1, 2, 6]
  rw [hb1] at Y
  have hb1b := hb1
  try simp only [qz, Bool.and_eq_true, Bool.or_eq_true, Bool.and_eq_false_iff, Bool.or_eq_false_iff] at hb1
  refine wln Y fun a Y => wln Y fun a Y => wln Y fun a Y => wlv Y (aw rfl rfl) fun a Y => ?_
  refine hj _ ?_
  try rw [hb1b]
  exact Y.pick [14, 0, 1, 2, 6]
 intro a Y
 refine wla Y rfl fun a Y => ab (hK2 _ _ <| au ?_)
 refine ar Y results46 (ae rfl ah) ?_
 exact ⟨by rfl, U.ext⟩
theorem eY (x : Rec) (w0 : World) :
  Ret Tryd.prog 45 #[.agg #[iv x.t, iv x.kind, iv x.a, iv x.b, sv x.text]] w0 fun v w => v = .bool x.ok ∧ Ext No w0 w := by
 refine aI func45 rfl ntmps45 (lb rfl) fun a Y => ?_
 replace Y := Y.p1 0 rfl
 replace U : St No w0 [] w0 := St.init w0
 refine aa fun K1 hK1 => bh Y U de rfl (cs := [iv x.t, iv x.kind, iv x.a, iv x.b, sv x.text]) rfl ?_
 clear Y U
 intro a w1 Y U
 refine wla Y rfl fun a Y => ab (hK1 _ _ <| aa fun K2 hK2 => ?_)
 refine wlv Y (al (v := pq w0.hz) rfl kr) fun a Y => wlv Y (ld U 0 rfl rfl (isAgg3 _) rfl) fun a Y => am Y U de call46 rfl (dL x.t 0 10000000 _) ?_
 clear Y U
 intro a w2 Y U
 refine wlm Y rfl fun a Y => ?_
 rcases Bool.eq_false_or_eq_true (inB x.t 0 10000000) with hb1 | hb1
 ·rw [hb1] at Y
  try simp only [qz] at hb1
  refine wly Y (al (v := po w0.hz 1) rfl kr) fun a Y => wly Y (ld U 0 rfl rfl (isAgg3 _) rfl) fun a Y => aR Y U de rfl de rfl call46 rfl (dL x.kind 1 20 _) ?_
  clear Y U
  intro a w3 Y U
  refine wlv Y (aB rfl rfl) fun a Y => wlm Y rfl fun a Y => ?_
  rcases Bool.eq_false_or_eq_true (inB x.kind 1 20) with hb2 | hb2
  ·rw [hb2] at Y
   try simp only [qz] at hb2
   refine wly Y (al (v := po w0.hz 2) rfl kr) fun a Y => wly Y (ld U 0 rfl rfl (isAgg3 _) rfl) fun a Y => aR Y U de rfl de rfl call46 rfl (dL x.a (-1) 99999999 _) ?_
   clear Y U
   intro a w4 Y U
   refine wlv Y (aB rfl rfl) fun a Y => wlm Y rfl fun a Y => ?_
   rcases Bool.eq_false_or_eq_true (inB x.a (-1) 99999999) with hb3 | hb3
   ·rw [hb3] at Y
    try simp only [qz] at hb3
    refine wly Y (al (v := po w0.hz 3) rfl kr) fun a Y => wly Y (ld U 0 rfl rfl (isAgg3 _) rfl) fun a Y => aR Y U de rfl de rfl call46 rfl (dL x.b (-1) 99999999 _) ?_
    clear Y U
    intro a w5 Y U
    refine wlv Y (aB rfl rfl) fun a Y => wlm Y rfl fun a Y => ?_
    rcases Bool.eq_false_or_eq_true (inB x.b (-1) 99999999) with hb4 | hb4
    ·rw [hb4] at Y
     try simp only [qz] at hb4
     refine wly Y (al (v := po w0.hz 4) rfl kr) fun a Y => wly Y (ld U 0 rfl rfl (isAgg9 _) rfl) fun a Y => wly Y (aW rfl rfl (runUnderlying9 _)) fun a Y => wly Y (v_le rfl rfl) fun a Y => wlv Y (aB rfl rfl) fun a Y => wla Y rfl fun a Y => ab (hK2 _ _ ?_)
     replace Y := Y.p1 2 rfl
     replace U : St No w0 [] w5 := U.mask [false]
     refine au ?_
     refine ar Y results45 (ae rfl ah) ?_
     refine ⟨?_, U.ext⟩
     simp only [retv]
     refine congrArg Value.bool ?_
     unfold Rec.ok
     simp only [hb1, hb2, hb3, hb4, Bool.true_and]
     exact decide_eq_decide.2 om
    rw [hb4] at Y
    try simp only [qz] at hb4
    refine wln Y fun a Y => wln Y fun a Y => wln Y fun a Y => wln Y fun a Y => wlv Y (aw rfl rfl) fun a Y => wla Y rfl fun a Y => ab (hK2 _ _ ?_)
    replace Y := Y.p1 2 rfl
    replace U : St No w0 [] w5 := U.mask [false]
    refine au ?_
    refine ar Y results45 (ae rfl ah) ?_
    refine ⟨?_, U.ext⟩
    simp only [retv]
    refine congrArg Value.bool ?_
    unfold Rec.ok
    simp only [hb1, hb2, hb3, hb4, Bool.true_and, Bool.false_and]
   rw [hb3] at Y
   try simp only [qz] at hb3
   refine wln Y fun a Y => wln Y fun a Y => wln Y fun a Y => wlv Y (aw rfl rfl) fun a Y => wlm Y rfl fun a Y => wln Y fun a Y => wln Y fun a Y => wln Y fun a Y => wln Y fun a Y => wlv Y (aw rfl rfl) fun a Y => wla Y rfl fun a Y => ab (hK2 _ _ ?_)
   replace Y := Y.p1 2 rfl
   replace U : St No w0 [] w4 := U.mask [false]
   refine au ?_
   refine ar Y results45 (ae rfl ah) ?_
   refine ⟨?_, U.ext⟩
   simp only [retv]
   refine congrArg Value.bool ?_
   unfold Rec.ok
   simp only [hb1, hb2, hb3, Bool.true_and, Bool.false_and]
  rw [hb2] at Y
  try simp only [qz] at hb2
  refine wln Y fun a Y => wln Y fun a Y => wln Y fun a Y => wlv Y (aw rfl rfl) fun a Y => wlm Y rfl fun a Y => wln Y fun a Y => wln Y fun a Y => wln Y fun a Y => wlv Y (aw rfl rfl) fun a Y => wlm Y rfl fun a Y => wln Y fun a Y => wln Y fun a Y => ?_
  refine wln Y fun a Y => wln Y fun a Y => wlv Y (aw rfl rfl) fun a Y => wla Y rfl fun a Y => ab (hK2 _ _ ?_)
  replace Y := Y.p1 2 rfl
  replace U : St No w0 [] w3 := U.mask [false]
  refine au ?_
  refine ar Y results45 (ae rfl ah) ?_
  refine ⟨?_, U.ext⟩
  simp only [retv]
  refine congrArg Value.bool ?_
  unfold Rec.ok
  simp only [hb1, hb2, Bool.true_and, Bool.false_and]
 rw [hb1] at Y
 try simp only [qz] at hb1
 refine wln Y fun a Y => wln Y fun a Y => wln Y fun a Y => wlv Y (aw rfl rfl) fun a Y => wlm Y rfl fun a Y => wln Y fun a Y => wln Y fun a Y => wln Y fun a Y => wlv Y (aw rfl rfl) fun a Y => wlm Y rfl fun a Y => wln Y fun a Y => wln Y fun a Y => ?_
 refine wln Y fun a Y => wlv Y (aw rfl rfl) fun a Y => wlm Y rfl fun a Y => wln Y fun a Y => wln Y fun a Y => wln Y fun a Y => wln Y fun a Y => wlv Y (aw rfl rfl) fun a Y => wla Y rfl fun a Y => ab (hK2 _ _ ?_)
 replace Y := Y.p1 2 rfl
 replace U : St No w0 [] w2 := U.mask [false]
 refine au ?_
 refine ar Y results45 (ae rfl ah) ?_
 refine ⟨?_, U.ext⟩
 simp only [retv]
 refine congrArg Value.bool ?_
 unfold Rec.ok
 simp only [hb1, Bool.true_and, Bool.false_and]
theorem cX (o : Int) (lv : Value) (l : List Rec) (w0 : World) (hlv : SlAt w0 lv 5 (l.map Rec.cells)) :
  Ret Tryd.prog 16 #[.agg #[iv o, lv]] w0 fun v w => v = .bool (logOk o l) ∧ Ext No w0 w := by
 have hxb := hlv.2.1
 simp only [List.length_map, big] at hxb
 refine aI func16 rfl ntmps16 (lb rfl) fun a Y => ?_
 replace Y := Y.p1 0 rfl
 replace U : St No w0 [] w0 := St.init w0
 refine aa fun K1 hK1 => bh Y U de rfl (cs := [iv o, lv]) rfl ?_
 clear Y U
 intro a w1 Y U
 refine wla Y rfl fun a Y => ab (hK1 _ _ <| aa fun K2 hK2 => ?_)
 refine wla Y rfl fun a Y => ab (hK2 _ _ <| ac fun K3 hK3 => ?_)
 refine aa fun K4 hK4 => wlv Y (al (v := po w0.hz 1) rfl kr) fun a Y => wlv Y (ld U 0 rfl rfl (isAgg23 _) rfl) fun a Y => wlv Y ((aK (sT := 23) (U.arg hlv) rfl rfl (runUnderlying23 _)).asi (m' := (l.length : Int)) (by rw [List.length_map])) fun a Y => wlm Y rfl fun a Y => ab (hK4 _ _ <| ap ?_)
 refine aV (fun m a w => ∃ (k : Nat), m = l.length - k ∧ (k ≤ l.length) ∧ (bD 0 l = bD (prevT l k) (l.drop k)) ∧ Fr 34 [(1, pq w0.hz), (7, lv), (8, iv (l.length : Int)), (3, iv (prevT l k)), (9, iv (k : Int))] [] a ∧ St No w0 [blk w0.hz [iv o, lv] 25] w) _ ⟨0, rfl, Nat.zero_le _, rfl, Y.pick [1, 7, 8, 3, 9], U.select [0] de⟩ ?_
 rintro _ a w2 ⟨k, rfl, hk, hs, Y, U⟩
 refine aa fun K5 hK5 => wlv Y (v_lt rfl rfl) fun a Y => ab (hK5 _ _ <| ac fun K6 hK6 => ?_)
 refine az Y rfl (fun hc1 => ?_) (fun hc1 => ?_)
 ·rw [hc1] at Y
  try simp only [qz] at hc1
  have hkx : k < l.length := by omega
  refine aq <| hK6 _ _ <| ac fun K7 hK7 => ap <| aa fun K8 hK8 => wlv Y ((ak (i := (k : Int)) (sT := 23) (U.arg hlv) rfl rfl (runUnderlying23 _) (sizeOf27 _) om (by rw [List.length_map]; omega)).as (v' := slAddr lv (k * 5)) rfl) fun a Y => wlv Y ((bt (U.arg hlv) (i := k) (by rw [List.length_map]; omega) rfl (isAgg27 _) (sizeOf27 _)).as (v' := .agg #[iv ((l.getD k Rec.z).t), iv ((l.getD k Rec.z).kind), iv ((l.getD k Rec.z).a), iv ((l.getD k Rec.z).b), sv ((l.getD k Rec.z).text)]) (by rw [br Rec.z]; rfl)) fun a Y => aC Y U de (zeroValue27 _) (cs := [iv 0, iv 0, iv 0, iv 0, .string (⟨#[]⟩)]) rfl ?_
  clear Y U
  intro a w3 Y U
  refine ay 0 Y U rfl rfl rfl (sizeOf27 _) rfl (lb rfl) (ds := [iv ((l.getD k Rec.z).t), iv ((l.getD k Rec.z).kind), iv ((l.getD k Rec.z).a), iv ((l.getD k Rec.z).b), sv ((l.getD k Rec.z).text)]) rfl rfl ?_
  clear Y U
  intro a w4 Y U
  refine ab (hK8 _ _ <| ac fun K9 hK9 => ?_)
  refine aa fun K10 hK10 => wlv Y (aj (U.g 0 rfl) rfl (isAgg27 _) (sizeOf27 _)) fun a Y => am Y U de call45 rfl (eY (l.getD k Rec.z) _) ?_
  clear Y U
  intro a w5 Y U
  refine wlv Y (bn rfl) fun a Y => wlm Y rfl fun a Y => ?_
  rcases Bool.eq_false_or_eq_true (!((l.getD k Rec.z).ok)) with hb2 | hb2
  ·rw [hb2] at Y
   try simp only [qz] at hb2
   have hbad : bD 0 l = false := by rw [hs]; exact oP hkx (by simpa using hb2)
   refine wln Y fun a Y => wln Y fun a Y => wln Y fun a Y => wln Y fun a Y => wlv Y (aB rfl rfl) fun a Y => ab (hK10 _ _ ?_)
   replace Y := Y.p6 1 7 8 9 5 21 rfl
   refine aD Y rfl ?_
   refine aa fun K11 hK11 => wla Y rfl fun a Y => ab (hK11 _ _ <| au ?_)
   refine ar Y results16 (ae rfl ah) ?_
   refine ⟨?_, U.ext⟩
   simp only [retv]
   refine congrArg Value.bool ?_
   unfold logOk; rw [hbad]; rfl
  rw [hb2] at Y
  try simp only [qz] at hb2
  have hok : (l.getD k Rec.z).ok = true := by simpa using hb2
  refine wly Y (al (v := pq w2.hz) rfl kr) fun a Y => wly Y (ld U 0 rfl rfl (isAgg3 _) rfl) fun a Y => wly Y (ai rfl) fun a Y => wly Y (v_lt rfl rfl) fun a Y => wlv Y (aw rfl rfl) fun a Y => ab (hK10 _ _ ?_)
  replace Y := Y.p6 1 7 8 9 5 21 rfl
  refine az Y rfl (fun hc3 => ?_) (fun hc3 => ?_)
  ·rw [hc3] at Y
   try simp only [qz] at hc3
   have hbad : bD 0 l = false := by rw [hs]; exact oT hkx hc3
   refine aa fun K12 hK12 => wla Y rfl fun a Y => ab (hK12 _ _ <| au ?_)
   refine ar Y results16 (ae rfl ah) ?_
   refine ⟨?_, U.ext⟩
   simp only [retv]
   refine congrArg Value.bool ?_
   unfold logOk; rw [hbad]; rfl
  rw [hc3] at Y
  try simp only [qz] at hc3
  have hgo : prevT l k ≤ (l.getD k Rec.z).t := by omega
  refine aq <| hK9 _ _ <| ao <| wlv Y (al (v := pq w2.hz) rfl kr) fun a Y => wlv Y (ld U 0 rfl rfl (isAgg3 _) rfl) fun a Y => wla Y rfl fun a Y => ab <| hK7 _ _ <| ao <| wlv Y (aM rfl rfl ⟨om, om⟩) fun a Y => wlm Y rfl fun a Y => ab ?_
  refine ⟨_, ?_, k + 1, rfl, om, (by rw [hs]; exact mo hkx hok hgo), Y.pick [1, 7, 8, 3, 9], U.select [1] de⟩
  omega
 rw [hc1] at Y
 try simp only [qz] at hc1
 have hall : bD 0 l = true := by rw [hs, show k = l.length by omega, List.drop_length]; rfl
 refine aL <| hK3 _ _ <| aa fun K13 hK13 => wlv Y (al (v := pq w0.hz) rfl kr) fun a Y => wlv Y (ld U 0 rfl rfl (isAgg3 _) rfl) fun a Y => am Y U de call46 rfl (dL o 0 99 _) ?_
 clear Y U
 intro a w6 Y U
 refine wlm Y rfl fun a Y => ?_
 rcases Bool.eq_false_or_eq_true (inB o 0 99) with hb4 | hb4
 ·rw [hb4] at Y
  try simp only [qz] at hb4
  refine wly Y (al (v := po w0.hz 1) rfl kr) fun a Y => wly Y (ld U 0 rfl rfl (isAgg23 _) rfl) fun a Y => wly Y ((aK (sT := 23) (U.arg hlv) rfl rfl (runUnderlying23 _)).asi (m' := (l.length : Int)) (by rw [List.length_map])) fun a Y => wly Y (v_le rfl rfl) fun a Y => wlv Y (aB rfl rfl) fun a Y => wla Y rfl fun a Y => ab (hK13 _ _ ?_)
  replace Y := Y.p1 2 rfl
  replace U : St No w0 [] w6 := U.mask [false]
  refine au ?_
  refine ar Y results16 (ae rfl ah) ?_
  refine ⟨?_, U.ext⟩
  simp only [retv]
  refine congrArg Value.bool ?_
  unfold logOk; rw [hall, hb4]; simp only [Bool.true_and]; exact decide_eq_decide.2 om
 rw [hb4] at Y
 try simp only [qz] at hb4
 refine wln Y fun a Y => wln Y fun a Y => wln Y fun a Y => wln Y fun a Y => wlv Y (aw rfl rfl) fun a Y => wla Y rfl fun a Y => ab (hK13 _ _ ?_)
 replace Y := Y.p1 2 rfl
 replace U : St No w0 [] w6 := U.mask [false]
 refine au ?_
 refine ar Y results16 (ae rfl ah) ?_
 refine ⟨?_, U.ext⟩
 simp only [retv]
 refine congrArg Value.bool ?_
 unfold logOk; rw [hall, hb4]; rfl
theorem gI {M : Nat → Prop} {w0 : World} (T : TypeId) (b : Nat) (ad v lv : Value) (bs : By) (ns : List Int) (ws : World) (hlie : liesAt Tryd.prog Tryd.prog.depth T (2 / Tryd.prog.cellsOf T) 0 83 1 = true) (had : ad = .pointer none ∨ ad = pq b) (hns : smalls ns) (hnn : ns ≠ []) (hbn : bs.length + 9 * ns.length ≤ 1000000000) (U : St M w0 [bld T b (ad) v bs, own lv 3 1 ((ns).map fun n => [iv n])] ws) :
  Ret Tryd.prog 49 #[pq b, lv] ws fun u w => u = .tuple #[] ∧ ∃ v2, St M w0 [bld T b (pq b) v2 (bs ++ puts ns)] w := by
 refine aI func49 rfl ntmps49 (lb rfl) fun a Y => ?_
 replace Y := Y.p2 0 1 rfl
 skip
 refine aa fun K1 hK1 => wlm Y rfl fun a Y => wlv Y ((aK (sT := 41) (U.ow 1 rfl) rfl rfl (runUnderlying41 _)).asi (m' := (ns.length : Int)) (by rw [List.length_map])) fun a Y => wlm Y rfl fun a Y => ab (hK1 _ _ <| ap ?_)
 replace U : St M w0 [bld T b ad v (bs ++ puts (ns.take 0)), own lv 3 1 ((ns).map fun n => [iv n])] ws := by rw [show bs ++ puts (ns.take 0) = bs from by simp [puts]]; exact U
 refine aV (fun m a w => ∃ (k : Nat) (ad : Value) (v : Value), m = ns.length - k ∧ (k ≤ ns.length) ∧ (ad = .pointer none ∨ ad = pq b) ∧ (0 < k → ad = pq b) ∧ Fr 25 [(0, pq b), (8, lv), (9, iv (ns.length : Int)), (10, iv (k : Int))] [] a ∧ St M w0 [bld T b (ad) v (bs ++ puts (ns.take k)), own lv 3 1 ((ns).map fun n => [iv n])] w) _ ⟨0, ad, v, rfl, Nat.zero_le _, had, (fun h => absurd h (Nat.lt_irrefl 0)), Y.pick [0, 8, 9, 10], U⟩ ?_
 rintro _ a w1 ⟨k, ad, v, rfl, hk, had, hak, Y, U⟩
 refine aa fun K2 hK2 => wlv Y (v_lt rfl rfl) fun a Y => ab (hK2 _ _ <| ac fun K3 hK3 => ?_)
 refine az Y rfl (fun hc1 => ?_) (fun hc1 => ?_)
 ·rw [hc1] at Y
  try simp only [qz] at hc1
  refine aq <| hK3 _ _ <| ac fun K4 hK4 => ap <| aa fun K5 hK5 => wlv Y ((ak (i := (k : Int)) (sT := 41) (U.ow 1 rfl) rfl rfl (runUnderlying41 _) (sizeOf3 _) om (by rw [List.length_map]; omega)).as (v' := slAddr lv (k * 1)) rfl) fun a Y => wlv Y (ax (u := iv (ns.getD k 0)) (i := k) (j := 0) (U.ow 1 rfl) (by rw [List.length_map]; omega) rfl (isAgg3 _) (by rw [br (0 : Int)]; rfl)) fun a Y => wla Y rfl fun a Y => ab (hK5 _ _ <| aa fun K6 hK6 => ?_)
  refine wlm Y rfl fun a Y => am Y U de call75 rfl (ib (ns.getD k 0) _ (hns _ (bF om))) ?_
  clear Y U
  intro a w2 Y U
  refine wlm Y rfl fun a Y => wlv Y (ag rfl rfl) fun a Y => wlv Y (ag rfl rfl) fun a Y => wla Y rfl fun a Y => wla Y rfl fun a Y => ab (hK6 _ _ ?_)
  replace Y := Y.p5 0 8 9 10 6 rfl
  refine ao <| wlm Y rfl fun a Y => wlv Y (bp rfl) fun a Y => wlv Y (al (v := pq b) rfl kr) fun a Y => wlm Y rfl fun a Y => dg (R := fun u e' => u = .tuple #[iv ((putI (ns.getD k 0)).length : Int), .nilIface] ∧ ∃ v2, e' = bld T b (pq b) v2 ((bs ++ puts (ns.take k)) ++ (putI (ns.getD k 0)))) 0 Y U rfl de call51 rfl (fun h => (gy T b _ _ _ _ _ hlie (had) (la _) (by have h1 := gH (ns.take k); have h2 := (bE (ns.getD k 0)).2; rw [List.length_take] at h1; rw [List.length_append]; omega) h).mono fun u w ⟨h1, v2, h2⟩ => ⟨_, ⟨h1, v2, rfl⟩, h2⟩) ?_
  clear Y U
  rintro a w3 _ _ ⟨rfl, v2, rfl⟩ Y U
  replace U : St M w0 [_, _] w3 := U
  refine ab <| hK4 _ _ ?_
  replace Y := Y.p4 0 8 9 10 rfl
  refine ao <| wlv Y (aM rfl rfl ⟨om, om⟩) fun a Y => wlm Y rfl fun a Y => ab ?_
  replace U : St M w0 [bld T b (pq b) v2 (bs ++ puts (ns.take (k + 1))), own lv 3 1 ((ns).map fun n => [iv n])] w3 := by rw [show bs ++ puts (ns.take (k + 1)) = (bs ++ puts (ns.take k)) ++ (putI (ns.getD k 0)) from by rw [cc 0 om, lH, List.append_assoc]]; exact U
  refine ⟨_, ?_, k + 1, pq b, v2, rfl, om, (.inr rfl), (fun _ => rfl), Y.pick [0, 8, 9, 10], U⟩
  omega
 rw [hc1] at Y
 try simp only [qz] at hc1
 obtain rfl : k = ns.length := by omega
 rw [List.take_length] at U
 obtain rfl := hak (List.length_pos_iff.2 hnn)
 refine aL ?_
 refine dv Y results49 ah ?_
 exact ⟨rfl, _, U.select [0] de⟩
theorem oZ (x : Rec) (w0 : World) (hok : x.ok = true) :
  Ret Tryd.prog 22 #[.agg #[iv x.t, iv x.kind, iv x.a, iv x.b, sv x.text]] w0 fun v w => v = .tuple #[sv x.enc, iv 0] ∧ Ext No w0 w := by
 have hle := Rec.len hok
 have hpl := gH [x.t, x.kind, x.a, x.b]
 have hq4 := bE (x.text.length : Int)
 have hq5 : (putS x.text).length ≤ 300 := by unfold putS; rw [List.length_append]; omega
 simp only [List.length_cons, List.length_nil] at hpl
 refine aI func22 rfl ntmps22 (lb rfl) fun a Y => ?_
 replace Y := Y.p1 0 rfl
 replace U : St No w0 [] w0 := St.init w0
 refine aa fun K1 hK1 => bh Y U de rfl (cs := [iv x.t, iv x.kind, iv x.a, iv x.b, sv x.text]) rfl ?_
 clear Y U
 intro a w1 Y U
 refine wla Y rfl fun a Y => wla Y rfl fun a Y => ab (hK1 _ _ <| ac fun K2 hK2 => ?_)
 refine aa fun K3 hK3 => wlv Y (aj (U.g 0 rfl) rfl (isAgg27 _) (sizeOf27 _)) fun a Y => am Y U de call45 rfl (eY x _) ?_
 clear Y U
 intro a w2 Y U
 refine wlv Y (bn rfl) fun a Y => ab (hK3 _ _ ?_)
 refine az Y rfl (fun hc1 => ?_) (fun hc1 => ?_)
 ·rw [hc1] at Y
  try simp only [qz] at hc1
  simp [hok] at hc1
 rw [hc1] at Y
 try simp only [qz] at hc1
 refine aq <| hK2 _ _ <| aa fun K4 hK4 => aC Y U de (zeroValue85 _) (cs := [.pointer none, .slice none 0 0]) rfl ?_
 clear Y U
 intro a w3 Y U
 refine ab (hK4 _ _ ?_)
 replace U : St No w0 (own (.slice none 0 0) 5 1 [] :: [blk w2.hz [.pointer none, .slice none 0 0] 85, blk w0.hz [iv x.t, iv x.kind, iv x.a, iv x.b, sv x.text] 27]) w3 := U.nil_own
 replace U : St No w0 [blk w2.hz [.pointer none, .slice none 0 0] 85, own (.slice none 0 0) 5 1 ([]), blk w0.hz [iv x.t, iv x.kind, iv x.a, iv x.b, sv x.text] 27] w3 := U.select [1, 0, 2] de
 replace U : St No w0 [bld 85 w2.hz (.pointer none) (.slice none 0 0) ([] : By), blk w0.hz [iv x.t, iv x.kind, iv x.a, iv x.b, sv x.text] 27] w3 := St.join [blk w2.hz [.pointer none, .slice none 0 0] 85, own (.slice none 0 0) 5 1 ([])] [blk w0.hz [iv x.t, iv x.kind, iv x.a, iv x.b, sv x.text] 27] U
 refine aa fun K5 hK5 => wlv Y (al (v := pq w0.hz) rfl kr) fun a Y => wlv Y (ld U 1 rfl rfl (isAgg3 _) rfl) fun a Y => wlv Y (al (v := po w0.hz 1) rfl kr) fun a Y => wlv Y (ld U 1 rfl rfl (isAgg3 _) rfl) fun a Y => wlv Y (al (v := po w0.hz 2) rfl kr) fun a Y => wlv Y (ld U 1 rfl rfl (isAgg3 _) rfl) fun a Y => wlv Y (al (v := po w0.hz 3) rfl kr) fun a Y => wlv Y (ld U 1 rfl rfl (isAgg3 _) rfl) fun a Y => aG (E := 3) (sz := 1) rfl [[iv x.t], [iv x.kind], [iv x.a], [iv x.b]] kr sm rfl de de Y U ?_
 clear Y U
 intro a w4 Y U
 replace U : St No w0 [bld 85 w2.hz (.pointer none) (.slice none 0 0) ([] : By), own (.slice (some ⟨w3.hz, 0, none⟩) 4 4) 3 1 ([[iv x.t], [iv x.kind], [iv x.a], [iv x.b]]), blk w0.hz [iv x.t, iv x.kind, iv x.a, iv x.b, sv x.text] 27] w4 := U.select [1, 0, 2] de
 replace U := St.join [bld 85 w2.hz (.pointer none) (.slice none 0 0) ([] : By), own (.slice (some ⟨w3.hz, 0, none⟩) 4 4) 3 1 ([[iv x.t], [iv x.kind], [iv x.a], [iv x.b]])] [blk w0.hz [iv x.t, iv x.kind, iv x.a, iv x.b, sv x.text] 27] U
 refine dg (R := fun u e' => u = .tuple #[] ∧ ∃ v2, e' = bld 85 w2.hz (pq w2.hz) v2 (([] : By) ++ puts [x.t, x.kind, x.a, x.b])) 0 Y U rfl de call49 rfl (fun h => (gI 85 w2.hz _ _ _ _ [x.t, x.kind, x.a, x.b] _ kr (.inl rfl) (Rec.smalls hok) sm sm (St.unjoin [bld 85 w2.hz (.pointer none) (.slice none 0 0) ([] : By), own (.slice (some ⟨w3.hz, 0, none⟩) 4 4) 3 1 ([[iv x.t], [iv x.kind], [iv x.a], [iv x.b]])] [] h)).mono fun u w ⟨h1, v2, h2⟩ => ⟨_, ⟨h1, v2, rfl⟩, h2⟩) ?_
 clear Y U
 rintro a w5 _ _ ⟨rfl, v2, rfl⟩ Y U
 replace U : St No w0 [_, _] w5 := U
 refine ab (hK5 _ _ ?_)
 replace Y := Y.p4 1 2 3 4 rfl
 refine aa fun K6 hK6 => wlv Y (al (v := po w0.hz 4) rfl kr) fun a Y => wlv Y (ld U 1 rfl rfl (isAgg9 _) rfl) fun a Y => am Y U de call50 rfl (iI x.text _ om) ?_
 clear Y U
 intro a w6 Y U
 refine wlm Y rfl fun a Y => wlv Y (ag rfl rfl) fun a Y => wlv Y (ag rfl rfl) fun a Y => wla Y rfl fun a Y => wla Y rfl fun a Y => ab (hK6 _ _ ?_)
 replace Y := Y.p4 2 3 4 5 rfl
 replace U := U.k1 1 rfl
 refine aa fun K7 hK7 => wlv Y (al (v := pq w2.hz) rfl kr) fun a Y => wlm Y rfl fun a Y => dg (R := fun u e' => u = .tuple #[iv ((putS x.text).length : Int), .nilIface] ∧ ∃ v2, e' = bld 85 w2.hz (pq w2.hz) v2 ((([] : By) ++ puts [x.t, x.kind, x.a, x.b]) ++ (putS x.text))) 0 Y U rfl de call51 rfl (fun h => (gy 85 w2.hz _ _ _ _ _ kr (.inr rfl) (kR _) (by rw [List.length_append, List.length_nil]; omega) h).mono fun u w ⟨h1, v2, h2⟩ => ⟨_, ⟨h1, v2, rfl⟩, h2⟩) ?_
 clear Y U
 rintro a w7 _ _ ⟨rfl, v3, rfl⟩ Y U
 replace U : St No w0 [_] w7 := U
 refine ab (hK7 _ _ <| aa fun K8 hK8 => ?_)
 refine wlv Y (al (v := pq w2.hz) rfl kr) fun a Y => dg (R := fun u e' => u = sv ((([] : By) ++ puts [x.t, x.kind, x.a, x.b]) ++ (putS x.text)) ∧ e' = blk w2.hz [pq w2.hz, v3] 85) 0 Y U rfl de call52 rfl (fun h => (gC 85 w2.hz _ _ _ (mO (kR _)) h).mono fun u w ⟨h1, h2⟩ => ⟨_, ⟨h1, rfl⟩, h2⟩) ?_
 clear Y U
 rintro a w8 _ _ ⟨rfl, rfl⟩ Y U
 replace U : St No w0 [_] w8 := U
 refine wla Y rfl fun a Y => wla Y rfl fun a Y => ab (hK8 _ _ ?_)
 replace Y := Y.p2 2 3 rfl
 refine au ?_
 refine ar Y results22 (ae rfl (ae rfl ah)) ?_
 exact ⟨by simp only [retv]; simp [Rec.enc], U.ext⟩
theorem oo (x : Rec) (w0 : World) (hok : x.ok = false) :
  Ret Tryd.prog 22 #[.agg #[iv x.t, iv x.kind, iv x.a, iv x.b, sv x.text]] w0 fun v w => v = .tuple #[sv ([] : By), iv 110] ∧ Ext No w0 w := by
 refine aI func22 rfl ntmps22 (lb rfl) fun a Y => ?_
 replace Y := Y.p1 0 rfl
 replace U : St No w0 [] w0 := St.init w0
 refine aa fun K1 hK1 => bh Y U de rfl (cs := [iv x.t, iv x.kind, iv x.a, iv x.b, sv x.text]) rfl ?_
 clear Y U
 intro a w1 Y U
 refine wla Y rfl fun a Y => wla Y rfl fun a Y => ab (hK1 _ _ <| ac fun K2 hK2 => ?_)
 refine aa fun K3 hK3 => wlv Y (aj (U.g 0 rfl) rfl (isAgg27 _) (sizeOf27 _)) fun a Y => am Y U de call45 rfl (eY x _) ?_
 clear Y U
 intro a w2 Y U
 refine wlv Y (bn rfl) fun a Y => ab (hK3 _ _ ?_)
 refine az Y rfl (fun hc1 => ?_) (fun hc1 => ?_)
 ·rw [hc1] at Y
  try simp only [qz] at hc1
  refine aa fun K4 hK4 => wla Y rfl fun a Y => wla Y rfl fun a Y => ab (hK4 _ _ <| au ?_)
  refine ar Y results22 (ae rfl (ae rfl ah)) ?_
  exact ⟨by rfl, U.ext⟩
 rw [hc1] at Y
 try simp only [qz] at hc1
 simp [hok] at hc1
theorem dN (x : Rec) (w0 : World) : Ret Tryd.prog 22 #[.agg #[iv x.t, iv x.kind, iv x.a, iv x.b, sv x.text]] w0 fun v w => v = .tuple #[sv (eB x), iv (eE x)] ∧ Ext No w0 w := by
 unfold eB eE
 cases h : x.ok with
 | true => rw [if_pos rfl, if_pos rfl]; exact oZ x w0 h
 | false => rw [if_neg sm, if_neg sm]; exact oo x w0 h
theorem m8 (key : By) (o n : Int) (root : By) (w0 : World) (ho : small o) (hn : small n) (hr : root.length = 32) (hk : key.length ≤ 1000) (hk0 : (blk 0 (kOf.map wv) 161).ok w0) :
  Ret Tryd.prog 71 #[sv key, iv o, iv n, sv root] w0 fun v w => v = sv (tagR sha key o n root) ∧ Ext No w0 w := by
 have hpl := gH [o, n]
 simp only [List.length_cons, List.length_nil] at hpl
 have hsm : smalls [o, n] := by intro z hz; simp only [List.mem_cons, List.not_mem_nil, or_false] at hz; rcases hz with rfl | rfl; exact ho; exact hn
 have hxl : (([] : By) ++ puts [o, n] ++ root).length ≤ 60 := by simp only [List.length_append, List.length_nil]; omega
 refine aI func71 rfl ntmps71 (lb rfl) fun a Y => ?_
 replace Y := Y.p4 0 1 2 3 rfl
 replace U : St No w0 [] w0 := St.init w0
 refine aa fun K1 hK1 => wla Y rfl fun a Y => ab (hK1 _ _ <| aa fun K2 hK2 => ?_)
 refine aC Y U de (zeroValue85 _) (cs := [.pointer none, .slice none 0 0]) rfl ?_
 clear Y U
 intro a w1 Y U
 refine ab (hK2 _ _ ?_)
 replace U : St No w0 (own (.slice none 0 0) 5 1 [] :: [blk w0.hz [.pointer none, .slice none 0 0] 85]) w1 := U.nil_own
 replace U : St No w0 [blk w0.hz [.pointer none, .slice none 0 0] 85, own (.slice none 0 0) 5 1 ([])] w1 := U.select [1, 0] de
 replace U : St No w0 [bld 85 w0.hz (.pointer none) (.slice none 0 0) ([] : By)] w1 := St.join [blk w0.hz [.pointer none, .slice none 0 0] 85, own (.slice none 0 0) 5 1 ([])] [] U
 refine aa fun K3 hK3 => wlm Y rfl fun a Y => wlm Y rfl fun a Y => aG (E := 3) (sz := 1) rfl [[iv o], [iv n]] kr sm rfl de de Y U ?_
 clear Y U
 intro a w2 Y U
 replace U : St No w0 [bld 85 w0.hz (.pointer none) (.slice none 0 0) ([] : By), own (.slice (some ⟨w1.hz, 0, none⟩) 2 2) 3 1 ([[iv o], [iv n]])] w2 := U.select [1, 0] de
 replace U := St.join [bld 85 w0.hz (.pointer none) (.slice none 0 0) ([] : By), own (.slice (some ⟨w1.hz, 0, none⟩) 2 2) 3 1 ([[iv o], [iv n]])] [] U
 refine dg (R := fun u e' => u = .tuple #[] ∧ ∃ v2, e' = bld 85 w0.hz (pq w0.hz) v2 (([] : By) ++ puts [o, n])) 0 Y U rfl de call49 rfl (fun h => (gI 85 w0.hz _ _ _ _ [o, n] _ kr (.inl rfl) (hsm) sm sm (St.unjoin [bld 85 w0.hz (.pointer none) (.slice none 0 0) ([] : By), own (.slice (some ⟨w1.hz, 0, none⟩) 2 2) 3 1 ([[iv o], [iv n]])] [] h)).mono fun u w ⟨h1, v2, h2⟩ => ⟨_, ⟨h1, v2, rfl⟩, h2⟩) ?_
 clear Y U
 rintro a w3 _ _ ⟨rfl, v1, rfl⟩ Y U
 replace U : St No w0 [_] w3 := U
 refine ab (hK3 _ _ ?_)
 replace Y := Y.p4 0 3 8 9 rfl
 refine aa fun K4 hK4 => wlv Y (al (v := pq w0.hz) rfl kr) fun a Y => wlm Y rfl fun a Y => dg (R := fun u e' => u = .tuple #[iv (root.length : Int), .nilIface] ∧ ∃ v2, e' = bld 85 w0.hz (pq w0.hz) v2 ((([] : By) ++ puts [o, n]) ++ root)) 0 Y U rfl de call51 rfl (fun h => (gy 85 w0.hz _ _ _ _ _ kr (.inr rfl) (kN hr) (by rw [List.length_append, List.length_nil]; omega) h).mono fun u w ⟨h1, v2, h2⟩ => ⟨_, ⟨h1, v2, rfl⟩, h2⟩) ?_
 clear Y U
 rintro a w4 _ _ ⟨rfl, v2, rfl⟩ Y U
 replace U : St No w0 [_] w4 := U
 refine ab (hK4 _ _ <| aa fun K5 hK5 => ?_)
 refine wlm Y rfl fun a Y => wlv Y (al (v := pq w0.hz) rfl kr) fun a Y => dg (R := fun u e' => u = sv ((([] : By) ++ puts [o, n]) ++ root) ∧ e' = blk w0.hz [pq w0.hz, v2] 85) 0 Y U rfl de call52 rfl (fun h => (gC 85 w0.hz _ _ _ (mO (kN hr)) h).mono fun u w ⟨h1, h2⟩ => ⟨_, ⟨h1, rfl⟩, h2⟩) ?_
 clear Y U
 rintro a w5 _ _ ⟨rfl, rfl⟩ Y U
 replace U : St No w0 [_] w5 := U
 refine am Y U de call78 rfl (iz ((([] : By) ++ puts [o, n]) ++ root) _ om (U.keepb hk0)) ?_
 clear Y U
 intro a w6 Y U
 refine am Y U de call79 rfl (fh key (leafH sha ((([] : By) ++ puts [o, n]) ++ root)) _ om (by first | omega | (rw [jt bY]; decide)) (U.keepb hk0)) ?_
 clear Y U
 intro a w7 Y U
 refine wla Y rfl fun a Y => ab (hK5 _ _ ?_)
 replace Y := Y.p1 8 rfl
 refine au ?_
 refine ar Y results71 (ae rfl ah) ?_
 exact ⟨by simp only [retv]; simp [tagR, jj, nodeH], U.ext⟩
theorem l0 {M : Nat → Prop} {w0 : World} (o : Int) (lv : Value) (l : List Rec) (lp b1 : Nat) (J Jx : List Nat → Ent → Prop) (hY : Rounds Tryd.prog M w0 lp (encRb l) (NxB l.length) J Jx) (e0 : Ent) (ws : World) (hn : l.length ≤ 1000000) (hlv : ∀ (H : List Ent) (w : World), St M w0 H w → SlAt w lv 5 (l.map Rec.cells)) (hJ : J [] e0) (U : St M w0 [e0, blk b1 [iv o, lv] 25] ws) :
  Ret Tryd.prog 74 #[.func (.yield lp) #[] #[], pq b1] ws fun _ w => ∃ e1 Hi1, St M w0 (e1 :: Hi1) w ∧ ((∃ ys, (ys = backs l.length l.length ∧ Hi1 = [blk b1 [iv o, lv] 25]) ∧ J ys e1) ∨ (∃ pre, Hi1 = [blk b1 [iv o, lv] 25] ∧ Jx pre e1)) := by
 refine aI func74 rfl ntmps74 (lb rfl) fun a Y => ?_
 replace Y := Y.p2 0 1 rfl
 skip
 refine aa fun K1 hK1 => wlv Y (al (v := po b1 1) rfl kr) fun a Y => wlv Y (ld U 1 rfl rfl (isAgg23 _) rfl) fun a Y => wlv Y ((aK (sT := 23) (hlv _ _ U) rfl rfl (runUnderlying23 _)).asi (m' := (l.length : Int)) (by rw [List.length_map])) fun a Y => wlv Y (bq rfl rfl ⟨om, om⟩) fun a Y => wla Y rfl fun a Y => ab (hK1 _ _ <| ap ?_)
 rw [show (l.length : Int) - 1 = (l.length : Int) - 1 - ((0 : Nat) : Int) from by omega] at Y
 refine aV (fun m a w => ∃ (j : Nat) (e : Ent), m = l.length - j ∧ (j ≤ l.length) ∧ (J (backs l.length j) e) ∧ Fr 21 [(0, .func (.yield lp) #[] #[]), (1, pq b1), (3, iv ((l.length : Int) - 1 - (j : Int)))] [] a ∧ St M w0 [e, blk b1 [iv o, lv] 25] w) _ ⟨0, e0, rfl, Nat.zero_le _, hJ, Y.pick [0, 1, 3], U⟩ ?_
 rintro _ a w1 ⟨j, e, rfl, hj, hJ, Y, U⟩
 refine ac fun K2 hK2 => aa fun K3 hK3 => wlm Y rfl fun a Y => wlv Y (v_ge rfl rfl) fun a Y => ab (hK3 _ _ ?_)
 refine az Y rfl (fun hc1 => ?_) (fun hc1 => ?_)
 ·rw [hc1] at Y
  try simp only [qz] at hc1
  have hjl : j < l.length := by omega
  refine aq <| hK2 _ _ <| ac fun K4 hK4 => ap ?_
  have hidx : (l.length : Int) - 1 - (j : Int) = ((l.length - 1 - j : Nat) : Int) := by omega
  refine aa fun K5 hK5 => wlm Y rfl fun a Y => wlm Y rfl fun a Y => wlv Y (al (v := po b1 1) rfl kr) fun a Y => wlv Y (ld U 1 rfl rfl (isAgg23 _) rfl) fun a Y => wlm Y rfl fun a Y => wlv Y ((ak (i := (l.length : Int) - 1 - (j : Int)) (sT := 23) (hlv _ _ U) rfl rfl (runUnderlying23 _) (sizeOf27 _) om (by rw [List.length_map]; omega)).as (v' := slAddr lv ((l.length - 1 - j) * 5)) (by rw [show ((l.length : Int) - 1 - (j : Int)).toNat = (l.length - 1 - j) from by omega])) fun a Y => wlv Y ((bt (hlv _ _ U) (i := (l.length - 1 - j)) (by rw [List.length_map]; omega) rfl (isAgg27 _) (sizeOf27 _)).as (v' := .agg #[iv ((l.getD (l.length - 1 - j) Rec.z).t), iv ((l.getD (l.length - 1 - j) Rec.z).kind), iv ((l.getD (l.length - 1 - j) Rec.z).a), iv ((l.getD (l.length - 1 - j) Rec.z).b), sv ((l.getD (l.length - 1 - j) Rec.z).text)]) (by rw [br Rec.z]; rfl)) fun a Y => ?_
  rw [hidx] at Y
  refine wl_r (eZ rfl rfl (hY.yield (pre := backs l.length j) (x := l.length - 1 - j) (by show l.length - 1 - j + 1 + (backs l.length j).length = l.length; rw [dC]; omega) hJ (U.only (i := 0) rfl))) rfl rfl Y ?_
  clear Y
  intro a v w2 hR Y
  obtain ⟨y2, e3, rfl, hx, hok, hft, hJt, hJf⟩ := hR
  replace U := U.exchange (k := 0) rfl hx hok hft
  replace U : St M w0 [_, _] w2 := U
  clear hx hok hft
  refine wlv Y (bn rfl) fun a Y => ab (hK5 _ _ ?_)
  replace Y := Y.p4 0 1 3 20 rfl
  refine az Y rfl (fun hc4 => ?_) (fun hc4 => ?_)
  ·rw [hc4] at Y
   try simp only [qz] at hc4
   have hJ := hJf hc4
   refine au ?_
   refine ar Y results74 ah ?_
   exact ⟨_, _, U, .inr ⟨_, rfl, hJ⟩⟩
  rw [hc4] at Y
  try simp only [qz] at hc4
  have hJ := hJt hc4
  refine aq <| hK4 _ _ <| ao <| wlm Y rfl fun a Y => wlv Y (bq rfl rfl ⟨om, om⟩) fun a Y => wla Y rfl fun a Y => ab ?_
  rw [show ((l.length - 1 - j : Nat) : Int) - 1 = (l.length : Int) - 1 - ((j + 1 : Nat) : Int) from by omega] at Y
  refine ⟨_, ?_, j + 1, e3, rfl, om, hJ, Y.pick [0, 1, 3], U⟩
  omega
 rw [hc1] at Y
 try simp only [qz] at hc1
 obtain rfl : j = l.length := by omega
 refine aL ?_
 refine dv Y results74 ah ?_
 exact ⟨_, _, U, .inl ⟨_, ⟨rfl, rfl⟩, hJ⟩⟩
theorem gn {M : Nat → Prop} {w0 : World} (o : Int) (lv : Value) (l : List Rec) (b1 : Nat) (hn : l.length ≤ 1000000) (hlv : ∀ (H : List Ent) (w : World), St M w0 H w → SlAt w lv 5 (l.map Rec.cells)) :
  Iter Tryd.prog 74 [pq b1] (encRb l) (NxB l.length) (fun ys Hi => ys = backs l.length l.length ∧ Hi = [blk b1 [iv o, lv] 25]) (fun pre Hi => Hi = [blk b1 [iv o, lv] 25]) M w0 [blk b1 [iv o, lv] 25] :=
 fun lp J Jx w e hY hJ U => l0 o lv l lp b1 J Jx hY e w hn hlv hJ U
theorem jz (o : Int) (lv : Value) (w0 : World) (l : List Rec) (hlv : SlAt w0 lv 5 (l.map Rec.cells)) :
  Ret Tryd.prog 48 #[.agg #[iv o, lv]] w0 (MemR w0 (fun z : Nat => .func (.func 74) #[] #[pq z]) (fun z => [blk z [iv o, lv] 25]) (fun _ => True)) := by
 refine aI func48 rfl ntmps48 (lb rfl) fun a Y => ?_
 replace Y := Y.p1 0 rfl
 replace U : St No w0 [] w0 := St.init w0
 refine aa fun K1 hK1 => bh Y U de rfl (cs := [iv o, lv]) rfl ?_
 clear Y U
 intro a w1 Y U
 refine wla Y rfl fun a Y => ab (hK1 _ _ <| aa fun K2 hK2 => ?_)
 refine wlv Y (cz rfl rfl) fun a Y => wla Y rfl fun a Y => ab (hK2 _ _ <| au ?_)
 refine ar Y results48 (ae rfl ah) ?_
 exact ⟨w0.hz, rfl, trivial, U.ext, St.out (H := []) U⟩
section
variable {f : Rec → Bool} {l : List Rec} {pre : List Nat} {x : Nat}
theorem o9 (hnx : NxB l.length pre x) (h : findF f l l.length = findF f l (l.length - pre.length)) (hf : f (l.getD x Rec.z) = false) : findF f l l.length = findF f l (l.length - (pre ++ [x]).length) := by
 unfold NxB at hnx
 rw [h, show l.length - pre.length = x + 1 from by omega, findF, if_neg (by rw [hf]; decide), List.length_append, List.length_singleton, show l.length - (pre.length + 1) = x from by omega]
theorem oF (hnx : NxB l.length pre x) (h : findF f l l.length = findF f l (l.length - pre.length)) (hf : f (l.getD x Rec.z) = true) : findF f l l.length = (x : Int) := by
 unfold NxB at hnx
 rw [h, show l.length - pre.length = x + 1 from by omega, findF, if_pos hf]
theorem oG (h : findF f l l.length = findF f l (l.length - (backs l.length l.length).length)) : findF f l l.length = -1 := by
 rw [h, dC, Nat.sub_self]; rfl
end
def outR (l : List Rec) (n : Nat) : List By := List.replicate (l.length - n) [] ++ codesB (l.drop (l.length - n))
theorem jE (l : List Rec) (n : Nat) (h : n ≤ l.length) : (outR l n).length = l.length := by
 rw [outR, List.length_append, List.length_replicate, gb, List.length_drop]; omega
theorem pr (l : List Rec) : outR l 0 = List.replicate l.length [] := by
 rw [outR, Nat.sub_zero, List.drop_length]; simp [codesB]
theorem mj (l : List Rec) : outR l (backs l.length l.length).length = codesB l := by
 rw [dC, outR, Nat.sub_self]; simp
theorem nf {l : List Rec} {pre : List Nat} {x : Nat} (hnx : NxB l.length pre x) : (outR l pre.length).set x (eB (l.getD x Rec.z)) = outR l (pre ++ [x]).length := by
 unfold NxB at hnx
 have e1 : l.length - pre.length = x + 1 := by omega
 have e2 : l.length - (pre ++ [x]).length = x := by rw [List.length_append, List.length_singleton]; omega
 unfold outR
 rw [e1, e2, List.replicate_succ', List.append_assoc, List.set_append_right _ _ (by rw [List.length_replicate]; exact Nat.le_refl _), List.length_replicate, Nat.sub_self, fa (show x < l.length by omega)]
 rfl
theorem ng {l : List Rec} {pre : List Nat} {x : Nat} (hnx : NxB l.length pre x) : ((outR l pre.length).map fun s => [sv s]).set x [sv (eB (l.getD x Rec.z))] = (outR l (pre ++ [x]).length).map fun s => [sv s] := by
 rw [← nf hnx, List.map_set]
theorem mi {l : List Rec} {pre : List Nat} {x : Nat} (hnx : NxB l.length pre x) (hk : x < ((outR l pre.length).map fun s => [sv s]).length) : ((outR l pre.length).map fun s => [sv s]).set x (splice ((outR l pre.length).map fun s => [sv s])[x] 0 [sv (eB (l.getD x Rec.z))]) = (outR l (pre ++ [x]).length).map fun s => [sv s] := by
 rw [← ng hnx]; congr 1; rw [List.getElem_map]; rfl
theorem eQ (x : Int) (n : Int) (w0 : World) :
  Ret Tryd.prog 56 #[iv x, iv n, iv 0] w0 fun v w => v = .tuple #[iv x, iv n] ∧ Ext No w0 w := by
 refine aI func56 rfl ntmps56 (lb rfl) fun a Y => ?_
 replace Y := Y.p3 0 1 2 rfl
 replace U : St No w0 [] w0 := St.init w0
 refine aa fun K1 hK1 => wla Y rfl fun a Y => wla Y rfl fun a Y => ab (hK1 _ _ <| ac fun K2 hK2 => ?_)
 refine aa fun K3 hK3 => wlm Y rfl fun a Y => wlv Y ((v_ne rfl rfl).asb (b' := false) rfl) fun a Y => ab (hK3 _ _ <| aE Y rfl ?_)
 refine aq <| hK2 _ _ <| aa fun K4 hK4 => wlm Y rfl fun a Y => wlm Y rfl fun a Y => wla Y rfl fun a Y => wla Y rfl fun a Y => ab (hK4 _ _ ?_)
 replace Y := Y.p2 6 7 rfl
 refine au ?_
 refine ar Y results56 (ae rfl (ae rfl ah)) ?_
 exact ⟨by rfl, U.ext⟩
theorem eo (x : Int) (n : Int) (w0 : World) :
  Pan Tryd.prog 56 #[iv x, iv n, iv 10] w0 fun c w => c = [{ v := .iface 95 (.agg #[]), recovered := false }] ∧ Ext No w0 w := by
 refine mq func56 rfl ntmps56 (lb rfl) fun a Y => ?_
 replace Y := Y.p3 0 1 2 rfl
 replace U : St No w0 [] w0 := St.init w0
 refine aa fun K1 hK1 => wla Y rfl fun a Y => wla Y rfl fun a Y => ab (hK1 _ _ <| ac fun K2 hK2 => ?_)
 refine aa fun K3 hK3 => wlm Y rfl fun a Y => wlv Y ((v_ne rfl rfl).asb (b' := true) rfl) fun a Y => ab (hK3 _ _ <| aD Y rfl ?_)
 refine bT ?_
 refine bQ 2 ?_
 refine wlv Y (aZ (v := .agg #[]) rfl kr) fun a Y => wlv Y (dt rfl underlying95) fun a Y => ab <| eP Y rfl ?_
 exact f9 (X := fun c w => c = [{ v := .iface 95 (.agg #[]), recovered := false }] ∧ Ext No w0 w) Y ⟨rfl, U.ext⟩
theorem nj (x : By) (n : Int) (w0 : World) :
  Ret Tryd.prog 58 #[sv x, iv n, iv 0] w0 fun v w => v = .tuple #[sv x, iv n] ∧ Ext No w0 w := by
 refine aI func58 rfl ntmps58 (lb rfl) fun a Y => ?_
 replace Y := Y.p3 0 1 2 rfl
 replace U : St No w0 [] w0 := St.init w0
 refine aa fun K1 hK1 => wla Y rfl fun a Y => wla Y rfl fun a Y => ab (hK1 _ _ <| ac fun K2 hK2 => ?_)
 refine aa fun K3 hK3 => wlm Y rfl fun a Y => wlv Y ((v_ne rfl rfl).asb (b' := false) rfl) fun a Y => ab (hK3 _ _ <| aE Y rfl ?_)
 refine aq <| hK2 _ _ <| aa fun K4 hK4 => wlm Y rfl fun a Y => wlm Y rfl fun a Y => wla Y rfl fun a Y => wla Y rfl fun a Y => ab (hK4 _ _ ?_)
 replace Y := Y.p2 6 7 rfl
 refine au ?_
 refine ar Y results58 (ae rfl (ae rfl ah)) ?_
 exact ⟨by rfl, U.ext⟩
theorem lD (x : By) (n : Int) (w0 : World) :
  Pan Tryd.prog 58 #[sv x, iv n, iv 10] w0 fun c w => c = [{ v := .iface 95 (.agg #[]), recovered := false }] ∧ Ext No w0 w := by
 refine mq func58 rfl ntmps58 (lb rfl) fun a Y => ?_
 replace Y := Y.p3 0 1 2 rfl
 replace U : St No w0 [] w0 := St.init w0
 refine aa fun K1 hK1 => wla Y rfl fun a Y => wla Y rfl fun a Y => ab (hK1 _ _ <| ac fun K2 hK2 => ?_)
 refine aa fun K3 hK3 => wlm Y rfl fun a Y => wlv Y ((v_ne rfl rfl).asb (b' := true) rfl) fun a Y => ab (hK3 _ _ <| aD Y rfl ?_)
 refine bT ?_
 refine bQ 2 ?_
 refine wlv Y (aZ (v := .agg #[]) rfl kr) fun a Y => wlv Y (dt rfl underlying95) fun a Y => ab <| eP Y rfl ?_
 exact f9 (X := fun c w => c = [{ v := .iface 95 (.agg #[]), recovered := false }] ∧ Ext No w0 w) Y ⟨rfl, U.ext⟩
theorem l6 {P : Program} {w : World} {L : List (Nat × Value)} {dst : Option Tmp} {T T' ty : TypeId} {pos : String} {af : Array Edge} {x y : Operand} (hx : ev L x = some .nilIface) (hy : ev L y = some .nilIface) (hr : (binOp .eql T .nilIface .nilIface).run P w = .ok (.bool true) w) (hg : (eqGuard .eql T x y .nilIface .nilIface).run P w = .ok () w) : OpV P ⟨dst, .binOp .eql T x y T', ty, pos, af, none⟩ L w (.bool true) :=
 ⟨rfl, fun N df a h => by
  simp only [execOp, h.eval hx, h.eval hy, Sem.run_bind, hg, hr, Result.andThen_ok]; rfl⟩
theorem di {M : Nat → Prop} {w0 : World} (b2 b3 : Nat) (c0 c1 c2 c3 c4 c5 : Value) (ws : World) (U : St M w0 [blk b2 [c0, c1, c2, c3, c4] 27, blk b3 [c5] 33] ws) :
  CallsDIn Fence.wide 0 Tryd.prog 55 #[pq b2, pq b3] (.panicking [{ v := .iface 95 (.agg #[]), recovered := false }]) ws fun e u' w => u' = (.panicking [{ v := .iface 95 (.agg #[]), recovered := true }]) ∧ ∃ x, e = .returned x ∧ St M w0 [blk b2 [iv 0, iv 0, iv 0, iv 0, sv ([] : By)] 27, blk b3 [iv 110] 33] w  := by
 refine mL (args := [pq b2, pq b3]) func55 rfl ntmps55 (lb rfl) rfl rfl de (fun _ _ => rfl) (.inr ⟨rfl, rfl⟩) fun a Y => ?_
 replace Y := Y.p3 5 0 1 rfl
 skip
 refine ap <| aa fun K1 hK1 => wlv Y (kI rfl rfl kr kr) fun a Y => ab (hK1 _ _ <| aE Y rfl ?_)
 refine aa fun K2 hK2 => wlv Y (iE rfl underlying95) fun a Y => wlv Y (ag rfl rfl) fun a Y => wlv Y (ag rfl rfl) fun a Y => ab (hK2 _ _ <| aD Y rfl ?_)
 refine aa fun K3 hK3 => aC Y U de (zeroValue95 _) (cs := []) rfl ?_
 clear Y U
 intro a w1 Y U
 refine ay 0 Y U rfl rfl rfl (sizeOf95 _) rfl (lb rfl) (ds := []) rfl rfl ?_
 clear Y U
 intro a w2 Y U
 refine ab (hK3 _ _ ?_)
 replace Y := Y.p2 0 1 rfl
 replace U := U.k2 6 rfl
 refine ao <| wlv Y (aZ (v := .agg #[iv 0, iv 0, iv 0, iv 0, .string (⟨#[]⟩)]) rfl kr) fun a Y => ay 0 Y U rfl rfl rfl (sizeOf27 _) rfl (lb rfl) (ds := [iv 0, iv 0, iv 0, iv 0, .string (⟨#[]⟩)]) rfl rfl ?_
 clear Y U
 intro a w3 Y U
 refine ay 1 Y U rfl rfl rfl (sizeOf33 _) rfl (lb rfl) (ds := [iv 110]) rfl rfl ?_
 clear Y U
 intro a w4 Y U
 refine ab ?_
 refine j2 Y results55 ah ?_
 exact U.select [0, 1] de
theorem nJ (b2 b3 : Nat) (ws : World) :
  CallsDIn Fence.wide 0 Tryd.prog 55 #[pq b2, pq b3] .returning ws fun e u' w => u' = .returning ∧ ∃ x, e = .returned x ∧ Ext No ws w  := by
 refine mL (args := [pq b2, pq b3]) func55 rfl ntmps55 (lb rfl) rfl rfl de (fun _ _ => rfl) (.inl ⟨rfl, rfl, rfl⟩) fun a Y => ?_
 replace Y := Y.p3 5 0 1 rfl
 replace U : St No ws [] ws := St.init ws
 refine ap <| aa fun K1 hK1 => wlv Y (l6 rfl rfl kr kr) fun a Y => ab (hK1 _ _ <| aD Y rfl ?_)
 refine ao <| wla Y rfl fun a Y => ab ?_
 refine j2 Y results55 ah ?_
 exact U.ext
theorem dj (s : By) (w0 : World) (hsl : s.length ≤ 1000000) :
  Ret Tryd.prog 24 #[sv s] w0 fun v w => v = .tuple #[.agg (decX s).cells.toArray, iv (decE s)] ∧ Ext No w0 w := by
 refine nP func24 rfl ntmps24 (lb rfl) fun a Y => ?_
 replace Y := Y.p1 0 rfl
 replace U : St No w0 [] w0 := St.init w0
 refine aa fun K1 hK1 => aC Y U de (zeroValue27 _) (cs := [iv 0, iv 0, iv 0, iv 0, .string (⟨#[]⟩)]) rfl ?_
 clear Y U
 intro a w1 Y U
 refine aC Y U de (zeroValue33 _) (cs := [iv 0]) rfl ?_
 clear Y U
 intro a w2 Y U
 refine ab (hK1 _ _ <| aa fun K2 hK2 => ?_)
 refine wlv Y (cz rfl rfl) fun a Y => mu Y rfl fun a Y => ab (hK2 _ _ <| aa fun K3 hK3 => ?_)
 refine wla Y rfl fun a Y => ab (hK3 _ _ <| ac fun K4 hK4 => ?_)
 refine aa fun K5 hK5 => wlv Y (al (v := pq w0.hz) rfl kr) fun a Y => wlv Y (al (v := po w0.hz 1) rfl kr) fun a Y => wlv Y (al (v := po w0.hz 2) rfl kr) fun a Y => wlv Y (al (v := po w0.hz 3) rfl kr) fun a Y => wlv Y (aZ (v := .agg #[pq w0.hz, po w0.hz 1, po w0.hz 2, po w0.hz 3]) rfl kr) fun a Y => wlm Y rfl fun a Y => ab (hK5 _ _ <| ap ?_)
 refine cb 6 ?_
 refine ba ?_
 refine aa fun K6 hK6 => wlv Y ((v_lt rfl rfl).asb (b' := true) rfl) fun a Y => ab (hK6 _ _ <| ac fun K7 hK7 => ?_)
 refine aD Y rfl ?_
 refine aq <| hK7 _ _ <| ac fun K8 hK8 => ap <| aa fun K9 hK9 => wlv Y (ek (v := pq w0.hz) rfl rfl kr) fun a Y => wla Y rfl fun a Y => ab (hK9 _ _ ?_)
 replace Y := Y.p7 0 2 3 4 12 13 6 rfl
 refine bT ?_
 refine bQ 7 ?_
 refine wlm Y rfl fun a Y => wlm Y rfl fun a Y => wlm Y rfl fun a Y => ?_
 rcases Bool.eq_false_or_eq_true ((rdI s).isSome) with hb1 | hb1
 ·try simp only [qz] at hb1
  obtain ⟨⟨n1, r1⟩, hq1⟩ := Option.isSome_iff_exists.1 hb1
  have hd1 := iU.trans (du hq1)
  have hsf1 := (ch hq1).trans (List.suffix_refl s)
  refine am Y U de call57 rfl (en sm (List.suffix_refl s) hsl hq1) ?_
  clear Y U
  intro a w3 Y U
  refine wlv Y (ag rfl rfl) fun a Y => wlv Y (ag rfl rfl) fun a Y => wlv Y (ag rfl rfl) fun a Y => ab <| bQ 1 ?_
  refine am Y U de call56 rfl (eQ n1 ((s.length - r1.length : Nat) : Int) _) ?_
  clear Y U
  intro a w4 Y U
  refine ab <| jH ?_
  refine wlm Y rfl fun a Y => wlv Y (ag rfl rfl) fun a Y => wlv Y (ag rfl rfl) fun a Y => wlv Y (bp rfl) fun a Y => ay 1 Y U rfl rfl rfl (sizeOf3 _) rfl (lb rfl) (ds := [iv n1, iv 0, iv 0, iv 0, .string (⟨#[]⟩)]) rfl rfl ?_
  clear Y U
  intro a w5 Y U
  refine wla Y rfl fun a Y => ab <| hK8 _ _ ?_
  replace Y := Y.p6 0 2 3 12 13 4 rfl
  refine ao <| wlv Y ((aM rfl rfl de).asi (m' := 1) rfl) fun a Y => wlm Y rfl fun a Y => ab <| ba ?_
  refine aa fun K10 hK10 => wlv Y ((v_lt rfl rfl).asb (b' := true) rfl) fun a Y => ab (hK10 _ _ <| ac fun K11 hK11 => ?_)
  refine aD Y rfl ?_
  refine aq <| hK11 _ _ <| ac fun K12 hK12 => ap <| aa fun K13 hK13 => wlv Y (ek (v := po w0.hz 1) rfl rfl kr) fun a Y => wla Y rfl fun a Y => ab (hK13 _ _ <| bT ?_)
  refine bQ 7 ?_
  refine wlm Y rfl fun a Y => wlm Y rfl fun a Y => wlm Y rfl fun a Y => ?_
  rcases Bool.eq_false_or_eq_true ((rdI r1).isSome) with hb2 | hb2
  ·try simp only [qz] at hb2
   obtain ⟨⟨n2, r2⟩, hq2⟩ := Option.isSome_iff_exists.1 hb2
   have hd2 := hd1.trans (du hq2)
   have hsf2 := (ch hq2).trans hsf1
   refine am Y U de call57 rfl (en rfl hsf1 hsl hq2) ?_
   clear Y U
   intro a w6 Y U
   refine wlv Y (ag rfl rfl) fun a Y => wlv Y (ag rfl rfl) fun a Y => wlv Y (ag rfl rfl) fun a Y => ab <| bQ 1 ?_
   refine am Y U de call56 rfl (eQ n2 ((s.length - r2.length : Nat) : Int) _) ?_
   clear Y U
   intro a w7 Y U
   refine ab <| jH ?_
   refine wlm Y rfl fun a Y => wlv Y (ag rfl rfl) fun a Y => wlv Y (ag rfl rfl) fun a Y => wlv Y (bp rfl) fun a Y => ay 1 Y U rfl rfl rfl (sizeOf3 _) rfl (lb rfl) (ds := [iv n1, iv n2, iv 0, iv 0, .string (⟨#[]⟩)]) rfl rfl ?_
   clear Y U
   intro a w8 Y U
   refine wla Y rfl fun a Y => ab <| hK12 _ _ ?_
   replace Y := Y.p6 0 2 3 12 13 4 rfl
   refine ao <| wlv Y ((aM rfl rfl de).asi (m' := 2) rfl) fun a Y => wlm Y rfl fun a Y => ab <| ba ?_
   refine aa fun K14 hK14 => wlv Y ((v_lt rfl rfl).asb (b' := true) rfl) fun a Y => ab (hK14 _ _ <| ac fun K15 hK15 => ?_)
   refine aD Y rfl ?_
   refine aq <| hK15 _ _ <| ac fun K16 hK16 => ap <| aa fun K17 hK17 => wlv Y (ek (v := po w0.hz 2) rfl rfl kr) fun a Y => wla Y rfl fun a Y => ab (hK17 _ _ <| bT ?_)
   refine bQ 7 ?_
   refine wlm Y rfl fun a Y => wlm Y rfl fun a Y => wlm Y rfl fun a Y => ?_
   rcases Bool.eq_false_or_eq_true ((rdI r2).isSome) with hb3 | hb3
   ·try simp only [qz] at hb3
    obtain ⟨⟨n3, r3⟩, hq3⟩ := Option.isSome_iff_exists.1 hb3
    have hd3 := hd2.trans (du hq3)
    have hsf3 := (ch hq3).trans hsf2
    refine am Y U de call57 rfl (en rfl hsf2 hsl hq3) ?_
    clear Y U
    intro a w9 Y U
    refine wlv Y (ag rfl rfl) fun a Y => wlv Y (ag rfl rfl) fun a Y => wlv Y (ag rfl rfl) fun a Y => ab <| bQ 1 ?_
    refine am Y U de call56 rfl (eQ n3 ((s.length - r3.length : Nat) : Int) _) ?_
    clear Y U
    intro a w10 Y U
    refine ab <| jH ?_
    refine wlm Y rfl fun a Y => wlv Y (ag rfl rfl) fun a Y => wlv Y (ag rfl rfl) fun a Y => wlv Y (bp rfl) fun a Y => ay 1 Y U rfl rfl rfl (sizeOf3 _) rfl (lb rfl) (ds := [iv n1, iv n2, iv n3, iv 0, .string (⟨#[]⟩)]) rfl rfl ?_
    clear Y U
    intro a w11 Y U
    refine wla Y rfl fun a Y => ab <| hK16 _ _ ?_
    replace Y := Y.p6 0 2 3 12 13 4 rfl
    refine ao <| wlv Y ((aM rfl rfl de).asi (m' := 3) rfl) fun a Y => wlm Y rfl fun a Y => ab <| ba ?_
    refine aa fun K18 hK18 => wlv Y ((v_lt rfl rfl).asb (b' := true) rfl) fun a Y => ab (hK18 _ _ <| ac fun K19 hK19 => ?_)
    refine aD Y rfl ?_
    refine aq <| hK19 _ _ <| ac fun K20 hK20 => ap <| aa fun K21 hK21 => wlv Y (ek (v := po w0.hz 3) rfl rfl kr) fun a Y => wla Y rfl fun a Y => ab (hK21 _ _ <| bT ?_)
    refine bQ 7 ?_
    refine wlm Y rfl fun a Y => wlm Y rfl fun a Y => wlm Y rfl fun a Y => ?_
    rcases Bool.eq_false_or_eq_true ((rdI r3).isSome) with hb4 | hb4
    ·try simp only [qz] at hb4
     obtain ⟨⟨n4, r4⟩, hq4⟩ := Option.isSome_iff_exists.1 hb4
     have hd4 := hd3.trans (du hq4)
     have hsf4 := (ch hq4).trans hsf3
     refine am Y U de call57 rfl (en rfl hsf3 hsl hq4) ?_
     clear Y U
     intro a w12 Y U
     refine wlv Y (ag rfl rfl) fun a Y => wlv Y (ag rfl rfl) fun a Y => wlv Y (ag rfl rfl) fun a Y => ab <| bQ 1 ?_
     refine am Y U de call56 rfl (eQ n4 ((s.length - r4.length : Nat) : Int) _) ?_
     clear Y U
     intro a w13 Y U
     refine ab <| jH ?_
     refine wlm Y rfl fun a Y => wlv Y (ag rfl rfl) fun a Y => wlv Y (ag rfl rfl) fun a Y => wlv Y (bp rfl) fun a Y => ay 1 Y U rfl rfl rfl (sizeOf3 _) rfl (lb rfl) (ds := [iv n1, iv n2, iv n3, iv n4, .string (⟨#[]⟩)]) rfl rfl ?_
     clear Y U
     intro a w14 Y U
     refine wla Y rfl fun a Y => ab <| hK20 _ _ ?_
     replace Y := Y.p6 0 2 3 12 13 4 rfl
     refine ao <| wlv Y ((aM rfl rfl de).asi (m' := 4) rfl) fun a Y => wlm Y rfl fun a Y => ab <| ba ?_
     refine aa fun K22 hK22 => wlv Y ((v_lt rfl rfl).asb (b' := false) rfl) fun a Y => ab (hK22 _ _ <| ac fun K23 hK23 => ?_)
     refine aE Y rfl ?_
     refine aL <| hK4 _ _ <| ge fun K24 hK24 hP24 => bQ 6 ?_
     refine wlm Y rfl fun a Y => wlm Y rfl fun a Y => ?_
     rcases Bool.eq_false_or_eq_true ((rdS r4).isSome) with hb5 | hb5
     ·try simp only [qz] at hb5
      obtain ⟨⟨x9, r5⟩, hq5⟩ := Option.isSome_iff_exists.1 hb5
      have hd5 := hd4.trans (iY.trans (jl hq5))
      have hsf5 := (k9 hq5).trans hsf4
      refine am Y U de call59 rfl (lW s r4 x9 r5 _ _ rfl hsf4 hsl hq5) ?_
      clear Y U
      intro a w15 Y U
      refine wlv Y (ag rfl rfl) fun a Y => wlv Y (ag rfl rfl) fun a Y => wlv Y (ag rfl rfl) fun a Y => ab <| bQ 1 ?_
      refine am Y U de call58 rfl (nj x9 ((s.length - r5.length : Nat) : Int) _) ?_
      clear Y U
      intro a w16 Y U
      refine ab <| jH ?_
      refine wlm Y rfl fun a Y => wlv Y (ag rfl rfl) fun a Y => wlv Y (ag rfl rfl) fun a Y => wlv Y (al (v := po w0.hz 4) rfl kr) fun a Y => ay 1 Y U rfl rfl rfl (sizeOf9 _) rfl (lb rfl) (ds := [iv n1, iv n2, iv n3, iv n4, sv x9]) rfl rfl ?_
      clear Y U
      intro a w17 Y U
      refine wla Y rfl fun a Y => ab (hK24 _ _ ?_)
      replace Y := Y.p4 0 2 3 4 rfl
      refine ac fun K25 hK25 => aa fun K26 hK26 => wlm Y rfl fun a Y => wlm Y rfl fun a Y => wlv Y (aW rfl rfl (runUnderlying9 _)) fun a Y => wlv Y (v_lt rfl rfl) fun a Y => wlm Y rfl fun a Y => ?_
      rcases Bool.eq_false_or_eq_true (decide (((s.length - r5.length : Nat) : Int) < (s.length : Int))) with hb6 | hb6
      ·rw [hb6] at Y
       try simp only [qz] at hb6
       have hdn := hd5.trans (io (by intro h0; have h1 := congrArg List.length h0; rw [List.length_nil] at h1; omega))
       refine wln Y fun a Y => wln Y fun a Y => wln Y fun a Y => wlv Y (aB rfl rfl) fun a Y => ab (hK26 _ _ ?_)
       replace Y := Y.p3 2 3 48 rfl
       refine aD Y rfl ?_
       refine bT ?_
       refine bQ 2 ?_
       refine wlv Y (aZ (v := .agg #[]) rfl kr) fun a Y => wlv Y (dt rfl underlying95) fun a Y => ab <| eP Y rfl ?_
       replace U : St No w0 [blk w0.hz [iv n1, iv n2, iv n3, iv n4, sv x9] 27, blk w1.hz [iv 0] 33] w17 := U.select [1, 0] de
       exact cx Y call55 (di _ _ _ _ _ _ _ _ _ U) results24 (fun w9 U => ⟨(aH rfl (bj (U.g 0 rfl) (isAgg27 _) (sizeOf27 _)) (aH rfl (cI (U.g 1 rfl) (isAgg33 _)) ah)), by simp only [retv]; unfold decX decE; rw [hdn]; rfl, U.ext⟩)
      rw [hb6] at Y
      try simp only [qz] at hb6
      have hqn : r5 = [] := List.eq_nil_of_length_eq_zero (by have := hsf5.length_le; omega)
      refine wly Y (aj (U.g 1 rfl) rfl (isAgg27 _) (sizeOf27 _)) fun a Y => aR Y U de rfl de rfl call45 rfl (eY (⟨n1, n2, n3, n4, x9⟩ : Rec) _) ?_
      clear Y U
      intro a w18 Y U
      refine wly Y (bn rfl) fun a Y => wlv Y (aw rfl rfl) fun a Y => ab (hK26 _ _ ?_)
      replace Y := Y.p3 2 3 48 rfl
      refine az Y rfl (fun hc7 => ?_) (fun hc7 => ?_)
      ·rw [hc7] at Y
       try simp only [qz] at hc7
       have hdn := hd5.trans (g6 (by exact hc7))
       refine bT ?_
       refine bQ 2 ?_
       refine wlv Y (aZ (v := .agg #[]) rfl kr) fun a Y => wlv Y (dt rfl underlying95) fun a Y => ab <| eP Y rfl ?_
       replace U : St No w0 [blk w0.hz [iv n1, iv n2, iv n3, iv n4, sv x9] 27, blk w1.hz [iv 0] 33] w18 := U.select [1, 0] de
       exact cx Y call55 (di _ _ _ _ _ _ _ _ _ U) results24 (fun w9 U => ⟨(aH rfl (bj (U.g 0 rfl) (isAgg27 _) (sizeOf27 _)) (aH rfl (cI (U.g 1 rfl) (isAgg33 _)) ah)), by simp only [retv]; unfold decX decE; rw [hdn]; rfl, U.ext⟩)
      rw [hc7] at Y
      try simp only [qz] at hc7
      have hds := hd5.trans (g5 hqn (by exact hc7))
      refine aq <| hK25 _ _ <| aa fun K27 hK27 => wlv Y (aj (U.g 1 rfl) rfl (isAgg27 _) (sizeOf27 _)) fun a Y => ay 1 Y U rfl rfl rfl (sizeOf27 _) rfl (lb rfl) (ds := [iv n1, iv n2, iv n3, iv n4, sv x9]) rfl rfl ?_
      clear Y U
      intro a w19 Y U
      refine ay 0 Y U rfl rfl rfl (sizeOf33 _) rfl (lb rfl) (ds := [iv 0]) rfl rfl ?_
      clear Y U
      intro a w20 Y U
      refine ab (hK27 _ _ <| au ?_)
      refine mw (vs := [.agg #[iv n1, iv n2, iv n3, iv n4, sv x9], iv 0]) Y call55 (nJ _ _ _) results24 (fun w9 hx => ?_)
      have U := U.grow hx
      exact ⟨(aH rfl (bj (U.g 1 rfl) (isAgg27 _) (sizeOf27 _)) (aH rfl (cI (U.g 0 rfl) (isAgg33 _)) ah)), by simp only [retv]; unfold decX decE; rw [hds]; rfl, U.ext⟩
     try simp only [qz] at hb5
     have hq5 : rdS r4 = none := by
      cases h : rdS r4 with
      | none => rfl
      | some z => rw [h] at hb5; cases hb5
     have hdn := hd4.trans (iY.trans (ie hq5))
     refine am Y U de call59 rfl (kG rfl hsf4 hsl hq5) ?_
     clear Y U
     intro a w21 Y U
     refine wlv Y (ag rfl rfl) fun a Y => wlv Y (ag rfl rfl) fun a Y => wlv Y (ag rfl rfl) fun a Y => ab <| gz (X := fun c w2 => c = [{ v := .iface 95 (.agg #[]), recovered := false }] ∧ Ext No w21 w2) Y call58 rfl (lD ([]) 0 _) ?_
     rintro _ w22 ⟨rfl, hx⟩
     have U := U.grow hx
     refine hP24 _ _ _ ?_
     replace U : St No w0 [blk w0.hz [iv n1, iv n2, iv n3, iv n4, .string (⟨#[]⟩)] 27, blk w1.hz [iv 0] 33] w22 := U.select [1, 0] de
     exact cx Y call55 (di _ _ _ _ _ _ _ _ _ U) results24 (fun w9 U => ⟨(aH rfl (bj (U.g 0 rfl) (isAgg27 _) (sizeOf27 _)) (aH rfl (cI (U.g 1 rfl) (isAgg33 _)) ah)), by simp only [retv]; unfold decX decE; rw [hdn]; rfl, U.ext⟩)
    try simp only [qz] at hb4
    have hq4 : rdI r3 = none := by
     cases h : rdI r3 with
     | none => rfl
     | some z => rw [h] at hb4; cases hb4
    have hdn := hd3.trans (cS hq4)
    refine am Y U de call57 rfl (dX rfl hsf3 hsl hq4) ?_
    clear Y U
    intro a w23 Y U
    refine wlv Y (ag rfl rfl) fun a Y => wlv Y (ag rfl rfl) fun a Y => wlv Y (ag rfl rfl) fun a Y => ab <| gz (X := fun c w2 => c = [{ v := .iface 95 (.agg #[]), recovered := false }] ∧ Ext No w23 w2) Y call56 rfl (eo 0 0 _) ?_
    rintro _ w24 ⟨rfl, hx⟩
    have U := U.grow hx
    replace U : St No w0 [blk w0.hz [iv n1, iv n2, iv n3, iv 0, .string (⟨#[]⟩)] 27, blk w1.hz [iv 0] 33] w24 := U.select [1, 0] de
    exact cx Y call55 (di _ _ _ _ _ _ _ _ _ U) results24 (fun w9 U => ⟨(aH rfl (bj (U.g 0 rfl) (isAgg27 _) (sizeOf27 _)) (aH rfl (cI (U.g 1 rfl) (isAgg33 _)) ah)), by simp only [retv]; unfold decX decE; rw [hdn]; rfl, U.ext⟩)
   try simp only [qz] at hb3
   have hq3 : rdI r2 = none := by
    cases h : rdI r2 with
    | none => rfl
    | some z => rw [h] at hb3; cases hb3
   have hdn := hd2.trans (cS hq3)
   refine am Y U de call57 rfl (dX rfl hsf2 hsl hq3) ?_
   clear Y U
   intro a w25 Y U
   refine wlv Y (ag rfl rfl) fun a Y => wlv Y (ag rfl rfl) fun a Y => wlv Y (ag rfl rfl) fun a Y => ab <| gz (X := fun c w2 => c = [{ v := .iface 95 (.agg #[]), recovered := false }] ∧ Ext No w25 w2) Y call56 rfl (eo 0 0 _) ?_
   rintro _ w26 ⟨rfl, hx⟩
   have U := U.grow hx
   replace U : St No w0 [blk w0.hz [iv n1, iv n2, iv 0, iv 0, .string (⟨#[]⟩)] 27, blk w1.hz [iv 0] 33] w26 := U.select [1, 0] de
   exact cx Y call55 (di _ _ _ _ _ _ _ _ _ U) results24 (fun w9 U => ⟨(aH rfl (bj (U.g 0 rfl) (isAgg27 _) (sizeOf27 _)) (aH rfl (cI (U.g 1 rfl) (isAgg33 _)) ah)), by simp only [retv]; unfold decX decE; rw [hdn]; rfl, U.ext⟩)
  try simp only [qz] at hb2
  have hq2 : rdI r1 = none := by
   cases h : rdI r1 with
   | none => rfl
   | some z => rw [h] at hb2; cases hb2
  have hdn := hd1.trans (cS hq2)
  refine am Y U de call57 rfl (dX rfl hsf1 hsl hq2) ?_
  clear Y U
  intro a w27 Y U
  refine wlv Y (ag rfl rfl) fun a Y => wlv Y (ag rfl rfl) fun a Y => wlv Y (ag rfl rfl) fun a Y => ab <| gz (X := fun c w2 => c = [{ v := .iface 95 (.agg #[]), recovered := false }] ∧ Ext No w27 w2) Y call56 rfl (eo 0 0 _) ?_
  rintro _ w28 ⟨rfl, hx⟩
  have U := U.grow hx
  replace U : St No w0 [blk w0.hz [iv n1, iv 0, iv 0, iv 0, .string (⟨#[]⟩)] 27, blk w1.hz [iv 0] 33] w28 := U.select [1, 0] de
  exact cx Y call55 (di _ _ _ _ _ _ _ _ _ U) results24 (fun w9 U => ⟨(aH rfl (bj (U.g 0 rfl) (isAgg27 _) (sizeOf27 _)) (aH rfl (cI (U.g 1 rfl) (isAgg33 _)) ah)), by simp only [retv]; unfold decX decE; rw [hdn]; rfl, U.ext⟩)
 try simp only [qz] at hb1
 have hq1 : rdI s = none := by
  cases h : rdI s with
  | none => rfl
  | some z => rw [h] at hb1; cases hb1
 have hdn := iU.trans (cS hq1)
 refine am Y U de call57 rfl (dX sm (List.suffix_refl s) hsl hq1) ?_
 clear Y U
 intro a w29 Y U
 refine wlv Y (ag rfl rfl) fun a Y => wlv Y (ag rfl rfl) fun a Y => wlv Y (ag rfl rfl) fun a Y => ab <| gz (X := fun c w2 => c = [{ v := .iface 95 (.agg #[]), recovered := false }] ∧ Ext No w29 w2) Y call56 rfl (eo 0 0 _) ?_
 rintro _ w30 ⟨rfl, hx⟩
 have U := U.grow hx
 replace U : St No w0 [blk w0.hz [iv 0, iv 0, iv 0, iv 0, .string (⟨#[]⟩)] 27, blk w1.hz [iv 0] 33] w30 := U.select [1, 0] de
 exact cx Y call55 (di _ _ _ _ _ _ _ _ _ U) results24 (fun w9 U => ⟨(aH rfl (bj (U.g 0 rfl) (isAgg27 _) (sizeOf27 _)) (aH rfl (cI (U.g 1 rfl) (isAgg33 _)) ah)), by simp only [retv]; unfold decX decE; rw [hdn]; rfl, U.ext⟩)
theorem ji (o : Int) (lv : Value) (l : List Rec) (x : Rec) (w0 : World) (hlv : SlAt w0 lv 5 (l.map Rec.cells)) (hll : l.length ≤ 1000) (hok : addOk o l x = true) :
  Ret Tryd.prog 13 #[.agg #[iv o, lv], .agg #[iv x.t, iv x.kind, iv x.a, iv x.b, sv x.text]] w0 (MemR w0 (fun v : Value => .tuple #[.agg #[iv o, v], iv 0]) (fun v => [own v 27 5 ((l ++ [x]).map Rec.cells)]) (fun _ => True)) := by
 refine aI func13 rfl ntmps13 (lb rfl) fun a Y => ?_
 replace Y := Y.p2 0 1 rfl
 replace U : St No w0 [] w0 := St.init w0
 refine aa fun K1 hK1 => bh Y U de rfl (cs := [iv o, lv]) rfl ?_
 clear Y U
 intro a w1 Y U
 refine bh Y U de rfl (cs := [iv x.t, iv x.kind, iv x.a, iv x.b, sv x.text]) rfl ?_
 clear Y U
 intro a w2 Y U
 refine aC Y U de (zeroValue25 _) (cs := [iv 0, .slice none 0 0]) rfl ?_
 clear Y U
 intro a w3 Y U
 refine wla Y rfl fun a Y => ab (hK1 _ _ <| ac fun K2 hK2 => ?_)
 refine aO kr (aP kr fun w4 hxz => ?_)
 replace U := U.grow hxz
 refine aS (k := 0) 11 [9, 10] Y kr kr kr rfx ?_
 replace Y := Y.p6 0 1 2 3 4 5 rfl
 refine cq 2 5 8 9 (fun v => own v 27 5 ([])) (fun v => own v 27 5 (([]) ++ ((l).map Rec.cells))) (fun v => own v 27 5 ((([]) ++ ((l).map Rec.cells)) ++ ([[iv x.t, iv x.kind, iv x.a, iv x.b, sv x.text]]))) (fun u => .agg #[iv o, u]) 11 [[], [0], [], [], [3], [2, 4], [], [6], [5, 7], [1, 8], []] (fun i => match i with | 0 => pv (pq w0.hz) | 1 => pv (iv o) | 2 => fun v E => E = [] | 3 => pv (po w0.hz 1) | 4 => pv (lv) | 5 => fun v E => E = [] | 6 => pv (.agg #[iv x.t, iv x.kind, iv x.a, iv x.b, sv x.text]) | 7 => pm (fun b : Nat => .slice (some ⟨b, 0, none⟩) 1 1) (fun b => [own (.slice (some ⟨b, 0, none⟩) 1 1) 27 5 [[iv x.t, iv x.kind, iv x.a, iv x.b, sv x.text]]]) (fun _ => True) | 8 => fun v E => E = [] | 9 => fun v E => E = [] | 10 => pm (fun b : Nat => pq b) (fun b => [blk b [iv 0, .slice none 0 0] 25]) (fun _ => True) | _ => fun _ _ => False) Y U kr kr kr de de de de de ?_ ?_ ?_ ?_ ?_ ?_ ?_
 ·intro i v E h
  match i, h with
  | 0, _ => exact by decide
  | 1, _ => exact by decide
  | 2, _ => exact by decide
  | 3, _ => exact by decide
  | 4, _ => exact by decide
  | 5, _ => exact by decide
  | 6, _ => exact by decide
  | 7, _ => exact by decide
  | 8, _ => exact by decide
  | 9, _ => exact by decide
  | 10, _ => exact by decide
  | i + 11, h => exact h.elim
 ·intro i hi h0 h1 h2 h3 e
  match i, hi, h0, h1, h2, h3 with
  | 0, _, _, _, _, _ => exact fun w U => OpV.g (al (v := pq w0.hz) rfl kr)
  | 1, _, _, _, _, _ =>
   rintro _ _ ⟨rfl, rfl⟩
   intro w U
   exact OpV.g (ld U 3 rfl rfl (isAgg3 _) rfl)
  | 2, _, h, _, _, _ => exact absurd rfl h
  | 3, _, _, _, _, _ => exact fun w U => OpV.g (al (v := po w0.hz 1) rfl kr)
  | 4, _, _, _, _, _ =>
   rintro _ _ ⟨rfl, rfl⟩
   intro w U
   exact OpV.g (ld U 3 rfl rfl (isAgg23 _) rfl)
  | 5, _, _, h, _, _ => exact absurd rfl h
  | 6, _, _, _, _, _ => exact fun w U => OpV.g (aj (U.g 2 rfl) rfl (isAgg27 _) (sizeOf27 _))
  | 7, _, _, _, _, _ =>
   rintro _ _ ⟨rfl, rfl⟩
   intro w U
   exact aY (E := 27) (sz := 5) rfl [[iv x.t, iv x.kind, iv x.a, iv x.b, sv x.text]] (fun _ => by kernel_rfl) sm rfl de
  | 8, _, _, _, h, _ => exact absurd rfl h
  | 9, _, _, _, _, h => exact absurd rfl h
  | 10, _, _, _, _, _ => exact fun w U => eU (zeroValue25 _) (cs := [iv 0, .slice none 0 0]) rfl
 ·intro w U
  exact OpR.to_own (f := fun b : Nat => .slice (some ⟨b, 0, none⟩) 0 0) (e := fun v => own v 27 5 []) (aY (E := 27) (sz := 5) rfl [] (fun _ => by kernel_rfl) sm rfl de) (fun v => rfl)
 ·rintro s1 _ rfl _ _ ⟨rfl, rfl⟩
  intro w U
  replace U : St No w0 (own s1 27 5 ([]) :: _) w := U
  exact (bI (U.g 0 rfl) rfl rfl (U.arg hlv) underlying23 (inf := Tryd.t27) (z := .agg #[iv 0, iv 0, iv 0, iv 0, .string (⟨#[]⟩)]) rfl rfl rfl rfl de (by first | (simp [Value.oneCell', yv, wv, sv]; done) | exact cG (by intro e he; obtain ⟨p, _, rfl⟩ := List.mem_map.1 he; exact ⟨p, rfl⟩)) (by have hby : Tryd.t27.bytes = 48 := rfl; simp only [big, hby, List.length_append, List.length_map, List.length_cons, List.length_nil]; omega) (by have hby : Tryd.t27.bytes = 48 := rfl; simp only [big, hby, List.length_append, List.length_map, List.length_cons, List.length_nil]; omega)).mono fun v w' ⟨h1, h2, h3⟩ => ⟨h1, h2, h3, rfl⟩
 ·rintro s2 _ rfl _ _ ⟨b3, rfl, -, rfl⟩
  intro w U
  replace U : St No w0 (own s2 27 5 (([]) ++ ((l).map Rec.cells)) :: _) w := U
  exact (bI (U.g 0 rfl) rfl rfl (U.ow 1 rfl) underlying23 (inf := Tryd.t27) (z := .agg #[iv 0, iv 0, iv 0, iv 0, .string (⟨#[]⟩)]) rfl rfl rfl rfl de (by first | (simp [Value.oneCell', yv, wv, sv]; done) | exact cG (by intro e he; obtain ⟨p, _, rfl⟩ := List.mem_map.1 he; exact ⟨p, rfl⟩)) (by have hby : Tryd.t27.bytes = 48 := rfl; simp only [big, hby, List.length_append, List.length_map, List.length_cons, List.length_nil]; omega) (by have hby : Tryd.t27.bytes = 48 := rfl; simp only [big, hby, List.length_append, List.length_map, List.length_cons, List.length_nil]; omega)).mono fun v w' ⟨h1, h2, h3⟩ => ⟨h1, h2, h3, rfl⟩
 ·rintro _ _ ⟨rfl, rfl⟩ s4 _ rfl
  intro w U
  have U : St No w0 (own s4 27 5 ((([]) ++ ((l).map Rec.cells)) ++ ([[iv x.t, iv x.kind, iv x.a, iv x.b, sv x.text]])) :: _) w := U
  obtain ⟨_, _, _, esl⟩ := dQ (U.ow 0 rfl)
  exact OpV.hopv (OpV.g (aZ (v := .agg #[iv o, s4]) rfl (by rw [esl]; kernel_rfl))) rfl
 clear Y U
 rintro vq _ _ ⟨⟨rfl, rfl⟩, -⟩ _ _ ⟨⟨rfl, rfl⟩, -⟩ s1 _ ⟨rfl, -, -⟩ _ _ ⟨⟨rfl, rfl⟩, -⟩ _ _ ⟨⟨rfl, rfl⟩, -⟩ s2 _ ⟨rfl, -, -⟩ _ _ ⟨⟨rfl, rfl⟩, -⟩ _ _ ⟨⟨b3, rfl, -, rfl⟩, -⟩ s4 _ ⟨rfl, hvq, -⟩ _ _ ⟨rfl, -, hv3⟩ _ _ ⟨⟨b5, rfl, -, rfl⟩, -⟩ a w5 Y U
 obtain rfl := hvq rfl
 obtain rfl := hv3 rfl
 replace Y := Y.p17 7 8 9 10 11 12 13 14 15 16 6 0 1 2 3 4 5 rfl
 replace U : St No w0 [_, _, _, _, _, _] w5 := U
 replace U : St No w0 [own (.slice (some ⟨b3, 0, none⟩) 1 1) 27 5 ([[iv x.t, iv x.kind, iv x.a, iv x.b, sv x.text]]), blk b5 [iv 0, .slice none 0 0] 25, own s4 27 5 ((l ++ [x]).map Rec.cells), blk w2.hz [iv 0, .slice none 0 0] 25, blk w1.hz [iv x.t, iv x.kind, iv x.a, iv x.b, sv x.text] 27, blk w0.hz [iv o, lv] 25] w5 := by rw [List.map_append]; exact U
 refine ab <| aQ (k := 11) 12 [11] kr kr kr ?_
 refine aJ (us := [iv o, s4]) 1 Y U rfl rfl rfl (sizeOf25 _) (by intro z hz; simp only [List.mem_cons, List.not_mem_nil, or_false] at hz; rcases hz with rfl | rfl <;> first | rfl | exact SlAt.one (U.ow 2 rfl)) (lb rfl) (ds := [iv o, s4]) rfl rfl ?_
 clear Y U
 intro a w6 Y U
 refine ab <| bd kr ?_
 refine hK2 _ _ ?_
 replace Y := Y.p4 2 4 5 6 rfl
 replace U := U.k4 46 rfl
 refine ac fun K3 hK3 => aa fun K4 hK4 => wlv Y (aj (U.g 3 rfl) rfl (isAgg25 _) (sizeOf25 _)) fun a Y => am Y U de call16 rfl (cX o lv l _ (U.arg hlv)) ?_
 clear Y U
 intro a w7 Y U
 refine wlv Y (bn rfl) fun a Y => wlm Y rfl fun a Y => ?_
 rcases Bool.eq_false_or_eq_true (!(logOk o l)) with hb6 | hb6
 ·rw [hb6] at Y
  try simp only [qz] at hb6
  exfalso; obtain ⟨h1, h2⟩ := eq hok; simp [h1, h2] at hb6
 rw [hb6] at Y
 try simp only [qz] at hb6
 refine wly Y (aj (U.g 0 rfl) rfl (isAgg25 _) (sizeOf25 _)) fun a Y => aR Y U de rfl de rfl call16 rfl (cX o s4 (l ++ [x]) _ (U.ow 1 rfl)) ?_
 clear Y U
 intro a w8 Y U
 refine wly Y (bn rfl) fun a Y => wlv Y (aw rfl rfl) fun a Y => ab (hK4 _ _ ?_)
 replace Y := Y.p4 4 5 6 24 rfl
 replace U := U.k3 7 rfl
 refine az Y rfl (fun hc7 => ?_) (fun hc7 => ?_)
 ·rw [hc7] at Y
  try simp only [qz] at hc7
  exfalso; obtain ⟨h1, h2⟩ := eq hok; simp [h1, h2] at hc7
 rw [hc7] at Y
 try simp only [qz] at hc7
 refine aq <| hK3 _ _ <| aa fun K5 hK5 => wlv Y (aj (U.g 0 rfl) rfl (isAgg25 _) (sizeOf25 _)) fun a Y => aJ (us := [iv o, s4]) 2 Y U rfl rfl rfl (sizeOf25 _) (by intro z hz; simp only [List.mem_cons, List.not_mem_nil, or_false] at hz; rcases hz with rfl | rfl <;> first | rfl | exact SlAt.one (U.ow 1 rfl)) (lb rfl) (ds := [iv o, s4]) rfl rfl ?_
 clear Y U
 intro a w9 Y U
 refine wla Y rfl fun a Y => ab (hK5 _ _ <| au ?_)
 refine ar Y results13 (aH rfl (bj (U.g 2 rfl) (isAgg25 _) (sizeOf25 _)) (ae rfl ah)) ?_
 exact ⟨_, rfl, trivial, U.ext, St.out (E := [own _ 27 5 ((l ++ [x]).map Rec.cells)]) (H := []) (U.select [1] de)⟩
theorem kS (o : Int) (lv : Value) (l : List Rec) (x : Rec) (w0 : World) (hlv : SlAt w0 lv 5 (l.map Rec.cells)) (hll : l.length ≤ 1000) (hok : addOk o l x = false) :
  Ret Tryd.prog 13 #[.agg #[iv o, lv], .agg #[iv x.t, iv x.kind, iv x.a, iv x.b, sv x.text]] w0 (MemR w0 (fun v : Value => .tuple #[.agg #[iv 0, v], iv 110]) (fun v => [own v 27 5 (([] : List Rec).map Rec.cells)]) (fun _ => True)) := by
 refine aI func13 rfl ntmps13 (lb rfl) fun a Y => ?_
 replace Y := Y.p2 0 1 rfl
 replace U : St No w0 [] w0 := St.init w0
 refine aa fun K1 hK1 => bh Y U de rfl (cs := [iv o, lv]) rfl ?_
 clear Y U
 intro a w1 Y U
 refine bh Y U de rfl (cs := [iv x.t, iv x.kind, iv x.a, iv x.b, sv x.text]) rfl ?_
 clear Y U
 intro a w2 Y U
 refine aC Y U de (zeroValue25 _) (cs := [iv 0, .slice none 0 0]) rfl ?_
 clear Y U
 intro a w3 Y U
 refine wla Y rfl fun a Y => ab (hK1 _ _ <| ac fun K2 hK2 => ?_)
 refine aO kr (aP kr fun w4 hxz => ?_)
 replace U := U.grow hxz
 refine aS (k := 0) 11 [9, 10] Y kr kr kr rfx ?_
 replace Y := Y.p6 0 1 2 3 4 5 rfl
 refine cq 2 5 8 9 (fun v => own v 27 5 ([])) (fun v => own v 27 5 (([]) ++ ((l).map Rec.cells))) (fun v => own v 27 5 ((([]) ++ ((l).map Rec.cells)) ++ ([[iv x.t, iv x.kind, iv x.a, iv x.b, sv x.text]]))) (fun u => .agg #[iv o, u]) 11 [[], [0], [], [], [3], [2, 4], [], [6], [5, 7], [1, 8], []] (fun i => match i with | 0 => pv (pq w0.hz) | 1 => pv (iv o) | 2 => fun v E => E = [] | 3 => pv (po w0.hz 1) | 4 => pv (lv) | 5 => fun v E => E = [] | 6 => pv (.agg #[iv x.t, iv x.kind, iv x.a, iv x.b, sv x.text]) | 7 => pm (fun b : Nat => .slice (some ⟨b, 0, none⟩) 1 1) (fun b => [own (.slice (some ⟨b, 0, none⟩) 1 1) 27 5 [[iv x.t, iv x.kind, iv x.a, iv x.b, sv x.text]]]) (fun _ => True) | 8 => fun v E => E = [] | 9 => fun v E => E = [] | 10 => pm (fun b : Nat => pq b) (fun b => [blk b [iv 0, .slice none 0 0] 25]) (fun _ => True) | _ => fun _ _ => False) Y U kr kr kr de de de de de ?_ ?_ ?_ ?_ ?_ ?_ ?_
 ·intro i v E h
  match i, h with
  | 0, _ => exact by decide
  | 1, _ => exact by decide
  | 2, _ => exact by decide
  | 3, _ => exact by decide
  | 4, _ => exact by decide
  | 5, _ => exact by decide
  | 6, _ => exact by decide
  | 7, _ => exact by decide
  | 8, _ => exact by decide
  | 9, _ => exact by decide
  | 10, _ => exact by decide
  | i + 11, h => exact h.elim
 ·intro i hi h0 h1 h2 h3 e
  match i, hi, h0, h1, h2, h3 with
  | 0, _, _, _, _, _ => exact fun w U => OpV.g (al (v := pq w0.hz) rfl kr)
  | 1, _, _, _, _, _ =>
   rintro _ _ ⟨rfl, rfl⟩
   intro w U
   exact OpV.g (ld U 3 rfl rfl (isAgg3 _) rfl)
  | 2, _, h, _, _, _ => exact absurd rfl h
  | 3, _, _, _, _, _ => exact fun w U => OpV.g (al (v := po w0.hz 1) rfl kr)
  | 4, _, _, _, _, _ =>
   rintro _ _ ⟨rfl, rfl⟩
   intro w U
   exact OpV.g (ld U 3 rfl rfl (isAgg23 _) rfl)
  | 5, _, _, h, _, _ => exact absurd rfl h
  | 6, _, _, _, _, _ => exact fun w U => OpV.g (aj (U.g 2 rfl) rfl (isAgg27 _) (sizeOf27 _))
  | 7, _, _, _, _, _ =>
   rintro _ _ ⟨rfl, rfl⟩
   intro w U
   exact aY (E := 27) (sz := 5) rfl [[iv x.t, iv x.kind, iv x.a, iv x.b, sv x.text]] (fun _ => by kernel_rfl) sm rfl de
  | 8, _, _, _, h, _ => exact absurd rfl h
  | 9, _, _, _, _, h => exact absurd rfl h
  | 10, _, _, _, _, _ => exact fun w U => eU (zeroValue25 _) (cs := [iv 0, .slice none 0 0]) rfl
 ·intro w U
  exact OpR.to_own (f := fun b : Nat => .slice (some ⟨b, 0, none⟩) 0 0) (e := fun v => own v 27 5 []) (aY (E := 27) (sz := 5) rfl [] (fun _ => by kernel_rfl) sm rfl de) (fun v => rfl)
 ·rintro s1 _ rfl _ _ ⟨rfl, rfl⟩
  intro w U
  replace U : St No w0 (own s1 27 5 ([]) :: _) w := U
  exact (bI (U.g 0 rfl) rfl rfl (U.arg hlv) underlying23 (inf := Tryd.t27) (z := .agg #[iv 0, iv 0, iv 0, iv 0, .string (⟨#[]⟩)]) rfl rfl rfl rfl de (by first | (simp [Value.oneCell', yv, wv, sv]; done) | exact cG (by intro e he; obtain ⟨p, _, rfl⟩ := List.mem_map.1 he; exact ⟨p, rfl⟩)) (by have hby : Tryd.t27.bytes = 48 := rfl; simp only [big, hby, List.length_append, List.length_map, List.length_cons, List.length_nil]; omega) (by have hby : Tryd.t27.bytes = 48 := rfl; simp only [big, hby, List.length_append, List.length_map, List.length_cons, List.length_nil]; omega)).mono fun v w' ⟨h1, h2, h3⟩ => ⟨h1, h2, h3, rfl⟩
 ·rintro s2 _ rfl _ _ ⟨b3, rfl, -, rfl⟩
  intro w U
  replace U : St No w0 (own s2 27 5 (([]) ++ ((l).map Rec.cells)) :: _) w := U
  exact (bI (U.g 0 rfl) rfl rfl (U.ow 1 rfl) underlying23 (inf := Tryd.t27) (z := .agg #[iv 0, iv 0, iv 0, iv 0, .string (⟨#[]⟩)]) rfl rfl rfl rfl de (by first | (simp [Value.oneCell', yv, wv, sv]; done) | exact cG (by intro e he; obtain ⟨p, _, rfl⟩ := List.mem_map.1 he; exact ⟨p, rfl⟩)) (by have hby : Tryd.t27.bytes = 48 := rfl; simp only [big, hby, List.length_append, List.length_map, List.length_cons, List.length_nil]; omega) (by have hby : Tryd.t27.bytes = 48 := rfl; simp only [big, hby, List.length_append, List.length_map, List.length_cons, List.length_nil]; omega)).mono fun v w' ⟨h1, h2, h3⟩ => ⟨h1, h2, h3, rfl⟩
 ·rintro _ _ ⟨rfl, rfl⟩ s4 _ rfl
  intro w U
  have U : St No w0 (own s4 27 5 ((([]) ++ ((l).map Rec.cells)) ++ ([[iv x.t, iv x.kind, iv x.a, iv x.b, sv x.text]])) :: _) w := U
  obtain ⟨_, _, _, esl⟩ := dQ (U.ow 0 rfl)
  exact OpV.hopv (OpV.g (aZ (v := .agg #[iv o, s4]) rfl (by rw [esl]; kernel_rfl))) rfl
 clear Y U
 rintro vq _ _ ⟨⟨rfl, rfl⟩, -⟩ _ _ ⟨⟨rfl, rfl⟩, -⟩ s1 _ ⟨rfl, -, -⟩ _ _ ⟨⟨rfl, rfl⟩, -⟩ _ _ ⟨⟨rfl, rfl⟩, -⟩ s2 _ ⟨rfl, -, -⟩ _ _ ⟨⟨rfl, rfl⟩, -⟩ _ _ ⟨⟨b3, rfl, -, rfl⟩, -⟩ s4 _ ⟨rfl, hvq, -⟩ _ _ ⟨rfl, -, hv3⟩ _ _ ⟨⟨b5, rfl, -, rfl⟩, -⟩ a w5 Y U
 obtain rfl := hvq rfl
 obtain rfl := hv3 rfl
 replace Y := Y.p17 7 8 9 10 11 12 13 14 15 16 6 0 1 2 3 4 5 rfl
 replace U : St No w0 [_, _, _, _, _, _] w5 := U
 replace U : St No w0 [own (.slice (some ⟨b3, 0, none⟩) 1 1) 27 5 ([[iv x.t, iv x.kind, iv x.a, iv x.b, sv x.text]]), blk b5 [iv 0, .slice none 0 0] 25, own s4 27 5 ((l ++ [x]).map Rec.cells), blk w2.hz [iv 0, .slice none 0 0] 25, blk w1.hz [iv x.t, iv x.kind, iv x.a, iv x.b, sv x.text] 27, blk w0.hz [iv o, lv] 25] w5 := by rw [List.map_append]; exact U
 refine ab <| aQ (k := 11) 12 [11] kr kr kr ?_
 refine aJ (us := [iv o, s4]) 1 Y U rfl rfl rfl (sizeOf25 _) (by intro z hz; simp only [List.mem_cons, List.not_mem_nil, or_false] at hz; rcases hz with rfl | rfl <;> first | rfl | exact SlAt.one (U.ow 2 rfl)) (lb rfl) (ds := [iv o, s4]) rfl rfl ?_
 clear Y U
 intro a w6 Y U
 refine ab <| bd kr ?_
 refine hK2 _ _ ?_
 replace Y := Y.p4 2 4 5 6 rfl
 replace U := U.k4 46 rfl
 refine ac fun K3 hK3 => aa fun K4 hK4 => wlv Y (aj (U.g 3 rfl) rfl (isAgg25 _) (sizeOf25 _)) fun a Y => am Y U de call16 rfl (cX o lv l _ (U.arg hlv)) ?_
 clear Y U
 intro a w7 Y U
 refine wlv Y (bn rfl) fun a Y => wlm Y rfl fun a Y => ?_
 rcases Bool.eq_false_or_eq_true (!(logOk o l)) with hb6 | hb6
 ·rw [hb6] at Y
  try simp only [qz] at hb6
  refine wln Y fun a Y => wln Y fun a Y => wln Y fun a Y => wlv Y (aB rfl rfl) fun a Y => ab (hK4 _ _ ?_)
  replace Y := Y.p4 4 5 6 24 rfl
  replace U := U.k3 7 rfl
  refine aD Y rfl ?_
  refine aa fun K5 hK5 => wlv Y (aZ (v := .agg #[iv 0, .slice none 0 0]) rfl kr) fun a Y => ay 2 Y U rfl rfl rfl (sizeOf25 _) rfl (lb rfl) (ds := [iv 0, .slice none 0 0]) rfl rfl ?_
  clear Y U
  intro a w8 Y U
  refine wla Y rfl fun a Y => ab (hK5 _ _ <| au ?_)
  refine ar Y results13 (aH rfl (bj (U.g 2 rfl) (isAgg25 _) (sizeOf25 _)) (ae rfl ah)) ?_
  replace U : St No w0 [own (.slice none 0 0) 27 5 ((([] : List Rec)).map Rec.cells), blk b5 [iv o, s4] 25, own s4 27 5 ((l ++ [x]).map Rec.cells), blk w2.hz [iv 0, .slice none 0 0] 25] w8 := U.nil_own
  exact ⟨.slice none 0 0, rfl, trivial, U.ext, St.out (E := [own (.slice none 0 0) 27 5 ((([] : List Rec)).map Rec.cells)]) (H := []) (U.select [0] de)⟩
 rw [hb6] at Y
 try simp only [qz] at hb6
 refine wly Y (aj (U.g 0 rfl) rfl (isAgg25 _) (sizeOf25 _)) fun a Y => aR Y U de rfl de rfl call16 rfl (cX o s4 (l ++ [x]) _ (U.ow 1 rfl)) ?_
 clear Y U
 intro a w9 Y U
 refine wly Y (bn rfl) fun a Y => wlv Y (aw rfl rfl) fun a Y => ab (hK4 _ _ ?_)
 replace Y := Y.p4 4 5 6 24 rfl
 replace U := U.k3 7 rfl
 refine az Y rfl (fun hc7 => ?_) (fun hc7 => ?_)
 ·rw [hc7] at Y
  try simp only [qz] at hc7
  refine aa fun K6 hK6 => wlv Y (aZ (v := .agg #[iv 0, .slice none 0 0]) rfl kr) fun a Y => ay 2 Y U rfl rfl rfl (sizeOf25 _) rfl (lb rfl) (ds := [iv 0, .slice none 0 0]) rfl rfl ?_
  clear Y U
  intro a w10 Y U
  refine wla Y rfl fun a Y => ab (hK6 _ _ <| au ?_)
  refine ar Y results13 (aH rfl (bj (U.g 2 rfl) (isAgg25 _) (sizeOf25 _)) (ae rfl ah)) ?_
  replace U : St No w0 [own (.slice none 0 0) 27 5 ((([] : List Rec)).map Rec.cells), blk b5 [iv o, s4] 25, own s4 27 5 ((l ++ [x]).map Rec.cells), blk w2.hz [iv 0, .slice none 0 0] 25] w10 := U.nil_own
  exact ⟨.slice none 0 0, rfl, trivial, U.ext, St.out (E := [own (.slice none 0 0) 27 5 ((([] : List Rec)).map Rec.cells)]) (H := []) (U.select [0] de)⟩
 rw [hc7] at Y
 try simp only [qz] at hc7
 exfalso; unfold addOk at hok; simp only [hb6, hc7] at hok; simp at hok
theorem dE (o : Int) (lv : Value) (l : List Rec) (x : Rec) (w0 : World) (hlv : SlAt w0 lv 5 (l.map Rec.cells)) (hll : l.length ≤ 1000) : Ret Tryd.prog 13 #[.agg #[iv o, lv], .agg #[iv x.t, iv x.kind, iv x.a, iv x.b, sv x.text]] w0 (MemR w0 (fun v : Value => .tuple #[.agg #[iv (addO o l x), v], iv (addE o l x)]) (fun v => [own v 27 5 ((addL o l x).map Rec.cells)]) (fun _ => True)) := by
 unfold addO addE addL
 cases h : addOk o l x with
 | true => rw [if_pos rfl, if_pos rfl, if_pos rfl]; exact ji o lv l x w0 hlv hll h
 | false => rw [if_neg sm, if_neg sm, if_neg sm]; exact kS o lv l x w0 hlv hll h
theorem bU (o : Int) (lv : Value) (l : List Rec) (kind at_ : Int) (w0 : World) (hlv : SlAt w0 lv 5 (l.map Rec.cells)) :
  Ret Tryd.prog 20 #[.agg #[iv o, lv], iv kind, iv at_] w0 fun v w => v = iv (findH o l kind at_) ∧ Ext No w0 w := by
 have hxb := hlv.2.1
 simp only [List.length_map, big] at hxb
 refine aI func20 rfl ntmps20 (lb rfl) fun a Y => ?_
 replace Y := Y.p3 0 1 2 rfl
 replace U : St No w0 [] w0 := St.init w0
 refine aa fun K1 hK1 => bh Y U de rfl (cs := [iv o, lv]) rfl ?_
 clear Y U
 intro a w1 Y U
 refine bh Y U de rfl (cs := [iv kind]) rfl ?_
 clear Y U
 intro a w2 Y U
 refine bh Y U de rfl (cs := [iv at_]) rfl ?_
 clear Y U
 intro a w3 Y U
 refine aC Y U de (zeroValue3 _) (cs := [iv 0]) rfl ?_
 clear Y U
 intro a w4 Y U
 refine ab (hK1 _ _ <| ac fun K2 hK2 => ?_)
 refine aa fun K3 hK3 => wlv Y (aj (U.g 3 rfl) rfl (isAgg25 _) (sizeOf25 _)) fun a Y => am Y U de call16 rfl (cX o lv l _ (U.arg hlv)) ?_
 clear Y U
 intro a w5 Y U
 refine wlv Y (bn rfl) fun a Y => ab (hK3 _ _ ?_)
 refine az Y rfl (fun hc1 => ?_) (fun hc1 => ?_)
 ·rw [hc1] at Y
  try simp only [qz, Bool.and_eq_true, Bool.or_eq_true, Bool.and_eq_false_iff, Bool.or_eq_false_iff] at hc1
  have hlo : logOk o l = false := by simpa using hc1
  refine aa fun K4 hK4 => ay 0 Y U rfl rfl rfl (sizeOf3 _) rfl (lb rfl) (ds := [iv (-1)]) rfl rfl ?_
  clear Y U
  intro a w6 Y U
  refine ab (hK4 _ _ ?_)
  replace Y := Y.p4 3 4 5 6 rfl
  refine au ?_
  refine ar Y results20 (aH rfl (cI (U.g 0 rfl) (isAgg3 _)) ah) ?_
  exact ⟨by simp only [retv]; rw [findH, if_neg (by rw [hlo]; decide)]; try rfl, U.ext⟩
 rw [hc1] at Y
 try simp only [qz, Bool.and_eq_true, Bool.or_eq_true, Bool.and_eq_false_iff, Bool.or_eq_false_iff] at hc1
 have hlo : logOk o l = true := by simpa using hc1
 refine aq <| hK2 _ _ <| ac fun K5 hK5 => aa fun K6 hK6 => wlv Y (aj (U.g 3 rfl) rfl (isAgg25 _) (sizeOf25 _)) fun a Y => aX Y U de call48 rfl (jz o lv _ l (U.arg hlv)) ?_
 clear Y U
 intro a w7 x2 hp Y U
 revert x2 hp Y U; rintro z1 hp Y U
 clear hp
 replace U : St No w0 [_, _, _, _, _] w7 := U
 refine ab (hK6 _ _ ?_)
 replace Y := Y.p4 4 5 6 13 rfl
 replace U := U.k4 15 rfl
 refine ap ?_
 replace U : St No w0 [blk w1.hz [iv kind] 3, blk w2.hz [iv at_] 3, blk w3.hz [iv 0] 3, blk z1 [iv o, lv] 25] w7 := U.select [3, 2, 1, 0] de
 replace Y : Fr 27 [(4, pq w1.hz), (5, pq w2.hz), (6, pq w3.hz), (13, .func (.func 74) #[] #[pq z1])] [] a := Y.pick [4, 5, 6, 13]
 refine cT (M := No) (w0 := w0) (encs := (encRb l)) (Hi := [blk z1 [iv o, lv] 25]) (Hc := [blk w1.hz [iv kind] 3, blk w2.hz [iv at_] 3, blk w3.hz [iv 0] 3]) (fun pre H => (findF (hitR kind at_) l l.length = findF (hitR kind at_) l (l.length - (pre : List Nat).length)) ∧ H = [blk w1.hz [iv kind] 3, blk w2.hz [iv at_] 3, blk w3.hz [iv 0] 3]) (fun c pre H => c = .ret ∧ ∃ (i : Nat), (findF (hitR kind at_) l l.length = (i : Int)) ∧ H = [blk w1.hz [iv kind] 3, blk w2.hz [iv at_] 3, blk w3.hz [iv (i : Int)] 3]) (fun pre xs H a => ∃ (bA0 : Nat), Fr 27 [(4, pq w1.hz), (5, pq w2.hz), (6, pq w3.hz), (13, .func (.func 74) #[] #[pq z1]), (7, iv (xs : Int)), (8, pq bA0)] [] a ∧ (findF (hitR kind at_) l l.length = findF (hitR kind at_) l (l.length - (pre : List Nat).length)) ∧ H = [blk bA0 [iv ((l.getD xs Rec.z).t), iv ((l.getD xs Rec.z).kind), iv ((l.getD xs Rec.z).a), iv ((l.getD xs Rec.z).b), sv ((l.getD xs Rec.z).text)] 27, blk w1.hz [iv kind] 3, blk w2.hz [iv at_] 3, blk w3.hz [iv 0] 3]) rfl call74 Y U (gn o lv l z1 (by have := co hlo; omega) (fun H w h => h.arg hlv)) de (fun _ => rfl) ⟨sm, rfl⟩ ?_ ?_ ?_ ?_
 ·clear Y U
  rintro lp pre xs _ a w8 hnx ⟨hfi, rfl⟩ Y U
  generalize (join [blk w1.hz [iv kind] 3, blk w2.hz [iv at_] 3, blk w3.hz [iv 0] 3]).foot = M1 at U ⊢
  replace Y : Fr 27 [(15, .agg #[iv ((l.getD xs Rec.z).t), iv ((l.getD xs Rec.z).kind), iv ((l.getD xs Rec.z).a), iv ((l.getD xs Rec.z).b), sv ((l.getD xs Rec.z).text)]), (14, iv (xs : Int)), (4, pq w1.hz), (5, pq w2.hz), (6, pq w3.hz), (13, .func (.func 74) #[] #[pq z1])] [] a := Y
  refine aa fun K7 hK7 => wla Y rfl fun a Y => ab (hK7 _ _ <| ao ?_)
  refine aC Y U de (zeroValue27 _) (cs := [iv 0, iv 0, iv 0, iv 0, .string (⟨#[]⟩)]) rfl ?_
  clear Y U
  intro a w9 Y U
  refine ay 0 Y U rfl rfl rfl (sizeOf27 _) rfl (lb rfl) (ds := [iv ((l.getD xs Rec.z).t), iv ((l.getD xs Rec.z).kind), iv ((l.getD xs Rec.z).a), iv ((l.getD xs Rec.z).b), sv ((l.getD xs Rec.z).text)]) rfl rfl ?_
  clear Y U
  intro a w10 Y U
  refine ab ?_
  exact ⟨_, ⟨w8.hz, Y.pick [4, 5, 6, 13, 7, 8], hfi, rfl⟩, U⟩
 ·rintro lp pre xs _ a w11 hnx ⟨bA0, Y, hfi, rfl⟩ hout hrec hnl U
  clear hrec hnl
  generalize (join [blk bA0 [iv ((l.getD xs Rec.z).t), iv ((l.getD xs Rec.z).kind), iv ((l.getD xs Rec.z).a), iv ((l.getD xs Rec.z).b), sv ((l.getD xs Rec.z).text)] 27, blk w1.hz [iv kind] 3, blk w2.hz [iv at_] 3, blk w3.hz [iv 0] 3]).foot = M1 at U hout ⊢
  refine ap <| aa fun K8 hK8 => wlv Y (al (v := po bA0 1) rfl kr) fun a Y => wlv Y (ld U 0 rfl rfl (isAgg3 _) rfl) fun a Y => wlv Y (ld U 1 rfl rfl (isAgg3 _) rfl) fun a Y => wlv Y (v_eq rfl rfl) fun a Y => wlm Y rfl fun a Y => ?_
  refine cK (N := 27) (df := []) 5 [(25, .bool ((decide ((l.getD xs Rec.z).kind = kind)) && (decide ((l.getD xs Rec.z).t ≤ at_)))), (4, pq w1.hz), (5, pq w2.hz), (6, pq w3.hz), (13, .func (.func 74) #[] #[pq z1]), (7, iv (xs : Int)), (8, pq bA0)] ?_ (fun hj => ?_)
  rotate_left
  ·rcases Bool.eq_false_or_eq_true (decide ((l.getD xs Rec.z).kind = kind)) with hb3 | hb3
   ·rw [hb3] at Y
    have hb3b := hb3
    try simp only [qz, Bool.and_eq_true, Bool.or_eq_true, Bool.and_eq_false_iff, Bool.or_eq_false_iff] at hb3
    refine wly Y (al (v := pq bA0) rfl kr) fun a Y => wly Y (ld U 0 rfl rfl (isAgg3 _) rfl) fun a Y => wly Y (ld U 2 rfl rfl (isAgg3 _) rfl) fun a Y => wly Y (v_le rfl rfl) fun a Y => wlv Y (aB rfl rfl) fun a Y => ?_
    refine hj _ ?_
    try rw [hb3b]
    exact Y.pick [25, 4, 5, 6, 13, 7, 8]
   rw [hb3] at Y
   have hb3b := hb3
   try simp only [qz, Bool.and_eq_true, Bool.or_eq_true, Bool.and_eq_false_iff, Bool.or_eq_false_iff] at hb3
   refine wln Y fun a Y => wln Y fun a Y => wln Y fun a Y => wln Y fun a Y => wlv Y (aw rfl rfl) fun a Y => ?_
   refine hj _ ?_
   try rw [hb3b]
   exact Y.pick [25, 4, 5, 6, 13, 7, 8]
  intro a Y
  refine ab (hK8 _ _ ?_)
  refine az Y rfl (fun hc4 => ?_) (fun hc4 => ?_)
  ·rw [hc4] at Y
   try simp only [qz, Bool.and_eq_true, Bool.or_eq_true, Bool.and_eq_false_iff, Bool.or_eq_false_iff] at hc4
   refine aa fun K9 hK9 => wlm Y rfl fun a Y => ay 3 Y U rfl rfl rfl (sizeOf3 _) rfl (lb rfl) (ds := [iv (xs : Int)]) rfl rfl ?_
   clear Y U
   intro a w12 Y U
   refine ab (hK9 _ _ ?_)
   replace Y := Y.p1 6 rfl
   replace U := U.k3 14 rfl
   refine au ?_
   exact ⟨_, ⟨rfl, xs, oF hnx hfi (by unfold hitR; simp only [Bool.and_eq_true, decide_eq_true_eq]; omega), rfl⟩, U.select [0, 1, 2] de⟩
  rw [hc4] at Y
  try simp only [qz, Bool.and_eq_true, Bool.or_eq_true, Bool.and_eq_false_iff, Bool.or_eq_false_iff] at hc4
  refine aq ?_
  exact ⟨_, ⟨o9 hnx hfi (by unfold hitR; simp only [Bool.and_eq_false_iff, decide_eq_false_iff_not]; omega), rfl⟩, U.select [1, 2, 3] de⟩
 ·rintro D pre _ _ a w13 ⟨rfl, rfl⟩ ⟨hfi, rfl⟩ U Y
  replace Y : Fr 27 [(4, pq w1.hz), (5, pq w2.hz), (6, pq w3.hz), (13, .func (.func 74) #[] #[pq z1])] [{ target := .collected D, args := #[] }] a := Y
  replace U : St No w0 [_, _, _, _, _] w13 := U
  refine hK5 _ _ <| aa fun K10 hK10 => ay 3 Y U rfl rfl rfl (sizeOf3 _) rfl (lb rfl) (ds := [iv (-1)]) rfl rfl ?_
  clear Y U
  intro a w14 Y U
  refine ab (hK10 _ _ <| au ?_)
  have hD := U.g 0 rfl
  replace U := U.unmark (i := 0) (o' := .deferred none) rfl
  replace U : St No w0 [_, _, _, _] _ := U
  refine bR Y hD results20 (aH rfl (cI (U.g 2 rfl) (isAgg3 _)) ah) ?_
  exact ⟨by simp only [retv]; rw [findH, if_pos hlo, oG hfi]; try rfl, U.ext⟩
 ·rintro D _ pre _ _ a w15 rfl ⟨rfl, i, hfh, rfl⟩ U Y
  replace Y : Fr 27 [(4, pq w1.hz), (5, pq w2.hz), (6, pq w3.hz), (13, .func (.func 74) #[] #[pq z1])] [{ target := .collected D, args := #[] }] a := Y
  replace U : St No w0 [_, _, _, _, _] w15 := U
  refine au ?_
  have hD := U.g 0 rfl
  replace U := U.unmark (i := 0) (o' := .deferred none) rfl
  replace U : St No w0 [_, _, _, _] _ := U
  refine bR Y hD results20 (aH rfl (cI (U.g 2 rfl) (isAgg3 _)) ah) ?_
  exact ⟨by simp only [retv]; rw [findH, if_pos hlo, hfh]; try rfl, U.ext⟩
theorem fw (o : Int) (lv : Value) (l : List Rec) (w0 : World) (hlv : SlAt w0 lv 5 (l.map Rec.cells)) (hlo : logOk o l = true) :
  Ret Tryd.prog 62 #[.agg #[iv o, lv]] w0 (MemR w0 (fun v : Value => .tuple #[v, .bool true]) (fun v => [own v 9 1 ((codesB l).map fun s => [sv s])]) (fun _ => True)) := by
 have hxb := hlv.2.1
 simp only [List.length_map, big] at hxb
 have hl60 := co hlo
 refine aI func62 rfl ntmps62 (lb rfl) fun a Y => ?_
 replace Y := Y.p1 0 rfl
 replace U : St No w0 [] w0 := St.init w0
 refine aa fun K1 hK1 => bh Y U de rfl (cs := [iv o, lv]) rfl ?_
 clear Y U
 intro a w1 Y U
 refine wla Y rfl fun a Y => wla Y rfl fun a Y => ab (hK1 _ _ <| ac fun K2 hK2 => ?_)
 refine aa fun K3 hK3 => wlv Y (aj (U.g 0 rfl) rfl (isAgg25 _) (sizeOf25 _)) fun a Y => am Y U de call16 rfl (cX o lv l _ (U.arg hlv)) ?_
 clear Y U
 intro a w2 Y U
 refine wlv Y (bn rfl) fun a Y => ab (hK3 _ _ ?_)
 refine az Y rfl (fun hc1 => ?_) (fun hc1 => ?_)
 ·rw [hc1] at Y
  try simp only [qz] at hc1
  exfalso; simp [hlo] at hc1
 rw [hc1] at Y
 try simp only [qz] at hc1
 refine aq <| hK2 _ _ <| aa fun K4 hK4 => wlv Y (al (v := po w0.hz 1) rfl kr) fun a Y => wlv Y (ld U 0 rfl rfl (isAgg23 _) rfl) fun a Y => wlv Y ((aK (sT := 23) (U.arg hlv) rfl rfl (runUnderlying23 _)).asi (m' := (l.length : Int)) (by rw [List.length_map])) fun a Y => ja (n := l.length) (E := 9) (sz := 1) rfl rfl ((List.replicate l.length ([] : By)).map fun s => [sv s]) (g8 underlying45 (inf := Tryd.t9) rfl rfl rfl rfl de l.length (by rw [List.map_replicate]; rfl) om _) (by intro e he; obtain ⟨_, _, rfl⟩ := List.mem_map.1 he; rfl) sm (by simp only [big]; omega) de Y U ?_
 clear Y U
 intro a w3 Y U
 refine aC Y U de (zeroValue45 _) (cs := [.slice none 0 0]) rfl ?_
 clear Y U
 intro a w4 Y U
 refine ay 0 Y U rfl rfl rfl (sizeOf45 _) rfl (lb rfl) (ds := [(.slice (some ⟨w2.hz, 0, none⟩) l.length l.length)]) rfl rfl ?_
 clear Y U
 intro a w5 Y U
 refine ab (hK4 _ _ ?_)
 replace Y := Y.p4 1 2 3 4 rfl
 refine ac fun K5 hK5 => aa fun K6 hK6 => wlv Y (aj (U.g 2 rfl) rfl (isAgg25 _) (sizeOf25 _)) fun a Y => aX Y U de call48 rfl (jz o lv _ l (U.arg hlv)) ?_
 clear Y U
 intro a w6 x2 hp Y U
 revert x2 hp Y U; rintro z1 hp Y U
 clear hp
 replace U : St No w0 [_, _, _, _] w6 := U
 refine ab (hK6 _ _ <| ap ?_)
 replace U : St No w0 [blk z1 [iv o, lv] 25, blk w3.hz [(.slice (some ⟨w2.hz, 0, none⟩) l.length l.length)] 45, own (.slice (some ⟨w2.hz, 0, none⟩) l.length l.length) 9 1 ((outR l ([] : List Nat).length).map fun s => [sv s]), blk w0.hz [iv o, lv] 25] w6 := by rw [show outR l ([] : List Nat).length = _ from pr l]; exact U
 replace U : St No w0 [blk w3.hz [(.slice (some ⟨w2.hz, 0, none⟩) l.length l.length)] 45, own (.slice (some ⟨w2.hz, 0, none⟩) l.length l.length) 9 1 ((outR l ([] : List Nat).length).map fun s => [sv s]), blk z1 [iv o, lv] 25] w6 := U.select [1, 2, 0] de
 replace Y : Fr 27 [(1, pq w0.hz), (2, .slice none 0 0), (3, .bool false), (4, pq w3.hz), (14, .agg #[iv o, lv]), (15, .func (.func 74) #[] #[pq z1])] [] a := Y.pick [1, 2, 3, 4, 14, 15]
 refine cT (M := No) (w0 := w0) (encs := (encRb l)) (Hi := [blk z1 [iv o, lv] 25]) (Hc := [blk w3.hz [(.slice (some ⟨w2.hz, 0, none⟩) l.length l.length)] 45, own (.slice (some ⟨w2.hz, 0, none⟩) l.length l.length) 9 1 ((outR l ([] : List Nat).length).map fun s => [sv s])]) (fun pre H => (True) ∧ H = [blk w3.hz [(.slice (some ⟨w2.hz, 0, none⟩) l.length l.length)] 45, own (.slice (some ⟨w2.hz, 0, none⟩) l.length l.length) 9 1 ((outR l (pre : List Nat).length).map fun s => [sv s])]) (fun _ _ _ => False) (fun pre xs H a => ∃ (bA0 : Nat), Fr 27 [(1, pq w0.hz), (2, .slice none 0 0), (3, .bool false), (4, pq w3.hz), (14, .agg #[iv o, lv]), (15, .func (.func 74) #[] #[pq z1]), (5, iv (xs : Int)), (6, pq bA0)] [] a ∧ (True) ∧ H = [blk bA0 [iv ((l.getD xs Rec.z).t), iv ((l.getD xs Rec.z).kind), iv ((l.getD xs Rec.z).a), iv ((l.getD xs Rec.z).b), sv ((l.getD xs Rec.z).text)] 27, blk w3.hz [(.slice (some ⟨w2.hz, 0, none⟩) l.length l.length)] 45, own (.slice (some ⟨w2.hz, 0, none⟩) l.length l.length) 9 1 ((outR l (pre : List Nat).length).map fun s => [sv s])]) rfl call74 Y U (gn o lv l z1 (by have := co hlo; omega) (fun H w h => h.arg hlv)) de (fun _ => rfl) ⟨trivial, rfl⟩ ?_ ?_ ?_ ?_
 ·clear Y U
  rintro lp pre xs _ a w7 hnx ⟨htr, rfl⟩ Y U
  generalize (join [blk w3.hz [(.slice (some ⟨w2.hz, 0, none⟩) l.length l.length)] 45, own (.slice (some ⟨w2.hz, 0, none⟩) l.length l.length) 9 1 ((outR l (pre : List Nat).length).map fun s => [sv s])]).foot = M1 at U ⊢
  replace Y : Fr 27 [(17, .agg #[iv ((l.getD xs Rec.z).t), iv ((l.getD xs Rec.z).kind), iv ((l.getD xs Rec.z).a), iv ((l.getD xs Rec.z).b), sv ((l.getD xs Rec.z).text)]), (16, iv (xs : Int)), (1, pq w0.hz), (2, .slice none 0 0), (3, .bool false), (4, pq w3.hz), (14, .agg #[iv o, lv]), (15, .func (.func 74) #[] #[pq z1])] [] a := Y
  refine aa fun K7 hK7 => wla Y rfl fun a Y => ab (hK7 _ _ <| ao ?_)
  refine aC Y U de (zeroValue27 _) (cs := [iv 0, iv 0, iv 0, iv 0, .string (⟨#[]⟩)]) rfl ?_
  clear Y U
  intro a w8 Y U
  refine ay 0 Y U rfl rfl rfl (sizeOf27 _) rfl (lb rfl) (ds := [iv ((l.getD xs Rec.z).t), iv ((l.getD xs Rec.z).kind), iv ((l.getD xs Rec.z).a), iv ((l.getD xs Rec.z).b), sv ((l.getD xs Rec.z).text)]) rfl rfl ?_
  clear Y U
  intro a w9 Y U
  refine ab ?_
  exact ⟨_, ⟨w7.hz, Y.pick [1, 2, 3, 4, 14, 15, 5, 6], htr, rfl⟩, U⟩
 ·rintro lp pre xs _ a w10 hnx ⟨bA0, Y, htr, rfl⟩ hout hrec hnl U
  clear hrec hnl
  generalize (join [blk bA0 [iv ((l.getD xs Rec.z).t), iv ((l.getD xs Rec.z).kind), iv ((l.getD xs Rec.z).a), iv ((l.getD xs Rec.z).b), sv ((l.getD xs Rec.z).text)] 27, blk w3.hz [(.slice (some ⟨w2.hz, 0, none⟩) l.length l.length)] 45, own (.slice (some ⟨w2.hz, 0, none⟩) l.length l.length) 9 1 ((outR l (pre : List Nat).length).map fun s => [sv s])]).foot = M1 at U hout ⊢
  refine ap <| aO kr ?_
  replace Y := Y.p8 1 2 3 4 14 15 5 6 rfl
  replace U : St M1 w10 [own (.slice (some ⟨w2.hz, 0, none⟩) l.length l.length) 9 1 ((outR l (pre : List Nat).length).map fun s => [sv s]), blk bA0 [iv ((l.getD xs Rec.z).t), iv ((l.getD xs Rec.z).kind), iv ((l.getD xs Rec.z).a), iv ((l.getD xs Rec.z).b), sv ((l.getD xs Rec.z).text)] 27, blk w3.hz [(.slice (some ⟨w2.hz, 0, none⟩) l.length l.length)] 45] w10 := U.select [2, 0, 1] de
  have hso3 := U.ow 0 rfl
  refine ez [8] (fun q => if q = 8 then own (.slice (some ⟨w2.hz, 0, none⟩) l.length l.length) 9 1 ((outR l (pre : List Nat).length).map fun s => [sv s]) else join []) (fun q => if q = 8 then own (.slice (some ⟨w2.hz, 0, none⟩) l.length l.length) 9 1 ((outR l ((pre ++ [xs]) : List Nat).length).map fun s => [sv s]) else join []) 9 [[], [], [], [2], [3], [4], [4], [0, 1], [5, 7]] (fun i => match i with | 0 => pv ((.slice (some ⟨w2.hz, 0, none⟩) l.length l.length)) | 1 => pv (iv (xs : Int)) | 2 => pv (.agg #[iv ((l.getD xs Rec.z).t), iv ((l.getD xs Rec.z).kind), iv ((l.getD xs Rec.z).a), iv ((l.getD xs Rec.z).b), sv ((l.getD xs Rec.z).text)]) | 3 => pv (.tuple #[sv (eB (l.getD xs Rec.z)), iv (eE (l.getD xs Rec.z))]) | 4 => pv (.tuple #[sv (eB (l.getD xs Rec.z)), iv (eE (l.getD xs Rec.z))]) | 5 => pv (sv (eB (l.getD xs Rec.z))) | 6 => pv (iv (eE (l.getD xs Rec.z))) | 7 => pv (slAddr (.slice (some ⟨w2.hz, 0, none⟩) l.length l.length) (xs * 1)) | 8 => fun v E => v = undef ∧ E = [] | _ => fun _ _ => False) (by intro q; by_cases h8 : q = 8; (subst h8; rfl); simp only [h8, if_false]) Y (H := [blk bA0 [iv ((l.getD xs Rec.z).t), iv ((l.getD xs Rec.z).kind), iv ((l.getD xs Rec.z).a), iv ((l.getD xs Rec.z).b), sv ((l.getD xs Rec.z).text)] 27, blk w3.hz [(.slice (some ⟨w2.hz, 0, none⟩) l.length l.length)] 45]) U kr kr kr kr de de ?_ ?_ ?_ ?_ ?_ ?_
  ·intro i v E h
   match i, h with
   | 0, _ => exact by decide
   | 1, _ => exact by decide
   | 2, _ => exact by decide
   | 3, _ => exact by decide
   | 4, _ => exact by decide
   | 5, _ => exact by decide
   | 6, _ => exact by decide
   | 7, _ => exact by decide
   | 8, _ => exact by decide
   | i + 9, h => exact h.elim
  ·intro q v E hq h
   simp only [List.mem_cons, List.not_mem_nil, or_false] at hq
   rcases hq with rfl <;> exact h
  ·intro q hq
   simp only [List.mem_cons, List.not_mem_nil, or_false] at hq
   rcases hq with rfl <;> exact ⟨rfl, rfl⟩
  ·intro i hi hiq e
   match i, hi, hiq with
   | 0, _, _ => exact fun w U => OpV.g (ld U 2 rfl rfl (isAgg45 _) rfl)
   | 1, _, _ => exact fun w U => OpV.g (ai rfl)
   | 2, _, _ => exact fun w U => OpV.g (aj (U.g 1 rfl) rfl (isAgg27 _) (sizeOf27 _))
   | 3, _, _ =>
    rintro _ _ ⟨rfl, rfl⟩
    intro w U
    exact aT call22 rfl (dN (l.getD xs Rec.z) _)
   | 4, _, _ =>
    rintro _ _ ⟨rfl, rfl⟩
    intro w U
    exact OpV.g (ai rfl)
   | 5, _, _ =>
    rintro _ _ ⟨rfl, rfl⟩
    intro w U
    exact OpV.g (ag rfl rfl)
   | 6, _, _ =>
    rintro _ _ ⟨rfl, rfl⟩
    intro w U
    exact OpV.g (ag rfl rfl)
   | 7, _, _ =>
    rintro _ _ ⟨rfl, rfl⟩ _ _ ⟨rfl, rfl⟩
    intro w U
    exact OpV.g ((fG (i := (xs : Int)) hso3 rfl rfl (runUnderlying45 _) (sizeOf9 _) om (by have h9 : xs + 1 + pre.length = l.length := hnx; rw [List.length_map, jE _ _ om]; omega)).as (v' := slAddr (.slice (some ⟨w2.hz, 0, none⟩) l.length l.length) (xs * 1)) rfl)
   | 8, _, h => exact absurd de h
  ·intro q hq
   simp only [List.mem_cons, List.not_mem_nil, or_false] at hq
   rcases hq with rfl
   ·rintro _ _ ⟨rfl, rfl⟩ _ _ ⟨rfl, rfl⟩
    intro w h
    exact ko (k := xs) (j := 0) rfl rfl h (by have h9 : xs + 1 + pre.length = l.length := hnx; rw [List.length_map, jE _ _ om]; omega) om (sizeOf9 _) (by simp [Value.oneCell', yv, wv, sv, Value.cells]) (lb rfl) (els' := ((outR l ((pre ++ [xs]) : List Nat).length).map fun s => [sv s])) (mi hnx _)
  clear Y U
  rintro _ _ ⟨rfl, rfl⟩ _ _ ⟨rfl, rfl⟩ _ _ ⟨rfl, rfl⟩ _ _ ⟨rfl, rfl⟩ _ _ ⟨rfl, rfl⟩ _ _ ⟨rfl, rfl⟩ _ _ ⟨rfl, rfl⟩ _ _ ⟨rfl, rfl⟩ a w11 Y U
  replace Y := Y.p16 19 20 21 22 18 23 24 25 1 2 3 4 14 15 5 6 rfl
  replace U : St M1 w10 [_, _, _] w11 := U
  refine ab ?_
  exact ⟨_, ⟨trivial, rfl⟩, U.select [2, 0] de⟩
 ·rintro D pre _ _ a w12 ⟨rfl, rfl⟩ ⟨htr, rfl⟩ U Y
  replace Y : Fr 27 [(1, pq w0.hz), (2, .slice none 0 0), (3, .bool false), (4, pq w3.hz), (14, .agg #[iv o, lv]), (15, .func (.func 74) #[] #[pq z1])] [{ target := .collected D, args := #[] }] a := Y
  replace U : St No w0 [_, _, _, _] w12 := U
  refine hK5 _ _ <| aa fun K8 hK8 => wlv Y (ld U 1 rfl rfl (isAgg45 _) rfl) fun a Y => wla Y rfl fun a Y => wla Y rfl fun a Y => ab (hK8 _ _ <| au ?_)
  have hD := U.g 0 rfl
  replace U := U.unmark (i := 0) (o' := .deferred none) rfl
  replace U : St No w0 [_, _, _] _ := U
  refine bR Y hD results62 (ae rfl (ae rfl ah)) ?_
  rw [mj] at U
  exact ⟨(.slice (some ⟨w2.hz, 0, none⟩) l.length l.length), rfl, trivial, U.ext, St.out (E := [own (.slice (some ⟨w2.hz, 0, none⟩) l.length l.length) 9 1 ((codesB l).map fun s => [sv s])]) (H := []) (U.select [1] de)⟩
 ·rintro D c pre _ _ a w13 _ h
  exact h.elim
theorem nL (o : Int) (lv : Value) (l : List Rec) (w0 : World) (hlv : SlAt w0 lv 5 (l.map Rec.cells)) (hlo : logOk o l = false) :
  Ret Tryd.prog 62 #[.agg #[iv o, lv]] w0 fun v w => v = .tuple #[.slice none 0 0, .bool false] ∧ Ext No w0 w := by
 refine aI func62 rfl ntmps62 (lb rfl) fun a Y => ?_
 replace Y := Y.p1 0 rfl
 replace U : St No w0 [] w0 := St.init w0
 refine aa fun K1 hK1 => bh Y U de rfl (cs := [iv o, lv]) rfl ?_
 clear Y U
 intro a w1 Y U
 refine wla Y rfl fun a Y => wla Y rfl fun a Y => ab (hK1 _ _ <| ac fun K2 hK2 => ?_)
 refine aa fun K3 hK3 => wlv Y (aj (U.g 0 rfl) rfl (isAgg25 _) (sizeOf25 _)) fun a Y => am Y U de call16 rfl (cX o lv l _ (U.arg hlv)) ?_
 clear Y U
 intro a w2 Y U
 refine wlv Y (bn rfl) fun a Y => ab (hK3 _ _ ?_)
 refine az Y rfl (fun hc1 => ?_) (fun hc1 => ?_)
 ·rw [hc1] at Y
  try simp only [qz] at hc1
  refine aa fun K4 hK4 => wla Y rfl fun a Y => wla Y rfl fun a Y => ab (hK4 _ _ <| au ?_)
  refine ar Y results62 (ae rfl (ae rfl ah)) ?_
  exact ⟨by rfl, U.ext⟩
 rw [hc1] at Y
 try simp only [qz] at hc1
 exfalso; simp [hlo] at hc1
end Go.Proofs.YtddfkkdanpmnaaaDoor
namespace Go.Proofs.YtddfkkdanpmnaaaDoor
open Go.RowKit Go.PW _root_.Go.Proofs.Tryd
theorem iB (o : Int) (lv : Value) (l : List Rec) (w0 : World) (hlv : SlAt w0 lv 5 (l.map Rec.cells)) (hk0 : (blk 0 (kOf.map wv) 161).ok w0) :
  Ret Tryd.prog 27 #[.agg #[iv o, lv]] w0 fun v w => v = .tuple #[sv (headB o l), iv (headE o l)] ∧ Ext No w0 w := by
 refine aI func27 rfl ntmps27 (lb rfl) fun a Y => ?_
 replace Y := Y.p1 0 rfl
 replace U : St No w0 [] w0 := St.init w0
 refine aa fun K1 hK1 => bh Y U de rfl (cs := [iv o, lv]) rfl ?_
 clear Y U
 intro a w1 Y U
 refine wla Y rfl fun a Y => wla Y rfl fun a Y => ab (hK1 _ _ <| aa fun K2 hK2 => ?_)
 refine wlv Y (aj (U.g 0 rfl) rfl (isAgg25 _) (sizeOf25 _)) fun a Y => ?_
 rcases Bool.eq_false_or_eq_true (logOk o l) with hb1 | hb1
 ·try simp only [qz] at hb1
  have hlo : logOk o l = true := hb1
  have hll : l.length ≤ 60 := co hlo
  refine aX Y U de call62 rfl (fw o lv l _ (U.arg hlv) hlo) ?_
  clear Y U
  intro a w2 x3 hp Y U
  revert x3 hp Y U; rintro v2 hp Y U
  clear hp
  replace U : St No w0 [_, _] w2 := U
  refine wlm Y rfl fun a Y => wlv Y (ag rfl rfl) fun a Y => wlv Y (ag rfl rfl) fun a Y => wla Y rfl fun a Y => wla Y rfl fun a Y => ab (hK2 _ _ ?_)
  replace Y := Y.p4 2 3 4 5 rfl
  replace U := U.k1 1 rfl
  refine ac fun K3 hK3 => aa fun K4 hK4 => wlm Y rfl fun a Y => wlv Y ((bn rfl).asb (b' := false) rfl) fun a Y => ab (hK4 _ _ <| aE Y rfl ?_)
  refine aq <| hK3 _ _ <| aa fun K5 hK5 => wlm Y rfl fun a Y => am Y U de call63 rfl (er v2 (codesB l) _ (U.ow 0 rfl) (by rw [gb]; omega) (fun k hk => Nat.le_trans (gt l _ (bF hk)) de) (U.keepb hk0)) ?_
  clear Y U
  intro a w3 Y U
  refine wla Y rfl fun a Y => wla Y rfl fun a Y => ab (hK5 _ _ ?_)
  replace Y := Y.p2 2 3 rfl
  replace U : St No w0 [] w3 := U.mask [false]
  refine au ?_
  refine ar Y results27 (ae rfl (ae rfl ah)) ?_
  exact ⟨by simp only [retv]; unfold headB headE; rw [if_pos hlo, if_pos hlo, ei (dA hlo)], U.ext⟩
 try simp only [qz] at hb1
 have hlo : logOk o l = false := hb1
 have hll : l.length ≤ l.length := Nat.le_refl _
 refine am Y U de call62 rfl (nL o lv l _ (U.arg hlv) hlo) ?_
 clear Y U
 intro a w4 Y U
 refine wlm Y rfl fun a Y => wlv Y (ag rfl rfl) fun a Y => wlv Y (ag rfl rfl) fun a Y => wla Y rfl fun a Y => wla Y rfl fun a Y => ab (hK2 _ _ ?_)
 replace Y := Y.p4 2 3 4 5 rfl
 replace U : St No w0 [] w4 := U.mask [false]
 refine ac fun K6 hK6 => aa fun K7 hK7 => wlm Y rfl fun a Y => wlv Y ((bn rfl).asb (b' := true) rfl) fun a Y => ab (hK7 _ _ <| aD Y rfl ?_)
 refine aa fun K8 hK8 => wla Y rfl fun a Y => wla Y rfl fun a Y => ab (hK8 _ _ <| au ?_)
 refine ar Y results27 (ae rfl (ae rfl ah)) ?_
 exact ⟨by simp only [retv]; unfold headB headE; rw [hlo]; rfl, U.ext⟩
theorem ov (key : By) (o : Int) (lv : Value) (l : List Rec) (w0 : World) (hlv : SlAt w0 lv 5 (l.map Rec.cells)) (hk0 : (blk 0 (kOf.map wv) 161).ok w0) :
  Ret Tryd.prog 36 #[sv key, .agg #[iv o, lv]] w0 fun v w => v = .tuple #[sv (signB key o l), iv (signE key o l)] ∧ Ext No w0 w := by
 refine aI func36 rfl ntmps36 (lb rfl) fun a Y => ?_
 replace Y := Y.p2 0 1 rfl
 replace U : St No w0 [] w0 := St.init w0
 refine aa fun K1 hK1 => bh Y U de rfl (cs := [iv o, lv]) rfl ?_
 clear Y U
 intro a w1 Y U
 refine wla Y rfl fun a Y => wla Y rfl fun a Y => ab (hK1 _ _ <| aa fun K2 hK2 => ?_)
 refine wlv Y (aj (U.g 0 rfl) rfl (isAgg25 _) (sizeOf25 _)) fun a Y => am Y U de call27 rfl (iB o lv l _ (U.arg hlv) (U.keepb hk0)) ?_
 clear Y U
 intro a w2 Y U
 refine wlm Y rfl fun a Y => wlv Y (ag rfl rfl) fun a Y => wlv Y (ag rfl rfl) fun a Y => wla Y rfl fun a Y => wla Y rfl fun a Y => ab (hK2 _ _ ?_)
 replace Y := Y.p6 0 3 4 5 6 7 rfl
 refine ac fun K3 hK3 => aa fun K4 hK4 => wlm Y rfl fun a Y => wlv Y (v_ne rfl rfl) fun a Y => wlm Y rfl fun a Y => ?_
 rcases Bool.eq_false_or_eq_true (!decide (headE o l = 0)) with hb1 | hb1
 ·rw [hb1] at Y
  try simp only [qz] at hb1
  have hlo : logOk o l = false := by
   cases h : logOk o l with
   | false => rfl
   | true => exact absurd (eS.2 h) om
  have hsg : signOk key o l = false := by unfold signOk; rw [hlo]; rfl
  refine wln Y fun a Y => wln Y fun a Y => wln Y fun a Y => wlv Y (aB rfl rfl) fun a Y => ab (hK4 _ _ ?_)
  replace Y := Y.p6 0 3 4 5 6 19 rfl
  refine aD Y rfl ?_
  refine aa fun K5 hK5 => wla Y rfl fun a Y => wla Y rfl fun a Y => ab (hK5 _ _ <| au ?_)
  refine ar Y results36 (ae rfl (ae rfl ah)) ?_
  exact ⟨by simp only [retv]; unfold signB signE; rw [hsg]; rfl, U.ext⟩
 rw [hb1] at Y
 try simp only [qz] at hb1
 have hlo : logOk o l = true := eS.1 om
 have hob := hP hlo
 have hlb := co hlo
 have hs0 : small o := by unfold small; omega
 have hs1 : small (l.length : Int) := by unfold small; omega
 have hr32 : (headB o l).length = 32 := by rw [eM hlo]; exact ct bY _
 refine wly Y (ai rfl) fun a Y => wly Y (aW rfl rfl (runUnderlying9 _)) fun a Y => wly Y (v_ne rfl rfl) fun a Y => wlv Y (aw rfl rfl) fun a Y => ab (hK4 _ _ ?_)
 replace Y := Y.p6 0 3 4 5 6 19 rfl
 refine az Y rfl (fun hc2 => ?_) (fun hc2 => ?_)
 ·rw [hc2] at Y
  try simp only [qz] at hc2
  have hsg : signOk key o l = false := by unfold signOk; rw [hlo, decide_eq_false om]; rfl
  refine aa fun K6 hK6 => wla Y rfl fun a Y => wla Y rfl fun a Y => ab (hK6 _ _ <| au ?_)
  refine ar Y results36 (ae rfl (ae rfl ah)) ?_
  exact ⟨by simp only [retv]; unfold signB signE; rw [hsg]; rfl, U.ext⟩
 rw [hc2] at Y
 try simp only [qz] at hc2
 have hsg : signOk key o l = true := by unfold signOk; rw [hlo, decide_eq_true om]; rfl
 refine aq <| hK3 _ _ <| aa fun K7 hK7 => wlm Y rfl fun a Y => wlv Y (al (v := pq w0.hz) rfl kr) fun a Y => wlv Y (ld U 0 rfl rfl (isAgg3 _) rfl) fun a Y => wlv Y (al (v := po w0.hz 1) rfl kr) fun a Y => wlv Y (ld U 0 rfl rfl (isAgg23 _) rfl) fun a Y => wlv Y ((aK (sT := 23) (U.arg hlv) rfl rfl (runUnderlying23 _)).asi (m' := (l.length : Int)) (by rw [List.length_map])) fun a Y => wlm Y rfl fun a Y => am Y U de call71 rfl (m8 key o (l.length : Int) (headB o l) _ hs0 hs1 om om (U.keepb hk0)) ?_
 clear Y U
 intro a w3 Y U
 refine wla Y rfl fun a Y => wla Y rfl fun a Y => ab (hK7 _ _ ?_)
 replace Y := Y.p2 4 5 rfl
 replace U : St No w0 [] w3 := U.mask [false]
 refine au ?_
 refine ar Y results36 (ae rfl (ae rfl ah)) ?_
 exact ⟨by simp only [retv]; unfold signB signE; rw [if_pos hsg, if_pos hsg, eM hlo], U.ext⟩
theorem jV {n a b : Int} (h : inB n a b = true) : a ≤ n ∧ n ≤ b := by simpa [inB] using h
theorem eG (key : By) (owner n : Int) (root t : By) (w0 : World) (hk0 : (blk 0 (kOf.map wv) 161).ok w0) :
  Ret Tryd.prog 37 #[sv key, iv owner, iv n, sv root, sv t] w0 fun v w => v = .bool (genR sha key owner n root t) ∧ Ext No w0 w := by
 refine aI func37 rfl ntmps37 (lb rfl) fun a Y => ?_
 replace Y := Y.p5 0 1 2 3 4 rfl
 replace U : St No w0 [] w0 := St.init w0
 refine aa fun K1 hK1 => wla Y rfl fun a Y => ab (hK1 _ _ <| aa fun K2 hK2 => ?_)
 refine wlm Y rfl fun a Y => am Y U de call46 rfl (dL owner 0 99 _) ?_
 clear Y U
 intro a w1 Y U
 refine wlm Y rfl fun a Y => ?_
 rcases Bool.eq_false_or_eq_true (inB owner 0 99) with hb1 | hb1
 ·rw [hb1] at Y
  try simp only [qz] at hb1
  have hs0 : small owner := by have h9 := jV hb1; unfold small; omega
  refine wly Y (ai rfl) fun a Y => aR Y U de rfl de rfl call46 rfl (dL n 0 60 _) ?_
  clear Y U
  intro a w2 Y U
  refine wlv Y (aB rfl rfl) fun a Y => wla Y rfl fun a Y => ab (hK2 _ _ ?_)
  replace Y := Y.p7 0 1 2 3 4 10 11 rfl
  refine aa fun K3 hK3 => wlm Y rfl fun a Y => wlm Y rfl fun a Y => ?_
  rcases Bool.eq_false_or_eq_true (inB n 0 60) with hb2 | hb2
  ·rw [hb2] at Y
   try simp only [qz] at hb2
   have hs1 : small n := by have h9 := jV hb2; unfold small; omega
   refine wly Y (ai rfl) fun a Y => wly Y (aW rfl rfl (runUnderlying9 _)) fun a Y => wly Y (v_eq rfl rfl) fun a Y => wlv Y (aB rfl rfl) fun a Y => wlm Y rfl fun a Y => ?_
   rcases Bool.eq_false_or_eq_true (decide ((key.length : Int) = 32)) with hb3 | hb3
   ·rw [hb3] at Y
    try simp only [qz] at hb3
    refine wly Y (ai rfl) fun a Y => wly Y (aW rfl rfl (runUnderlying9 _)) fun a Y => wly Y (v_eq rfl rfl) fun a Y => wlv Y (aB rfl rfl) fun a Y => wlm Y rfl fun a Y => ?_
    rcases Bool.eq_false_or_eq_true (decide ((root.length : Int) = 32)) with hb4 | hb4
    ·rw [hb4] at Y
     try simp only [qz] at hb4
     refine wly Y (ai rfl) fun a Y => wly Y (ai rfl) fun a Y => wly Y (ai rfl) fun a Y => wly Y (ai rfl) fun a Y => wly Y (ai rfl) fun a Y => aR Y U de rfl de rfl call71 rfl (m8 key owner n root _ hs0 hs1 om om (U.keepb hk0)) ?_
     clear Y U
     intro a w3 Y U
     refine wly Y (eu rfl rfl) fun a Y => wlv Y (aB rfl rfl) fun a Y => wla Y rfl fun a Y => ab (hK3 _ _ ?_)
     replace Y := Y.p1 10 rfl
     refine au ?_
     refine ar Y results37 (ae rfl ah) ?_
     refine ⟨?_, U.ext⟩
     simp only [retv]
     refine congrArg Value.bool ?_
     unfold genR; rw [decide_eq_true (by omega : key.length = 32), decide_eq_true (by omega : root.length = 32), hb1, hb2]; rfl
    rw [hb4] at Y
    try simp only [qz] at hb4
    refine wln Y fun a Y => wln Y fun a Y => wln Y fun a Y => wln Y fun a Y => wln Y fun a Y => wln Y fun a Y => wln Y fun a Y => wlv Y (aw rfl rfl) fun a Y => wla Y rfl fun a Y => ab (hK3 _ _ ?_)
    replace Y := Y.p1 10 rfl
    refine au ?_
    refine ar Y results37 (ae rfl ah) ?_
    refine ⟨?_, U.ext⟩
    simp only [retv]
    refine congrArg Value.bool ?_
    rw [eq_comm, Bool.eq_false_iff]; intro h; simp only [genR, Bool.and_eq_true, decide_eq_true_eq] at h
    first | (obtain ⟨⟨⟨⟨h1, h2⟩, h3⟩, h4⟩, h5⟩ := h; first | omega | (rw [h2] at hb4; cases hb4) | (rw [h3] at hb4; cases hb4))
   rw [hb3] at Y
   try simp only [qz] at hb3
   refine wln Y fun a Y => wln Y fun a Y => wln Y fun a Y => wlv Y (aw rfl rfl) fun a Y => wlm Y rfl fun a Y => wln Y fun a Y => wln Y fun a Y => wln Y fun a Y => wln Y fun a Y => wln Y fun a Y => wln Y fun a Y => ?_
   refine wln Y fun a Y => wlv Y (aw rfl rfl) fun a Y => wla Y rfl fun a Y => ab (hK3 _ _ ?_)
   replace Y := Y.p1 10 rfl
   refine au ?_
   refine ar Y results37 (ae rfl ah) ?_
   refine ⟨?_, U.ext⟩
   simp only [retv]
   refine congrArg Value.bool ?_
   rw [eq_comm, Bool.eq_false_iff]; intro h; simp only [genR, Bool.and_eq_true, decide_eq_true_eq] at h
   first | (obtain ⟨⟨⟨⟨h1, h2⟩, h3⟩, h4⟩, h5⟩ := h; first | omega | (rw [h2] at hb3; cases hb3) | (rw [h3] at hb3; cases hb3))
  rw [hb2] at Y
  try simp only [qz] at hb2
  refine wln Y fun a Y => wln Y fun a Y => wln Y fun a Y => wlv Y (aw rfl rfl) fun a Y => wlm Y rfl fun a Y => wln Y fun a Y => wln Y fun a Y => wln Y fun a Y => wlv Y (aw rfl rfl) fun a Y => wlm Y rfl fun a Y => wln Y fun a Y => wln Y fun a Y => ?_
  refine wln Y fun a Y => wln Y fun a Y => wln Y fun a Y => wln Y fun a Y => wln Y fun a Y => wlv Y (aw rfl rfl) fun a Y => wla Y rfl fun a Y => ab (hK3 _ _ ?_)
  replace Y := Y.p1 10 rfl
  refine au ?_
  refine ar Y results37 (ae rfl ah) ?_
  refine ⟨?_, U.ext⟩
  simp only [retv]
  refine congrArg Value.bool ?_
  rw [eq_comm, Bool.eq_false_iff]; intro h; simp only [genR, Bool.and_eq_true, decide_eq_true_eq] at h
  first | (obtain ⟨⟨⟨⟨h1, h2⟩, h3⟩, h4⟩, h5⟩ := h; first | omega | (rw [h2] at hb2; cases hb2) | (rw [h3] at hb2; cases hb2))
 rw [hb1] at Y
 try simp only [qz] at hb1
 refine wln Y fun a Y => wln Y fun a Y => wlv Y (aw rfl rfl) fun a Y => wla Y rfl fun a Y => ab (hK2 _ _ ?_)
 replace Y := Y.p7 0 1 2 3 4 10 11 rfl
 refine aa fun K4 hK4 => wlm Y rfl fun a Y => wlm Y rfl fun a Y => wln Y fun a Y => wln Y fun a Y => wln Y fun a Y => wlv Y (aw rfl rfl) fun a Y => wlm Y rfl fun a Y => wln Y fun a Y => wln Y fun a Y => wln Y fun a Y => wlv Y (aw rfl rfl) fun a Y => wlm Y rfl fun a Y => ?_
 refine wln Y fun a Y => wln Y fun a Y => wln Y fun a Y => wln Y fun a Y => wln Y fun a Y => wln Y fun a Y => wln Y fun a Y => wlv Y (aw rfl rfl) fun a Y => wla Y rfl fun a Y => ab (hK4 _ _ ?_)
 replace Y := Y.p1 10 rfl
 refine au ?_
 refine ar Y results37 (ae rfl ah) ?_
 refine ⟨?_, U.ext⟩
 simp only [retv]
 refine congrArg Value.bool ?_
 rw [eq_comm, Bool.eq_false_iff]; intro h; simp only [genR, Bool.and_eq_true, decide_eq_true_eq] at h
 first | (obtain ⟨⟨⟨⟨h1, h2⟩, h3⟩, h4⟩, h5⟩ := h; first | omega | (rw [h2] at hb1; cases hb1) | (rw [h3] at hb1; cases hb1))
theorem js (root : By) (n i : Int) (x : Rec) (pv_ : Value) (ps : List By) (w0 : World) (hpv : SlAt w0 pv_ 1 (ps.map fun s => [sv s])) (hpl : ps.length ≤ 1000) (hn : i64 n) (hk0 : (blk 0 (kOf.map wv) 161).ok w0) :
  Ret Tryd.prog 29 #[sv root, iv n, iv i, .agg #[iv x.t, iv x.kind, iv x.a, iv x.b, sv x.text], pv_] w0 fun v w => v = .bool (checkB root n i x ps) ∧ Ext No w0 w := by
 refine aI func29 rfl ntmps29 (lb rfl) fun a Y => ?_
 replace Y := Y.p5 0 1 2 3 4 rfl
 replace U : St No w0 [] w0 := St.init w0
 refine aa fun K1 hK1 => bh Y U de rfl (cs := [iv x.t, iv x.kind, iv x.a, iv x.b, sv x.text]) rfl ?_
 clear Y U
 intro a w1 Y U
 refine wla Y rfl fun a Y => ab (hK1 _ _ <| aa fun K2 hK2 => ?_)
 refine wlv Y (aj (U.g 0 rfl) rfl (isAgg27 _) (sizeOf27 _)) fun a Y => am Y U de call22 rfl (dN x _) ?_
 clear Y U
 intro a w2 Y U
 refine wlm Y rfl fun a Y => wlv Y (ag rfl rfl) fun a Y => wlv Y (ag rfl rfl) fun a Y => wla Y rfl fun a Y => wla Y rfl fun a Y => ab (hK2 _ _ ?_)
 replace Y := Y.p7 0 1 2 4 10 11 12 rfl
 replace U : St No w0 [] w2 := U.mask [false]
 refine aa fun K3 hK3 => wlm Y rfl fun a Y => wlv Y (v_eq rfl rfl) fun a Y => wlm Y rfl fun a Y => ?_
 rcases Bool.eq_false_or_eq_true (decide (eE x = 0)) with hb1 | hb1
 ·rw [hb1] at Y
  try simp only [qz] at hb1
  have hxo : x.ok = true := by unfold eE at hb1; cases h : x.ok <;> simp_all
  refine wly Y (ai rfl) fun a Y => wly Y (ai rfl) fun a Y => wly Y (ai rfl) fun a Y => wly Y (ai rfl) fun a Y => wly Y (ai rfl) fun a Y => aR Y U de rfl de rfl call66 rfl (lJ root (eB x) n i pv_ ps _ (U.arg hpv) om (by have := gc x; omega) (by unfold i64 at hn; omega) (U.keepb hk0)) ?_
  clear Y U
  intro a w3 Y U
  refine wlv Y (aB rfl rfl) fun a Y => wla Y rfl fun a Y => ab (hK3 _ _ ?_)
  replace Y := Y.p1 10 rfl
  refine au ?_
  refine ar Y results29 (ae rfl ah) ?_
  exact ⟨by simp only [retv]; unfold checkB; rw [hxo, show eB x = x.enc from if_pos hxo]; rfl, U.ext⟩
 rw [hb1] at Y
 try simp only [qz] at hb1
 have hxo : x.ok = false := by unfold eE at hb1; cases h : x.ok <;> simp_all
 refine wln Y fun a Y => wln Y fun a Y => wln Y fun a Y => wln Y fun a Y => wln Y fun a Y => wln Y fun a Y => wlv Y (aw rfl rfl) fun a Y => wla Y rfl fun a Y => ab (hK3 _ _ ?_)
 replace Y := Y.p1 10 rfl
 refine au ?_
 refine ar Y results29 (ae rfl ah) ?_
 exact ⟨by simp only [retv]; unfold checkB; rw [hxo]; rfl, U.ext⟩
theorem gS (old : By) (n : Int) (root : By) (m : Int) (pv_ : Value) (ps : List By) (w0 : World) (hpv : SlAt w0 pv_ 1 (ps.map fun s => [sv s])) (hpl : ps.length ≤ 1000) (hm : i64 m) (hk0 : (blk 0 (kOf.map wv) 161).ok w0) :
  Ret Tryd.prog 43 #[sv old, iv n, sv root, iv m, pv_] w0 fun v w => v = .bool (bA sha old n root m ps) ∧ Ext No w0 w := by
 refine aI func43 rfl ntmps43 (lb rfl) fun a Y => ?_
 replace Y := Y.p5 0 1 2 3 4 rfl
 replace U : St No w0 [] w0 := St.init w0
 refine aa fun K1 hK1 => wla Y rfl fun a Y => ab (hK1 _ _ <| aa fun K2 hK2 => ?_)
 refine wlm Y rfl fun a Y => wlm Y rfl fun a Y => wlm Y rfl fun a Y => wlm Y rfl fun a Y => wlm Y rfl fun a Y => am Y U de call73 rfl (kv old root n m pv_ ps _ (U.arg hpv) om (by unfold i64 at hm; omega) (U.keepb hk0)) ?_
 clear Y U
 intro a w1 Y U
 refine wla Y rfl fun a Y => ab (hK2 _ _ ?_)
 replace Y := Y.p1 10 rfl
 refine au ?_
 refine ar Y results43 (ae rfl ah) ?_
 exact ⟨by rfl, U.ext⟩
theorem lE {o : Int} {l : List Rec} {v : Value} {i : Nat} {w0 : World} (hlo : logOk o l = true) (hv : SlAt w0 v 1 ((codesB l).map fun s => [sv s])) (hi : i < l.length) (hk0 : (blk 0 (kOf.map wv) 161).ok w0) : Ret Tryd.prog 65 #[v, iv (i : Int)] w0 (MemR w0 (fun v : Value => .tuple #[v, iv 0]) (fun v => [own v 9 1 ((proofH sha (codesR l) i).map fun s => [sv s])]) (fun _ => True)) := by
 rw [ei (dA hlo)] at hv
 have h60 := co hlo
 exact mG v (codesR l) i w0 hv (by rw [ej]; exact hi) (by rw [ej]; omega) (fun s h => Nat.le_trans (fX (dA hlo) s h) de) hk0
theorem gQ (o : Int) (lv : Value) (l : List Rec) (i : Nat) (w0 : World) (hlv : SlAt w0 lv 5 (l.map Rec.cells)) (hlo : logOk o l = true) (hi : i < l.length) (hk0 : (blk 0 (kOf.map wv) 161).ok w0) :
  Ret Tryd.prog 64 #[.agg #[iv o, lv], iv (i : Int), .func (.func 65) #[] #[]] w0 (MemR w0 (fun v : Value => .tuple #[v, iv 0]) (fun v => [own v 9 1 ((proofH sha (codesR l) i).map fun s => [sv s])]) (fun _ => True)) := by
 have hll := co hlo
 refine aI func64 rfl ntmps64 (lb rfl) fun a Y => ?_
 replace Y := Y.p3 0 1 2 rfl
 replace U : St No w0 [] w0 := St.init w0
 refine aa fun K1 hK1 => bh Y U de rfl (cs := [iv o, lv]) rfl ?_
 clear Y U
 intro a w1 Y U
 refine wla Y rfl fun a Y => wla Y rfl fun a Y => ab (hK1 _ _ <| aa fun K2 hK2 => ?_)
 refine wlv Y (aj (U.g 0 rfl) rfl (isAgg25 _) (sizeOf25 _)) fun a Y => aX Y U de call62 rfl (fw o lv l _ (U.arg hlv) hlo) ?_
 clear Y U
 intro a w2 x2 hp Y U
 revert x2 hp Y U; rintro v1 hp Y U
 clear hp
 replace U : St No w0 [_, _] w2 := U
 refine wlm Y rfl fun a Y => wlv Y (ag rfl rfl) fun a Y => wlv Y (ag rfl rfl) fun a Y => wla Y rfl fun a Y => wla Y rfl fun a Y => ab (hK2 _ _ ?_)
 replace Y := Y.p6 1 2 6 7 8 9 rfl
 replace U := U.k1 1 rfl
 refine ac fun K3 hK3 => aa fun K4 hK4 => wlm Y rfl fun a Y => wlv Y ((bn rfl).asb (b' := false) rfl) fun a Y => ab (hK4 _ _ <| aE Y rfl ?_)
 refine aq <| hK3 _ _ <| aa fun K5 hK5 => wlm Y rfl fun a Y => wlm Y rfl fun a Y => wlm Y rfl fun a Y => gV Y U de rfl call65 rfl (lE hlo (U.ow 0 rfl) hi (U.keepb hk0)) ?_
 clear Y U
 intro a w3 x4 hp Y U
 revert x4 hp Y U; rintro v3 - Y U
 replace U : St No w0 [_, _] w3 := U
 refine wlm Y rfl fun a Y => wlv Y (ag rfl rfl) fun a Y => wlv Y (ag rfl rfl) fun a Y => wla Y rfl fun a Y => wla Y rfl fun a Y => ab (hK5 _ _ ?_)
 replace Y := Y.p4 6 7 10 11 rfl
 replace U := U.k1 1 rfl
 refine ac fun K6 hK6 => aa fun K7 hK7 => wlm Y rfl fun a Y => wlv Y ((v_ne rfl rfl).asb (b' := false) rfl) fun a Y => ab (hK7 _ _ <| aE Y rfl ?_)
 refine aq <| hK6 _ _ <| aa fun K8 hK8 => wlm Y rfl fun a Y => wla Y rfl fun a Y => wla Y rfl fun a Y => ab (hK8 _ _ <| au ?_)
 refine ar Y results64 (ae rfl (ae rfl ah)) ?_
 exact ⟨v3, rfl, trivial, U.ext, St.out (E := [own v3 9 1 ((proofH sha (codesR l) i).map fun s => [sv s])]) (H := []) (U.select [0] de)⟩
theorem kw (o : Int) (lv : Value) (l : List Rec) (i : Nat) (w0 : World) (hlv : SlAt w0 lv 5 (l.map Rec.cells)) (hll : l.length ≤ 1000) (hlo : logOk o l = true) (hi : i < l.length) (hk0 : (blk 0 (kOf.map wv) 161).ok w0) :
  Ret Tryd.prog 28 #[.agg #[iv o, lv], iv (i : Int)] w0 (MemR w0 (fun v : Value => .tuple #[v, iv 0]) (fun v => [own v 9 1 ((proofH sha (codesR l) i).map fun s => [sv s])]) (fun _ => True)) := by
 refine aI func28 rfl ntmps28 (lb rfl) fun a Y => ?_
 replace Y := Y.p2 0 1 rfl
 replace U : St No w0 [] w0 := St.init w0
 refine aa fun K1 hK1 => bh Y U de rfl (cs := [iv o, lv]) rfl ?_
 clear Y U
 intro a w1 Y U
 refine wla Y rfl fun a Y => wla Y rfl fun a Y => ab (hK1 _ _ <| aa fun K2 hK2 => ?_)
 refine wlv Y (aj (U.g 0 rfl) rfl (isAgg25 _) (sizeOf25 _)) fun a Y => wlm Y rfl fun a Y => aX Y U de call64 rfl (gQ o lv l i _ (U.arg hlv) hlo hi (U.keepb hk0)) ?_
 clear Y U
 intro a w2 x2 hp Y U
 revert x2 hp Y U; rintro v1 hp Y U
 clear hp
 replace U : St No w0 [_, _] w2 := U
 refine wlv Y (ag rfl rfl) fun a Y => wlv Y (ag rfl rfl) fun a Y => wla Y rfl fun a Y => wla Y rfl fun a Y => ab (hK2 _ _ ?_)
 replace Y := Y.p2 4 5 rfl
 replace U := U.k1 1 rfl
 refine au ?_
 refine ar Y results28 (ae rfl (ae rfl ah)) ?_
 exact ⟨v1, rfl, trivial, U.ext, St.out (E := [own v1 9 1 ((proofH sha (codesR l) i).map fun s => [sv s])]) (H := []) (U.select [0] de)⟩
theorem n9 (lv : Value) (ls : List By) (i : Nat) (w0 : World) (hlv : SlAt w0 lv 1 (ls.map fun s => [sv s])) (hi : i ≤ ls.length) (hln : ls.length ≤ 1000) (hls : ∀ s ∈ ls, s.length ≤ 40000000) (hk0 : (blk 0 (kOf.map wv) 161).ok w0) :
  Ret Tryd.prog 72 #[lv, iv (i : Int)] w0 (MemR w0 (fun v : Value => .tuple #[v, iv 0]) (fun v => [own v 9 1 ((extH sha ls i).map fun s => [sv s])]) (fun _ => True)) := by
 by_cases h : i = 0
 ·subst h
  refine (ny lv ls w0 hlv).mono ?_
  rintro v w ⟨rfl, hx⟩
  exact ⟨.slice none 0 0, rfl, trivial, hx, dM (iN _ _ _) (fun k hk => by cases hk)⟩
 ·have := pb lv ls i w0 hlv om hi hln hls hk0
  rw [extH, if_neg h]; exact this
theorem lZ {o : Int} {l : List Rec} {v : Value} {i : Nat} {w0 : World} (hlo : logOk o l = true) (hv : SlAt w0 v 1 ((codesB l).map fun s => [sv s])) (hi : i ≤ l.length) (hk0 : (blk 0 (kOf.map wv) 161).ok w0) : Ret Tryd.prog 72 #[v, iv (i : Int)] w0 (MemR w0 (fun v : Value => .tuple #[v, iv 0]) (fun v => [own v 9 1 ((extH sha (codesR l) i).map fun s => [sv s])]) (fun _ => True)) := by
 rw [ei (dA hlo)] at hv
 have h60 := co hlo
 exact n9 v (codesR l) i w0 hv (by rw [ej]; exact hi) (by rw [ej]; omega) (fun s h => Nat.le_trans (fX (dA hlo) s h) de) hk0
theorem gM (o : Int) (lv : Value) (l : List Rec) (i : Nat) (w0 : World) (hlv : SlAt w0 lv 5 (l.map Rec.cells)) (hlo : logOk o l = true) (hi : i ≤ l.length) (hk0 : (blk 0 (kOf.map wv) 161).ok w0) :
  Ret Tryd.prog 64 #[.agg #[iv o, lv], iv (i : Int), .func (.func 72) #[] #[]] w0 (MemR w0 (fun v : Value => .tuple #[v, iv 0]) (fun v => [own v 9 1 ((extH sha (codesR l) i).map fun s => [sv s])]) (fun _ => True)) := by
 have hll := co hlo
 refine aI func64 rfl ntmps64 (lb rfl) fun a Y => ?_
 replace Y := Y.p3 0 1 2 rfl
 replace U : St No w0 [] w0 := St.init w0
 refine aa fun K1 hK1 => bh Y U de rfl (cs := [iv o, lv]) rfl ?_
 clear Y U
 intro a w1 Y U
 refine wla Y rfl fun a Y => wla Y rfl fun a Y => ab (hK1 _ _ <| aa fun K2 hK2 => ?_)
 refine wlv Y (aj (U.g 0 rfl) rfl (isAgg25 _) (sizeOf25 _)) fun a Y => aX Y U de call62 rfl (fw o lv l _ (U.arg hlv) hlo) ?_
 clear Y U
 intro a w2 x2 hp Y U
 revert x2 hp Y U; rintro v1 hp Y U
 clear hp
 replace U : St No w0 [_, _] w2 := U
 refine wlm Y rfl fun a Y => wlv Y (ag rfl rfl) fun a Y => wlv Y (ag rfl rfl) fun a Y => wla Y rfl fun a Y => wla Y rfl fun a Y => ab (hK2 _ _ ?_)
 replace Y := Y.p6 1 2 6 7 8 9 rfl
 replace U := U.k1 1 rfl
 refine ac fun K3 hK3 => aa fun K4 hK4 => wlm Y rfl fun a Y => wlv Y ((bn rfl).asb (b' := false) rfl) fun a Y => ab (hK4 _ _ <| aE Y rfl ?_)
 refine aq <| hK3 _ _ <| aa fun K5 hK5 => wlm Y rfl fun a Y => wlm Y rfl fun a Y => wlm Y rfl fun a Y => gV Y U de rfl call72 rfl (lZ hlo (U.ow 0 rfl) hi (U.keepb hk0)) ?_
 clear Y U
 intro a w3 x4 hp Y U
 revert x4 hp Y U; rintro v3 - Y U
 replace U : St No w0 [_, _] w3 := U
 refine wlm Y rfl fun a Y => wlv Y (ag rfl rfl) fun a Y => wlv Y (ag rfl rfl) fun a Y => wla Y rfl fun a Y => wla Y rfl fun a Y => ab (hK5 _ _ ?_)
 replace Y := Y.p4 6 7 10 11 rfl
 replace U := U.k1 1 rfl
 refine ac fun K6 hK6 => aa fun K7 hK7 => wlm Y rfl fun a Y => wlv Y ((v_ne rfl rfl).asb (b' := false) rfl) fun a Y => ab (hK7 _ _ <| aE Y rfl ?_)
 refine aq <| hK6 _ _ <| aa fun K8 hK8 => wlm Y rfl fun a Y => wla Y rfl fun a Y => wla Y rfl fun a Y => ab (hK8 _ _ <| au ?_)
 refine ar Y results64 (ae rfl (ae rfl ah)) ?_
 exact ⟨v3, rfl, trivial, U.ext, St.out (E := [own v3 9 1 ((extH sha (codesR l) i).map fun s => [sv s])]) (H := []) (U.select [0] de)⟩
theorem ki (o : Int) (lv : Value) (l : List Rec) (i : Nat) (w0 : World) (hlv : SlAt w0 lv 5 (l.map Rec.cells)) (hll : l.length ≤ 1000) (hlo : logOk o l = true) (hi : i ≤ l.length) (hk0 : (blk 0 (kOf.map wv) 161).ok w0) :
  Ret Tryd.prog 42 #[.agg #[iv o, lv], iv (i : Int)] w0 (MemR w0 (fun v : Value => .tuple #[v, iv 0]) (fun v => [own v 9 1 ((extH sha (codesR l) i).map fun s => [sv s])]) (fun _ => True)) := by
 refine aI func42 rfl ntmps42 (lb rfl) fun a Y => ?_
 replace Y := Y.p2 0 1 rfl
 replace U : St No w0 [] w0 := St.init w0
 refine aa fun K1 hK1 => bh Y U de rfl (cs := [iv o, lv]) rfl ?_
 clear Y U
 intro a w1 Y U
 refine wla Y rfl fun a Y => wla Y rfl fun a Y => ab (hK1 _ _ <| aa fun K2 hK2 => ?_)
 refine wlv Y (aj (U.g 0 rfl) rfl (isAgg25 _) (sizeOf25 _)) fun a Y => wlm Y rfl fun a Y => aX Y U de call64 rfl (gM o lv l i _ (U.arg hlv) hlo hi (U.keepb hk0)) ?_
 clear Y U
 intro a w2 x2 hp Y U
 revert x2 hp Y U; rintro v1 hp Y U
 clear hp
 replace U : St No w0 [_, _] w2 := U
 refine wlv Y (ag rfl rfl) fun a Y => wlv Y (ag rfl rfl) fun a Y => wla Y rfl fun a Y => wla Y rfl fun a Y => ab (hK2 _ _ ?_)
 replace Y := Y.p2 4 5 rfl
 replace U := U.k1 1 rfl
 refine au ?_
 refine ar Y results42 (ae rfl (ae rfl ah)) ?_
 exact ⟨v1, rfl, trivial, U.ext, St.out (E := [own v1 9 1 ((extH sha (codesR l) i).map fun s => [sv s])]) (H := []) (U.select [0] de)⟩
def exE : By := [20, 2, 14, 1, 8, 110, 101, 119, 115]
def exM : List Rec := exR ++ [⟨20, 3, 0, 0, []⟩]
def exRoot : By := rootH sha (codesR exR)
def exNext : By := rootH sha (codesR exM)
def exPf : List By := proofH sha (codesR exR) 1
def exQ : List By := extH sha (codesR exM) 3
def exTag : By := tagR sha (keyR 1) 4 3 exRoot
theorem fV {f : FuncId} {args : Array Value} {w : World} {a b : Value} (h : a = b) (hr : Ret Tryd.prog f args w fun v w' => v = a ∧ Ext No w w') : Ret Tryd.prog f args w fun v w' => v = b ∧ Ext No w w' := by subst h; exact hr
theorem bJ {f : FuncId} {args : Array Value} {w : World} {b c : Bool} (h : b = c) (hr : Ret Tryd.prog f args w fun v w' => v = .bool b ∧ Ext No w w') : Ret Tryd.prog f args w fun v w' => v = .bool c ∧ Ext No w w' := by subst h; exact hr
theorem iM {f : FuncId} {args : Array Value} {w : World} {b c : Int} (h : b = c) (hr : Ret Tryd.prog f args w fun v w' => v = iv b ∧ Ext No w w') : Ret Tryd.prog f args w fun v w' => v = iv c ∧ Ext No w w' := by subst h; exact hr
theorem ex_eB : eB (exR.getD 0 Rec.z) = exE := by decide +kernel
theorem ex_eE : eE (exR.getD 0 Rec.z) = 0 := by decide +kernel
theorem ex_dX : decX exE = exR.getD 0 Rec.z := by decide +kernel
theorem ex_dE : decE exE = 0 := by decide +kernel
theorem fZ : logOk 4 exR = true := by decide +kernel
theorem iy : logOk 4 exM = true := by decide +kernel
theorem oy : logOk 100 [] = false := by decide +kernel
theorem ex_hB : headB 4 exR = exRoot := eM fZ
theorem ex_hE : headE 4 exR = 0 := eS.2 fZ
theorem o4 : headB 4 exM = exNext := eM iy
theorem ph : headE 4 exM = 0 := eS.2 iy
theorem jR (n : Int) : (keyR n).length = 32 := bY _
theorem oU : signOk (keyR 1) 4 exR = true := by unfold signOk; rw [fZ, jR]; rfl
theorem ex_sB : signB (keyR 1) 4 exR = exTag := if_pos oU
theorem ex_sE : signE (keyR 1) 4 exR = 0 := if_pos oU
theorem o5 : addOk 4 exR ⟨19, 1, 0, 0, []⟩ = false := by decide +kernel
theorem o8 : addOk 4 exR ⟨20, 3, 0, 0, []⟩ = true := by decide +kernel
theorem ex_f1 : findH 4 exR 1 9 = -1 := by decide +kernel
theorem ex_f2 : findH 4 exR 1 19 = 0 := by decide +kernel
theorem ex_f3 : findH 4 exR 1 20 = 2 := by decide +kernel
theorem fP : exRoot = [21, 112, 33, 172, 240, 109, 75, 130, 191, 249, 217, 221, 50, 198, 0, 231, 116, 242, 6, 54, 79, 38, 84, 56, 148, 132, 237, 35, 98, 124, 34, 181] := by decide +kernel
theorem kP : exNext = [195, 244, 205, 59, 182, 231, 47, 220, 108, 75, 52, 189, 34, 70, 131, 114, 76, 87, 137, 243, 75, 37, 231, 109, 74, 49, 79, 149, 141, 24, 151, 82] := by decide +kernel
theorem kD : keyR 1 = [219, 193, 180, 201, 0, 255, 228, 141, 87, 91, 93, 165, 198, 56, 4, 1, 37, 246, 93, 176, 254, 62, 36, 73, 75, 118, 234, 152, 100, 87, 217, 134] := by decide +kernel
theorem mn : exTag = [75, 183, 243, 190, 88, 89, 30, 0, 212, 159, 241, 14, 211, 216, 181, 111, 180, 45, 128, 188, 226, 87, 91, 67, 48, 251, 122, 74, 0, 4, 207, 40] := by unfold exTag; rw [kD, fP]; decide +kernel
theorem ex_c1 : checkB exRoot 3 1 (exR.getD 1 Rec.z) exPf = true := by
 have h := iQ (S := sha) bY (l := codesR exR) (i := 1) de
 unfold checkB
 rw [show (exR.getD 1 Rec.z).ok = true from by decide, show (exR.getD 1 Rec.z).enc = (codesR exR).getD 1 [] from (m5 de).symm, Bool.true_and]
 exact h
theorem ex_c2 : checkB exRoot 3 0 (exR.getD 1 Rec.z) exPf = false := by rw [fP]; decide +kernel
theorem ex_g1 : bA sha exRoot 3 exNext 4 exQ = true := kx (S := sha) bY (l := codesR exM) (m := 3) de
theorem ex_g2 : bA sha exNext 3 exRoot 4 exQ = false := by rw [fP, kP]; decide +kernel
theorem ex_n1 : genR sha (keyR 1) 4 3 exRoot exTag = true := by
 unfold genR exTag
 rw [show exRoot.length = 32 from ct bY _, jR, decide_eq_true rfl, decide_eq_true rfl]; rfl
theorem ex_n2 : genR sha (keyR 1) 5 3 exRoot exTag = false := by rw [mn, kD, fP]; decide +kernel
theorem ex_n3 : genR sha (keyR 1) 4 3 exNext exTag = false := by rw [mn, kD, kP]; decide +kernel
theorem oQ : exPf.length ≤ 8 := by decide +kernel
theorem oV : exQ.length ≤ 8 := by decide +kernel
theorem pl {lv : Value} {w0 : World} (hlv : SlAt w0 lv 5 (exR.map Rec.cells)) : Ret Tryd.prog 13 #[.agg #[iv 4, lv], .agg #[iv 20, iv 3, iv 0, iv 0, sv []]] w0 (MemR w0 (fun v : Value => .tuple #[.agg #[iv 4, v], iv 0]) (fun v => [own v 27 5 (exM.map Rec.cells)]) (fun _ => True)) := ji 4 lv exR ⟨20, 3, 0, 0, []⟩ w0 hlv de o8
theorem nM (w0 : World) (hk0 : (blk 0 (kOf.map wv) 161).ok w0) :
  Ret Tryd.prog 9 #[] w0 fun v w => v = .bool true ∧ Ext No w0 w := by
 refine aI func9 rfl ntmps9 (lb rfl) fun a Y => ?_
 replace Y : Fr 206 [] [] a := Y
 replace U : St No w0 [] w0 := St.init w0
 refine aa fun K1 hK1 => wla Y rfl fun a Y => ab (hK1 _ _ <| aa fun K2 hK2 => ?_)
 refine aX Y U de call41 rfl (kg _) ?_
 clear Y U
 intro a w1 x2 hp Y U
 revert x2 hp Y U; rintro lv1 hp Y U
 clear hp
 replace U : St No w0 [_] w1 := U
 refine aC Y U de (zeroValue25 _) (cs := [iv 0, .slice none 0 0]) rfl ?_
 clear Y U
 intro a w2 Y U
 refine aJ (us := [iv 4, lv1]) 0 Y U rfl rfl rfl (sizeOf25 _) (by intro z hz; simp only [List.mem_cons, List.not_mem_nil, or_false] at hz; rcases hz with rfl | rfl <;> first | rfl | exact SlAt.one (U.ow 1 rfl)) (lb rfl) (ds := [iv 4, lv1]) rfl rfl ?_
 clear Y U
 intro a w3 Y U
 refine ab (hK2 _ _ <| aa fun K3 hK3 => ?_)
 refine wlv Y (al (v := po w1.hz 1) rfl kr) fun a Y => wlv Y (ld U 0 rfl rfl (isAgg23 _) rfl) fun a Y => wlv Y ((ak (i := 0) (sT := 23) (U.ow 1 rfl) rfl rfl (runUnderlying23 _) (sizeOf27 _) om de).as (v' := slAddr lv1 (0 * 5)) rfl) fun a Y => wlv Y ((bt (U.ow 1 rfl) (i := 0) de rfl (isAgg27 _) (sizeOf27 _)).as (v' := .agg #[iv ((exR.getD 0 Rec.z).t), iv ((exR.getD 0 Rec.z).kind), iv ((exR.getD 0 Rec.z).a), iv ((exR.getD 0 Rec.z).b), sv ((exR.getD 0 Rec.z).text)]) (by rw [br Rec.z]; rfl)) fun a Y => am Y U de call22 rfl (fV (by rw [ex_eB, ex_eE]) (dN (exR.getD 0 Rec.z) _)) ?_
 clear Y U
 intro a w4 Y U
 refine wlm Y rfl fun a Y => wlv Y (ag rfl rfl) fun a Y => wlv Y (ag rfl rfl) fun a Y => wla Y rfl fun a Y => wla Y rfl fun a Y => ab (hK3 _ _ ?_)
 replace Y := Y.p4 0 1 2 3 rfl
 refine aa fun K4 hK4 => wlm Y rfl fun a Y => am Y U de call24 rfl (fV (by rw [ex_dX, ex_dE]) (dj exE _ de)) ?_
 clear Y U
 intro a w5 Y U
 refine wlm Y rfl fun a Y => wlv Y (ag rfl rfl) fun a Y => wlv Y (ag rfl rfl) fun a Y => aC Y U de (zeroValue27 _) (cs := [iv 0, iv 0, iv 0, iv 0, .string (⟨#[]⟩)]) rfl ?_
 clear Y U
 intro a w6 Y U
 refine ay 0 Y U rfl rfl rfl (sizeOf27 _) rfl (lb rfl) (ds := [iv ((exR.getD 0 Rec.z).t), iv ((exR.getD 0 Rec.z).kind), iv ((exR.getD 0 Rec.z).a), iv ((exR.getD 0 Rec.z).b), sv ((exR.getD 0 Rec.z).text)]) rfl rfl ?_
 clear Y U
 intro a w7 Y U
 refine wla Y rfl fun a Y => ab (hK4 _ _ <| aa fun K5 hK5 => ?_)
 refine wlv Y (aj (U.g 1 rfl) rfl (isAgg25 _) (sizeOf25 _)) fun a Y => am Y U de call27 rfl (fV (by rw [ex_hB, ex_hE]) (iB 4 lv1 exR _ (U.ow 2 rfl) (U.keepb hk0))) ?_
 clear Y U
 intro a w8 Y U
 refine wlm Y rfl fun a Y => wlv Y (ag rfl rfl) fun a Y => wlv Y (ag rfl rfl) fun a Y => wla Y rfl fun a Y => wla Y rfl fun a Y => ab (hK5 _ _ ?_)
 replace Y := Y.p8 0 1 2 3 4 5 6 7 rfl
 refine aa fun K6 hK6 => wlv Y (aj (U.g 1 rfl) rfl (isAgg25 _) (sizeOf25 _)) fun a Y => aX Y U de call28 rfl (kw 4 lv1 exR 1 _ (U.ow 2 rfl) de fZ de (U.keepb hk0)) ?_
 clear Y U
 intro a w9 x4 hp Y U
 revert x4 hp Y U; rintro v3 hp Y U
 clear hp
 replace U : St No w0 [_, _, _, _] w9 := U
 refine wlm Y rfl fun a Y => wlv Y (ag rfl rfl) fun a Y => wlv Y (ag rfl rfl) fun a Y => wla Y rfl fun a Y => wla Y rfl fun a Y => ab (hK6 _ _ <| aa fun K7 hK7 => ?_)
 refine wlv Y (aj (U.g 2 rfl) rfl (isAgg25 _) (sizeOf25 _)) fun a Y => wlv Y (aZ (v := .agg #[iv 19, iv 1, iv 0, iv 0, sv ([] : By)]) rfl kr) fun a Y => aX Y U de call13 rfl (kS 4 lv1 exR ⟨19, 1, 0, 0, []⟩ _ (U.ow 3 rfl) de o5) ?_
 clear Y U
 intro a w10 x6 hp Y U
 revert x6 hp Y U; rintro lv5 hp Y U
 clear hp
 replace U : St No w0 [_, _, _, _, _] w10 := U
 refine wlm Y rfl fun a Y => wlv Y (ag rfl rfl) fun a Y => wlv Y (ag rfl rfl) fun a Y => aC Y U de (zeroValue25 _) (cs := [iv 0, .slice none 0 0]) rfl ?_
 clear Y U
 intro a w11 Y U
 refine aJ (us := [iv 0, lv5]) 0 Y U rfl rfl rfl (sizeOf25 _) (by intro z hz; simp only [List.mem_cons, List.not_mem_nil, or_false] at hz; rcases hz with rfl | rfl <;> first | rfl | exact SlAt.one (U.ow 1 rfl)) (lb rfl) (ds := [iv 0, lv5]) rfl rfl ?_
 clear Y U
 intro a w12 Y U
 refine wla Y rfl fun a Y => ab (hK7 _ _ ?_)
 replace Y : Fr 206 [(0, _), (1, _), (2, _), (3, _), (4, _), (5, _), (6, _), (7, _), (8, _), (9, _), (11, _)] [] a := Y.pick [0, 1, 2, 3, 4, 5, 6, 7, 8, 9, 11]
 replace U := U.k5 62 rfl
 refine aa fun K8 hK8 => wlv Y (aj (U.g 3 rfl) rfl (isAgg25 _) (sizeOf25 _)) fun a Y => wlv Y (aZ (v := .agg #[iv 20, iv 3, iv 0, iv 0, sv ([] : By)]) rfl kr) fun a Y => aX Y U de call13 rfl (pl (U.ow 4 rfl)) ?_
 clear Y U
 intro a w13 x8 hp Y U
 revert x8 hp Y U; rintro lv7 hp Y U
 clear hp
 replace U : St No w0 [_, _, _, _, _, _] w13 := U
 refine wlm Y rfl fun a Y => wlv Y (ag rfl rfl) fun a Y => wlv Y (ag rfl rfl) fun a Y => aC Y U de (zeroValue25 _) (cs := [iv 0, .slice none 0 0]) rfl ?_
 clear Y U
 intro a w14 Y U
 refine aJ (us := [iv 4, lv7]) 0 Y U rfl rfl rfl (sizeOf25 _) (by intro z hz; simp only [List.mem_cons, List.not_mem_nil, or_false] at hz; rcases hz with rfl | rfl <;> first | rfl | exact SlAt.one (U.ow 1 rfl)) (lb rfl) (ds := [iv 4, lv7]) rfl rfl ?_
 clear Y U
 intro a w15 Y U
 refine wla Y rfl fun a Y => ab (hK8 _ _ ?_)
 replace Y := Y.p13 0 1 2 3 4 5 6 7 8 9 11 12 13 rfl
 replace U := U.k6 123 rfl
 refine aa fun K9 hK9 => wlv Y (aj (U.g 0 rfl) rfl (isAgg25 _) (sizeOf25 _)) fun a Y => aX Y U de call42 rfl (ki 4 lv7 exM 3 _ (U.ow 1 rfl) de iy de (U.keepb hk0)) ?_
 clear Y U
 intro a w16 x10 hp Y U
 revert x10 hp Y U; rintro v9 hp Y U
 clear hp
 replace U : St No w0 [_, _, _, _, _, _, _] w16 := U
 refine wlm Y rfl fun a Y => wlv Y (ag rfl rfl) fun a Y => wlv Y (ag rfl rfl) fun a Y => wla Y rfl fun a Y => wla Y rfl fun a Y => ab (hK9 _ _ <| aa fun K10 hK10 => ?_)
 refine wlv Y (aj (U.g 1 rfl) rfl (isAgg25 _) (sizeOf25 _)) fun a Y => am Y U de call27 rfl (fV (by rw [o4, ph]) (iB 4 lv7 exM _ (U.ow 2 rfl) (U.keepb hk0))) ?_
 clear Y U
 intro a w17 Y U
 refine wlm Y rfl fun a Y => wlv Y (ag rfl rfl) fun a Y => wlv Y (ag rfl rfl) fun a Y => wla Y rfl fun a Y => wla Y rfl fun a Y => ab (hK10 _ _ ?_)
 replace Y := Y.p17 0 1 2 3 4 5 6 7 8 9 11 12 13 14 15 16 17 rfl
 refine aa fun K11 hK11 => am Y U de call35 rfl (nX 1 _ (by unfold i64; omega)) ?_
 clear Y U
 intro a w18 Y U
 refine wla Y rfl fun a Y => ab (hK11 _ _ <| aa fun K12 hK12 => ?_)
 refine wlm Y rfl fun a Y => wlv Y (aj (U.g 5 rfl) rfl (isAgg25 _) (sizeOf25 _)) fun a Y => am Y U de call36 rfl (fV (by rw [ex_sB, ex_sE]) (ov (keyR 1) 4 lv1 exR _ (U.ow 6 rfl) (U.keepb hk0))) ?_
 clear Y U
 intro a w19 Y U
 refine wlm Y rfl fun a Y => wlv Y (ag rfl rfl) fun a Y => wlv Y (ag rfl rfl) fun a Y => wla Y rfl fun a Y => wla Y rfl fun a Y => ab (hK12 _ _ ?_)
 replace Y := Y.p20 0 1 2 3 4 5 6 7 8 9 11 12 13 14 15 16 17 18 19 20 rfl
 refine ac fun K13 hK13 => aa fun K14 hK14 => wlm Y rfl fun a Y => wlv Y ((v_ne rfl rfl).asb (b' := false) rfl) fun a Y => wlm Y rfl fun a Y => wly Y (ai rfl) fun a Y => wly Y ((v_ne rfl rfl).asb (b' := false) rfl) fun a Y => wlv Y (aw rfl rfl) fun a Y => wlm Y rfl fun a Y => wly Y (ai rfl) fun a Y => wly Y ((v_ne rfl rfl).asb (b' := false) rfl) fun a Y => wlv Y (aw rfl rfl) fun a Y => wlm Y rfl fun a Y => wly Y (ai rfl) fun a Y => wly Y ((v_ne rfl rfl).asb (b' := false) rfl) fun a Y => wlv Y (aw rfl rfl) fun a Y => wlm Y rfl fun a Y => wly Y (ai rfl) fun a Y => wly Y ((v_ne rfl rfl).asb (b' := false) rfl) fun a Y => wlv Y (aw rfl rfl) fun a Y => wlm Y rfl fun a Y => wly Y (ai rfl) fun a Y => wly Y ((v_ne rfl rfl).asb (b' := false) rfl) fun a Y => wlv Y (aw rfl rfl) fun a Y => wlm Y rfl fun a Y => wly Y (ai rfl) fun a Y => wly Y ((v_ne rfl rfl).asb (b' := false) rfl) fun a Y => wlv Y (aw rfl rfl) fun a Y => wlm Y rfl fun a Y => wly Y (ai rfl) fun a Y => wly Y ((v_ne rfl rfl).asb (b' := false) rfl) fun a Y => ?_
 refine wlv Y (aw rfl rfl) fun a Y => wlm Y rfl fun a Y => wly Y (ai rfl) fun a Y => wly Y ((v_ne rfl rfl).asb (b' := false) rfl) fun a Y => wlv Y (aw rfl rfl) fun a Y => ab (hK14 _ _ ?_)
 replace Y := Y.p12 0 1 2 4 6 8 12 14 16 18 19 110 rfl
 refine aE Y rfl ?_
 refine aq <| hK13 _ _ <| aa fun K15 hK15 => wlm Y rfl fun a Y => wlv Y (al (v := po w1.hz 1) rfl kr) fun a Y => wlv Y (ld U 5 rfl rfl (isAgg23 _) rfl) fun a Y => wlv Y ((ak (i := 1) (sT := 23) (U.ow 6 rfl) rfl rfl (runUnderlying23 _) (sizeOf27 _) om de).as (v' := slAddr lv1 (1 * 5)) rfl) fun a Y => wlv Y ((bt (U.ow 6 rfl) (i := 1) de rfl (isAgg27 _) (sizeOf27 _)).as (v' := .agg #[iv ((exR.getD 1 Rec.z).t), iv ((exR.getD 1 Rec.z).kind), iv ((exR.getD 1 Rec.z).a), iv ((exR.getD 1 Rec.z).b), sv ((exR.getD 1 Rec.z).text)]) (by rw [br Rec.z]; rfl)) fun a Y => wlm Y rfl fun a Y => am Y U de call29 rfl (bJ ex_c1 (js exRoot 3 1 (exR.getD 1 Rec.z) v3 exPf _ (U.ow 3 rfl) (by have := oQ; omega) (by unfold i64; omega) (U.keepb hk0))) ?_
 clear Y U
 intro a w20 Y U
 refine wlm Y rfl fun a Y => wly Y (ai rfl) fun a Y => wly Y (al (v := po w1.hz 1) rfl kr) fun a Y => wly Y (ld U 5 rfl rfl (isAgg23 _) rfl) fun a Y => wly Y ((ak (i := 1) (sT := 23) (U.ow 6 rfl) rfl rfl (runUnderlying23 _) (sizeOf27 _) om de).as (v' := slAddr lv1 (1 * 5)) rfl) fun a Y => wly Y ((bt (U.ow 6 rfl) (i := 1) de rfl (isAgg27 _) (sizeOf27 _)).as (v' := .agg #[iv ((exR.getD 1 Rec.z).t), iv ((exR.getD 1 Rec.z).kind), iv ((exR.getD 1 Rec.z).a), iv ((exR.getD 1 Rec.z).b), sv ((exR.getD 1 Rec.z).text)]) (by rw [br Rec.z]; rfl)) fun a Y => wly Y (ai rfl) fun a Y => aR Y U de rfl de rfl call29 rfl (bJ ex_c2 (js exRoot 3 0 (exR.getD 1 Rec.z) v3 exPf _ (U.ow 3 rfl) (by have := oQ; omega) (by unfold i64; omega) (U.keepb hk0))) ?_
 clear Y U
 intro a w21 Y U
 refine wly Y ((bn rfl).asb (b' := true) rfl) fun a Y => wlv Y (aB rfl rfl) fun a Y => wlm Y rfl fun a Y => wly Y (ai rfl) fun a Y => wly Y (ai rfl) fun a Y => wly Y (ai rfl) fun a Y => aR Y U de rfl de rfl call43 rfl (bJ ex_g1 (gS exRoot 3 exNext 4 v9 exQ _ (U.ow 0 rfl) (by have := oV; omega) (by unfold i64; omega) (U.keepb hk0))) ?_
 clear Y U
 intro a w22 Y U
 refine wlv Y (aB rfl rfl) fun a Y => wlm Y rfl fun a Y => wly Y (ai rfl) fun a Y => wly Y (ai rfl) fun a Y => wly Y (ai rfl) fun a Y => aR Y U de rfl de rfl call43 rfl (bJ ex_g2 (gS exNext 3 exRoot 4 v9 exQ _ (U.ow 0 rfl) (by have := oV; omega) (by unfold i64; omega) (U.keepb hk0))) ?_
 clear Y U
 intro a w23 Y U
 refine wly Y ((bn rfl).asb (b' := true) rfl) fun a Y => wlv Y (aB rfl rfl) fun a Y => wla Y rfl fun a Y => ab (hK15 _ _ ?_)
 replace Y := Y.p10 0 1 2 4 6 12 16 18 19 21 rfl
 replace U := U.k5 118 rfl
 refine aa fun K16 hK16 => wlm Y rfl fun a Y => wlm Y rfl fun a Y => wlm Y rfl fun a Y => am Y U de call37 rfl (bJ ex_n1 (eG (keyR 1) 4 3 exRoot exTag _ (U.keepb hk0))) ?_
 clear Y U
 intro a w24 Y U
 refine wlm Y rfl fun a Y => wly Y (ai rfl) fun a Y => wly Y (ai rfl) fun a Y => wly Y (ai rfl) fun a Y => aR Y U de rfl de rfl call37 rfl (bJ ex_n2 (eG (keyR 1) 5 3 exRoot exTag _ (U.keepb hk0))) ?_
 clear Y U
 intro a w25 Y U
 refine wly Y ((bn rfl).asb (b' := true) rfl) fun a Y => wlv Y (aB rfl rfl) fun a Y => wlm Y rfl fun a Y => wly Y (ai rfl) fun a Y => wly Y (ai rfl) fun a Y => wly Y (ai rfl) fun a Y => aR Y U de rfl de rfl call37 rfl (bJ ex_n3 (eG (keyR 1) 4 3 exNext exTag _ (U.keepb hk0))) ?_
 clear Y U
 intro a w26 Y U
 refine wly Y ((bn rfl).asb (b' := true) rfl) fun a Y => wlv Y (aB rfl rfl) fun a Y => wla Y rfl fun a Y => ab (hK16 _ _ ?_)
 replace Y := Y.p7 0 1 2 4 12 21 22 rfl
 refine aa fun K17 hK17 => wlv Y (aj (U.g 3 rfl) rfl (isAgg25 _) (sizeOf25 _)) fun a Y => am Y U de call20 rfl (iM ex_f1 (bU 4 lv1 exR 1 9 _ (U.ow 4 rfl))) ?_
 clear Y U
 intro a w27 Y U
 refine wlv Y ((v_eq rfl rfl).asb (b' := true) rfl) fun a Y => wlm Y rfl fun a Y => wly Y (aj (U.g 3 rfl) rfl (isAgg25 _) (sizeOf25 _)) fun a Y => aR Y U de rfl de rfl call20 rfl (iM ex_f2 (bU 4 lv1 exR 1 19 _ (U.ow 4 rfl))) ?_
 clear Y U
 intro a w28 Y U
 refine wly Y ((v_eq rfl rfl).asb (b' := true) rfl) fun a Y => wlv Y (aB rfl rfl) fun a Y => wlm Y rfl fun a Y => wly Y (aj (U.g 3 rfl) rfl (isAgg25 _) (sizeOf25 _)) fun a Y => aR Y U de rfl de rfl call20 rfl (iM ex_f3 (bU 4 lv1 exR 1 20 _ (U.ow 4 rfl))) ?_
 clear Y U
 intro a w29 Y U
 refine wly Y ((v_eq rfl rfl).asb (b' := true) rfl) fun a Y => wlv Y (aB rfl rfl) fun a Y => wla Y rfl fun a Y => ab (hK17 _ _ ?_)
 replace Y := Y.p8 0 1 2 4 12 21 22 23 rfl
 refine ac fun K18 hK18 => aO kr (aP kr fun w30 hxz => ?_)
 replace U := U.grow hxz
 refine aQ (k := 0) 3 [2] kr kr kr ?_
 refine wlm Y rfl fun a Y => wlv Y ((eu rfl rfl).asb (b' := true) (by exact decide_eq_true rfl)) fun a Y => wlm Y rfl fun a Y => ab <| aS (k := 3) 8 [3, 7] Y kr kr kr rfx ?_
 replace Y : Fr 206 [(0, _), (1, _), (2, _), (4, _), (12, _), (21, _), (22, _), (23, _), (172, _), (173, _), (174, _)] [] a := Y.pick [0, 1, 2, 4, 12, 21, 22, 23, 172, 173, 174]
 refine aA [] (fun i => match i with | _ => fun _ _ => False) 5 [[], [], [1], [2], [3]] [.agg #[iv ((exR.getD 0 Rec.z).t), iv ((exR.getD 0 Rec.z).kind), iv ((exR.getD 0 Rec.z).a), iv ((exR.getD 0 Rec.z).b), sv ((exR.getD 0 Rec.z).text)], po w1.hz 1, lv1, slAddr lv1 (0 * 5), .agg #[iv ((exR.getD 0 Rec.z).t), iv ((exR.getD 0 Rec.z).kind), iv ((exR.getD 0 Rec.z).a), iv ((exR.getD 0 Rec.z).b), sv ((exR.getD 0 Rec.z).text)]] Y U kr kr kr ?_ ?_ ?_
 ·intro i hi hiq
  match i, hi, hiq with
  | 0, _, _ => exact fun w U => OpV.g (aj (U.g 2 rfl) rfl (isAgg27 _) (sizeOf27 _))
  | 1, _, _ => exact fun w U => OpV.g (al (v := po w1.hz 1) rfl kr)
  | 2, _, _ => exact fun w U => OpV.g (ld U 3 rfl rfl (isAgg23 _) rfl)
  | 3, _, _ => exact fun w U => OpV.g ((ak (i := 0) (sT := 23) (U.ow 4 rfl) rfl rfl (runUnderlying23 _) (sizeOf27 _) om de).as (v' := slAddr lv1 (0 * 5)) rfl)
  | 4, _, _ => exact fun w U => OpV.g ((bt (U.ow 4 rfl) (i := 0) de rfl (isAgg27 _) (sizeOf27 _)).as (v' := .agg #[iv ((exR.getD 0 Rec.z).t), iv ((exR.getD 0 Rec.z).kind), iv ((exR.getD 0 Rec.z).a), iv ((exR.getD 0 Rec.z).b), sv ((exR.getD 0 Rec.z).text)]) (by rw [br Rec.z]; rfl))
 ·intro i hi
  exact absurd hi sm
 clear Y U
 intro  a w31 Y U
 replace Y : Fr 206 [(175, .agg #[iv ((exR.getD 0 Rec.z).t), iv ((exR.getD 0 Rec.z).kind), iv ((exR.getD 0 Rec.z).a), iv ((exR.getD 0 Rec.z).b), sv ((exR.getD 0 Rec.z).text)]), (176, po w1.hz 1), (177, lv1), (178, slAddr lv1 (0 * 5)), (179, .agg #[iv ((exR.getD 0 Rec.z).t), iv ((exR.getD 0 Rec.z).kind), iv ((exR.getD 0 Rec.z).a), iv ((exR.getD 0 Rec.z).b), sv ((exR.getD 0 Rec.z).text)]), (0, _), (1, _), (2, _), (4, _), (12, _), (21, _), (22, _), (23, _), (172, _), (173, _), (174, _)] [] a := Y
 refine ab <| aQ (k := 8) 35 [34] kr kr kr ?_
 refine wly Y ((jI rfl rfl kr (eqRec ((exR.getD 0 Rec.z).t) ((exR.getD 0 Rec.z).kind) ((exR.getD 0 Rec.z).a) ((exR.getD 0 Rec.z).b) ((exR.getD 0 Rec.z).text) ((exR.getD 0 Rec.z).t) ((exR.getD 0 Rec.z).kind) ((exR.getD 0 Rec.z).a) ((exR.getD 0 Rec.z).b) ((exR.getD 0 Rec.z).text) _)).asb (b' := true) (by exact decide_eq_true rfl)) fun a Y => wlv Y (aB rfl rfl) fun a Y => wlm Y rfl fun a Y => wly Y (ai rfl) fun a Y => wlv Y (aB rfl rfl) fun a Y => wlm Y rfl fun a Y => wly Y (ai rfl) fun a Y => wlv Y (aB rfl rfl) fun a Y => wlm Y rfl fun a Y => wly Y (ai rfl) fun a Y => wlv Y (aB rfl rfl) fun a Y => wlm Y rfl fun a Y => wly Y (al (v := po w13.hz 1) rfl kr) fun a Y => wly Y (ld U 0 rfl rfl (isAgg23 _) rfl) fun a Y => wly Y ((aK (sT := 23) (U.ow 1 rfl) rfl rfl (runUnderlying23 _)).asi (m' := (exM.length : Int)) (by rw [List.length_map])) fun a Y => wly Y ((v_eq rfl rfl).asb (b' := true) de) fun a Y => wlv Y (aB rfl rfl) fun a Y => wlm Y rfl fun a Y => wly Y (aj (U.g 3 rfl) rfl (isAgg25 _) (sizeOf25 _)) fun a Y => aR Y U de rfl de rfl call16 rfl (bJ fZ (cX 4 lv1 exR _ (U.ow 4 rfl))) ?_
 clear Y U
 intro a w32 Y U
 refine wlv Y (aB rfl rfl) fun a Y => wlm Y rfl fun a Y => wly Y (aZ (v := .agg #[iv 100, .slice none 0 0]) rfl kr) fun a Y => aR Y U de rfl de rfl call16 rfl (bJ oy (cX 100 (.slice none 0 0) ([] : List Rec) _ (jk _ _))) ?_
 clear Y U
 intro a w33 Y U
 refine wly Y ((bn rfl).asb (b' := true) rfl) fun a Y => wlv Y (aB rfl rfl) fun a Y => wla Y rfl fun a Y => ab <| bd kr ?_
 refine hK18 _ _ ?_
 replace Y := Y.p1 0 rfl
 replace U := U.k2 18 rfl
 refine au ?_
 refine ar Y results9 (ae rfl ah) ?_
 exact ⟨by rfl, U.ext⟩
theorem kO : ∀ {l : List Rin} {t : Int}, 0 ≤ t → t + 30 * l.length ≤ 10000000 → ∀ x ∈ recsR t l, x.t ≤ t + 30 * l.length
 | [], t, h, hb, x, hx => by cases hx
 | y :: l, t, h, hb, x, hx => by
  have h0 := bw y.x0 (n := 30) om
  rw [List.length_cons] at hb ⊢
  have e : (entR (t + pickI y.x0 30) y.x1 y.x2 y.x3 y.x4).t = t + pickI y.x0 30 := by
   show pickI (t + pickI y.x0 30) 10000001 = _
   generalize pickI y.x0 30 = z at *
   unfold pickI
   rw [if_neg om]
   exact Int.emod_eq_of_lt om om
  rw [recsR] at hx
  rcases List.mem_cons.1 hx with rfl | hx
  ·rw [e]; omega
  ·have := kO (l := l) (t := t + pickI y.x0 30) om om x hx
   omega
theorem n5 (l : List Rin) : ∀ x ∈ madeR l, x.t ≤ 360 := by
 intro x hx
 have := kO (Int.le_refl 0) (by rw [List.length_take]; omega) x hx
 rw [List.length_take] at this; omega
theorem pd {owner o : Int} {xv : Value} {ys : List Rin} {l : List Rec} {w0 : World} (ho : pickI owner 100 = o) (hl : madeR ys = l) (hxv : SlAt w0 xv 5 (ys.map Rin.cells)) (hys : ∀ y ∈ ys, y.wt) (how : i64 owner) : Ret Tryd.prog 10 #[iv owner, xv] w0 (MemR w0 (fun v : Value => .agg #[iv o, v]) (fun v => [own v 27 5 (l.map Rec.cells)]) (fun _ => True)) := by
 subst ho; subst hl
 exact mK owner xv ys w0 hxv hys how
end Go.Proofs.YtddfkkdanpmnaaaDoor
namespace Go.PW
open Go.RowKit Go.ChangeShapes Go.WideShapes Go.ChangeAt
section
variable {H : Type} {enc : TypeId × Value → H}
theorem jU {a : Assume} {C : Checked} {os : Os} {f : FuncId} {fn : Func} {s : ChangeSpec} {conds : List PathCond} {apart fresh handsOn again : Bool} {X : World → Array Value → Prop}
  (hX : ∀ (w w' : World) (args : Array Value), w.heap = w'.heap → X w args → X w' args)
  (own : ownKnob C.prog.godebug = none) (started : os.Started) (noInit : C.prog.inits.idxOf? f = none) (hfn : C.prog.funcs[f]? = some fn)
  (witness : ∃ (w : World) (tape : Tape) (i : Input), w.os = os ∧ (w.forCall tape i).Shaped C.prog ∧ i.vars = [] ∧ Input.okWide C.prog (w.forCall tape i) .any w.heap.size f i ∧
   ((s.pre enc C.prog fn conds apart (w.forCall tape i).memory i.args ∧ X (w.forCall tape i).memory i.args) ∧ sizedMet enc C.prog fn (OpenSpec.ofChange s) apart (w.forCall tape i).memory i.args) ∧ a.holds C.prog (lone (Frame.enter C.prog f i.args .normal) [] (w.forCall tape i)))
  (contract : ∀ (W : World) (base : Nat) (args : Array Value) (ds gs : List (DataW H)) (before : List MemPlace),
   (∀ (j : Nat) t v, fn.params[j]? = some t → args[j]? = some v → Value.okWide C.prog W .any base t v) →
   DataW.Whole enc C.prog fn.params.toList s.vars apart W args.toList ds gs before →
   conds.all (PathCond.test C.prog ⟨fn.params.toList, ds, s.plain.varTypes C.prog, gs⟩) = true →
   (DataW.weightsEach C.prog (fn.params.toList ++ s.plain.varTypes C.prog) (ds ++ gs)).all (· ≤ reachBytes) = true → X W args → W.ShapedOpen C.prog →
   Calls C.prog f args W fun e W' => ∃ v, e = .returned v ∧ s.post enc C.prog fn apart fresh handsOn again W args v W') :
  ReturnsInHanded a C os f .any (fun w args => (s.pre enc C.prog fn conds apart w args ∧ X w args) ∧ sizedMet enc C.prog fn (OpenSpec.ofChange s) apart w args) (s.post enc C.prog fn apart fresh handsOn again) := by
 refine returnsInHanded_of_calls own started noInit witness ?_
 intro w tape i _ hsh _ hok hpre _
 obtain ⟨_, _, _, fn', hfn', _, _, _, _, hval⟩ := hok
 have e : fn' = fn := Option.some.inj (hfn'.symm.trans hfn)
 subst e
 obtain ⟨⟨⟨ds, gs, before, hw, hc⟩, hx⟩, hz⟩ := hpre
 have hw' := DataW.Whole.of_heap (w' := w.forCall tape i) rfx hw
 refine (contract (w.forCall tape i) w.heap.size i.args ds gs before hval hw' hc (hz.weights hw) (hX _ _ _ rfx hx) hsh).mono fun e W' ⟨v, he, hp⟩ => ?_
 subst he
 exact ChangeSpec.post_blind hp
end
section
variable {H : Type} {enc : TypeId × Value → H} {P : Program} {w : World} {base : Nat} {spare : Nat → Bool} {held : Bool} {fuel : Nat} {t e : TypeId} {cs : List Value} {x : DataW H × List MemPlace}
theorem kh {n : Nat} {ks : List Int} (ht : P.underlying t = some (.array n e)) (he : P.underlying e = some (.int .u32)) (hc : P.cellsOf e = 1) (hct : P.cellsOf t = n) (h : DataW.trod enc P w base spare held fuel t cs = some x) (hx : x.1 = .agg (ks.map fun k => .lit (.int .u32 k))) : cs = ks.map (fun k => .int .u32 k) := by
 obtain ⟨xs, m, rfl, rfl, hlen, hxs, hel⟩ := DataW.trod_array ht h
 simp only [DataW.agg.injEq] at hx
 have hl : ks.length = n := by
  have h := congrArg List.length hx
  rw [List.length_map, List.length_map] at h
  omega
 refine List.ext_getElem (by rw [hlen, hct, List.length_map, hl]) fun i h1 h2 => ?_
 have hi : i < n := by rw [← hct, ← hlen]; exact h1
 have hi2 : i < ks.length := by omega
 have h3 := hel i hi
 rw [hc, Nat.mul_one, List.getElem?_eq_getElem om] at h3
 obtain ⟨k, e1, e2, _⟩ := DataW.trod_int he h3
 rw [List.drop_eq_getElem_cons h1, List.take_succ_cons] at e1
 injection e1 with e1 _
 have h4 : (xs.map (·.1))[i]? = (ks.map fun k => DataW.lit (H := H) (.int .u32 k))[i]? := by rw [hx]
 rw [List.getElem?_map, List.getElem?_map, List.getElem?_eq_getElem om, List.getElem?_eq_getElem hi2, Option.map_some, Option.map_some, e2] at h4
 simp only [Option.some.injEq, DataW.lit.injEq, Lit.int.injEq, true_and] at h4
 rw [e1, List.getElem_map, h4]
theorem ne {r : Reach} {b0 : Nat} {v : Value} {d : DataW H} {ps : List MemPlace} {sp : Nat → Bool} (ht : P.underlying t = some .string) (hval : Value.okWide P w r b0 t v) (hw : Wt P t d) (hd : DataW.Trod enc P w base sp held t v d ps) :
  ∃ s : List UInt8, v = sv s ∧ s.length ≤ 140737488355328 := by
 obtain ⟨s, rfl, rfl, _, _⟩ := Go.ChangeMaps.open_string ht hval hd
 refine ⟨s.data.toList, rfl, ?_⟩
 have h1 := hw s.data.toList.length (by simp [DataW.weights])
 have h2 := reachBytes_lt
 omega
theorem nr (ht : P.underlying t = some .string) (hw : Wt P t x.1) (h : DataW.trod enc P w base spare held fuel t cs = some x) : ∃ s : List UInt8, cs = [sv s] ∧ s.length ≤ 140737488355328 := by
 obtain ⟨s', hcs, hx, hs⟩ := DataW.trod_string ht h
 subst hx
 refine ⟨s'.data.toList, hcs, ?_⟩
 have h1 := hw s'.data.toList.length (by simp [DataW.weights])
 have h2 := reachBytes_lt
 omega
end
end Go.PW
namespace Go.Proofs.YtddfkkdanpmnaaaDoor
open Go.RowKit Go.PW _root_.Go.Proofs.Tryd
open Go.ChangeShapes Go.WideShapes Go.ChangeAt Go.RowKit Go.PW
theorem ownD : ownKnob Tryd.prog.godebug = none := by kernel_rfl
theorem cH : laidOutB Tryd.prog = true := by kernel_rfl
def laid1 : List (String × DataW Unit) := [("dialtone/digest.round", Rows.laid_dialtone_digest_round)]
theorem gRound : Tryd.prog.globalNamed "dialtone/digest.round" = some 0 := by kernel_rfl
theorem tRound : (Tryd.prog.globals[0]?).map (·.type) = some 161 := by kernel_rfl
theorem oh : (Rows.laid_dialtone_digest_round : DataW Unit) = .agg ((kOf.map fun k => (k.toNat : Int)).map fun k => .lit (.int .u32 k)) := by kernel_rfl
theorem mQ (os : Os) (args : Array Value) : laidMetH Tryd.prog laid1 ((World.doorLaid Tryd.prog 4000 os).forCall (fun _ _ => 0) ⟨#[], args, []⟩).memory :=
 laidMetH_of_parts3 (fuel := 8) (laidMet_of_run' 8 kr kr) kr kr
theorem j8 (os : Os) (args : Array Value) : ((World.doorLaid Tryd.prog 4000 os).forCall (fun _ _ => 0) ⟨#[], args, []⟩).Shaped Tryd.prog := World.shaped_of_RefB kr kr
theorem pn {W : World} (h : laidMetH Tryd.prog laid1 W) (hs : W.ShapedOpen Tryd.prog) : (blk 0 (kOf.map wv) 161).ok W := by
 rw [MakeChecks.laidMetH_plain _ _ _ kr] at h
 obtain ⟨ps, ⟨g0, t0, cs0, f0, p0, q0, hg0, ht0, hv0, hd0, _, _⟩, _, _⟩ := h
 obtain rfl := Option.some.inj (gRound.symm.trans hg0)
 obtain rfl := Option.some.inj (tRound.symm.trans ht0)
 obtain ⟨cs, hcs, _, _⟩ := hs.1 0 (List.replicate 64 (.int .u32 0)).toArray 161 (of_decide_eq_true kr) kr
 have e : cs0 = cs := by
  have := hv0
  simp only [World.var?, gRound, Option.bind_some, hcs, Option.some.injEq] at this
  exact this.symm
 subst e
 have hw := kh (ks := kOf.map fun k => (k.toNat : Int)) underlying161 underlying133 kr kr hd0 oh
 have hl : cs0 = (kOf.map wv).toArray := by
  apply Array.toList_inj.1
  rw [hw, List.map_map]; rfl
 show W.heap[0]? = some (.cells (kOf.map wv).toArray 161)
 rw [← hl]; exact hcs
open Go.ChangeShapes Go.WideShapes Go.ChangeAt
section
variable {H : Type} {enc : TypeId × Value → H} {W : World} {base b0 : Nat} {sp : Nat → Bool} {hd : Bool} {v : Value} {d : DataW H} {ps : List MemPlace} {r : Reach}
theorem fY {n : Int} (h : Go.PW.i64 n) : i64 n := h
theorem len5 {α : Type} {l : List α} (h : l.length = 5) : ∃ a0 a1 a2 a3 a4, l = [a0, a1, a2, a3, a4] := by
 match l, h with
 | [a0, a1, a2, a3, a4], _ => exact ⟨_, _, _, _, _, rfl⟩
theorem nk {fuel : Nat} {cs : List Value} {x : DataW H × List MemPlace} (hl : cs.length = 5) (hw : Wt Tryd.prog 75 x.1) (h : DataW.trod enc Tryd.prog W base sp hd fuel 75 cs = some x) :
  ∃ (n0 : Int) (n1 : Int) (n2 : Int) (n3 : Int) (n4 : Int), cs = [iv n0, iv n1, iv n2, iv n3, iv n4] ∧ (i64 n0) ∧ (i64 n1) ∧ (i64 n2) ∧ (i64 n3) ∧ (i64 n4) := by
 obtain ⟨zs, hz, he, hy⟩ := l4 5 underlying75 underlying3 kr h hl
 obtain ⟨n0, n1, n2, n3, n4, rfl⟩ := len5 hz
 exact ⟨n0, n1, n2, n3, n4, he, hy n0 sm, hy n1 sm, hy n2 sm, hy n3 sm, hy n4 sm⟩
theorem mc {fuel : Nat} {v : Value} {x : DataW H × List MemPlace} (hok : Cell.okWide Tryd.prog W r b0 22 v) (hw : Wt Tryd.prog 22 x.1) (h : DataW.trod enc Tryd.prog W base sp hd fuel 22 [v] = some x) :
  ∃ xs : List Rin, SlAt W v 5 (xs.map Rin.cells) ∧ ∀ a ∈ xs, a.wt := by
 obtain ⟨els, h1, h2⟩ := li 5 underlying22 kr de (of_decide_eq_true kr) hok hw h
 exact m7 (f := Rin.cells) (q := fun a => a.wt) h1 fun i hi => by
  obtain ⟨n, y, hy, hwy⟩ := h2 i hi
  obtain ⟨n0, n1, n2, n3, n4, he, hf⟩ := nk (h1.1 _ (List.getElem_mem hi)) hwy hy
  exact ⟨⟨n0, n1, n2, n3, n4⟩, he, hf⟩
theorem kd (hval : Value.okWide Tryd.prog W r b0 22 v) (hw : Wt Tryd.prog 22 d) (hd0 : DataW.Trod enc Tryd.prog W base sp hd 22 v d ps) :
  ∃ xs : List Rin, SlAt W v 5 (xs.map Rin.cells) ∧ ∀ a ∈ xs, a.wt := by
 obtain ⟨fuel, hf⟩ := hd0
 have hcs : v.cells.toList = [v] := by
  rcases fU (by rw [underlying22]) hval with h
  have : ∃ a n c, v = .slice a n c := by
   unfold Cell.okWide Cell.ok at h
   rw [underlying22] at h
   cases v <;> simp_all
  obtain ⟨a, n, c, rfl⟩ := this
  rfl
 rw [hcs] at hf
 exact mc (fU (by rw [underlying22]) hval) hw hf
theorem len2 {α : Type} {l : List α} (h : l.length = 2) : ∃ a0 a1, l = [a0, a1] := by
 match l, h with
 | [a0, a1], _ => exact ⟨_, _, rfl⟩
theorem mW {fuel : Nat} {cs : List Value} {x : DataW H × List MemPlace} (hl : cs.length = 2) (hw : Wt Tryd.prog 25 x.1) (h : DataW.trod enc Tryd.prog W base sp hd fuel 25 cs = some x) :
  ∃ (n0 : Int) (v1 : Value), cs = [iv n0, v1] ∧ (i64 n0) ∧ (∃ n z, DataW.trod enc Tryd.prog W base sp hd n 23 [v1] = some z ∧ Wt Tryd.prog 23 z.1) := by
 obtain ⟨c0, c1, rfl⟩ := len2 hl
 obtain ⟨m0, z0, h0, w0⟩ := cB 0 _ underlying25 hw h rfl
 have k0 : Tryd.prog.cellsOf 3 = 1 := by kernel_rfl
 replace h0 : DataW.trod enc Tryd.prog W base sp hd m0 3 [c0] = some z0 := by rw [show [c0] = ([c0, c1].drop 0).take (Tryd.prog.cellsOf 3) from by rw [k0]; rfl]; exact h0
 obtain ⟨m1, z1, h1, w1⟩ := cB 1 _ underlying25 hw h rfl
 have k1 : Tryd.prog.cellsOf 23 = 1 := by kernel_rfl
 replace h1 : DataW.trod enc Tryd.prog W base sp hd m1 23 [c1] = some z1 := by rw [show [c1] = ([c0, c1].drop 1).take (Tryd.prog.cellsOf 23) from by rw [k1]; rfl]; exact h1
 obtain ⟨n0, e0, f0⟩ := dF underlying3 h0
 obtain rfl : c0 = iv n0 := by simpa using e0
 obtain ⟨v1, e1⟩ : ∃ q, q = c1 := ⟨_, rfl⟩
 subst e1
 exact ⟨n0, v1, rfl, f0, ⟨m1, z1, h1, w1⟩⟩
theorem jB {fuel : Nat} {cs : List Value} {x : DataW H × List MemPlace} (hl : cs.length = 5) (hw : Wt Tryd.prog 27 x.1) (h : DataW.trod enc Tryd.prog W base sp hd fuel 27 cs = some x) :
  ∃ (n0 : Int) (n1 : Int) (n2 : Int) (n3 : Int) (s4 : By), cs = [iv n0, iv n1, iv n2, iv n3, sv s4] ∧ (i64 n0) ∧ (i64 n1) ∧ (i64 n2) ∧ (i64 n3) ∧ (s4.length ≤ 140737488355328) := by
 obtain ⟨c0, c1, c2, c3, c4, rfl⟩ := len5 hl
 obtain ⟨m0, z0, h0, w0⟩ := cB 0 _ underlying27 hw h rfl
 have k0 : Tryd.prog.cellsOf 3 = 1 := by kernel_rfl
 replace h0 : DataW.trod enc Tryd.prog W base sp hd m0 3 [c0] = some z0 := by rw [show [c0] = ([c0, c1, c2, c3, c4].drop 0).take (Tryd.prog.cellsOf 3) from by rw [k0]; rfl]; exact h0
 obtain ⟨m1, z1, h1, w1⟩ := cB 1 _ underlying27 hw h rfl
 have k1 : Tryd.prog.cellsOf 3 = 1 := by kernel_rfl
 replace h1 : DataW.trod enc Tryd.prog W base sp hd m1 3 [c1] = some z1 := by rw [show [c1] = ([c0, c1, c2, c3, c4].drop 1).take (Tryd.prog.cellsOf 3) from by rw [k1]; rfl]; exact h1
 obtain ⟨m2, z2, h2, w2⟩ := cB 2 _ underlying27 hw h rfl
 have k2 : Tryd.prog.cellsOf 3 = 1 := by kernel_rfl
 replace h2 : DataW.trod enc Tryd.prog W base sp hd m2 3 [c2] = some z2 := by rw [show [c2] = ([c0, c1, c2, c3, c4].drop 2).take (Tryd.prog.cellsOf 3) from by rw [k2]; rfl]; exact h2
 obtain ⟨m3, z3, h3, w3⟩ := cB 3 _ underlying27 hw h rfl
 have k3 : Tryd.prog.cellsOf 3 = 1 := by kernel_rfl
 replace h3 : DataW.trod enc Tryd.prog W base sp hd m3 3 [c3] = some z3 := by rw [show [c3] = ([c0, c1, c2, c3, c4].drop 3).take (Tryd.prog.cellsOf 3) from by rw [k3]; rfl]; exact h3
 obtain ⟨m4, z4, h4, w4⟩ := cB 4 _ underlying27 hw h rfl
 have k4 : Tryd.prog.cellsOf 9 = 1 := by kernel_rfl
 replace h4 : DataW.trod enc Tryd.prog W base sp hd m4 9 [c4] = some z4 := by rw [show [c4] = ([c0, c1, c2, c3, c4].drop 4).take (Tryd.prog.cellsOf 9) from by rw [k4]; rfl]; exact h4
 obtain ⟨n0, e0, f0⟩ := dF underlying3 h0
 obtain rfl : c0 = iv n0 := by simpa using e0
 obtain ⟨n1, e1, f1⟩ := dF underlying3 h1
 obtain rfl : c1 = iv n1 := by simpa using e1
 obtain ⟨n2, e2, f2⟩ := dF underlying3 h2
 obtain rfl : c2 = iv n2 := by simpa using e2
 obtain ⟨n3, e3, f3⟩ := dF underlying3 h3
 obtain rfl : c3 = iv n3 := by simpa using e3
 obtain ⟨s4, e4, f4⟩ := nr underlying9 w4 h4
 obtain rfl : c4 = sv s4 := by simpa using e4
 exact ⟨n0, n1, n2, n3, s4, rfl, f0, f1, f2, f3, f4⟩
theorem lF {fuel : Nat} {v : Value} {x : DataW H × List MemPlace} (hok : Cell.okWide Tryd.prog W r b0 23 v) (hw : Wt Tryd.prog 23 x.1) (h : DataW.trod enc Tryd.prog W base sp hd fuel 23 [v] = some x) :
  ∃ xs : List Rec, SlAt W v 5 (xs.map Rec.cells) ∧ ∀ a ∈ xs, True := by
 obtain ⟨els, h1, h2⟩ := li 5 underlying23 kr de (of_decide_eq_true kr) hok hw h
 exact m7 (f := Rec.cells) (q := fun a => True) h1 fun i hi => by
  obtain ⟨n, y, hy, hwy⟩ := h2 i hi
  obtain ⟨n0, n1, n2, n3, s4, he, hf⟩ := jB (h1.1 _ (List.getElem_mem hi)) hwy hy
  exact ⟨⟨n0, n1, n2, n3, s4⟩, he, trivial⟩
theorem kn (hval : Value.okWide Tryd.prog W r b0 25 v) (hw : Wt Tryd.prog 25 d) (hd0 : DataW.Trod enc Tryd.prog W base sp hd 25 v d ps) :
  ∃ (n0 : Int) (v1 : Value) (xv1 : List Rec), v = .agg #[iv n0, v1] ∧ (i64 n0) ∧ (SlAt W v1 5 (xv1.map Rec.cells)) ∧ (∀ a ∈ xv1, True) := by
 obtain ⟨csA, rfl, hsz, hrow⟩ := fB kr hval
 obtain ⟨fuel, hf⟩ := hd0
 have hc : Tryd.prog.cellsOf 25 = 2 := by kernel_rfl
 obtain ⟨n0, v1, he, g0, g1⟩ := mW (cs := csA.toList) (by rw [Array.length_toList, hsz, hc]) hw hf
 obtain rfl : csA = #[iv n0, v1] := by
  have he2 : csA.toList = [iv n0, v1] := he
  cases csA; simp only at he2; rw [he2]
 obtain ⟨n1_, z1_, h1_, w1_⟩ := g1
 obtain ⟨xv1, k1_, q1_⟩ := lF (mC (i := 1) (ts := [3, 23]) kr rfl hrow rfl) w1_ h1_
 exact ⟨n0, v1, xv1, rfl, g0, k1_, q1_⟩
theorem km (hval : Value.okWide Tryd.prog W r b0 27 v) (hw : Wt Tryd.prog 27 d) (hd0 : DataW.Trod enc Tryd.prog W base sp hd 27 v d ps) :
  ∃ (n0 : Int) (n1 : Int) (n2 : Int) (n3 : Int) (s4 : By), v = .agg #[iv n0, iv n1, iv n2, iv n3, sv s4] ∧ (i64 n0) ∧ (i64 n1) ∧ (i64 n2) ∧ (i64 n3) ∧ (s4.length ≤ 140737488355328) := by
 obtain ⟨csA, rfl, hsz, hrow⟩ := fB kr hval
 obtain ⟨fuel, hf⟩ := hd0
 have hc : Tryd.prog.cellsOf 27 = 5 := by kernel_rfl
 obtain ⟨n0, n1, n2, n3, s4, he, g0, g1, g2, g3, g4⟩ := jB (cs := csA.toList) (by rw [Array.length_toList, hsz, hc]) hw hf
 obtain rfl : csA = #[iv n0, iv n1, iv n2, iv n3, sv s4] := by
  have he2 : csA.toList = [iv n0, iv n1, iv n2, iv n3, sv s4] := he
  cases csA; simp only at he2; rw [he2]
 exact ⟨n0, n1, n2, n3, s4, rfl, g0, g1, g2, g3, g4⟩
end
end Go.Proofs.YtddfkkdanpmnaaaDoor
