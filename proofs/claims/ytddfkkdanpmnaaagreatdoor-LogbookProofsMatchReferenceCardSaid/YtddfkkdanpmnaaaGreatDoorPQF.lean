/- Texts joined: LgG, LgH, LgI, LgJ, LgK, Laid, Door, OpenL. -/
import Derived.Test.YtddfkkdanpmnaaaGreatDoorPQE
import Derived.Test.YtddfkkdanpmnaaaGreatDoorPQD
import Derived.Test.YtddfkkdanpmnaaaGreatDoorPQC
import Derived.Test.YtddfkkdanpmnaaaGreatDoorPQB
import Derived.Test.YtddfkkdanpmnaaaGreatDoorPQA
import Derived.LaidMore
import Derived.OpenShut
import Derived.Stop.Joined
import Derived.SevenTiedAt
import Derived.ChangeMaps5
import Derived.Test.YtddfkkdanpmnaaaGreatDoorRows
set_option linter.unusedVariables false
set_option linter.unusedSimpArgs false
set_option maxRecDepth 4000
set_option maxHeartbeats 4000000
namespace Go.Proofs.YtddfkkdanpmnaaaGreatDoor
open Go.RowKit Go.PW _root_.Go.Proofs.Tryz
theorem gx {M : Nat → Prop} {w0 : World} (T : TypeId) (b : Nat) (ad v : Value) (bs s : By) (ws : World) (hlie : liesAt Tryz.prog Tryz.prog.depth T (2 / Tryz.prog.cellsOf T) 0 86 1 = true) (had : ad = .pointer none ∨ ad = pt b) (hne : s ≠ []) (hbn : bs.length + s.length ≤ 1000000000) (Y : St M w0 [bld T b ad v bs] ws) :
  Ret Tryz.prog 67 #[pt b, sv s] ws fun u w => u = .tuple #[iv (s.length : Int), .nilIface] ∧ ∃ v2, St M w0 [bld T b (pt b) v2 (bs ++ s)] w := by
 rcases had with rfl | rfl
 ·exact ky T b v bs s ws hlie hne hbn Y
 ·exact lY T b v bs s ws hlie hne hbn Y
theorem ll (n : Int) : putI n ≠ [] := fun h => by have := (bA n).1; rw [h] at this; simp at this
theorem lf (s : By) : putS s ≠ [] := fun h => ll _ (List.append_eq_nil_iff.1 h).1
theorem oc {a b : By} (h : b ≠ []) : a ++ b ≠ [] := fun e => h (List.append_eq_nil_iff.1 e).2
theorem lm {s : By} (h : s.length = 32) : s ≠ [] := fun e => by rw [e] at h; cases h
def encRb (l : List Rec) (k : Nat) : List Value := [iv (k : Int), .agg (l.getD k Rec.z).cells.toArray]
theorem dW (n lo hi : Int) (w0 : World) :
  Ret Tryz.prog 49 #[iv n, iv lo, iv hi] w0 fun v w => v = .bool (inB n lo hi) ∧ Ext No w0 w := by
 refine aC func49 rfl ntmps49 (lb rfl) fun a Z => ?_
 replace Z := Z.p3 0 1 2 rfl
 replace Y : St No w0 [] w0 := St.init w0
 refine aa fun K1 hK1 => wla Z rfl fun a Z => ab (hK1 _ _ <| aa fun K2 hK2 => ?_)
 refine wlm Z rfl fun a Z => wlm Z rfl fun a Z => wlv Z (v_le rfl rfl) fun a Z => wlm Z rfl fun a Z => ?_
 refine cZ (N := 15) (df := []) 4 [(14, .bool ((decide (lo ≤ n)) && (decide (n ≤ hi)))), (0, iv n), (1, iv lo), (2, iv hi), (6, .bool false)] ?_ (fun hj => ?_)
 rotate_left
 ·rcases Bool.eq_false_or_eq_true (decide (lo ≤ n)) with hb1 | hb1
  ·rw [hb1] at Z
   have hb1b := hb1
   try simp only [qz, Bool.and_eq_true, Bool.or_eq_true, Bool.and_eq_false_iff, Bool.or_eq_false_iff] at hb1
   refine wly Z (ae rfl) fun a Z => wly Z (ae rfl) fun a Z => wly Z (v_le rfl rfl) fun a Z => wlv Z (aA rfl rfl) fun a Z => ?_
   refine hj _ ?_
   try rw [hb1b]
   exact Z.pick [14, 0, 1, 2, 6]
  rw [hb1] at Z
  have hb1b := hb1
  try simp only [qz, Bool.and_eq_true, Bool.or_eq_true, Bool.and_eq_false_iff, Bool.or_eq_false_iff] at hb1
  refine wln Z fun a Z => wln Z fun a Z => wln Z fun a Z => wlv Z (au rfl rfl) fun a Z => ?_
  refine hj _ ?_
  try rw [hb1b]
  exact Z.pick [14, 0, 1, 2, 6]
 intro a Z
 refine wla Z rfl fun a Z => ab (hK2 _ _ <| ao ?_)
 refine al Z results49 (ac rfl ag) ?_
 exact ⟨by rfl, Y.ext⟩
theorem fj (x : Rec) (w0 : World) :
  Ret Tryz.prog 64 #[.agg #[iv x.t, iv x.kind, iv x.a, iv x.b, sv x.text]] w0 fun v w => v = .bool x.ok ∧ Ext No w0 w := by
 refine aC func64 rfl ntmps64 (lb rfl) fun a Z => ?_
 replace Z := Z.p1 0 rfl
 replace Y : St No w0 [] w0 := St.init w0
 refine aa fun K1 hK1 => bh Z Y de rfl (cs := [iv x.t, iv x.kind, iv x.a, iv x.b, sv x.text]) rfl ?_
 clear Z Y
 intro a w1 Z Y
 refine wla Z rfl fun a Z => ab (hK1 _ _ <| aa fun K2 hK2 => ?_)
 refine wlv Z (ai (v := pt w0.hz) rfl kr) fun a Z => wlv Z (ld Y 0 rfl rfl (isAgg3 _) rfl) fun a Z => am Z Y de call49 rfl (dW x.t 0 10000000 _) ?_
 clear Z Y
 intro a w2 Z Y
 refine wlm Z rfl fun a Z => ?_
 rcases Bool.eq_false_or_eq_true (inB x.t 0 10000000) with hb1 | hb1
 ·rw [hb1] at Z
  try simp only [qz] at hb1
  refine wly Z (ai (v := po w0.hz 1) rfl kr) fun a Z => wly Z (ld Y 0 rfl rfl (isAgg3 _) rfl) fun a Z => aO Z Y de rfl de rfl call49 rfl (dW x.kind 1 20 _) ?_
  clear Z Y
  intro a w3 Z Y
  refine wlv Z (aA rfl rfl) fun a Z => wlm Z rfl fun a Z => ?_
  rcases Bool.eq_false_or_eq_true (inB x.kind 1 20) with hb2 | hb2
  ·rw [hb2] at Z
   try simp only [qz] at hb2
   refine wly Z (ai (v := po w0.hz 2) rfl kr) fun a Z => wly Z (ld Y 0 rfl rfl (isAgg3 _) rfl) fun a Z => aO Z Y de rfl de rfl call49 rfl (dW x.a (-1) 99999999 _) ?_
   clear Z Y
   intro a w4 Z Y
   refine wlv Z (aA rfl rfl) fun a Z => wlm Z rfl fun a Z => ?_
   rcases Bool.eq_false_or_eq_true (inB x.a (-1) 99999999) with hb3 | hb3
   ·rw [hb3] at Z
    try simp only [qz] at hb3
    refine wly Z (ai (v := po w0.hz 3) rfl kr) fun a Z => wly Z (ld Y 0 rfl rfl (isAgg3 _) rfl) fun a Z => aO Z Y de rfl de rfl call49 rfl (dW x.b (-1) 99999999 _) ?_
    clear Z Y
    intro a w5 Z Y
    refine wlv Z (aA rfl rfl) fun a Z => wlm Z rfl fun a Z => ?_
    rcases Bool.eq_false_or_eq_true (inB x.b (-1) 99999999) with hb4 | hb4
    ·rw [hb4] at Z
     try simp only [qz] at hb4
     refine wly Z (ai (v := po w0.hz 4) rfl kr) fun a Z => wly Z (ld Y 0 rfl rfl (isAgg9 _) rfl) fun a Z => wly Z (aZ rfl rfl (runUnderlying9 _)) fun a Z => wly Z (v_le rfl rfl) fun a Z => wlv Z (aA rfl rfl) fun a Z => wla Z rfl fun a Z => ab (hK2 _ _ ?_)
     replace Z := Z.p1 2 rfl
     replace Y : St No w0 [] w5 := Y.mask [false]
     refine ao ?_
     refine al Z results64 (ac rfl ag) ?_
     refine ⟨?_, Y.ext⟩
     simp only [retv]
     refine congrArg Value.bool ?_
     unfold Rec.ok
     simp only [hb1, hb2, hb3, hb4, Bool.true_and]
     exact decide_eq_decide.2 om
    rw [hb4] at Z
    try simp only [qz] at hb4
    refine wln Z fun a Z => wln Z fun a Z => wln Z fun a Z => wln Z fun a Z => wlv Z (au rfl rfl) fun a Z => wla Z rfl fun a Z => ab (hK2 _ _ ?_)
    replace Z := Z.p1 2 rfl
    replace Y : St No w0 [] w5 := Y.mask [false]
    refine ao ?_
    refine al Z results64 (ac rfl ag) ?_
    refine ⟨?_, Y.ext⟩
    simp only [retv]
    refine congrArg Value.bool ?_
    unfold Rec.ok
    simp only [hb1, hb2, hb3, hb4, Bool.true_and, Bool.false_and]
   rw [hb3] at Z
   try simp only [qz] at hb3
   refine wln Z fun a Z => wln Z fun a Z => wln Z fun a Z => wlv Z (au rfl rfl) fun a Z => wlm Z rfl fun a Z => wln Z fun a Z => wln Z fun a Z => wln Z fun a Z => wln Z fun a Z => wlv Z (au rfl rfl) fun a Z => wla Z rfl fun a Z => ab (hK2 _ _ ?_)
   replace Z := Z.p1 2 rfl
   replace Y : St No w0 [] w4 := Y.mask [false]
   refine ao ?_
   refine al Z results64 (ac rfl ag) ?_
   refine ⟨?_, Y.ext⟩
   simp only [retv]
   refine congrArg Value.bool ?_
   unfold Rec.ok
   simp only [hb1, hb2, hb3, Bool.true_and, Bool.false_and]
  rw [hb2] at Z
  try simp only [qz] at hb2
  refine wln Z fun a Z => wln Z fun a Z => wln Z fun a Z => wlv Z (au rfl rfl) fun a Z => wlm Z rfl fun a Z => wln Z fun a Z => wln Z fun a Z => wln Z fun a Z => wlv Z (au rfl rfl) fun a Z => wlm Z rfl fun a Z => wln Z fun a Z => wln Z fun a Z => ?_
  refine wln Z fun a Z => wln Z fun a Z => wlv Z (au rfl rfl) fun a Z => wla Z rfl fun a Z => ab (hK2 _ _ ?_)
  replace Z := Z.p1 2 rfl
  replace Y : St No w0 [] w3 := Y.mask [false]
  refine ao ?_
  refine al Z results64 (ac rfl ag) ?_
  refine ⟨?_, Y.ext⟩
  simp only [retv]
  refine congrArg Value.bool ?_
  unfold Rec.ok
  simp only [hb1, hb2, Bool.true_and, Bool.false_and]
 rw [hb1] at Z
 try simp only [qz] at hb1
 refine wln Z fun a Z => wln Z fun a Z => wln Z fun a Z => wlv Z (au rfl rfl) fun a Z => wlm Z rfl fun a Z => wln Z fun a Z => wln Z fun a Z => wln Z fun a Z => wlv Z (au rfl rfl) fun a Z => wlm Z rfl fun a Z => wln Z fun a Z => wln Z fun a Z => ?_
 refine wln Z fun a Z => wlv Z (au rfl rfl) fun a Z => wlm Z rfl fun a Z => wln Z fun a Z => wln Z fun a Z => wln Z fun a Z => wln Z fun a Z => wlv Z (au rfl rfl) fun a Z => wla Z rfl fun a Z => ab (hK2 _ _ ?_)
 replace Z := Z.p1 2 rfl
 replace Y : St No w0 [] w2 := Y.mask [false]
 refine ao ?_
 refine al Z results64 (ac rfl ag) ?_
 refine ⟨?_, Y.ext⟩
 simp only [retv]
 refine congrArg Value.bool ?_
 unfold Rec.ok
 simp only [hb1, Bool.true_and, Bool.false_and]
theorem dY (o : Int) (lv : Value) (l : List Rec) (w0 : World) (hlv : SlAt w0 lv 5 (l.map Rec.cells)) :
  Ret Tryz.prog 37 #[.agg #[iv o, lv]] w0 fun v w => v = .bool (logOk o l) ∧ Ext No w0 w := by
 have hxb := hlv.2.1
 simp only [List.length_map, big] at hxb
 refine aC func37 rfl ntmps37 (lb rfl) fun a Z => ?_
 replace Z := Z.p1 0 rfl
 replace Y : St No w0 [] w0 := St.init w0
 refine aa fun K1 hK1 => bh Z Y de rfl (cs := [iv o, lv]) rfl ?_
 clear Z Y
 intro a w1 Z Y
 refine wla Z rfl fun a Z => ab (hK1 _ _ <| aa fun K2 hK2 => ?_)
 refine wla Z rfl fun a Z => ab (hK2 _ _ <| ah fun K3 hK3 => ?_)
 refine aa fun K4 hK4 => wlv Z (ai (v := po w0.hz 1) rfl kr) fun a Z => wlv Z (ld Y 0 rfl rfl (isAgg23 _) rfl) fun a Z => wlv Z ((aB (sT := 23) (Y.arg hlv) rfl rfl (runUnderlying23 _)).asi (m' := (l.length : Int)) (by rw [List.length_map])) fun a Z => wlm Z rfl fun a Z => ab (hK4 _ _ <| aq ?_)
 refine aT (fun m a w => ∃ (k : Nat), m = l.length - k ∧ (k ≤ l.length) ∧ (bH 0 l = bH (prevT l k) (l.drop k)) ∧ Fr 34 [(1, pt w0.hz), (7, lv), (8, iv (l.length : Int)), (3, iv (prevT l k)), (9, iv (k : Int))] [] a ∧ St No w0 [blk w0.hz [iv o, lv] 25] w) _ ⟨0, rfl, Nat.zero_le _, rfl, Z.pick [1, 7, 8, 3, 9], Y.select [0] de⟩ ?_
 rintro _ a w2 ⟨k, rfl, hk, hs, Z, Y⟩
 refine aa fun K5 hK5 => wlv Z (v_lt rfl rfl) fun a Z => ab (hK5 _ _ <| ah fun K6 hK6 => ?_)
 refine ax Z rfl (fun hc1 => ?_) (fun hc1 => ?_)
 ·rw [hc1] at Z
  try simp only [qz] at hc1
  have hkx : k < l.length := by omega
  refine ap <| hK6 _ _ <| ah fun K7 hK7 => aq <| aa fun K8 hK8 => wlv Z ((aj (i := (k : Int)) (sT := 23) (Y.arg hlv) rfl rfl (runUnderlying23 _) (sizeOf48 _) om (by rw [List.length_map]; omega)).as (v' := slAddr lv (k * 5)) rfl) fun a Z => wlv Z ((aU (Y.arg hlv) (i := k) (by rw [List.length_map]; omega) rfl (isAgg48 _) (sizeOf48 _)).as (v' := .agg #[iv ((l.getD k Rec.z).t), iv ((l.getD k Rec.z).kind), iv ((l.getD k Rec.z).a), iv ((l.getD k Rec.z).b), sv ((l.getD k Rec.z).text)]) (by rw [bl Rec.z]; rfl)) fun a Z => aY Z Y de (zeroValue48 _) (cs := [iv 0, iv 0, iv 0, iv 0, .string (⟨#[]⟩)]) rfl ?_
  clear Z Y
  intro a w3 Z Y
  refine aL 0 Z Y rfl rfl rfl (sizeOf48 _) rfl (lb rfl) (ds := [iv ((l.getD k Rec.z).t), iv ((l.getD k Rec.z).kind), iv ((l.getD k Rec.z).a), iv ((l.getD k Rec.z).b), sv ((l.getD k Rec.z).text)]) rfl rfl ?_
  clear Z Y
  intro a w4 Z Y
  refine ab (hK8 _ _ <| ah fun K9 hK9 => ?_)
  refine aa fun K10 hK10 => wlv Z (aw (Y.g 0 rfl) rfl (isAgg48 _) (sizeOf48 _)) fun a Z => am Z Y de call64 rfl (fj (l.getD k Rec.z) _) ?_
  clear Z Y
  intro a w5 Z Y
  refine wlv Z (bp rfl) fun a Z => wlm Z rfl fun a Z => ?_
  rcases Bool.eq_false_or_eq_true (!((l.getD k Rec.z).ok)) with hb2 | hb2
  ·rw [hb2] at Z
   try simp only [qz] at hb2
   have hbad : bH 0 l = false := by rw [hs]; exact px hkx (by simpa using hb2)
   refine wln Z fun a Z => wln Z fun a Z => wln Z fun a Z => wln Z fun a Z => wlv Z (aA rfl rfl) fun a Z => ab (hK10 _ _ ?_)
   replace Z := Z.p6 1 7 8 9 5 21 rfl
   refine aD Z rfl ?_
   refine aa fun K11 hK11 => wla Z rfl fun a Z => ab (hK11 _ _ <| ao ?_)
   refine al Z results37 (ac rfl ag) ?_
   refine ⟨?_, Y.ext⟩
   simp only [retv]
   refine congrArg Value.bool ?_
   unfold logOk; rw [hbad]; rfl
  rw [hb2] at Z
  try simp only [qz] at hb2
  have hok : (l.getD k Rec.z).ok = true := by simpa using hb2
  refine wly Z (ai (v := pt w2.hz) rfl kr) fun a Z => wly Z (ld Y 0 rfl rfl (isAgg3 _) rfl) fun a Z => wly Z (ae rfl) fun a Z => wly Z (v_lt rfl rfl) fun a Z => wlv Z (au rfl rfl) fun a Z => ab (hK10 _ _ ?_)
  replace Z := Z.p6 1 7 8 9 5 21 rfl
  refine ax Z rfl (fun hc3 => ?_) (fun hc3 => ?_)
  ·rw [hc3] at Z
   try simp only [qz] at hc3
   have hbad : bH 0 l = false := by rw [hs]; exact pr hkx hc3
   refine aa fun K12 hK12 => wla Z rfl fun a Z => ab (hK12 _ _ <| ao ?_)
   refine al Z results37 (ac rfl ag) ?_
   refine ⟨?_, Y.ext⟩
   simp only [retv]
   refine congrArg Value.bool ?_
   unfold logOk; rw [hbad]; rfl
  rw [hc3] at Z
  try simp only [qz] at hc3
  have hgo : prevT l k ≤ (l.getD k Rec.z).t := by omega
  refine ap <| hK9 _ _ <| ar <| wlv Z (ai (v := pt w2.hz) rfl kr) fun a Z => wlv Z (ld Y 0 rfl rfl (isAgg3 _) rfl) fun a Z => wla Z rfl fun a Z => ab <| hK7 _ _ <| ar <| wlv Z (aV rfl rfl ⟨om, om⟩) fun a Z => wlm Z rfl fun a Z => ab ?_
  refine ⟨_, ?_, k + 1, rfl, om, (by rw [hs]; exact np hkx hok hgo), Z.pick [1, 7, 8, 3, 9], Y.select [1] de⟩
  omega
 rw [hc1] at Z
 try simp only [qz] at hc1
 have hall : bH 0 l = true := by rw [hs, show k = l.length by omega, List.drop_length]; rfl
 refine aM <| hK3 _ _ <| aa fun K13 hK13 => wlv Z (ai (v := pt w0.hz) rfl kr) fun a Z => wlv Z (ld Y 0 rfl rfl (isAgg3 _) rfl) fun a Z => am Z Y de call49 rfl (dW o 0 99 _) ?_
 clear Z Y
 intro a w6 Z Y
 refine wlm Z rfl fun a Z => ?_
 rcases Bool.eq_false_or_eq_true (inB o 0 99) with hb4 | hb4
 ·rw [hb4] at Z
  try simp only [qz] at hb4
  refine wly Z (ai (v := po w0.hz 1) rfl kr) fun a Z => wly Z (ld Y 0 rfl rfl (isAgg23 _) rfl) fun a Z => wly Z ((aB (sT := 23) (Y.arg hlv) rfl rfl (runUnderlying23 _)).asi (m' := (l.length : Int)) (by rw [List.length_map])) fun a Z => wly Z (v_le rfl rfl) fun a Z => wlv Z (aA rfl rfl) fun a Z => wla Z rfl fun a Z => ab (hK13 _ _ ?_)
  replace Z := Z.p1 2 rfl
  replace Y : St No w0 [] w6 := Y.mask [false]
  refine ao ?_
  refine al Z results37 (ac rfl ag) ?_
  refine ⟨?_, Y.ext⟩
  simp only [retv]
  refine congrArg Value.bool ?_
  unfold logOk; rw [hall, hb4]; simp only [Bool.true_and]; exact decide_eq_decide.2 om
 rw [hb4] at Z
 try simp only [qz] at hb4
 refine wln Z fun a Z => wln Z fun a Z => wln Z fun a Z => wln Z fun a Z => wlv Z (au rfl rfl) fun a Z => wla Z rfl fun a Z => ab (hK13 _ _ ?_)
 replace Z := Z.p1 2 rfl
 replace Y : St No w0 [] w6 := Y.mask [false]
 refine ao ?_
 refine al Z results37 (ac rfl ag) ?_
 refine ⟨?_, Y.ext⟩
 simp only [retv]
 refine congrArg Value.bool ?_
 unfold logOk; rw [hall, hb4]; rfl
theorem gl {M : Nat → Prop} {w0 : World} (T : TypeId) (b : Nat) (ad v lv : Value) (bs : By) (ns : List Int) (ws : World) (hlie : liesAt Tryz.prog Tryz.prog.depth T (2 / Tryz.prog.cellsOf T) 0 86 1 = true) (had : ad = .pointer none ∨ ad = pt b) (hns : smalls ns) (hnn : ns ≠ []) (hbn : bs.length + 9 * ns.length ≤ 1000000000) (Y : St M w0 [bld T b (ad) v bs, own lv 3 1 ((ns).map fun n => [iv n])] ws) :
  Ret Tryz.prog 65 #[pt b, lv] ws fun u w => u = .tuple #[] ∧ ∃ v2, St M w0 [bld T b (pt b) v2 (bs ++ puts ns)] w := by
 refine aC func65 rfl ntmps65 (lb rfl) fun a Z => ?_
 replace Z := Z.p2 0 1 rfl
 skip
 refine aa fun K1 hK1 => wlm Z rfl fun a Z => wlv Z ((aB (sT := 40) (Y.ow 1 rfl) rfl rfl (runUnderlying40 _)).asi (m' := (ns.length : Int)) (by rw [List.length_map])) fun a Z => wlm Z rfl fun a Z => ab (hK1 _ _ <| aq ?_)
 replace Y : St M w0 [bld T b ad v (bs ++ puts (ns.take 0)), own lv 3 1 ((ns).map fun n => [iv n])] ws := by rw [show bs ++ puts (ns.take 0) = bs from by simp [puts]]; exact Y
 refine aT (fun m a w => ∃ (k : Nat) (ad : Value) (v : Value), m = ns.length - k ∧ (k ≤ ns.length) ∧ (ad = .pointer none ∨ ad = pt b) ∧ (0 < k → ad = pt b) ∧ Fr 25 [(0, pt b), (8, lv), (9, iv (ns.length : Int)), (10, iv (k : Int))] [] a ∧ St M w0 [bld T b (ad) v (bs ++ puts (ns.take k)), own lv 3 1 ((ns).map fun n => [iv n])] w) _ ⟨0, ad, v, rfl, Nat.zero_le _, had, (fun h => absurd h (Nat.lt_irrefl 0)), Z.pick [0, 8, 9, 10], Y⟩ ?_
 rintro _ a w1 ⟨k, ad, v, rfl, hk, had, hak, Z, Y⟩
 refine aa fun K2 hK2 => wlv Z (v_lt rfl rfl) fun a Z => ab (hK2 _ _ <| ah fun K3 hK3 => ?_)
 refine ax Z rfl (fun hc1 => ?_) (fun hc1 => ?_)
 ·rw [hc1] at Z
  try simp only [qz] at hc1
  refine ap <| hK3 _ _ <| ah fun K4 hK4 => aq <| aa fun K5 hK5 => wlv Z ((aj (i := (k : Int)) (sT := 40) (Y.ow 1 rfl) rfl rfl (runUnderlying40 _) (sizeOf3 _) om (by rw [List.length_map]; omega)).as (v' := slAddr lv (k * 1)) rfl) fun a Z => wlv Z (ay (u := iv (ns.getD k 0)) (i := k) (j := 0) (Y.ow 1 rfl) (by rw [List.length_map]; omega) rfl (isAgg3 _) (by rw [bl (0 : Int)]; rfl)) fun a Z => wla Z rfl fun a Z => ab (hK5 _ _ <| aa fun K6 hK6 => ?_)
  refine wlm Z rfl fun a Z => am Z Y de call96 rfl (ip (ns.getD k 0) _ (hns _ (bD om))) ?_
  clear Z Y
  intro a w2 Z Y
  refine wlm Z rfl fun a Z => wlv Z (ak rfl rfl) fun a Z => wlv Z (ak rfl rfl) fun a Z => wla Z rfl fun a Z => wla Z rfl fun a Z => ab (hK6 _ _ ?_)
  replace Z := Z.p5 0 8 9 10 6 rfl
  refine ar <| wlm Z rfl fun a Z => wlv Z (bt rfl) fun a Z => wlv Z (ai (v := pt b) rfl kr) fun a Z => wlm Z rfl fun a Z => dr (R := fun u e' => u = .tuple #[iv ((putI (ns.getD k 0)).length : Int), .nilIface] ∧ ∃ v2, e' = bld T b (pt b) v2 ((bs ++ puts (ns.take k)) ++ (putI (ns.getD k 0)))) 0 Z Y rfl de call67 rfl (fun h => (gx T b _ _ _ _ _ hlie (had) (ll _) (by have h1 := gN (ns.take k); have h2 := (bA (ns.getD k 0)).2; rw [List.length_take] at h1; rw [List.length_append]; omega) h).mono fun u w ⟨h1, v2, h2⟩ => ⟨_, ⟨h1, v2, rfl⟩, h2⟩) ?_
  clear Z Y
  rintro a w3 _ _ ⟨rfl, v2, rfl⟩ Z Y
  replace Y : St M w0 [_, _] w3 := Y
  refine ab <| hK4 _ _ ?_
  replace Z := Z.p4 0 8 9 10 rfl
  refine ar <| wlv Z (aV rfl rfl ⟨om, om⟩) fun a Z => wlm Z rfl fun a Z => ab ?_
  replace Y : St M w0 [bld T b (pt b) v2 (bs ++ puts (ns.take (k + 1))), own lv 3 1 ((ns).map fun n => [iv n])] w3 := by rw [show bs ++ puts (ns.take (k + 1)) = (bs ++ puts (ns.take k)) ++ (putI (ns.getD k 0)) from by rw [bU 0 om, mJ, List.append_assoc]]; exact Y
  refine ⟨_, ?_, k + 1, pt b, v2, rfl, om, (.inr rfl), (fun _ => rfl), Z.pick [0, 8, 9, 10], Y⟩
  omega
 rw [hc1] at Z
 try simp only [qz] at hc1
 obtain rfl : k = ns.length := by omega
 rw [List.take_length] at Y
 obtain rfl := hak (List.length_pos_iff.2 hnn)
 refine aM ?_
 refine dE Z results65 ag ?_
 exact ⟨rfl, _, Y.select [0] de⟩
theorem pC (x : Rec) (w0 : World) (hok : x.ok = true) :
  Ret Tryz.prog 33 #[.agg #[iv x.t, iv x.kind, iv x.a, iv x.b, sv x.text]] w0 fun v w => v = .tuple #[sv x.enc, iv 0] ∧ Ext No w0 w := by
 have hle := Rec.len hok
 have hpl := gN [x.t, x.kind, x.a, x.b]
 have hq4 := bA (x.text.length : Int)
 have hq5 : (putS x.text).length ≤ 300 := by unfold putS; rw [List.length_append]; omega
 simp only [List.length_cons, List.length_nil] at hpl
 refine aC func33 rfl ntmps33 (lb rfl) fun a Z => ?_
 replace Z := Z.p1 0 rfl
 replace Y : St No w0 [] w0 := St.init w0
 refine aa fun K1 hK1 => bh Z Y de rfl (cs := [iv x.t, iv x.kind, iv x.a, iv x.b, sv x.text]) rfl ?_
 clear Z Y
 intro a w1 Z Y
 refine wla Z rfl fun a Z => wla Z rfl fun a Z => ab (hK1 _ _ <| ah fun K2 hK2 => ?_)
 refine aa fun K3 hK3 => wlv Z (aw (Y.g 0 rfl) rfl (isAgg48 _) (sizeOf48 _)) fun a Z => am Z Y de call64 rfl (fj x _) ?_
 clear Z Y
 intro a w2 Z Y
 refine wlv Z (bp rfl) fun a Z => ab (hK3 _ _ ?_)
 refine ax Z rfl (fun hc1 => ?_) (fun hc1 => ?_)
 ·rw [hc1] at Z
  try simp only [qz] at hc1
  simp [hok] at hc1
 rw [hc1] at Z
 try simp only [qz] at hc1
 refine ap <| hK2 _ _ <| aa fun K4 hK4 => aY Z Y de (zeroValue88 _) (cs := [.pointer none, .slice none 0 0]) rfl ?_
 clear Z Y
 intro a w3 Z Y
 refine ab (hK4 _ _ ?_)
 replace Y : St No w0 (own (.slice none 0 0) 5 1 [] :: [blk w2.hz [.pointer none, .slice none 0 0] 88, blk w0.hz [iv x.t, iv x.kind, iv x.a, iv x.b, sv x.text] 48]) w3 := Y.nil_own
 replace Y : St No w0 [blk w2.hz [.pointer none, .slice none 0 0] 88, own (.slice none 0 0) 5 1 ([]), blk w0.hz [iv x.t, iv x.kind, iv x.a, iv x.b, sv x.text] 48] w3 := Y.select [1, 0, 2] de
 replace Y : St No w0 [bld 88 w2.hz (.pointer none) (.slice none 0 0) ([] : By), blk w0.hz [iv x.t, iv x.kind, iv x.a, iv x.b, sv x.text] 48] w3 := St.join [blk w2.hz [.pointer none, .slice none 0 0] 88, own (.slice none 0 0) 5 1 ([])] [blk w0.hz [iv x.t, iv x.kind, iv x.a, iv x.b, sv x.text] 48] Y
 refine aa fun K5 hK5 => wlv Z (ai (v := pt w0.hz) rfl kr) fun a Z => wlv Z (ld Y 1 rfl rfl (isAgg3 _) rfl) fun a Z => wlv Z (ai (v := po w0.hz 1) rfl kr) fun a Z => wlv Z (ld Y 1 rfl rfl (isAgg3 _) rfl) fun a Z => wlv Z (ai (v := po w0.hz 2) rfl kr) fun a Z => wlv Z (ld Y 1 rfl rfl (isAgg3 _) rfl) fun a Z => wlv Z (ai (v := po w0.hz 3) rfl kr) fun a Z => wlv Z (ld Y 1 rfl rfl (isAgg3 _) rfl) fun a Z => aE (E := 3) (sz := 1) rfl [[iv x.t], [iv x.kind], [iv x.a], [iv x.b]] kr sm rfl de de Z Y ?_
 clear Z Y
 intro a w4 Z Y
 replace Y : St No w0 [bld 88 w2.hz (.pointer none) (.slice none 0 0) ([] : By), own (.slice (some ⟨w3.hz, 0, none⟩) 4 4) 3 1 ([[iv x.t], [iv x.kind], [iv x.a], [iv x.b]]), blk w0.hz [iv x.t, iv x.kind, iv x.a, iv x.b, sv x.text] 48] w4 := Y.select [1, 0, 2] de
 replace Y := St.join [bld 88 w2.hz (.pointer none) (.slice none 0 0) ([] : By), own (.slice (some ⟨w3.hz, 0, none⟩) 4 4) 3 1 ([[iv x.t], [iv x.kind], [iv x.a], [iv x.b]])] [blk w0.hz [iv x.t, iv x.kind, iv x.a, iv x.b, sv x.text] 48] Y
 refine dr (R := fun u e' => u = .tuple #[] ∧ ∃ v2, e' = bld 88 w2.hz (pt w2.hz) v2 (([] : By) ++ puts [x.t, x.kind, x.a, x.b])) 0 Z Y rfl de call65 rfl (fun h => (gl 88 w2.hz _ _ _ _ [x.t, x.kind, x.a, x.b] _ kr (.inl rfl) (Rec.smalls hok) sm sm (St.unjoin [bld 88 w2.hz (.pointer none) (.slice none 0 0) ([] : By), own (.slice (some ⟨w3.hz, 0, none⟩) 4 4) 3 1 ([[iv x.t], [iv x.kind], [iv x.a], [iv x.b]])] [] h)).mono fun u w ⟨h1, v2, h2⟩ => ⟨_, ⟨h1, v2, rfl⟩, h2⟩) ?_
 clear Z Y
 rintro a w5 _ _ ⟨rfl, v2, rfl⟩ Z Y
 replace Y : St No w0 [_, _] w5 := Y
 refine ab (hK5 _ _ ?_)
 replace Z := Z.p4 1 2 3 4 rfl
 refine aa fun K6 hK6 => wlv Z (ai (v := po w0.hz 4) rfl kr) fun a Z => wlv Z (ld Y 1 rfl rfl (isAgg9 _) rfl) fun a Z => am Z Y de call66 rfl (iQ x.text _ om) ?_
 clear Z Y
 intro a w6 Z Y
 refine wlm Z rfl fun a Z => wlv Z (ak rfl rfl) fun a Z => wlv Z (ak rfl rfl) fun a Z => wla Z rfl fun a Z => wla Z rfl fun a Z => ab (hK6 _ _ ?_)
 replace Z := Z.p4 2 3 4 5 rfl
 replace Y := Y.k1 1 rfl
 refine aa fun K7 hK7 => wlv Z (ai (v := pt w2.hz) rfl kr) fun a Z => wlm Z rfl fun a Z => dr (R := fun u e' => u = .tuple #[iv ((putS x.text).length : Int), .nilIface] ∧ ∃ v2, e' = bld 88 w2.hz (pt w2.hz) v2 ((([] : By) ++ puts [x.t, x.kind, x.a, x.b]) ++ (putS x.text))) 0 Z Y rfl de call67 rfl (fun h => (gx 88 w2.hz _ _ _ _ _ kr (.inr rfl) (lf _) (by rw [List.length_append, List.length_nil]; omega) h).mono fun u w ⟨h1, v2, h2⟩ => ⟨_, ⟨h1, v2, rfl⟩, h2⟩) ?_
 clear Z Y
 rintro a w7 _ _ ⟨rfl, v3, rfl⟩ Z Y
 replace Y : St No w0 [_] w7 := Y
 refine ab (hK7 _ _ <| aa fun K8 hK8 => ?_)
 refine wlv Z (ai (v := pt w2.hz) rfl kr) fun a Z => dr (R := fun u e' => u = sv ((([] : By) ++ puts [x.t, x.kind, x.a, x.b]) ++ (putS x.text)) ∧ e' = blk w2.hz [pt w2.hz, v3] 88) 0 Z Y rfl de call68 rfl (fun h => (gt 88 w2.hz _ _ _ (oc (lf _)) h).mono fun u w ⟨h1, h2⟩ => ⟨_, ⟨h1, rfl⟩, h2⟩) ?_
 clear Z Y
 rintro a w8 _ _ ⟨rfl, rfl⟩ Z Y
 replace Y : St No w0 [_] w8 := Y
 refine wla Z rfl fun a Z => wla Z rfl fun a Z => ab (hK8 _ _ ?_)
 replace Z := Z.p2 2 3 rfl
 refine ao ?_
 refine al Z results33 (ac rfl (ac rfl ag)) ?_
 exact ⟨by simp only [retv]; simp [Rec.enc], Y.ext⟩
theorem oK (x : Rec) (w0 : World) (hok : x.ok = false) :
  Ret Tryz.prog 33 #[.agg #[iv x.t, iv x.kind, iv x.a, iv x.b, sv x.text]] w0 fun v w => v = .tuple #[sv ([] : By), iv 110] ∧ Ext No w0 w := by
 refine aC func33 rfl ntmps33 (lb rfl) fun a Z => ?_
 replace Z := Z.p1 0 rfl
 replace Y : St No w0 [] w0 := St.init w0
 refine aa fun K1 hK1 => bh Z Y de rfl (cs := [iv x.t, iv x.kind, iv x.a, iv x.b, sv x.text]) rfl ?_
 clear Z Y
 intro a w1 Z Y
 refine wla Z rfl fun a Z => wla Z rfl fun a Z => ab (hK1 _ _ <| ah fun K2 hK2 => ?_)
 refine aa fun K3 hK3 => wlv Z (aw (Y.g 0 rfl) rfl (isAgg48 _) (sizeOf48 _)) fun a Z => am Z Y de call64 rfl (fj x _) ?_
 clear Z Y
 intro a w2 Z Y
 refine wlv Z (bp rfl) fun a Z => ab (hK3 _ _ ?_)
 refine ax Z rfl (fun hc1 => ?_) (fun hc1 => ?_)
 ·rw [hc1] at Z
  try simp only [qz] at hc1
  refine aa fun K4 hK4 => wla Z rfl fun a Z => wla Z rfl fun a Z => ab (hK4 _ _ <| ao ?_)
  refine al Z results33 (ac rfl (ac rfl ag)) ?_
  exact ⟨by rfl, Y.ext⟩
 rw [hc1] at Z
 try simp only [qz] at hc1
 simp [hok] at hc1
theorem jg (x : Rec) (w0 : World) : Ret Tryz.prog 33 #[.agg #[iv x.t, iv x.kind, iv x.a, iv x.b, sv x.text]] w0 fun v w => v = .tuple #[sv (eB x), iv (eE x)] ∧ Ext No w0 w := by
 unfold eB eE
 cases h : x.ok with
 | true => rw [if_pos rfl, if_pos rfl]; exact pC x w0 h
 | false => rw [if_neg sm, if_neg sm]; exact oK x w0 h
theorem nL (key : By) (o n : Int) (root : By) (w0 : World) (ho : small o) (hn : small n) (hr : root.length = 32) (hk : key.length ≤ 1000) (hk0 : (blk 0 (kOf.map wv) 161).ok w0) :
  Ret Tryz.prog 46 #[sv key, iv o, iv n, sv root] w0 fun v w => v = sv (tagR sha key o n root) ∧ Ext No w0 w := by
 have hpl := gN [o, n]
 simp only [List.length_cons, List.length_nil] at hpl
 have hsm : smalls [o, n] := by intro z hz; simp only [List.mem_cons, List.not_mem_nil, or_false] at hz; rcases hz with rfl | rfl; exact ho; exact hn
 have hxl : (([] : By) ++ puts [o, n] ++ root).length ≤ 60 := by simp only [List.length_append, List.length_nil]; omega
 refine aC func46 rfl ntmps46 (lb rfl) fun a Z => ?_
 replace Z := Z.p4 0 1 2 3 rfl
 replace Y : St No w0 [] w0 := St.init w0
 refine aa fun K1 hK1 => wla Z rfl fun a Z => ab (hK1 _ _ <| aa fun K2 hK2 => ?_)
 refine aY Z Y de (zeroValue88 _) (cs := [.pointer none, .slice none 0 0]) rfl ?_
 clear Z Y
 intro a w1 Z Y
 refine ab (hK2 _ _ ?_)
 replace Y : St No w0 (own (.slice none 0 0) 5 1 [] :: [blk w0.hz [.pointer none, .slice none 0 0] 88]) w1 := Y.nil_own
 replace Y : St No w0 [blk w0.hz [.pointer none, .slice none 0 0] 88, own (.slice none 0 0) 5 1 ([])] w1 := Y.select [1, 0] de
 replace Y : St No w0 [bld 88 w0.hz (.pointer none) (.slice none 0 0) ([] : By)] w1 := St.join [blk w0.hz [.pointer none, .slice none 0 0] 88, own (.slice none 0 0) 5 1 ([])] [] Y
 refine aa fun K3 hK3 => wlm Z rfl fun a Z => wlm Z rfl fun a Z => aE (E := 3) (sz := 1) rfl [[iv o], [iv n]] kr sm rfl de de Z Y ?_
 clear Z Y
 intro a w2 Z Y
 replace Y : St No w0 [bld 88 w0.hz (.pointer none) (.slice none 0 0) ([] : By), own (.slice (some ⟨w1.hz, 0, none⟩) 2 2) 3 1 ([[iv o], [iv n]])] w2 := Y.select [1, 0] de
 replace Y := St.join [bld 88 w0.hz (.pointer none) (.slice none 0 0) ([] : By), own (.slice (some ⟨w1.hz, 0, none⟩) 2 2) 3 1 ([[iv o], [iv n]])] [] Y
 refine dr (R := fun u e' => u = .tuple #[] ∧ ∃ v2, e' = bld 88 w0.hz (pt w0.hz) v2 (([] : By) ++ puts [o, n])) 0 Z Y rfl de call65 rfl (fun h => (gl 88 w0.hz _ _ _ _ [o, n] _ kr (.inl rfl) (hsm) sm sm (St.unjoin [bld 88 w0.hz (.pointer none) (.slice none 0 0) ([] : By), own (.slice (some ⟨w1.hz, 0, none⟩) 2 2) 3 1 ([[iv o], [iv n]])] [] h)).mono fun u w ⟨h1, v2, h2⟩ => ⟨_, ⟨h1, v2, rfl⟩, h2⟩) ?_
 clear Z Y
 rintro a w3 _ _ ⟨rfl, v1, rfl⟩ Z Y
 replace Y : St No w0 [_] w3 := Y
 refine ab (hK3 _ _ ?_)
 replace Z := Z.p4 0 3 8 9 rfl
 refine aa fun K4 hK4 => wlv Z (ai (v := pt w0.hz) rfl kr) fun a Z => wlm Z rfl fun a Z => dr (R := fun u e' => u = .tuple #[iv (root.length : Int), .nilIface] ∧ ∃ v2, e' = bld 88 w0.hz (pt w0.hz) v2 ((([] : By) ++ puts [o, n]) ++ root)) 0 Z Y rfl de call67 rfl (fun h => (gx 88 w0.hz _ _ _ _ _ kr (.inr rfl) (lm hr) (by rw [List.length_append, List.length_nil]; omega) h).mono fun u w ⟨h1, v2, h2⟩ => ⟨_, ⟨h1, v2, rfl⟩, h2⟩) ?_
 clear Z Y
 rintro a w4 _ _ ⟨rfl, v2, rfl⟩ Z Y
 replace Y : St No w0 [_] w4 := Y
 refine ab (hK4 _ _ <| aa fun K5 hK5 => ?_)
 refine wlm Z rfl fun a Z => wlv Z (ai (v := pt w0.hz) rfl kr) fun a Z => dr (R := fun u e' => u = sv ((([] : By) ++ puts [o, n]) ++ root) ∧ e' = blk w0.hz [pt w0.hz, v2] 88) 0 Z Y rfl de call68 rfl (fun h => (gt 88 w0.hz _ _ _ (oc (lm hr)) h).mono fun u w ⟨h1, h2⟩ => ⟨_, ⟨h1, rfl⟩, h2⟩) ?_
 clear Z Y
 rintro a w5 _ _ ⟨rfl, rfl⟩ Z Y
 replace Y : St No w0 [_] w5 := Y
 refine am Z Y de call75 rfl (iF ((([] : By) ++ puts [o, n]) ++ root) _ om (Y.keepb hk0)) ?_
 clear Z Y
 intro a w6 Z Y
 refine am Z Y de call76 rfl (eW key (leafH sha ((([] : By) ++ puts [o, n]) ++ root)) _ om (by first | omega | (rw [gA bE]; decide)) (Y.keepb hk0)) ?_
 clear Z Y
 intro a w7 Z Y
 refine wla Z rfl fun a Z => ab (hK5 _ _ ?_)
 replace Z := Z.p1 8 rfl
 refine ao ?_
 refine al Z results46 (ac rfl ag) ?_
 exact ⟨by simp only [retv]; simp [tagR, dc, nodeH], Y.ext⟩
theorem lW {M : Nat → Prop} {w0 : World} (o : Int) (lv : Value) (l : List Rec) (lp b1 : Nat) (J Jx : List Nat → Ent → Prop) (hY : Rounds Tryz.prog M w0 lp (encRb l) (NxB l.length) J Jx) (e0 : Ent) (ws : World) (hn : l.length ≤ 1000000) (hlv : ∀ (H : List Ent) (w : World), St M w0 H w → SlAt w lv 5 (l.map Rec.cells)) (hJ : J [] e0) (Y : St M w0 [e0, blk b1 [iv o, lv] 25] ws) :
  Ret Tryz.prog 98 #[.func (.yield lp) #[] #[], pt b1] ws fun _ w => ∃ e1 Hi1, St M w0 (e1 :: Hi1) w ∧ ((∃ ys, (ys = backs l.length l.length ∧ Hi1 = [blk b1 [iv o, lv] 25]) ∧ J ys e1) ∨ (∃ pre, Hi1 = [blk b1 [iv o, lv] 25] ∧ Jx pre e1)) := by
 refine aC func98 rfl ntmps98 (lb rfl) fun a Z => ?_
 replace Z := Z.p2 0 1 rfl
 skip
 refine aa fun K1 hK1 => wlv Z (ai (v := po b1 1) rfl kr) fun a Z => wlv Z (ld Y 1 rfl rfl (isAgg23 _) rfl) fun a Z => wlv Z ((aB (sT := 23) (hlv _ _ Y) rfl rfl (runUnderlying23 _)).asi (m' := (l.length : Int)) (by rw [List.length_map])) fun a Z => wlv Z (bq rfl rfl ⟨om, om⟩) fun a Z => wla Z rfl fun a Z => ab (hK1 _ _ <| aq ?_)
 rw [show (l.length : Int) - 1 = (l.length : Int) - 1 - ((0 : Nat) : Int) from by omega] at Z
 refine aT (fun m a w => ∃ (j : Nat) (e : Ent), m = l.length - j ∧ (j ≤ l.length) ∧ (J (backs l.length j) e) ∧ Fr 21 [(0, .func (.yield lp) #[] #[]), (1, pt b1), (3, iv ((l.length : Int) - 1 - (j : Int)))] [] a ∧ St M w0 [e, blk b1 [iv o, lv] 25] w) _ ⟨0, e0, rfl, Nat.zero_le _, hJ, Z.pick [0, 1, 3], Y⟩ ?_
 rintro _ a w1 ⟨j, e, rfl, hj, hJ, Z, Y⟩
 refine ah fun K2 hK2 => aa fun K3 hK3 => wlm Z rfl fun a Z => wlv Z (v_ge rfl rfl) fun a Z => ab (hK3 _ _ ?_)
 refine ax Z rfl (fun hc1 => ?_) (fun hc1 => ?_)
 ·rw [hc1] at Z
  try simp only [qz] at hc1
  have hjl : j < l.length := by omega
  refine ap <| hK2 _ _ <| ah fun K4 hK4 => aq ?_
  have hidx : (l.length : Int) - 1 - (j : Int) = ((l.length - 1 - j : Nat) : Int) := by omega
  refine aa fun K5 hK5 => wlm Z rfl fun a Z => wlm Z rfl fun a Z => wlv Z (ai (v := po b1 1) rfl kr) fun a Z => wlv Z (ld Y 1 rfl rfl (isAgg23 _) rfl) fun a Z => wlm Z rfl fun a Z => wlv Z ((aj (i := (l.length : Int) - 1 - (j : Int)) (sT := 23) (hlv _ _ Y) rfl rfl (runUnderlying23 _) (sizeOf48 _) om (by rw [List.length_map]; omega)).as (v' := slAddr lv ((l.length - 1 - j) * 5)) (by rw [show ((l.length : Int) - 1 - (j : Int)).toNat = (l.length - 1 - j) from by omega])) fun a Z => wlv Z ((aU (hlv _ _ Y) (i := (l.length - 1 - j)) (by rw [List.length_map]; omega) rfl (isAgg48 _) (sizeOf48 _)).as (v' := .agg #[iv ((l.getD (l.length - 1 - j) Rec.z).t), iv ((l.getD (l.length - 1 - j) Rec.z).kind), iv ((l.getD (l.length - 1 - j) Rec.z).a), iv ((l.getD (l.length - 1 - j) Rec.z).b), sv ((l.getD (l.length - 1 - j) Rec.z).text)]) (by rw [bl Rec.z]; rfl)) fun a Z => ?_
  rw [hidx] at Z
  refine wl_r (eY rfl rfl (hY.yield (pre := backs l.length j) (x := l.length - 1 - j) (by show l.length - 1 - j + 1 + (backs l.length j).length = l.length; rw [dS]; omega) hJ (Y.only (i := 0) rfl))) rfl rfl Z ?_
  clear Z
  intro a v w2 hR Z
  obtain ⟨y2, e3, rfl, hx, hok, hft, hJt, hJf⟩ := hR
  replace Y := Y.exchange (k := 0) rfl hx hok hft
  replace Y : St M w0 [_, _] w2 := Y
  clear hx hok hft
  refine wlv Z (bp rfl) fun a Z => ab (hK5 _ _ ?_)
  replace Z := Z.p4 0 1 3 20 rfl
  refine ax Z rfl (fun hc4 => ?_) (fun hc4 => ?_)
  ·rw [hc4] at Z
   try simp only [qz] at hc4
   have hJ := hJf hc4
   refine ao ?_
   refine al Z results98 ag ?_
   exact ⟨_, _, Y, .inr ⟨_, rfl, hJ⟩⟩
  rw [hc4] at Z
  try simp only [qz] at hc4
  have hJ := hJt hc4
  refine ap <| hK4 _ _ <| ar <| wlm Z rfl fun a Z => wlv Z (bq rfl rfl ⟨om, om⟩) fun a Z => wla Z rfl fun a Z => ab ?_
  rw [show ((l.length - 1 - j : Nat) : Int) - 1 = (l.length : Int) - 1 - ((j + 1 : Nat) : Int) from by omega] at Z
  refine ⟨_, ?_, j + 1, e3, rfl, om, hJ, Z.pick [0, 1, 3], Y⟩
  omega
 rw [hc1] at Z
 try simp only [qz] at hc1
 obtain rfl : j = l.length := by omega
 refine aM ?_
 refine dE Z results98 ag ?_
 exact ⟨_, _, Y, .inl ⟨_, ⟨rfl, rfl⟩, hJ⟩⟩
theorem gR {M : Nat → Prop} {w0 : World} (o : Int) (lv : Value) (l : List Rec) (b1 : Nat) (hn : l.length ≤ 1000000) (hlv : ∀ (H : List Ent) (w : World), St M w0 H w → SlAt w lv 5 (l.map Rec.cells)) :
  Iter Tryz.prog 98 [pt b1] (encRb l) (NxB l.length) (fun ys Hi => ys = backs l.length l.length ∧ Hi = [blk b1 [iv o, lv] 25]) (fun pre Hi => Hi = [blk b1 [iv o, lv] 25]) M w0 [blk b1 [iv o, lv] 25] :=
 fun lp J Jx w e hY hJ Y => lW o lv l lp b1 J Jx hY e w hn hlv hJ Y
theorem kg (o : Int) (lv : Value) (w0 : World) (l : List Rec) (hlv : SlAt w0 lv 5 (l.map Rec.cells)) :
  Ret Tryz.prog 74 #[.agg #[iv o, lv]] w0 (MemR w0 (fun z : Nat => .func (.func 98) #[] #[pt z]) (fun z => [blk z [iv o, lv] 25]) (fun _ => True)) := by
 refine aC func74 rfl ntmps74 (lb rfl) fun a Z => ?_
 replace Z := Z.p1 0 rfl
 replace Y : St No w0 [] w0 := St.init w0
 refine aa fun K1 hK1 => bh Z Y de rfl (cs := [iv o, lv]) rfl ?_
 clear Z Y
 intro a w1 Z Y
 refine wla Z rfl fun a Z => ab (hK1 _ _ <| aa fun K2 hK2 => ?_)
 refine wlv Z (cG rfl rfl) fun a Z => wla Z rfl fun a Z => ab (hK2 _ _ <| ao ?_)
 refine al Z results74 (ac rfl ag) ?_
 exact ⟨w0.hz, rfl, trivial, Y.ext, St.out (H := []) Y⟩
section
variable {f : Rec → Bool} {l : List Rec} {pre : List Nat} {x : Nat}
theorem pD (hnx : NxB l.length pre x) (h : findF f l l.length = findF f l (l.length - pre.length)) (hf : f (l.getD x Rec.z) = false) : findF f l l.length = findF f l (l.length - (pre ++ [x]).length) := by
 unfold NxB at hnx
 rw [h, show l.length - pre.length = x + 1 from by omega, findF, if_neg (by rw [hf]; decide), List.length_append, List.length_singleton, show l.length - (pre.length + 1) = x from by omega]
theorem oF (hnx : NxB l.length pre x) (h : findF f l l.length = findF f l (l.length - pre.length)) (hf : f (l.getD x Rec.z) = true) : findF f l l.length = (x : Int) := by
 unfold NxB at hnx
 rw [h, show l.length - pre.length = x + 1 from by omega, findF, if_pos hf]
theorem pn (h : findF f l l.length = findF f l (l.length - (backs l.length l.length).length)) : findF f l l.length = -1 := by
 rw [h, dS, Nat.sub_self]; rfl
end
def outR (l : List Rec) (n : Nat) : List By := List.replicate (l.length - n) [] ++ codesB (l.drop (l.length - n))
theorem jE (l : List Rec) (n : Nat) (h : n ≤ l.length) : (outR l n).length = l.length := by
 rw [outR, List.length_append, List.length_replicate, cg, List.length_drop]; omega
theorem pQ (l : List Rec) : outR l 0 = List.replicate l.length [] := by
 rw [outR, Nat.sub_zero, List.drop_length]; simp [codesB]
theorem og (l : List Rec) : outR l (backs l.length l.length).length = codesB l := by
 rw [dS, outR, Nat.sub_self]; simp
theorem mX {l : List Rec} {pre : List Nat} {x : Nat} (hnx : NxB l.length pre x) : (outR l pre.length).set x (eB (l.getD x Rec.z)) = outR l (pre ++ [x]).length := by
 unfold NxB at hnx
 have e1 : l.length - pre.length = x + 1 := by omega
 have e2 : l.length - (pre ++ [x]).length = x := by rw [List.length_append, List.length_singleton]; omega
 unfold outR
 rw [e1, e2, List.replicate_succ', List.append_assoc, List.set_append_right _ _ (by rw [List.length_replicate]; exact Nat.le_refl _), List.length_replicate, Nat.sub_self, fm (show x < l.length by omega)]
 rfl
theorem mZ {l : List Rec} {pre : List Nat} {x : Nat} (hnx : NxB l.length pre x) : ((outR l pre.length).map fun s => [sv s]).set x [sv (eB (l.getD x Rec.z))] = (outR l (pre ++ [x]).length).map fun s => [sv s] := by
 rw [← mX hnx, List.map_set]
theorem nw {l : List Rec} {pre : List Nat} {x : Nat} (hnx : NxB l.length pre x) (hk : x < ((outR l pre.length).map fun s => [sv s]).length) : ((outR l pre.length).map fun s => [sv s]).set x (splice ((outR l pre.length).map fun s => [sv s])[x] 0 [sv (eB (l.getD x Rec.z))]) = (outR l (pre ++ [x]).length).map fun s => [sv s] := by
 rw [← mZ hnx]; congr 1; rw [List.getElem_map]; rfl
theorem eX (x : Int) (n : Int) (w0 : World) :
  Ret Tryz.prog 70 #[iv x, iv n, iv 0] w0 fun v w => v = .tuple #[iv x, iv n] ∧ Ext No w0 w := by
 refine aC func70 rfl ntmps70 (lb rfl) fun a Z => ?_
 replace Z := Z.p3 0 1 2 rfl
 replace Y : St No w0 [] w0 := St.init w0
 refine aa fun K1 hK1 => wla Z rfl fun a Z => wla Z rfl fun a Z => ab (hK1 _ _ <| ah fun K2 hK2 => ?_)
 refine aa fun K3 hK3 => wlm Z rfl fun a Z => wlv Z ((v_ne rfl rfl).asb (b' := false) rfl) fun a Z => ab (hK3 _ _ <| aG Z rfl ?_)
 refine ap <| hK2 _ _ <| aa fun K4 hK4 => wlm Z rfl fun a Z => wlm Z rfl fun a Z => wla Z rfl fun a Z => wla Z rfl fun a Z => ab (hK4 _ _ ?_)
 replace Z := Z.p2 6 7 rfl
 refine ao ?_
 refine al Z results70 (ac rfl (ac rfl ag)) ?_
 exact ⟨by rfl, Y.ext⟩
theorem ew (x : Int) (n : Int) (w0 : World) :
  Pan Tryz.prog 70 #[iv x, iv n, iv 10] w0 fun c w => c = [{ v := .iface 97 (.agg #[]), recovered := false }] ∧ Ext No w0 w := by
 refine oe func70 rfl ntmps70 (lb rfl) fun a Z => ?_
 replace Z := Z.p3 0 1 2 rfl
 replace Y : St No w0 [] w0 := St.init w0
 refine aa fun K1 hK1 => wla Z rfl fun a Z => wla Z rfl fun a Z => ab (hK1 _ _ <| ah fun K2 hK2 => ?_)
 refine aa fun K3 hK3 => wlm Z rfl fun a Z => wlv Z ((v_ne rfl rfl).asb (b' := true) rfl) fun a Z => ab (hK3 _ _ <| aD Z rfl ?_)
 refine cf ?_
 refine bX 2 ?_
 refine wlv Z (bx (v := .agg #[]) rfl kr) fun a Z => wlv Z (dC rfl underlying97) fun a Z => ab <| ff Z rfl ?_
 exact gj (X := fun c w => c = [{ v := .iface 97 (.agg #[]), recovered := false }] ∧ Ext No w0 w) Z ⟨rfl, Y.ext⟩
theorem mO (x : By) (n : Int) (w0 : World) :
  Ret Tryz.prog 72 #[sv x, iv n, iv 0] w0 fun v w => v = .tuple #[sv x, iv n] ∧ Ext No w0 w := by
 refine aC func72 rfl ntmps72 (lb rfl) fun a Z => ?_
 replace Z := Z.p3 0 1 2 rfl
 replace Y : St No w0 [] w0 := St.init w0
 refine aa fun K1 hK1 => wla Z rfl fun a Z => wla Z rfl fun a Z => ab (hK1 _ _ <| ah fun K2 hK2 => ?_)
 refine aa fun K3 hK3 => wlm Z rfl fun a Z => wlv Z ((v_ne rfl rfl).asb (b' := false) rfl) fun a Z => ab (hK3 _ _ <| aG Z rfl ?_)
 refine ap <| hK2 _ _ <| aa fun K4 hK4 => wlm Z rfl fun a Z => wlm Z rfl fun a Z => wla Z rfl fun a Z => wla Z rfl fun a Z => ab (hK4 _ _ ?_)
 replace Z := Z.p2 6 7 rfl
 refine ao ?_
 refine al Z results72 (ac rfl (ac rfl ag)) ?_
 exact ⟨by rfl, Y.ext⟩
theorem lQ (x : By) (n : Int) (w0 : World) :
  Pan Tryz.prog 72 #[sv x, iv n, iv 10] w0 fun c w => c = [{ v := .iface 97 (.agg #[]), recovered := false }] ∧ Ext No w0 w := by
 refine oe func72 rfl ntmps72 (lb rfl) fun a Z => ?_
 replace Z := Z.p3 0 1 2 rfl
 replace Y : St No w0 [] w0 := St.init w0
 refine aa fun K1 hK1 => wla Z rfl fun a Z => wla Z rfl fun a Z => ab (hK1 _ _ <| ah fun K2 hK2 => ?_)
 refine aa fun K3 hK3 => wlm Z rfl fun a Z => wlv Z ((v_ne rfl rfl).asb (b' := true) rfl) fun a Z => ab (hK3 _ _ <| aD Z rfl ?_)
 refine cf ?_
 refine bX 2 ?_
 refine wlv Z (bx (v := .agg #[]) rfl kr) fun a Z => wlv Z (dC rfl underlying97) fun a Z => ab <| ff Z rfl ?_
 exact gj (X := fun c w => c = [{ v := .iface 97 (.agg #[]), recovered := false }] ∧ Ext No w0 w) Z ⟨rfl, Y.ext⟩
theorem mI {P : Program} {w : World} {L : List (Nat × Value)} {dst : Option Tmp} {T T' ty : TypeId} {pos : String} {af : Array Edge} {x y : Operand} (hx : ev L x = some .nilIface) (hy : ev L y = some .nilIface) (hr : (binOp .eql T .nilIface .nilIface).run P w = .ok (.bool true) w) (hg : (eqGuard .eql T x y .nilIface .nilIface).run P w = .ok () w) : OpV P ⟨dst, .binOp .eql T x y T', ty, pos, af, none⟩ L w (.bool true) :=
 ⟨rfl, fun N df a h => by
  simp only [execOp, h.eval hx, h.eval hy, Sem.run_bind, hg, hr, Result.andThen_ok]; rfl⟩
theorem dv {M : Nat → Prop} {w0 : World} (b2 b3 : Nat) (c0 c1 c2 c3 c4 c5 : Value) (ws : World) (Y : St M w0 [blk b2 [c0, c1, c2, c3, c4] 48, blk b3 [c5] 33] ws) :
  CallsDIn Fence.wide 0 Tryz.prog 69 #[pt b2, pt b3] (.panicking [{ v := .iface 97 (.agg #[]), recovered := false }]) ws fun e u' w => u' = (.panicking [{ v := .iface 97 (.agg #[]), recovered := true }]) ∧ ∃ x, e = .returned x ∧ St M w0 [blk b2 [iv 0, iv 0, iv 0, iv 0, sv ([] : By)] 48, blk b3 [iv 110] 33] w  := by
 refine nd (args := [pt b2, pt b3]) func69 rfl ntmps69 (lb rfl) rfl rfl de (fun _ _ => rfl) (.inr ⟨rfl, rfl⟩) fun a Z => ?_
 replace Z := Z.p3 5 0 1 rfl
 skip
 refine aq <| aa fun K1 hK1 => wlv Z (kI rfl rfl kr kr) fun a Z => ab (hK1 _ _ <| aG Z rfl ?_)
 refine aa fun K2 hK2 => wlv Z (iJ rfl underlying97) fun a Z => wlv Z (ak rfl rfl) fun a Z => wlv Z (ak rfl rfl) fun a Z => ab (hK2 _ _ <| aD Z rfl ?_)
 refine aa fun K3 hK3 => aY Z Y de (zeroValue97 _) (cs := []) rfl ?_
 clear Z Y
 intro a w1 Z Y
 refine aL 0 Z Y rfl rfl rfl (sizeOf97 _) rfl (lb rfl) (ds := []) rfl rfl ?_
 clear Z Y
 intro a w2 Z Y
 refine ab (hK3 _ _ ?_)
 replace Z := Z.p2 0 1 rfl
 replace Y := Y.k2 6 rfl
 refine ar <| wlv Z (bx (v := .agg #[iv 0, iv 0, iv 0, iv 0, .string (⟨#[]⟩)]) rfl kr) fun a Z => aL 0 Z Y rfl rfl rfl (sizeOf48 _) rfl (lb rfl) (ds := [iv 0, iv 0, iv 0, iv 0, .string (⟨#[]⟩)]) rfl rfl ?_
 clear Z Y
 intro a w3 Z Y
 refine aL 1 Z Y rfl rfl rfl (sizeOf33 _) rfl (lb rfl) (ds := [iv 110]) rfl rfl ?_
 clear Z Y
 intro a w4 Z Y
 refine ab ?_
 refine jG Z results69 ag ?_
 exact Y.select [0, 1] de
theorem ng (b2 b3 : Nat) (ws : World) :
  CallsDIn Fence.wide 0 Tryz.prog 69 #[pt b2, pt b3] .returning ws fun e u' w => u' = .returning ∧ ∃ x, e = .returned x ∧ Ext No ws w  := by
 refine nd (args := [pt b2, pt b3]) func69 rfl ntmps69 (lb rfl) rfl rfl de (fun _ _ => rfl) (.inl ⟨rfl, rfl, rfl⟩) fun a Z => ?_
 replace Z := Z.p3 5 0 1 rfl
 replace Y : St No ws [] ws := St.init ws
 refine aq <| aa fun K1 hK1 => wlv Z (mI rfl rfl kr kr) fun a Z => ab (hK1 _ _ <| aD Z rfl ?_)
 refine ar <| wla Z rfl fun a Z => ab ?_
 refine jG Z results69 ag ?_
 exact Y.ext
theorem pR (s : By) (w0 : World) (hsl : s.length ≤ 1000000) :
  Ret Tryz.prog 34 #[sv s] w0 fun v w => v = .tuple #[.agg (decX s).cells.toArray, iv (decE s)] ∧ Ext No w0 w := by
 refine oC func34 rfl ntmps34 (lb rfl) fun a Z => ?_
 replace Z := Z.p1 0 rfl
 replace Y : St No w0 [] w0 := St.init w0
 refine aa fun K1 hK1 => aY Z Y de (zeroValue48 _) (cs := [iv 0, iv 0, iv 0, iv 0, .string (⟨#[]⟩)]) rfl ?_
 clear Z Y
 intro a w1 Z Y
 refine aY Z Y de (zeroValue33 _) (cs := [iv 0]) rfl ?_
 clear Z Y
 intro a w2 Z Y
 refine ab (hK1 _ _ <| aa fun K2 hK2 => ?_)
 refine wlv Z (cG rfl rfl) fun a Z => ni Z rfl fun a Z => ab (hK2 _ _ <| aa fun K3 hK3 => ?_)
 refine wla Z rfl fun a Z => ab (hK3 _ _ <| ah fun K4 hK4 => ?_)
 refine aa fun K5 hK5 => wlv Z (ai (v := pt w0.hz) rfl kr) fun a Z => wlv Z (ai (v := po w0.hz 1) rfl kr) fun a Z => wlv Z (ai (v := po w0.hz 2) rfl kr) fun a Z => wlv Z (ai (v := po w0.hz 3) rfl kr) fun a Z => wlv Z (bx (v := .agg #[pt w0.hz, po w0.hz 1, po w0.hz 2, po w0.hz 3]) rfl kr) fun a Z => wlm Z rfl fun a Z => ab (hK5 _ _ <| aq ?_)
 refine di 6 ?_
 refine bF ?_
 refine aa fun K6 hK6 => wlv Z ((v_lt rfl rfl).asb (b' := true) rfl) fun a Z => ab (hK6 _ _ <| ah fun K7 hK7 => ?_)
 refine aD Z rfl ?_
 refine ap <| hK7 _ _ <| ah fun K8 hK8 => aq <| aa fun K9 hK9 => wlv Z (eD (v := pt w0.hz) rfl rfl kr) fun a Z => wla Z rfl fun a Z => ab (hK9 _ _ ?_)
 replace Z := Z.p7 0 2 3 4 12 13 6 rfl
 refine cf ?_
 refine bX 7 ?_
 refine wlm Z rfl fun a Z => wlm Z rfl fun a Z => wlm Z rfl fun a Z => ?_
 rcases Bool.eq_false_or_eq_true ((rdI s).isSome) with hb1 | hb1
 ·try simp only [qz] at hb1
  obtain ⟨⟨n1, r1⟩, hq1⟩ := Option.isSome_iff_exists.1 hb1
  have hd1 := ny.trans (fX hq1)
  have hsf1 := (dX hq1).trans (List.suffix_refl s)
  refine am Z Y de call71 rfl (ez sm (List.suffix_refl s) hsl hq1) ?_
  clear Z Y
  intro a w3 Z Y
  refine wlv Z (ak rfl rfl) fun a Z => wlv Z (ak rfl rfl) fun a Z => wlv Z (ak rfl rfl) fun a Z => ab <| bX 1 ?_
  refine am Z Y de call70 rfl (eX n1 ((s.length - r1.length : Nat) : Int) _) ?_
  clear Z Y
  intro a w4 Z Y
  refine ab <| jN ?_
  refine wlm Z rfl fun a Z => wlv Z (ak rfl rfl) fun a Z => wlv Z (ak rfl rfl) fun a Z => wlv Z (bt rfl) fun a Z => aL 1 Z Y rfl rfl rfl (sizeOf3 _) rfl (lb rfl) (ds := [iv n1, iv 0, iv 0, iv 0, .string (⟨#[]⟩)]) rfl rfl ?_
  clear Z Y
  intro a w5 Z Y
  refine wla Z rfl fun a Z => ab <| hK8 _ _ ?_
  replace Z := Z.p6 0 2 3 12 13 4 rfl
  refine ar <| wlv Z ((aV rfl rfl de).asi (m' := 1) rfl) fun a Z => wlm Z rfl fun a Z => ab <| bF ?_
  refine aa fun K10 hK10 => wlv Z ((v_lt rfl rfl).asb (b' := true) rfl) fun a Z => ab (hK10 _ _ <| ah fun K11 hK11 => ?_)
  refine aD Z rfl ?_
  refine ap <| hK11 _ _ <| ah fun K12 hK12 => aq <| aa fun K13 hK13 => wlv Z (eD (v := po w0.hz 1) rfl rfl kr) fun a Z => wla Z rfl fun a Z => ab (hK13 _ _ <| cf ?_)
  refine bX 7 ?_
  refine wlm Z rfl fun a Z => wlm Z rfl fun a Z => wlm Z rfl fun a Z => ?_
  rcases Bool.eq_false_or_eq_true ((rdI r1).isSome) with hb2 | hb2
  ·try simp only [qz] at hb2
   obtain ⟨⟨n2, r2⟩, hq2⟩ := Option.isSome_iff_exists.1 hb2
   have hd2 := hd1.trans (fX hq2)
   have hsf2 := (dX hq2).trans hsf1
   refine am Z Y de call71 rfl (ez rfl hsf1 hsl hq2) ?_
   clear Z Y
   intro a w6 Z Y
   refine wlv Z (ak rfl rfl) fun a Z => wlv Z (ak rfl rfl) fun a Z => wlv Z (ak rfl rfl) fun a Z => ab <| bX 1 ?_
   refine am Z Y de call70 rfl (eX n2 ((s.length - r2.length : Nat) : Int) _) ?_
   clear Z Y
   intro a w7 Z Y
   refine ab <| jN ?_
   refine wlm Z rfl fun a Z => wlv Z (ak rfl rfl) fun a Z => wlv Z (ak rfl rfl) fun a Z => wlv Z (bt rfl) fun a Z => aL 1 Z Y rfl rfl rfl (sizeOf3 _) rfl (lb rfl) (ds := [iv n1, iv n2, iv 0, iv 0, .string (⟨#[]⟩)]) rfl rfl ?_
   clear Z Y
   intro a w8 Z Y
   refine wla Z rfl fun a Z => ab <| hK12 _ _ ?_
   replace Z := Z.p6 0 2 3 12 13 4 rfl
   refine ar <| wlv Z ((aV rfl rfl de).asi (m' := 2) rfl) fun a Z => wlm Z rfl fun a Z => ab <| bF ?_
   refine aa fun K14 hK14 => wlv Z ((v_lt rfl rfl).asb (b' := true) rfl) fun a Z => ab (hK14 _ _ <| ah fun K15 hK15 => ?_)
   refine aD Z rfl ?_
   refine ap <| hK15 _ _ <| ah fun K16 hK16 => aq <| aa fun K17 hK17 => wlv Z (eD (v := po w0.hz 2) rfl rfl kr) fun a Z => wla Z rfl fun a Z => ab (hK17 _ _ <| cf ?_)
   refine bX 7 ?_
   refine wlm Z rfl fun a Z => wlm Z rfl fun a Z => wlm Z rfl fun a Z => ?_
   rcases Bool.eq_false_or_eq_true ((rdI r2).isSome) with hb3 | hb3
   ·try simp only [qz] at hb3
    obtain ⟨⟨n3, r3⟩, hq3⟩ := Option.isSome_iff_exists.1 hb3
    have hd3 := hd2.trans (fX hq3)
    have hsf3 := (dX hq3).trans hsf2
    refine am Z Y de call71 rfl (ez rfl hsf2 hsl hq3) ?_
    clear Z Y
    intro a w9 Z Y
    refine wlv Z (ak rfl rfl) fun a Z => wlv Z (ak rfl rfl) fun a Z => wlv Z (ak rfl rfl) fun a Z => ab <| bX 1 ?_
    refine am Z Y de call70 rfl (eX n3 ((s.length - r3.length : Nat) : Int) _) ?_
    clear Z Y
    intro a w10 Z Y
    refine ab <| jN ?_
    refine wlm Z rfl fun a Z => wlv Z (ak rfl rfl) fun a Z => wlv Z (ak rfl rfl) fun a Z => wlv Z (bt rfl) fun a Z => aL 1 Z Y rfl rfl rfl (sizeOf3 _) rfl (lb rfl) (ds := [iv n1, iv n2, iv n3, iv 0, .string (⟨#[]⟩)]) rfl rfl ?_
    clear Z Y
    intro a w11 Z Y
    refine wla Z rfl fun a Z => ab <| hK16 _ _ ?_
    replace Z := Z.p6 0 2 3 12 13 4 rfl
    refine ar <| wlv Z ((aV rfl rfl de).asi (m' := 3) rfl) fun a Z => wlm Z rfl fun a Z => ab <| bF ?_
    refine aa fun K18 hK18 => wlv Z ((v_lt rfl rfl).asb (b' := true) rfl) fun a Z => ab (hK18 _ _ <| ah fun K19 hK19 => ?_)
    refine aD Z rfl ?_
    refine ap <| hK19 _ _ <| ah fun K20 hK20 => aq <| aa fun K21 hK21 => wlv Z (eD (v := po w0.hz 3) rfl rfl kr) fun a Z => wla Z rfl fun a Z => ab (hK21 _ _ <| cf ?_)
    refine bX 7 ?_
    refine wlm Z rfl fun a Z => wlm Z rfl fun a Z => wlm Z rfl fun a Z => ?_
    rcases Bool.eq_false_or_eq_true ((rdI r3).isSome) with hb4 | hb4
    ·try simp only [qz] at hb4
     obtain ⟨⟨n4, r4⟩, hq4⟩ := Option.isSome_iff_exists.1 hb4
     have hd4 := hd3.trans (fX hq4)
     have hsf4 := (dX hq4).trans hsf3
     refine am Z Y de call71 rfl (ez rfl hsf3 hsl hq4) ?_
     clear Z Y
     intro a w12 Z Y
     refine wlv Z (ak rfl rfl) fun a Z => wlv Z (ak rfl rfl) fun a Z => wlv Z (ak rfl rfl) fun a Z => ab <| bX 1 ?_
     refine am Z Y de call70 rfl (eX n4 ((s.length - r4.length : Nat) : Int) _) ?_
     clear Z Y
     intro a w13 Z Y
     refine ab <| jN ?_
     refine wlm Z rfl fun a Z => wlv Z (ak rfl rfl) fun a Z => wlv Z (ak rfl rfl) fun a Z => wlv Z (bt rfl) fun a Z => aL 1 Z Y rfl rfl rfl (sizeOf3 _) rfl (lb rfl) (ds := [iv n1, iv n2, iv n3, iv n4, .string (⟨#[]⟩)]) rfl rfl ?_
     clear Z Y
     intro a w14 Z Y
     refine wla Z rfl fun a Z => ab <| hK20 _ _ ?_
     replace Z := Z.p6 0 2 3 12 13 4 rfl
     refine ar <| wlv Z ((aV rfl rfl de).asi (m' := 4) rfl) fun a Z => wlm Z rfl fun a Z => ab <| bF ?_
     refine aa fun K22 hK22 => wlv Z ((v_lt rfl rfl).asb (b' := false) rfl) fun a Z => ab (hK22 _ _ <| ah fun K23 hK23 => ?_)
     refine aG Z rfl ?_
     refine aM <| hK4 _ _ <| gF fun K24 hK24 hP24 => bX 6 ?_
     refine wlm Z rfl fun a Z => wlm Z rfl fun a Z => ?_
     rcases Bool.eq_false_or_eq_true ((rdS r4).isSome) with hb5 | hb5
     ·try simp only [qz] at hb5
      obtain ⟨⟨x9, r5⟩, hq5⟩ := Option.isSome_iff_exists.1 hb5
      have hd5 := hd4.trans (nq.trans (nh hq5))
      have hsf5 := (oT hq5).trans hsf4
      refine am Z Y de call73 rfl (mb s r4 x9 r5 _ _ rfl hsf4 hsl hq5) ?_
      clear Z Y
      intro a w15 Z Y
      refine wlv Z (ak rfl rfl) fun a Z => wlv Z (ak rfl rfl) fun a Z => wlv Z (ak rfl rfl) fun a Z => ab <| bX 1 ?_
      refine am Z Y de call72 rfl (mO x9 ((s.length - r5.length : Nat) : Int) _) ?_
      clear Z Y
      intro a w16 Z Y
      refine ab <| jN ?_
      refine wlm Z rfl fun a Z => wlv Z (ak rfl rfl) fun a Z => wlv Z (ak rfl rfl) fun a Z => wlv Z (ai (v := po w0.hz 4) rfl kr) fun a Z => aL 1 Z Y rfl rfl rfl (sizeOf9 _) rfl (lb rfl) (ds := [iv n1, iv n2, iv n3, iv n4, sv x9]) rfl rfl ?_
      clear Z Y
      intro a w17 Z Y
      refine wla Z rfl fun a Z => ab (hK24 _ _ ?_)
      replace Z := Z.p4 0 2 3 4 rfl
      refine ah fun K25 hK25 => aa fun K26 hK26 => wlm Z rfl fun a Z => wlm Z rfl fun a Z => wlv Z (aZ rfl rfl (runUnderlying9 _)) fun a Z => wlv Z (v_lt rfl rfl) fun a Z => wlm Z rfl fun a Z => ?_
      rcases Bool.eq_false_or_eq_true (decide (((s.length - r5.length : Nat) : Int) < (s.length : Int))) with hb6 | hb6
      ·rw [hb6] at Z
       try simp only [qz] at hb6
       have hdn := hd5.trans (ma (by intro h0; have h1 := congrArg List.length h0; rw [List.length_nil] at h1; omega))
       refine wln Z fun a Z => wln Z fun a Z => wln Z fun a Z => wlv Z (aA rfl rfl) fun a Z => ab (hK26 _ _ ?_)
       replace Z := Z.p3 2 3 48 rfl
       refine aD Z rfl ?_
       refine cf ?_
       refine bX 2 ?_
       refine wlv Z (bx (v := .agg #[]) rfl kr) fun a Z => wlv Z (dC rfl underlying97) fun a Z => ab <| ff Z rfl ?_
       replace Y : St No w0 [blk w0.hz [iv n1, iv n2, iv n3, iv n4, sv x9] 48, blk w1.hz [iv 0] 33] w17 := Y.select [1, 0] de
       exact cE Z call69 (dv _ _ _ _ _ _ _ _ _ Y) results34 (fun w9 Y => ⟨(aN rfl (bG (Y.g 0 rfl) (isAgg48 _) (sizeOf48 _)) (aN rfl (cP (Y.g 1 rfl) (isAgg33 _)) ag)), by simp only [retv]; unfold decX decE; rw [hdn]; rfl, Y.ext⟩)
      rw [hb6] at Z
      try simp only [qz] at hb6
      have hqn : r5 = [] := List.eq_nil_of_length_eq_zero (by have := hsf5.length_le; omega)
      refine wly Z (aw (Y.g 1 rfl) rfl (isAgg48 _) (sizeOf48 _)) fun a Z => aO Z Y de rfl de rfl call64 rfl (fj (⟨n1, n2, n3, n4, x9⟩ : Rec) _) ?_
      clear Z Y
      intro a w18 Z Y
      refine wly Z (bp rfl) fun a Z => wlv Z (au rfl rfl) fun a Z => ab (hK26 _ _ ?_)
      replace Z := Z.p3 2 3 48 rfl
      refine ax Z rfl (fun hc7 => ?_) (fun hc7 => ?_)
      ·rw [hc7] at Z
       try simp only [qz] at hc7
       have hdn := hd5.trans (lM (by exact hc7))
       refine cf ?_
       refine bX 2 ?_
       refine wlv Z (bx (v := .agg #[]) rfl kr) fun a Z => wlv Z (dC rfl underlying97) fun a Z => ab <| ff Z rfl ?_
       replace Y : St No w0 [blk w0.hz [iv n1, iv n2, iv n3, iv n4, sv x9] 48, blk w1.hz [iv 0] 33] w18 := Y.select [1, 0] de
       exact cE Z call69 (dv _ _ _ _ _ _ _ _ _ Y) results34 (fun w9 Y => ⟨(aN rfl (bG (Y.g 0 rfl) (isAgg48 _) (sizeOf48 _)) (aN rfl (cP (Y.g 1 rfl) (isAgg33 _)) ag)), by simp only [retv]; unfold decX decE; rw [hdn]; rfl, Y.ext⟩)
      rw [hc7] at Z
      try simp only [qz] at hc7
      have hds := hd5.trans (lU hqn (by exact hc7))
      refine ap <| hK25 _ _ <| aa fun K27 hK27 => wlv Z (aw (Y.g 1 rfl) rfl (isAgg48 _) (sizeOf48 _)) fun a Z => aL 1 Z Y rfl rfl rfl (sizeOf48 _) rfl (lb rfl) (ds := [iv n1, iv n2, iv n3, iv n4, sv x9]) rfl rfl ?_
      clear Z Y
      intro a w19 Z Y
      refine aL 0 Z Y rfl rfl rfl (sizeOf33 _) rfl (lb rfl) (ds := [iv 0]) rfl rfl ?_
      clear Z Y
      intro a w20 Z Y
      refine ab (hK27 _ _ <| ao ?_)
      refine nT (vs := [.agg #[iv n1, iv n2, iv n3, iv n4, sv x9], iv 0]) Z call69 (ng _ _ _) results34 (fun w9 hx => ?_)
      have Y := Y.grow hx
      exact ⟨(aN rfl (bG (Y.g 1 rfl) (isAgg48 _) (sizeOf48 _)) (aN rfl (cP (Y.g 0 rfl) (isAgg33 _)) ag)), by simp only [retv]; unfold decX decE; rw [hds]; rfl, Y.ext⟩
     try simp only [qz] at hb5
     have hq5 : rdS r4 = none := by
      cases h : rdS r4 with
      | none => rfl
      | some z => rw [h] at hb5; cases hb5
     have hdn := hd4.trans (nq.trans (mg hq5))
     refine am Z Y de call73 rfl (kT rfl hsf4 hsl hq5) ?_
     clear Z Y
     intro a w21 Z Y
     refine wlv Z (ak rfl rfl) fun a Z => wlv Z (ak rfl rfl) fun a Z => wlv Z (ak rfl rfl) fun a Z => ab <| gY (X := fun c w2 => c = [{ v := .iface 97 (.agg #[]), recovered := false }] ∧ Ext No w21 w2) Z call72 rfl (lQ ([]) 0 _) ?_
     rintro _ w22 ⟨rfl, hx⟩
     have Y := Y.grow hx
     refine hP24 _ _ _ ?_
     replace Y : St No w0 [blk w0.hz [iv n1, iv n2, iv n3, iv n4, .string (⟨#[]⟩)] 48, blk w1.hz [iv 0] 33] w22 := Y.select [1, 0] de
     exact cE Z call69 (dv _ _ _ _ _ _ _ _ _ Y) results34 (fun w9 Y => ⟨(aN rfl (bG (Y.g 0 rfl) (isAgg48 _) (sizeOf48 _)) (aN rfl (cP (Y.g 1 rfl) (isAgg33 _)) ag)), by simp only [retv]; unfold decX decE; rw [hdn]; rfl, Y.ext⟩)
    try simp only [qz] at hb4
    have hq4 : rdI r3 = none := by
     cases h : rdI r3 with
     | none => rfl
     | some z => rw [h] at hb4; cases hb4
    have hdn := hd3.trans (fb hq4)
    refine am Z Y de call71 rfl (ej rfl hsf3 hsl hq4) ?_
    clear Z Y
    intro a w23 Z Y
    refine wlv Z (ak rfl rfl) fun a Z => wlv Z (ak rfl rfl) fun a Z => wlv Z (ak rfl rfl) fun a Z => ab <| gY (X := fun c w2 => c = [{ v := .iface 97 (.agg #[]), recovered := false }] ∧ Ext No w23 w2) Z call70 rfl (ew 0 0 _) ?_
    rintro _ w24 ⟨rfl, hx⟩
    have Y := Y.grow hx
    replace Y : St No w0 [blk w0.hz [iv n1, iv n2, iv n3, iv 0, .string (⟨#[]⟩)] 48, blk w1.hz [iv 0] 33] w24 := Y.select [1, 0] de
    exact cE Z call69 (dv _ _ _ _ _ _ _ _ _ Y) results34 (fun w9 Y => ⟨(aN rfl (bG (Y.g 0 rfl) (isAgg48 _) (sizeOf48 _)) (aN rfl (cP (Y.g 1 rfl) (isAgg33 _)) ag)), by simp only [retv]; unfold decX decE; rw [hdn]; rfl, Y.ext⟩)
   try simp only [qz] at hb3
   have hq3 : rdI r2 = none := by
    cases h : rdI r2 with
    | none => rfl
    | some z => rw [h] at hb3; cases hb3
   have hdn := hd2.trans (fb hq3)
   refine am Z Y de call71 rfl (ej rfl hsf2 hsl hq3) ?_
   clear Z Y
   intro a w25 Z Y
   refine wlv Z (ak rfl rfl) fun a Z => wlv Z (ak rfl rfl) fun a Z => wlv Z (ak rfl rfl) fun a Z => ab <| gY (X := fun c w2 => c = [{ v := .iface 97 (.agg #[]), recovered := false }] ∧ Ext No w25 w2) Z call70 rfl (ew 0 0 _) ?_
   rintro _ w26 ⟨rfl, hx⟩
   have Y := Y.grow hx
   replace Y : St No w0 [blk w0.hz [iv n1, iv n2, iv 0, iv 0, .string (⟨#[]⟩)] 48, blk w1.hz [iv 0] 33] w26 := Y.select [1, 0] de
   exact cE Z call69 (dv _ _ _ _ _ _ _ _ _ Y) results34 (fun w9 Y => ⟨(aN rfl (bG (Y.g 0 rfl) (isAgg48 _) (sizeOf48 _)) (aN rfl (cP (Y.g 1 rfl) (isAgg33 _)) ag)), by simp only [retv]; unfold decX decE; rw [hdn]; rfl, Y.ext⟩)
  try simp only [qz] at hb2
  have hq2 : rdI r1 = none := by
   cases h : rdI r1 with
   | none => rfl
   | some z => rw [h] at hb2; cases hb2
  have hdn := hd1.trans (fb hq2)
  refine am Z Y de call71 rfl (ej rfl hsf1 hsl hq2) ?_
  clear Z Y
  intro a w27 Z Y
  refine wlv Z (ak rfl rfl) fun a Z => wlv Z (ak rfl rfl) fun a Z => wlv Z (ak rfl rfl) fun a Z => ab <| gY (X := fun c w2 => c = [{ v := .iface 97 (.agg #[]), recovered := false }] ∧ Ext No w27 w2) Z call70 rfl (ew 0 0 _) ?_
  rintro _ w28 ⟨rfl, hx⟩
  have Y := Y.grow hx
  replace Y : St No w0 [blk w0.hz [iv n1, iv 0, iv 0, iv 0, .string (⟨#[]⟩)] 48, blk w1.hz [iv 0] 33] w28 := Y.select [1, 0] de
  exact cE Z call69 (dv _ _ _ _ _ _ _ _ _ Y) results34 (fun w9 Y => ⟨(aN rfl (bG (Y.g 0 rfl) (isAgg48 _) (sizeOf48 _)) (aN rfl (cP (Y.g 1 rfl) (isAgg33 _)) ag)), by simp only [retv]; unfold decX decE; rw [hdn]; rfl, Y.ext⟩)
 try simp only [qz] at hb1
 have hq1 : rdI s = none := by
  cases h : rdI s with
  | none => rfl
  | some z => rw [h] at hb1; cases hb1
 have hdn := ny.trans (fb hq1)
 refine am Z Y de call71 rfl (ej sm (List.suffix_refl s) hsl hq1) ?_
 clear Z Y
 intro a w29 Z Y
 refine wlv Z (ak rfl rfl) fun a Z => wlv Z (ak rfl rfl) fun a Z => wlv Z (ak rfl rfl) fun a Z => ab <| gY (X := fun c w2 => c = [{ v := .iface 97 (.agg #[]), recovered := false }] ∧ Ext No w29 w2) Z call70 rfl (ew 0 0 _) ?_
 rintro _ w30 ⟨rfl, hx⟩
 have Y := Y.grow hx
 replace Y : St No w0 [blk w0.hz [iv 0, iv 0, iv 0, iv 0, .string (⟨#[]⟩)] 48, blk w1.hz [iv 0] 33] w30 := Y.select [1, 0] de
 exact cE Z call69 (dv _ _ _ _ _ _ _ _ _ Y) results34 (fun w9 Y => ⟨(aN rfl (bG (Y.g 0 rfl) (isAgg48 _) (sizeOf48 _)) (aN rfl (cP (Y.g 1 rfl) (isAgg33 _)) ag)), by simp only [retv]; unfold decX decE; rw [hdn]; rfl, Y.ext⟩)
theorem m5 (o : Int) (lv : Value) (l : List Rec) (x : Rec) (w0 : World) (hlv : SlAt w0 lv 5 (l.map Rec.cells)) (hll : l.length ≤ 1000) (hok : addOk o l x = true) :
  Ret Tryz.prog 35 #[.agg #[iv o, lv], .agg #[iv x.t, iv x.kind, iv x.a, iv x.b, sv x.text]] w0 (MemR w0 (fun v : Value => .tuple #[.agg #[iv o, v], iv 0]) (fun v => [own v 48 5 ((l ++ [x]).map Rec.cells)]) (fun _ => True)) := by
 refine aC func35 rfl ntmps35 (lb rfl) fun a Z => ?_
 replace Z := Z.p2 0 1 rfl
 replace Y : St No w0 [] w0 := St.init w0
 refine aa fun K1 hK1 => bh Z Y de rfl (cs := [iv o, lv]) rfl ?_
 clear Z Y
 intro a w1 Z Y
 refine bh Z Y de rfl (cs := [iv x.t, iv x.kind, iv x.a, iv x.b, sv x.text]) rfl ?_
 clear Z Y
 intro a w2 Z Y
 refine aY Z Y de (zeroValue25 _) (cs := [iv 0, .slice none 0 0]) rfl ?_
 clear Z Y
 intro a w3 Z Y
 refine wla Z rfl fun a Z => ab (hK1 _ _ <| ah fun K2 hK2 => ?_)
 refine aH kr (aI kr fun w4 hxz => ?_)
 replace Y := Y.grow hxz
 refine aP (k := 0) 11 [9, 10] Z kr kr kr rfx ?_
 replace Z := Z.p6 0 1 2 3 4 5 rfl
 refine dP 2 5 8 9 (fun v => own v 48 5 ([])) (fun v => own v 48 5 (([]) ++ ((l).map Rec.cells))) (fun v => own v 48 5 ((([]) ++ ((l).map Rec.cells)) ++ ([[iv x.t, iv x.kind, iv x.a, iv x.b, sv x.text]]))) (fun u => .agg #[iv o, u]) 11 [[], [0], [], [], [3], [2, 4], [], [6], [5, 7], [1, 8], []] (fun i => match i with | 0 => pv (pt w0.hz) | 1 => pv (iv o) | 2 => fun v E => E = [] | 3 => pv (po w0.hz 1) | 4 => pv (lv) | 5 => fun v E => E = [] | 6 => pv (.agg #[iv x.t, iv x.kind, iv x.a, iv x.b, sv x.text]) | 7 => pm (fun b : Nat => .slice (some ⟨b, 0, none⟩) 1 1) (fun b => [own (.slice (some ⟨b, 0, none⟩) 1 1) 48 5 [[iv x.t, iv x.kind, iv x.a, iv x.b, sv x.text]]]) (fun _ => True) | 8 => fun v E => E = [] | 9 => fun v E => E = [] | 10 => pm (fun b : Nat => pt b) (fun b => [blk b [iv 0, .slice none 0 0] 25]) (fun _ => True) | _ => fun _ _ => False) Z Y kr kr kr de de de de de ?_ ?_ ?_ ?_ ?_ ?_ ?_
 ·intro i v E h
  match i, h with
  | 0, _ => exact by decide
  | 1, _ => exact by decide
  | 2, _ => exact by decide
  | 3, _ => exact by decide
  | 4, _ => exact by decide
  | 5, _ => exact by decide
  | 6, _ => exact by decide
  | 7, _ => exact by decide
  | 8, _ => exact by decide
  | 9, _ => exact by decide
  | 10, _ => exact by decide
  | i + 11, h => exact h.elim
 ·intro i hi h0 h1 h2 h3 e
  match i, hi, h0, h1, h2, h3 with
  | 0, _, _, _, _, _ => exact fun w Y => OpV.g (ai (v := pt w0.hz) rfl kr)
  | 1, _, _, _, _, _ =>
   rintro _ _ ⟨rfl, rfl⟩
   intro w Y
   exact OpV.g (ld Y 3 rfl rfl (isAgg3 _) rfl)
  | 2, _, h, _, _, _ => exact absurd rfl h
  | 3, _, _, _, _, _ => exact fun w Y => OpV.g (ai (v := po w0.hz 1) rfl kr)
  | 4, _, _, _, _, _ =>
   rintro _ _ ⟨rfl, rfl⟩
   intro w Y
   exact OpV.g (ld Y 3 rfl rfl (isAgg23 _) rfl)
  | 5, _, _, h, _, _ => exact absurd rfl h
  | 6, _, _, _, _, _ => exact fun w Y => OpV.g (aw (Y.g 2 rfl) rfl (isAgg48 _) (sizeOf48 _))
  | 7, _, _, _, _, _ =>
   rintro _ _ ⟨rfl, rfl⟩
   intro w Y
   exact bn (E := 48) (sz := 5) rfl [[iv x.t, iv x.kind, iv x.a, iv x.b, sv x.text]] (fun _ => by kernel_rfl) sm rfl de
  | 8, _, _, _, h, _ => exact absurd rfl h
  | 9, _, _, _, _, h => exact absurd rfl h
  | 10, _, _, _, _, _ => exact fun w Y => iZ (zeroValue25 _) (cs := [iv 0, .slice none 0 0]) rfl
 ·intro w Y
  exact OpR.to_own (f := fun b : Nat => .slice (some ⟨b, 0, none⟩) 0 0) (e := fun v => own v 48 5 []) (bn (E := 48) (sz := 5) rfl [] (fun _ => by kernel_rfl) sm rfl de) (fun v => rfl)
 ·rintro s1 _ rfl _ _ ⟨rfl, rfl⟩
  intro w Y
  replace Y : St No w0 (own s1 48 5 ([]) :: _) w := Y
  exact (cK (Y.g 0 rfl) rfl rfl (Y.arg hlv) underlying23 (inf := Tryz.t48) (z := .agg #[iv 0, iv 0, iv 0, iv 0, .string (⟨#[]⟩)]) rfl rfl rfl rfl de (by first | (simp [Value.oneCell', yv, wv, sv]; done) | exact eq (by intro e he; obtain ⟨p, _, rfl⟩ := List.mem_map.1 he; exact ⟨p, rfl⟩)) (by have hby : Tryz.t48.bytes = 48 := rfl; simp only [big, hby, List.length_append, List.length_map, List.length_cons, List.length_nil]; omega) (by have hby : Tryz.t48.bytes = 48 := rfl; simp only [big, hby, List.length_append, List.length_map, List.length_cons, List.length_nil]; omega)).mono fun v w' ⟨h1, h2, h3⟩ => ⟨h1, h2, h3, rfl⟩
 ·rintro s2 _ rfl _ _ ⟨b3, rfl, -, rfl⟩
  intro w Y
  replace Y : St No w0 (own s2 48 5 (([]) ++ ((l).map Rec.cells)) :: _) w := Y
  exact (cK (Y.g 0 rfl) rfl rfl (Y.ow 1 rfl) underlying23 (inf := Tryz.t48) (z := .agg #[iv 0, iv 0, iv 0, iv 0, .string (⟨#[]⟩)]) rfl rfl rfl rfl de (by first | (simp [Value.oneCell', yv, wv, sv]; done) | exact eq (by intro e he; obtain ⟨p, _, rfl⟩ := List.mem_map.1 he; exact ⟨p, rfl⟩)) (by have hby : Tryz.t48.bytes = 48 := rfl; simp only [big, hby, List.length_append, List.length_map, List.length_cons, List.length_nil]; omega) (by have hby : Tryz.t48.bytes = 48 := rfl; simp only [big, hby, List.length_append, List.length_map, List.length_cons, List.length_nil]; omega)).mono fun v w' ⟨h1, h2, h3⟩ => ⟨h1, h2, h3, rfl⟩
 ·rintro _ _ ⟨rfl, rfl⟩ s4 _ rfl
  intro w Y
  have Y : St No w0 (own s4 48 5 ((([]) ++ ((l).map Rec.cells)) ++ ([[iv x.t, iv x.kind, iv x.a, iv x.b, sv x.text]])) :: _) w := Y
  obtain ⟨_, _, _, esl⟩ := dz (Y.ow 0 rfl)
  exact OpV.hopv (OpV.g (bx (v := .agg #[iv o, s4]) rfl (by rw [esl]; kernel_rfl))) rfl
 clear Z Y
 rintro vq _ _ ⟨⟨rfl, rfl⟩, -⟩ _ _ ⟨⟨rfl, rfl⟩, -⟩ s1 _ ⟨rfl, -, -⟩ _ _ ⟨⟨rfl, rfl⟩, -⟩ _ _ ⟨⟨rfl, rfl⟩, -⟩ s2 _ ⟨rfl, -, -⟩ _ _ ⟨⟨rfl, rfl⟩, -⟩ _ _ ⟨⟨b3, rfl, -, rfl⟩, -⟩ s4 _ ⟨rfl, hvq, -⟩ _ _ ⟨rfl, -, hv3⟩ _ _ ⟨⟨b5, rfl, -, rfl⟩, -⟩ a w5 Z Y
 obtain rfl := hvq rfl
 obtain rfl := hv3 rfl
 replace Z := Z.p17 7 8 9 10 11 12 13 14 15 16 6 0 1 2 3 4 5 rfl
 replace Y : St No w0 [_, _, _, _, _, _] w5 := Y
 replace Y : St No w0 [own (.slice (some ⟨b3, 0, none⟩) 1 1) 48 5 ([[iv x.t, iv x.kind, iv x.a, iv x.b, sv x.text]]), blk b5 [iv 0, .slice none 0 0] 25, own s4 48 5 ((l ++ [x]).map Rec.cells), blk w2.hz [iv 0, .slice none 0 0] 25, blk w1.hz [iv x.t, iv x.kind, iv x.a, iv x.b, sv x.text] 48, blk w0.hz [iv o, lv] 25] w5 := by rw [List.map_append]; exact Y
 refine ab <| aK (k := 11) 12 [11] kr kr kr ?_
 refine bf (us := [iv o, s4]) 1 Z Y rfl rfl rfl (sizeOf25 _) (by intro z hz; simp only [List.mem_cons, List.not_mem_nil, or_false] at hz; rcases hz with rfl | rfl <;> first | rfl | exact SlAt.one (Y.ow 2 rfl)) (lb rfl) (ds := [iv o, s4]) rfl rfl ?_
 clear Z Y
 intro a w6 Z Y
 refine ab <| aW kr ?_
 refine hK2 _ _ ?_
 replace Z := Z.p4 2 4 5 6 rfl
 replace Y := Y.k4 46 rfl
 refine ah fun K3 hK3 => aa fun K4 hK4 => wlv Z (aw (Y.g 3 rfl) rfl (isAgg25 _) (sizeOf25 _)) fun a Z => am Z Y de call37 rfl (dY o lv l _ (Y.arg hlv)) ?_
 clear Z Y
 intro a w7 Z Y
 refine wlv Z (bp rfl) fun a Z => wlm Z rfl fun a Z => ?_
 rcases Bool.eq_false_or_eq_true (!(logOk o l)) with hb6 | hb6
 ·rw [hb6] at Z
  try simp only [qz] at hb6
  exfalso; obtain ⟨h1, h2⟩ := iy hok; simp [h1, h2] at hb6
 rw [hb6] at Z
 try simp only [qz] at hb6
 refine wly Z (aw (Y.g 0 rfl) rfl (isAgg25 _) (sizeOf25 _)) fun a Z => aO Z Y de rfl de rfl call37 rfl (dY o s4 (l ++ [x]) _ (Y.ow 1 rfl)) ?_
 clear Z Y
 intro a w8 Z Y
 refine wly Z (bp rfl) fun a Z => wlv Z (au rfl rfl) fun a Z => ab (hK4 _ _ ?_)
 replace Z := Z.p4 4 5 6 24 rfl
 replace Y := Y.k3 7 rfl
 refine ax Z rfl (fun hc7 => ?_) (fun hc7 => ?_)
 ·rw [hc7] at Z
  try simp only [qz] at hc7
  exfalso; obtain ⟨h1, h2⟩ := iy hok; simp [h1, h2] at hc7
 rw [hc7] at Z
 try simp only [qz] at hc7
 refine ap <| hK3 _ _ <| aa fun K5 hK5 => wlv Z (aw (Y.g 0 rfl) rfl (isAgg25 _) (sizeOf25 _)) fun a Z => bf (us := [iv o, s4]) 2 Z Y rfl rfl rfl (sizeOf25 _) (by intro z hz; simp only [List.mem_cons, List.not_mem_nil, or_false] at hz; rcases hz with rfl | rfl <;> first | rfl | exact SlAt.one (Y.ow 1 rfl)) (lb rfl) (ds := [iv o, s4]) rfl rfl ?_
 clear Z Y
 intro a w9 Z Y
 refine wla Z rfl fun a Z => ab (hK5 _ _ <| ao ?_)
 refine al Z results35 (aN rfl (bG (Y.g 2 rfl) (isAgg25 _) (sizeOf25 _)) (ac rfl ag)) ?_
 exact ⟨_, rfl, trivial, Y.ext, St.out (E := [own _ 48 5 ((l ++ [x]).map Rec.cells)]) (H := []) (Y.select [1] de)⟩
theorem oI (o : Int) (lv : Value) (l : List Rec) (x : Rec) (w0 : World) (hlv : SlAt w0 lv 5 (l.map Rec.cells)) (hll : l.length ≤ 1000) (hok : addOk o l x = false) :
  Ret Tryz.prog 35 #[.agg #[iv o, lv], .agg #[iv x.t, iv x.kind, iv x.a, iv x.b, sv x.text]] w0 (MemR w0 (fun v : Value => .tuple #[.agg #[iv 0, v], iv 110]) (fun v => [own v 48 5 (([] : List Rec).map Rec.cells)]) (fun _ => True)) := by
 refine aC func35 rfl ntmps35 (lb rfl) fun a Z => ?_
 replace Z := Z.p2 0 1 rfl
 replace Y : St No w0 [] w0 := St.init w0
 refine aa fun K1 hK1 => bh Z Y de rfl (cs := [iv o, lv]) rfl ?_
 clear Z Y
 intro a w1 Z Y
 refine bh Z Y de rfl (cs := [iv x.t, iv x.kind, iv x.a, iv x.b, sv x.text]) rfl ?_
 clear Z Y
 intro a w2 Z Y
 refine aY Z Y de (zeroValue25 _) (cs := [iv 0, .slice none 0 0]) rfl ?_
 clear Z Y
 intro a w3 Z Y
 refine wla Z rfl fun a Z => ab (hK1 _ _ <| ah fun K2 hK2 => ?_)
 refine aH kr (aI kr fun w4 hxz => ?_)
 replace Y := Y.grow hxz
 refine aP (k := 0) 11 [9, 10] Z kr kr kr rfx ?_
 replace Z := Z.p6 0 1 2 3 4 5 rfl
 refine dP 2 5 8 9 (fun v => own v 48 5 ([])) (fun v => own v 48 5 (([]) ++ ((l).map Rec.cells))) (fun v => own v 48 5 ((([]) ++ ((l).map Rec.cells)) ++ ([[iv x.t, iv x.kind, iv x.a, iv x.b, sv x.text]]))) (fun u => .agg #[iv o, u]) 11 [[], [0], [], [], [3], [2, 4], [], [6], [5, 7], [1, 8], []] (fun i => match i with | 0 => pv (pt w0.hz) | 1 => pv (iv o) | 2 => fun v E => E = [] | 3 => pv (po w0.hz 1) | 4 => pv (lv) | 5 => fun v E => E = [] | 6 => pv (.agg #[iv x.t, iv x.kind, iv x.a, iv x.b, sv x.text]) | 7 => pm (fun b : Nat => .slice (some ⟨b, 0, none⟩) 1 1) (fun b => [own (.slice (some ⟨b, 0, none⟩) 1 1) 48 5 [[iv x.t, iv x.kind, iv x.a, iv x.b, sv x.text]]]) (fun _ => True) | 8 => fun v E => E = [] | 9 => fun v E => E = [] | 10 => pm (fun b : Nat => pt b) (fun b => [blk b [iv 0, .slice none 0 0] 25]) (fun _ => True) | _ => fun _ _ => False) Z Y kr kr kr de de de de de ?_ ?_ ?_ ?_ ?_ ?_ ?_
 ·intro i v E h
  match i, h with
  | 0, _ => exact by decide
  | 1, _ => exact by decide
  | 2, _ => exact by decide
  | 3, _ => exact by decide
  | 4, _ => exact by decide
  | 5, _ => exact by decide
  | 6, _ => exact by decide
  | 7, _ => exact by decide
  | 8, _ => exact by decide
  | 9, _ => exact by decide
  | 10, _ => exact by decide
  | i + 11, h => exact h.elim
 ·intro i hi h0 h1 h2 h3 e
  match i, hi, h0, h1, h2, h3 with
  | 0, _, _, _, _, _ => exact fun w Y => OpV.g (ai (v := pt w0.hz) rfl kr)
  | 1, _, _, _, _, _ =>
   rintro _ _ ⟨rfl, rfl⟩
   intro w Y
   exact OpV.g (ld Y 3 rfl rfl (isAgg3 _) rfl)
  | 2, _, h, _, _, _ => exact absurd rfl h
  | 3, _, _, _, _, _ => exact fun w Y => OpV.g (ai (v := po w0.hz 1) rfl kr)
  | 4, _, _, _, _, _ =>
   rintro _ _ ⟨rfl, rfl⟩
   intro w Y
   exact OpV.g (ld Y 3 rfl rfl (isAgg23 _) rfl)
  | 5, _, _, h, _, _ => exact absurd rfl h
  | 6, _, _, _, _, _ => exact fun w Y => OpV.g (aw (Y.g 2 rfl) rfl (isAgg48 _) (sizeOf48 _))
  | 7, _, _, _, _, _ =>
   rintro _ _ ⟨rfl, rfl⟩
   intro w Y
   exact bn (E := 48) (sz := 5) rfl [[iv x.t, iv x.kind, iv x.a, iv x.b, sv x.text]] (fun _ => by kernel_rfl) sm rfl de
  | 8, _, _, _, h, _ => exact absurd rfl h
  | 9, _, _, _, _, h => exact absurd rfl h
  | 10, _, _, _, _, _ => exact fun w Y => iZ (zeroValue25 _) (cs := [iv 0, .slice none 0 0]) rfl
 ·intro w Y
  exact OpR.to_own (f := fun b : Nat => .slice (some ⟨b, 0, none⟩) 0 0) (e := fun v => own v 48 5 []) (bn (E := 48) (sz := 5) rfl [] (fun _ => by kernel_rfl) sm rfl de) (fun v => rfl)
 ·rintro s1 _ rfl _ _ ⟨rfl, rfl⟩
  intro w Y
  replace Y : St No w0 (own s1 48 5 ([]) :: _) w := Y
  exact (cK (Y.g 0 rfl) rfl rfl (Y.arg hlv) underlying23 (inf := Tryz.t48) (z := .agg #[iv 0, iv 0, iv 0, iv 0, .string (⟨#[]⟩)]) rfl rfl rfl rfl de (by first | (simp [Value.oneCell', yv, wv, sv]; done) | exact eq (by intro e he; obtain ⟨p, _, rfl⟩ := List.mem_map.1 he; exact ⟨p, rfl⟩)) (by have hby : Tryz.t48.bytes = 48 := rfl; simp only [big, hby, List.length_append, List.length_map, List.length_cons, List.length_nil]; omega) (by have hby : Tryz.t48.bytes = 48 := rfl; simp only [big, hby, List.length_append, List.length_map, List.length_cons, List.length_nil]; omega)).mono fun v w' ⟨h1, h2, h3⟩ => ⟨h1, h2, h3, rfl⟩
 ·rintro s2 _ rfl _ _ ⟨b3, rfl, -, rfl⟩
  intro w Y
  replace Y : St No w0 (own s2 48 5 (([]) ++ ((l).map Rec.cells)) :: _) w := Y
  exact (cK (Y.g 0 rfl) rfl rfl (Y.ow 1 rfl) underlying23 (inf := Tryz.t48) (z := .agg #[iv 0, iv 0, iv 0, iv 0, .string (⟨#[]⟩)]) rfl rfl rfl rfl de (by first | (simp [Value.oneCell', yv, wv, sv]; done) | exact eq (by intro e he; obtain ⟨p, _, rfl⟩ := List.mem_map.1 he; exact ⟨p, rfl⟩)) (by have hby : Tryz.t48.bytes = 48 := rfl; simp only [big, hby, List.length_append, List.length_map, List.length_cons, List.length_nil]; omega) (by have hby : Tryz.t48.bytes = 48 := rfl; simp only [big, hby, List.length_append, List.length_map, List.length_cons, List.length_nil]; omega)).mono fun v w' ⟨h1, h2, h3⟩ => ⟨h1, h2, h3, rfl⟩
 ·rintro _ _ ⟨rfl, rfl⟩ s4 _ rfl
  intro w Y
  have Y : St No w0 (own s4 48 5 ((([]) ++ ((l).map Rec.cells)) ++ ([[iv x.t, iv x.kind, iv x.a, iv x.b, sv x.text]])) :: _) w := Y
  obtain ⟨_, _, _, esl⟩ := dz (Y.ow 0 rfl)
  exact OpV.hopv (OpV.g (bx (v := .agg #[iv o, s4]) rfl (by rw [esl]; kernel_rfl))) rfl
 clear Z Y
 rintro vq _ _ ⟨⟨rfl, rfl⟩, -⟩ _ _ ⟨⟨rfl, rfl⟩, -⟩ s1 _ ⟨rfl, -, -⟩ _ _ ⟨⟨rfl, rfl⟩, -⟩ _ _ ⟨⟨rfl, rfl⟩, -⟩ s2 _ ⟨rfl, -, -⟩ _ _ ⟨⟨rfl, rfl⟩, -⟩ _ _ ⟨⟨b3, rfl, -, rfl⟩, -⟩ s4 _ ⟨rfl, hvq, -⟩ _ _ ⟨rfl, -, hv3⟩ _ _ ⟨⟨b5, rfl, -, rfl⟩, -⟩ a w5 Z Y
 obtain rfl := hvq rfl
 obtain rfl := hv3 rfl
 replace Z := Z.p17 7 8 9 10 11 12 13 14 15 16 6 0 1 2 3 4 5 rfl
 replace Y : St No w0 [_, _, _, _, _, _] w5 := Y
 replace Y : St No w0 [own (.slice (some ⟨b3, 0, none⟩) 1 1) 48 5 ([[iv x.t, iv x.kind, iv x.a, iv x.b, sv x.text]]), blk b5 [iv 0, .slice none 0 0] 25, own s4 48 5 ((l ++ [x]).map Rec.cells), blk w2.hz [iv 0, .slice none 0 0] 25, blk w1.hz [iv x.t, iv x.kind, iv x.a, iv x.b, sv x.text] 48, blk w0.hz [iv o, lv] 25] w5 := by rw [List.map_append]; exact Y
 refine ab <| aK (k := 11) 12 [11] kr kr kr ?_
 refine bf (us := [iv o, s4]) 1 Z Y rfl rfl rfl (sizeOf25 _) (by intro z hz; simp only [List.mem_cons, List.not_mem_nil, or_false] at hz; rcases hz with rfl | rfl <;> first | rfl | exact SlAt.one (Y.ow 2 rfl)) (lb rfl) (ds := [iv o, s4]) rfl rfl ?_
 clear Z Y
 intro a w6 Z Y
 refine ab <| aW kr ?_
 refine hK2 _ _ ?_
 replace Z := Z.p4 2 4 5 6 rfl
 replace Y := Y.k4 46 rfl
 refine ah fun K3 hK3 => aa fun K4 hK4 => wlv Z (aw (Y.g 3 rfl) rfl (isAgg25 _) (sizeOf25 _)) fun a Z => am Z Y de call37 rfl (dY o lv l _ (Y.arg hlv)) ?_
 clear Z Y
 intro a w7 Z Y
 refine wlv Z (bp rfl) fun a Z => wlm Z rfl fun a Z => ?_
 rcases Bool.eq_false_or_eq_true (!(logOk o l)) with hb6 | hb6
 ·rw [hb6] at Z
  try simp only [qz] at hb6
  refine wln Z fun a Z => wln Z fun a Z => wln Z fun a Z => wlv Z (aA rfl rfl) fun a Z => ab (hK4 _ _ ?_)
  replace Z := Z.p4 4 5 6 24 rfl
  replace Y := Y.k3 7 rfl
  refine aD Z rfl ?_
  refine aa fun K5 hK5 => wlv Z (bx (v := .agg #[iv 0, .slice none 0 0]) rfl kr) fun a Z => aL 2 Z Y rfl rfl rfl (sizeOf25 _) rfl (lb rfl) (ds := [iv 0, .slice none 0 0]) rfl rfl ?_
  clear Z Y
  intro a w8 Z Y
  refine wla Z rfl fun a Z => ab (hK5 _ _ <| ao ?_)
  refine al Z results35 (aN rfl (bG (Y.g 2 rfl) (isAgg25 _) (sizeOf25 _)) (ac rfl ag)) ?_
  replace Y : St No w0 [own (.slice none 0 0) 48 5 ((([] : List Rec)).map Rec.cells), blk b5 [iv o, s4] 25, own s4 48 5 ((l ++ [x]).map Rec.cells), blk w2.hz [iv 0, .slice none 0 0] 25] w8 := Y.nil_own
  exact ⟨.slice none 0 0, rfl, trivial, Y.ext, St.out (E := [own (.slice none 0 0) 48 5 ((([] : List Rec)).map Rec.cells)]) (H := []) (Y.select [0] de)⟩
 rw [hb6] at Z
 try simp only [qz] at hb6
 refine wly Z (aw (Y.g 0 rfl) rfl (isAgg25 _) (sizeOf25 _)) fun a Z => aO Z Y de rfl de rfl call37 rfl (dY o s4 (l ++ [x]) _ (Y.ow 1 rfl)) ?_
 clear Z Y
 intro a w9 Z Y
 refine wly Z (bp rfl) fun a Z => wlv Z (au rfl rfl) fun a Z => ab (hK4 _ _ ?_)
 replace Z := Z.p4 4 5 6 24 rfl
 replace Y := Y.k3 7 rfl
 refine ax Z rfl (fun hc7 => ?_) (fun hc7 => ?_)
 ·rw [hc7] at Z
  try simp only [qz] at hc7
  refine aa fun K6 hK6 => wlv Z (bx (v := .agg #[iv 0, .slice none 0 0]) rfl kr) fun a Z => aL 2 Z Y rfl rfl rfl (sizeOf25 _) rfl (lb rfl) (ds := [iv 0, .slice none 0 0]) rfl rfl ?_
  clear Z Y
  intro a w10 Z Y
  refine wla Z rfl fun a Z => ab (hK6 _ _ <| ao ?_)
  refine al Z results35 (aN rfl (bG (Y.g 2 rfl) (isAgg25 _) (sizeOf25 _)) (ac rfl ag)) ?_
  replace Y : St No w0 [own (.slice none 0 0) 48 5 ((([] : List Rec)).map Rec.cells), blk b5 [iv o, s4] 25, own s4 48 5 ((l ++ [x]).map Rec.cells), blk w2.hz [iv 0, .slice none 0 0] 25] w10 := Y.nil_own
  exact ⟨.slice none 0 0, rfl, trivial, Y.ext, St.out (E := [own (.slice none 0 0) 48 5 ((([] : List Rec)).map Rec.cells)]) (H := []) (Y.select [0] de)⟩
 rw [hc7] at Z
 try simp only [qz] at hc7
 exfalso; unfold addOk at hok; simp only [hb6, hc7] at hok; simp at hok
theorem iG (o : Int) (lv : Value) (l : List Rec) (kind at_ : Int) (w0 : World) (hlv : SlAt w0 lv 5 (l.map Rec.cells)) :
  Ret Tryz.prog 36 #[.agg #[iv o, lv], iv kind, iv at_] w0 fun v w => v = iv (findH o l kind at_) ∧ Ext No w0 w := by
 have hxb := hlv.2.1
 simp only [List.length_map, big] at hxb
 refine aC func36 rfl ntmps36 (lb rfl) fun a Z => ?_
 replace Z := Z.p3 0 1 2 rfl
 replace Y : St No w0 [] w0 := St.init w0
 refine aa fun K1 hK1 => bh Z Y de rfl (cs := [iv o, lv]) rfl ?_
 clear Z Y
 intro a w1 Z Y
 refine bh Z Y de rfl (cs := [iv kind]) rfl ?_
 clear Z Y
 intro a w2 Z Y
 refine bh Z Y de rfl (cs := [iv at_]) rfl ?_
 clear Z Y
 intro a w3 Z Y
 refine aY Z Y de (zeroValue3 _) (cs := [iv 0]) rfl ?_
 clear Z Y
 intro a w4 Z Y
 refine ab (hK1 _ _ <| ah fun K2 hK2 => ?_)
 refine aa fun K3 hK3 => wlv Z (aw (Y.g 3 rfl) rfl (isAgg25 _) (sizeOf25 _)) fun a Z => am Z Y de call37 rfl (dY o lv l _ (Y.arg hlv)) ?_
 clear Z Y
 intro a w5 Z Y
 refine wlv Z (bp rfl) fun a Z => ab (hK3 _ _ ?_)
 refine ax Z rfl (fun hc1 => ?_) (fun hc1 => ?_)
 ·rw [hc1] at Z
  try simp only [qz, Bool.and_eq_true, Bool.or_eq_true, Bool.and_eq_false_iff, Bool.or_eq_false_iff] at hc1
  have hlo : logOk o l = false := by simpa using hc1
  refine aa fun K4 hK4 => aL 0 Z Y rfl rfl rfl (sizeOf3 _) rfl (lb rfl) (ds := [iv (-1)]) rfl rfl ?_
  clear Z Y
  intro a w6 Z Y
  refine ab (hK4 _ _ ?_)
  replace Z := Z.p4 3 4 5 6 rfl
  refine ao ?_
  refine al Z results36 (aN rfl (cP (Y.g 0 rfl) (isAgg3 _)) ag) ?_
  exact ⟨by simp only [retv]; rw [findH, if_neg (by rw [hlo]; decide)]; try rfl, Y.ext⟩
 rw [hc1] at Z
 try simp only [qz, Bool.and_eq_true, Bool.or_eq_true, Bool.and_eq_false_iff, Bool.or_eq_false_iff] at hc1
 have hlo : logOk o l = true := by simpa using hc1
 refine ap <| hK2 _ _ <| ah fun K5 hK5 => aa fun K6 hK6 => wlv Z (aw (Y.g 3 rfl) rfl (isAgg25 _) (sizeOf25 _)) fun a Z => aR Z Y de call74 rfl (kg o lv _ l (Y.arg hlv)) ?_
 clear Z Y
 intro a w7 x2 hp Z Y
 revert x2 hp Z Y; rintro z1 hp Z Y
 clear hp
 replace Y : St No w0 [_, _, _, _, _] w7 := Y
 refine ab (hK6 _ _ ?_)
 replace Z := Z.p4 4 5 6 13 rfl
 replace Y := Y.k4 15 rfl
 refine aq ?_
 replace Y : St No w0 [blk w1.hz [iv kind] 3, blk w2.hz [iv at_] 3, blk w3.hz [iv 0] 3, blk z1 [iv o, lv] 25] w7 := Y.select [3, 2, 1, 0] de
 replace Z : Fr 27 [(4, pt w1.hz), (5, pt w2.hz), (6, pt w3.hz), (13, .func (.func 98) #[] #[pt z1])] [] a := Z.pick [4, 5, 6, 13]
 refine da (M := No) (w0 := w0) (encs := (encRb l)) (Hi := [blk z1 [iv o, lv] 25]) (Hc := [blk w1.hz [iv kind] 3, blk w2.hz [iv at_] 3, blk w3.hz [iv 0] 3]) (fun pre H => (findF (hitR kind at_) l l.length = findF (hitR kind at_) l (l.length - (pre : List Nat).length)) ∧ H = [blk w1.hz [iv kind] 3, blk w2.hz [iv at_] 3, blk w3.hz [iv 0] 3]) (fun c pre H => c = .ret ∧ ∃ (i : Nat), (findF (hitR kind at_) l l.length = (i : Int)) ∧ H = [blk w1.hz [iv kind] 3, blk w2.hz [iv at_] 3, blk w3.hz [iv (i : Int)] 3]) (fun pre xs H a => ∃ (bA0 : Nat), Fr 27 [(4, pt w1.hz), (5, pt w2.hz), (6, pt w3.hz), (13, .func (.func 98) #[] #[pt z1]), (7, iv (xs : Int)), (8, pt bA0)] [] a ∧ (findF (hitR kind at_) l l.length = findF (hitR kind at_) l (l.length - (pre : List Nat).length)) ∧ H = [blk bA0 [iv ((l.getD xs Rec.z).t), iv ((l.getD xs Rec.z).kind), iv ((l.getD xs Rec.z).a), iv ((l.getD xs Rec.z).b), sv ((l.getD xs Rec.z).text)] 48, blk w1.hz [iv kind] 3, blk w2.hz [iv at_] 3, blk w3.hz [iv 0] 3]) rfl call98 Z Y (gR o lv l z1 (by have := cj hlo; omega) (fun H w h => h.arg hlv)) de (fun _ => rfl) ⟨sm, rfl⟩ ?_ ?_ ?_ ?_
 ·clear Z Y
  rintro lp pre xs _ a w8 hnx ⟨hfi, rfl⟩ Z Y
  generalize (join [blk w1.hz [iv kind] 3, blk w2.hz [iv at_] 3, blk w3.hz [iv 0] 3]).foot = M1 at Y ⊢
  replace Z : Fr 27 [(15, .agg #[iv ((l.getD xs Rec.z).t), iv ((l.getD xs Rec.z).kind), iv ((l.getD xs Rec.z).a), iv ((l.getD xs Rec.z).b), sv ((l.getD xs Rec.z).text)]), (14, iv (xs : Int)), (4, pt w1.hz), (5, pt w2.hz), (6, pt w3.hz), (13, .func (.func 98) #[] #[pt z1])] [] a := Z
  refine aa fun K7 hK7 => wla Z rfl fun a Z => ab (hK7 _ _ <| ar ?_)
  refine aY Z Y de (zeroValue48 _) (cs := [iv 0, iv 0, iv 0, iv 0, .string (⟨#[]⟩)]) rfl ?_
  clear Z Y
  intro a w9 Z Y
  refine aL 0 Z Y rfl rfl rfl (sizeOf48 _) rfl (lb rfl) (ds := [iv ((l.getD xs Rec.z).t), iv ((l.getD xs Rec.z).kind), iv ((l.getD xs Rec.z).a), iv ((l.getD xs Rec.z).b), sv ((l.getD xs Rec.z).text)]) rfl rfl ?_
  clear Z Y
  intro a w10 Z Y
  refine ab ?_
  exact ⟨_, ⟨w8.hz, Z.pick [4, 5, 6, 13, 7, 8], hfi, rfl⟩, Y⟩
 ·rintro lp pre xs _ a w11 hnx ⟨bA0, Z, hfi, rfl⟩ hout hrec hnl Y
  clear hrec hnl
  generalize (join [blk bA0 [iv ((l.getD xs Rec.z).t), iv ((l.getD xs Rec.z).kind), iv ((l.getD xs Rec.z).a), iv ((l.getD xs Rec.z).b), sv ((l.getD xs Rec.z).text)] 48, blk w1.hz [iv kind] 3, blk w2.hz [iv at_] 3, blk w3.hz [iv 0] 3]).foot = M1 at Y hout ⊢
  refine aq <| aa fun K8 hK8 => wlv Z (ai (v := po bA0 1) rfl kr) fun a Z => wlv Z (ld Y 0 rfl rfl (isAgg3 _) rfl) fun a Z => wlv Z (ld Y 1 rfl rfl (isAgg3 _) rfl) fun a Z => wlv Z (v_eq rfl rfl) fun a Z => wlm Z rfl fun a Z => ?_
  refine cZ (N := 27) (df := []) 5 [(25, .bool ((decide ((l.getD xs Rec.z).kind = kind)) && (decide ((l.getD xs Rec.z).t ≤ at_)))), (4, pt w1.hz), (5, pt w2.hz), (6, pt w3.hz), (13, .func (.func 98) #[] #[pt z1]), (7, iv (xs : Int)), (8, pt bA0)] ?_ (fun hj => ?_)
  rotate_left
  ·rcases Bool.eq_false_or_eq_true (decide ((l.getD xs Rec.z).kind = kind)) with hb3 | hb3
   ·rw [hb3] at Z
    have hb3b := hb3
    try simp only [qz, Bool.and_eq_true, Bool.or_eq_true, Bool.and_eq_false_iff, Bool.or_eq_false_iff] at hb3
    refine wly Z (ai (v := pt bA0) rfl kr) fun a Z => wly Z (ld Y 0 rfl rfl (isAgg3 _) rfl) fun a Z => wly Z (ld Y 2 rfl rfl (isAgg3 _) rfl) fun a Z => wly Z (v_le rfl rfl) fun a Z => wlv Z (aA rfl rfl) fun a Z => ?_
    refine hj _ ?_
    try rw [hb3b]
    exact Z.pick [25, 4, 5, 6, 13, 7, 8]
   rw [hb3] at Z
   have hb3b := hb3
   try simp only [qz, Bool.and_eq_true, Bool.or_eq_true, Bool.and_eq_false_iff, Bool.or_eq_false_iff] at hb3
   refine wln Z fun a Z => wln Z fun a Z => wln Z fun a Z => wln Z fun a Z => wlv Z (au rfl rfl) fun a Z => ?_
   refine hj _ ?_
   try rw [hb3b]
   exact Z.pick [25, 4, 5, 6, 13, 7, 8]
  intro a Z
  refine ab (hK8 _ _ ?_)
  refine ax Z rfl (fun hc4 => ?_) (fun hc4 => ?_)
  ·rw [hc4] at Z
   try simp only [qz, Bool.and_eq_true, Bool.or_eq_true, Bool.and_eq_false_iff, Bool.or_eq_false_iff] at hc4
   refine aa fun K9 hK9 => wlm Z rfl fun a Z => aL 3 Z Y rfl rfl rfl (sizeOf3 _) rfl (lb rfl) (ds := [iv (xs : Int)]) rfl rfl ?_
   clear Z Y
   intro a w12 Z Y
   refine ab (hK9 _ _ ?_)
   replace Z := Z.p1 6 rfl
   replace Y := Y.k3 14 rfl
   refine ao ?_
   exact ⟨_, ⟨rfl, xs, oF hnx hfi (by unfold hitR; simp only [Bool.and_eq_true, decide_eq_true_eq]; omega), rfl⟩, Y.select [0, 1, 2] de⟩
  rw [hc4] at Z
  try simp only [qz, Bool.and_eq_true, Bool.or_eq_true, Bool.and_eq_false_iff, Bool.or_eq_false_iff] at hc4
  refine ap ?_
  exact ⟨_, ⟨pD hnx hfi (by unfold hitR; simp only [Bool.and_eq_false_iff, decide_eq_false_iff_not]; omega), rfl⟩, Y.select [1, 2, 3] de⟩
 ·rintro D pre _ _ a w13 ⟨rfl, rfl⟩ ⟨hfi, rfl⟩ Y Z
  replace Z : Fr 27 [(4, pt w1.hz), (5, pt w2.hz), (6, pt w3.hz), (13, .func (.func 98) #[] #[pt z1])] [{ target := .collected D, args := #[] }] a := Z
  replace Y : St No w0 [_, _, _, _, _] w13 := Y
  refine hK5 _ _ <| aa fun K10 hK10 => aL 3 Z Y rfl rfl rfl (sizeOf3 _) rfl (lb rfl) (ds := [iv (-1)]) rfl rfl ?_
  clear Z Y
  intro a w14 Z Y
  refine ab (hK10 _ _ <| ao ?_)
  have hD := Y.g 0 rfl
  replace Y := Y.unmark (i := 0) (o' := .deferred none) rfl
  replace Y : St No w0 [_, _, _, _] _ := Y
  refine cb Z hD results36 (aN rfl (cP (Y.g 2 rfl) (isAgg3 _)) ag) ?_
  exact ⟨by simp only [retv]; rw [findH, if_pos hlo, pn hfi]; try rfl, Y.ext⟩
 ·rintro D _ pre _ _ a w15 rfl ⟨rfl, i, hfh, rfl⟩ Y Z
  replace Z : Fr 27 [(4, pt w1.hz), (5, pt w2.hz), (6, pt w3.hz), (13, .func (.func 98) #[] #[pt z1])] [{ target := .collected D, args := #[] }] a := Z
  replace Y : St No w0 [_, _, _, _, _] w15 := Y
  refine ao ?_
  have hD := Y.g 0 rfl
  replace Y := Y.unmark (i := 0) (o' := .deferred none) rfl
  replace Y : St No w0 [_, _, _, _] _ := Y
  refine cb Z hD results36 (aN rfl (cP (Y.g 2 rfl) (isAgg3 _)) ag) ?_
  exact ⟨by simp only [retv]; rw [findH, if_pos hlo, hfh]; try rfl, Y.ext⟩
theorem dQ (o : Int) (lv : Value) (l : List Rec) (w0 : World) (hlv : SlAt w0 lv 5 (l.map Rec.cells)) (hlo : logOk o l = true) :
  Ret Tryz.prog 40 #[.agg #[iv o, lv]] w0 (MemR w0 (fun v : Value => .tuple #[v, .bool true]) (fun v => [own v 9 1 ((codesB l).map fun s => [sv s])]) (fun _ => True)) := by
 have hxb := hlv.2.1
 simp only [List.length_map, big] at hxb
 have hl60 := cj hlo
 refine aC func40 rfl ntmps40 (lb rfl) fun a Z => ?_
 replace Z := Z.p1 0 rfl
 replace Y : St No w0 [] w0 := St.init w0
 refine aa fun K1 hK1 => bh Z Y de rfl (cs := [iv o, lv]) rfl ?_
 clear Z Y
 intro a w1 Z Y
 refine wla Z rfl fun a Z => wla Z rfl fun a Z => ab (hK1 _ _ <| ah fun K2 hK2 => ?_)
 refine aa fun K3 hK3 => wlv Z (aw (Y.g 0 rfl) rfl (isAgg25 _) (sizeOf25 _)) fun a Z => am Z Y de call37 rfl (dY o lv l _ (Y.arg hlv)) ?_
 clear Z Y
 intro a w2 Z Y
 refine wlv Z (bp rfl) fun a Z => ab (hK3 _ _ ?_)
 refine ax Z rfl (fun hc1 => ?_) (fun hc1 => ?_)
 ·rw [hc1] at Z
  try simp only [qz] at hc1
  exfalso; simp [hlo] at hc1
 rw [hc1] at Z
 try simp only [qz] at hc1
 refine ap <| hK2 _ _ <| aa fun K4 hK4 => wlv Z (ai (v := po w0.hz 1) rfl kr) fun a Z => wlv Z (ld Y 0 rfl rfl (isAgg23 _) rfl) fun a Z => wlv Z ((aB (sT := 23) (Y.arg hlv) rfl rfl (runUnderlying23 _)).asi (m' := (l.length : Int)) (by rw [List.length_map])) fun a Z => iS (n := l.length) (E := 9) (sz := 1) rfl rfl ((List.replicate l.length ([] : By)).map fun s => [sv s]) (il underlying26 (inf := Tryz.t9) rfl rfl rfl rfl de l.length (by rw [List.map_replicate]; rfl) om _) (by intro e he; obtain ⟨_, _, rfl⟩ := List.mem_map.1 he; rfl) sm (by simp only [big]; omega) de Z Y ?_
 clear Z Y
 intro a w3 Z Y
 refine aY Z Y de (zeroValue26 _) (cs := [.slice none 0 0]) rfl ?_
 clear Z Y
 intro a w4 Z Y
 refine aL 0 Z Y rfl rfl rfl (sizeOf26 _) rfl (lb rfl) (ds := [(.slice (some ⟨w2.hz, 0, none⟩) l.length l.length)]) rfl rfl ?_
 clear Z Y
 intro a w5 Z Y
 refine ab (hK4 _ _ ?_)
 replace Z := Z.p4 1 2 3 4 rfl
 refine ah fun K5 hK5 => aa fun K6 hK6 => wlv Z (aw (Y.g 2 rfl) rfl (isAgg25 _) (sizeOf25 _)) fun a Z => aR Z Y de call74 rfl (kg o lv _ l (Y.arg hlv)) ?_
 clear Z Y
 intro a w6 x2 hp Z Y
 revert x2 hp Z Y; rintro z1 hp Z Y
 clear hp
 replace Y : St No w0 [_, _, _, _] w6 := Y
 refine ab (hK6 _ _ <| aq ?_)
 replace Y : St No w0 [blk z1 [iv o, lv] 25, blk w3.hz [(.slice (some ⟨w2.hz, 0, none⟩) l.length l.length)] 26, own (.slice (some ⟨w2.hz, 0, none⟩) l.length l.length) 9 1 ((outR l ([] : List Nat).length).map fun s => [sv s]), blk w0.hz [iv o, lv] 25] w6 := by rw [show outR l ([] : List Nat).length = _ from pQ l]; exact Y
 replace Y : St No w0 [blk w3.hz [(.slice (some ⟨w2.hz, 0, none⟩) l.length l.length)] 26, own (.slice (some ⟨w2.hz, 0, none⟩) l.length l.length) 9 1 ((outR l ([] : List Nat).length).map fun s => [sv s]), blk z1 [iv o, lv] 25] w6 := Y.select [1, 2, 0] de
 replace Z : Fr 27 [(1, pt w0.hz), (2, .slice none 0 0), (3, .bool false), (4, pt w3.hz), (14, .agg #[iv o, lv]), (15, .func (.func 98) #[] #[pt z1])] [] a := Z.pick [1, 2, 3, 4, 14, 15]
 refine da (M := No) (w0 := w0) (encs := (encRb l)) (Hi := [blk z1 [iv o, lv] 25]) (Hc := [blk w3.hz [(.slice (some ⟨w2.hz, 0, none⟩) l.length l.length)] 26, own (.slice (some ⟨w2.hz, 0, none⟩) l.length l.length) 9 1 ((outR l ([] : List Nat).length).map fun s => [sv s])]) (fun pre H => (True) ∧ H = [blk w3.hz [(.slice (some ⟨w2.hz, 0, none⟩) l.length l.length)] 26, own (.slice (some ⟨w2.hz, 0, none⟩) l.length l.length) 9 1 ((outR l (pre : List Nat).length).map fun s => [sv s])]) (fun _ _ _ => False) (fun pre xs H a => ∃ (bA0 : Nat), Fr 27 [(1, pt w0.hz), (2, .slice none 0 0), (3, .bool false), (4, pt w3.hz), (14, .agg #[iv o, lv]), (15, .func (.func 98) #[] #[pt z1]), (5, iv (xs : Int)), (6, pt bA0)] [] a ∧ (True) ∧ H = [blk bA0 [iv ((l.getD xs Rec.z).t), iv ((l.getD xs Rec.z).kind), iv ((l.getD xs Rec.z).a), iv ((l.getD xs Rec.z).b), sv ((l.getD xs Rec.z).text)] 48, blk w3.hz [(.slice (some ⟨w2.hz, 0, none⟩) l.length l.length)] 26, own (.slice (some ⟨w2.hz, 0, none⟩) l.length l.length) 9 1 ((outR l (pre : List Nat).length).map fun s => [sv s])]) rfl call98 Z Y (gR o lv l z1 (by have := cj hlo; omega) (fun H w h => h.arg hlv)) de (fun _ => rfl) ⟨trivial, rfl⟩ ?_ ?_ ?_ ?_
 ·clear Z Y
  rintro lp pre xs _ a w7 hnx ⟨htr, rfl⟩ Z Y
  generalize (join [blk w3.hz [(.slice (some ⟨w2.hz, 0, none⟩) l.length l.length)] 26, own (.slice (some ⟨w2.hz, 0, none⟩) l.length l.length) 9 1 ((outR l (pre : List Nat).length).map fun s => [sv s])]).foot = M1 at Y ⊢
  replace Z : Fr 27 [(17, .agg #[iv ((l.getD xs Rec.z).t), iv ((l.getD xs Rec.z).kind), iv ((l.getD xs Rec.z).a), iv ((l.getD xs Rec.z).b), sv ((l.getD xs Rec.z).text)]), (16, iv (xs : Int)), (1, pt w0.hz), (2, .slice none 0 0), (3, .bool false), (4, pt w3.hz), (14, .agg #[iv o, lv]), (15, .func (.func 98) #[] #[pt z1])] [] a := Z
  refine aa fun K7 hK7 => wla Z rfl fun a Z => ab (hK7 _ _ <| ar ?_)
  refine aY Z Y de (zeroValue48 _) (cs := [iv 0, iv 0, iv 0, iv 0, .string (⟨#[]⟩)]) rfl ?_
  clear Z Y
  intro a w8 Z Y
  refine aL 0 Z Y rfl rfl rfl (sizeOf48 _) rfl (lb rfl) (ds := [iv ((l.getD xs Rec.z).t), iv ((l.getD xs Rec.z).kind), iv ((l.getD xs Rec.z).a), iv ((l.getD xs Rec.z).b), sv ((l.getD xs Rec.z).text)]) rfl rfl ?_
  clear Z Y
  intro a w9 Z Y
  refine ab ?_
  exact ⟨_, ⟨w7.hz, Z.pick [1, 2, 3, 4, 14, 15, 5, 6], htr, rfl⟩, Y⟩
 ·rintro lp pre xs _ a w10 hnx ⟨bA0, Z, htr, rfl⟩ hout hrec hnl Y
  clear hrec hnl
  generalize (join [blk bA0 [iv ((l.getD xs Rec.z).t), iv ((l.getD xs Rec.z).kind), iv ((l.getD xs Rec.z).a), iv ((l.getD xs Rec.z).b), sv ((l.getD xs Rec.z).text)] 48, blk w3.hz [(.slice (some ⟨w2.hz, 0, none⟩) l.length l.length)] 26, own (.slice (some ⟨w2.hz, 0, none⟩) l.length l.length) 9 1 ((outR l (pre : List Nat).length).map fun s => [sv s])]).foot = M1 at Y hout ⊢
  refine aq <| aH kr ?_
  replace Z := Z.p8 1 2 3 4 14 15 5 6 rfl
  replace Y : St M1 w10 [own (.slice (some ⟨w2.hz, 0, none⟩) l.length l.length) 9 1 ((outR l (pre : List Nat).length).map fun s => [sv s]), blk bA0 [iv ((l.getD xs Rec.z).t), iv ((l.getD xs Rec.z).kind), iv ((l.getD xs Rec.z).a), iv ((l.getD xs Rec.z).b), sv ((l.getD xs Rec.z).text)] 48, blk w3.hz [(.slice (some ⟨w2.hz, 0, none⟩) l.length l.length)] 26] w10 := Y.select [2, 0, 1] de
  have hso3 := Y.ow 0 rfl
  refine eI [8] (fun q => if q = 8 then own (.slice (some ⟨w2.hz, 0, none⟩) l.length l.length) 9 1 ((outR l (pre : List Nat).length).map fun s => [sv s]) else join []) (fun q => if q = 8 then own (.slice (some ⟨w2.hz, 0, none⟩) l.length l.length) 9 1 ((outR l ((pre ++ [xs]) : List Nat).length).map fun s => [sv s]) else join []) 9 [[], [], [], [2], [3], [4], [4], [0, 1], [5, 7]] (fun i => match i with | 0 => pv ((.slice (some ⟨w2.hz, 0, none⟩) l.length l.length)) | 1 => pv (iv (xs : Int)) | 2 => pv (.agg #[iv ((l.getD xs Rec.z).t), iv ((l.getD xs Rec.z).kind), iv ((l.getD xs Rec.z).a), iv ((l.getD xs Rec.z).b), sv ((l.getD xs Rec.z).text)]) | 3 => pv (.tuple #[sv (eB (l.getD xs Rec.z)), iv (eE (l.getD xs Rec.z))]) | 4 => pv (.tuple #[sv (eB (l.getD xs Rec.z)), iv (eE (l.getD xs Rec.z))]) | 5 => pv (sv (eB (l.getD xs Rec.z))) | 6 => pv (iv (eE (l.getD xs Rec.z))) | 7 => pv (slAddr (.slice (some ⟨w2.hz, 0, none⟩) l.length l.length) (xs * 1)) | 8 => fun v E => v = undef ∧ E = [] | _ => fun _ _ => False) (by intro q; by_cases h8 : q = 8; (subst h8; rfl); simp only [h8, if_false]) Z (H := [blk bA0 [iv ((l.getD xs Rec.z).t), iv ((l.getD xs Rec.z).kind), iv ((l.getD xs Rec.z).a), iv ((l.getD xs Rec.z).b), sv ((l.getD xs Rec.z).text)] 48, blk w3.hz [(.slice (some ⟨w2.hz, 0, none⟩) l.length l.length)] 26]) Y kr kr kr kr de de ?_ ?_ ?_ ?_ ?_ ?_
  ·intro i v E h
   match i, h with
   | 0, _ => exact by decide
   | 1, _ => exact by decide
   | 2, _ => exact by decide
   | 3, _ => exact by decide
   | 4, _ => exact by decide
   | 5, _ => exact by decide
   | 6, _ => exact by decide
   | 7, _ => exact by decide
   | 8, _ => exact by decide
   | i + 9, h => exact h.elim
  ·intro q v E hq h
   simp only [List.mem_cons, List.not_mem_nil, or_false] at hq
   rcases hq with rfl <;> exact h
  ·intro q hq
   simp only [List.mem_cons, List.not_mem_nil, or_false] at hq
   rcases hq with rfl <;> exact ⟨rfl, rfl⟩
  ·intro i hi hiq e
   match i, hi, hiq with
   | 0, _, _ => exact fun w Y => OpV.g (ld Y 2 rfl rfl (isAgg26 _) rfl)
   | 1, _, _ => exact fun w Y => OpV.g (ae rfl)
   | 2, _, _ => exact fun w Y => OpV.g (aw (Y.g 1 rfl) rfl (isAgg48 _) (sizeOf48 _))
   | 3, _, _ =>
    rintro _ _ ⟨rfl, rfl⟩
    intro w Y
    exact aQ call33 rfl (jg (l.getD xs Rec.z) _)
   | 4, _, _ =>
    rintro _ _ ⟨rfl, rfl⟩
    intro w Y
    exact OpV.g (ae rfl)
   | 5, _, _ =>
    rintro _ _ ⟨rfl, rfl⟩
    intro w Y
    exact OpV.g (ak rfl rfl)
   | 6, _, _ =>
    rintro _ _ ⟨rfl, rfl⟩
    intro w Y
    exact OpV.g (ak rfl rfl)
   | 7, _, _ =>
    rintro _ _ ⟨rfl, rfl⟩ _ _ ⟨rfl, rfl⟩
    intro w Y
    exact OpV.g ((fN (i := (xs : Int)) hso3 rfl rfl (runUnderlying26 _) (sizeOf9 _) om (by have h9 : xs + 1 + pre.length = l.length := hnx; rw [List.length_map, jE _ _ om]; omega)).as (v' := slAddr (.slice (some ⟨w2.hz, 0, none⟩) l.length l.length) (xs * 1)) rfl)
   | 8, _, h => exact absurd de h
  ·intro q hq
   simp only [List.mem_cons, List.not_mem_nil, or_false] at hq
   rcases hq with rfl
   ·rintro _ _ ⟨rfl, rfl⟩ _ _ ⟨rfl, rfl⟩
    intro w h
    exact kM (k := xs) (j := 0) rfl rfl h (by have h9 : xs + 1 + pre.length = l.length := hnx; rw [List.length_map, jE _ _ om]; omega) om (sizeOf9 _) (by simp [Value.oneCell', yv, wv, sv, Value.cells]) (lb rfl) (els' := ((outR l ((pre ++ [xs]) : List Nat).length).map fun s => [sv s])) (nw hnx _)
  clear Z Y
  rintro _ _ ⟨rfl, rfl⟩ _ _ ⟨rfl, rfl⟩ _ _ ⟨rfl, rfl⟩ _ _ ⟨rfl, rfl⟩ _ _ ⟨rfl, rfl⟩ _ _ ⟨rfl, rfl⟩ _ _ ⟨rfl, rfl⟩ _ _ ⟨rfl, rfl⟩ a w11 Z Y
  replace Z : Fr 27 [(19, _), (20, _), (21, _), (22, _), (18, _), (23, _), (24, _), (25, _), (1, _), (2, _), (3, _), (4, _), (14, _), (15, _), (5, _), (6, _)] [] a := Z
  replace Y : St M1 w10 [_, _, _] w11 := Y
  refine ab ?_
  exact ⟨_, ⟨trivial, rfl⟩, Y.select [2, 0] de⟩
 ·rintro D pre _ _ a w12 ⟨rfl, rfl⟩ ⟨htr, rfl⟩ Y Z
  replace Z : Fr 27 [(1, pt w0.hz), (2, .slice none 0 0), (3, .bool false), (4, pt w3.hz), (14, .agg #[iv o, lv]), (15, .func (.func 98) #[] #[pt z1])] [{ target := .collected D, args := #[] }] a := Z
  replace Y : St No w0 [_, _, _, _] w12 := Y
  refine hK5 _ _ <| aa fun K8 hK8 => wlv Z (ld Y 1 rfl rfl (isAgg26 _) rfl) fun a Z => wla Z rfl fun a Z => wla Z rfl fun a Z => ab (hK8 _ _ <| ao ?_)
  have hD := Y.g 0 rfl
  replace Y := Y.unmark (i := 0) (o' := .deferred none) rfl
  replace Y : St No w0 [_, _, _] _ := Y
  refine cb Z hD results40 (ac rfl (ac rfl ag)) ?_
  rw [og] at Y
  exact ⟨(.slice (some ⟨w2.hz, 0, none⟩) l.length l.length), rfl, trivial, Y.ext, St.out (E := [own (.slice (some ⟨w2.hz, 0, none⟩) l.length l.length) 9 1 ((codesB l).map fun s => [sv s])]) (H := []) (Y.select [1] de)⟩
 ·rintro D c pre _ _ a w13 _ h
  exact h.elim
theorem gz (o : Int) (lv : Value) (l : List Rec) (w0 : World) (hlv : SlAt w0 lv 5 (l.map Rec.cells)) (hlo : logOk o l = false) :
  Ret Tryz.prog 40 #[.agg #[iv o, lv]] w0 fun v w => v = .tuple #[.slice none 0 0, .bool false] ∧ Ext No w0 w := by
 refine aC func40 rfl ntmps40 (lb rfl) fun a Z => ?_
 replace Z := Z.p1 0 rfl
 replace Y : St No w0 [] w0 := St.init w0
 refine aa fun K1 hK1 => bh Z Y de rfl (cs := [iv o, lv]) rfl ?_
 clear Z Y
 intro a w1 Z Y
 refine wla Z rfl fun a Z => wla Z rfl fun a Z => ab (hK1 _ _ <| ah fun K2 hK2 => ?_)
 refine aa fun K3 hK3 => wlv Z (aw (Y.g 0 rfl) rfl (isAgg25 _) (sizeOf25 _)) fun a Z => am Z Y de call37 rfl (dY o lv l _ (Y.arg hlv)) ?_
 clear Z Y
 intro a w2 Z Y
 refine wlv Z (bp rfl) fun a Z => ab (hK3 _ _ ?_)
 refine ax Z rfl (fun hc1 => ?_) (fun hc1 => ?_)
 ·rw [hc1] at Z
  try simp only [qz] at hc1
  refine aa fun K4 hK4 => wla Z rfl fun a Z => wla Z rfl fun a Z => ab (hK4 _ _ <| ao ?_)
  refine al Z results40 (ac rfl (ac rfl ag)) ?_
  exact ⟨by rfl, Y.ext⟩
 rw [hc1] at Z
 try simp only [qz] at hc1
 exfalso; simp [hlo] at hc1
end Go.Proofs.YtddfkkdanpmnaaaGreatDoor
namespace Go.Proofs.YtddfkkdanpmnaaaGreatDoor
open Go.RowKit Go.PW _root_.Go.Proofs.Tryz
theorem fS (o : Int) (lv : Value) (l : List Rec) (w0 : World) (hlv : SlAt w0 lv 5 (l.map Rec.cells)) (hk0 : (blk 0 (kOf.map wv) 161).ok w0) :
  Ret Tryz.prog 10 #[.agg #[iv o, lv]] w0 fun v w => v = .tuple #[sv (headB o l), iv (headE o l)] ∧ Ext No w0 w := by
 refine aC func10 rfl ntmps10 (lb rfl) fun a Z => ?_
 replace Z := Z.p1 0 rfl
 replace Y : St No w0 [] w0 := St.init w0
 refine aa fun K1 hK1 => bh Z Y de rfl (cs := [iv o, lv]) rfl ?_
 clear Z Y
 intro a w1 Z Y
 refine wla Z rfl fun a Z => wla Z rfl fun a Z => ab (hK1 _ _ <| aa fun K2 hK2 => ?_)
 refine wlv Z (aw (Y.g 0 rfl) rfl (isAgg25 _) (sizeOf25 _)) fun a Z => ?_
 rcases Bool.eq_false_or_eq_true (logOk o l) with hb1 | hb1
 ·try simp only [qz] at hb1
  have hlo : logOk o l = true := hb1
  have hll : l.length ≤ 60 := cj hlo
  refine aR Z Y de call40 rfl (dQ o lv l _ (Y.arg hlv) hlo) ?_
  clear Z Y
  intro a w2 x3 hp Z Y
  revert x3 hp Z Y; rintro v2 hp Z Y
  clear hp
  replace Y : St No w0 [_, _] w2 := Y
  refine wlm Z rfl fun a Z => wlv Z (ak rfl rfl) fun a Z => wlv Z (ak rfl rfl) fun a Z => wla Z rfl fun a Z => wla Z rfl fun a Z => ab (hK2 _ _ ?_)
  replace Z := Z.p4 2 3 4 5 rfl
  replace Y := Y.k1 1 rfl
  refine ah fun K3 hK3 => aa fun K4 hK4 => wlm Z rfl fun a Z => wlv Z ((bp rfl).asb (b' := false) rfl) fun a Z => ab (hK4 _ _ <| aG Z rfl ?_)
  refine ap <| hK3 _ _ <| aa fun K5 hK5 => wlm Z rfl fun a Z => am Z Y de call41 rfl (ey v2 (codesB l) _ (Y.ow 0 rfl) (by rw [cg]; omega) (fun k hk => Nat.le_trans (eP l _ (bD hk)) de) (Y.keepb hk0)) ?_
  clear Z Y
  intro a w3 Z Y
  refine wla Z rfl fun a Z => wla Z rfl fun a Z => ab (hK5 _ _ ?_)
  replace Z := Z.p2 2 3 rfl
  replace Y : St No w0 [] w3 := Y.mask [false]
  refine ao ?_
  refine al Z results10 (ac rfl (ac rfl ag)) ?_
  exact ⟨by simp only [retv]; unfold headB headE; rw [if_pos hlo, if_pos hlo, cQ (bL hlo)], Y.ext⟩
 try simp only [qz] at hb1
 have hlo : logOk o l = false := hb1
 have hll : l.length ≤ l.length := Nat.le_refl _
 refine am Z Y de call40 rfl (gz o lv l _ (Y.arg hlv) hlo) ?_
 clear Z Y
 intro a w4 Z Y
 refine wlm Z rfl fun a Z => wlv Z (ak rfl rfl) fun a Z => wlv Z (ak rfl rfl) fun a Z => wla Z rfl fun a Z => wla Z rfl fun a Z => ab (hK2 _ _ ?_)
 replace Z := Z.p4 2 3 4 5 rfl
 replace Y : St No w0 [] w4 := Y.mask [false]
 refine ah fun K6 hK6 => aa fun K7 hK7 => wlm Z rfl fun a Z => wlv Z ((bp rfl).asb (b' := true) rfl) fun a Z => ab (hK7 _ _ <| aD Z rfl ?_)
 refine aa fun K8 hK8 => wla Z rfl fun a Z => wla Z rfl fun a Z => ab (hK8 _ _ <| ao ?_)
 refine al Z results10 (ac rfl (ac rfl ag)) ?_
 exact ⟨by simp only [retv]; unfold headB headE; rw [hlo]; rfl, Y.ext⟩
theorem jh (key : By) (o : Int) (lv : Value) (l : List Rec) (w0 : World) (hlv : SlAt w0 lv 5 (l.map Rec.cells)) (hk0 : (blk 0 (kOf.map wv) 161).ok w0) :
  Ret Tryz.prog 13 #[sv key, .agg #[iv o, lv]] w0 fun v w => v = .tuple #[sv (signB key o l), iv (signE key o l)] ∧ Ext No w0 w := by
 refine aC func13 rfl ntmps13 (lb rfl) fun a Z => ?_
 replace Z := Z.p2 0 1 rfl
 replace Y : St No w0 [] w0 := St.init w0
 refine aa fun K1 hK1 => bh Z Y de rfl (cs := [iv o, lv]) rfl ?_
 clear Z Y
 intro a w1 Z Y
 refine wla Z rfl fun a Z => wla Z rfl fun a Z => ab (hK1 _ _ <| aa fun K2 hK2 => ?_)
 refine wlv Z (aw (Y.g 0 rfl) rfl (isAgg25 _) (sizeOf25 _)) fun a Z => am Z Y de call10 rfl (fS o lv l _ (Y.arg hlv) (Y.keepb hk0)) ?_
 clear Z Y
 intro a w2 Z Y
 refine wlm Z rfl fun a Z => wlv Z (ak rfl rfl) fun a Z => wlv Z (ak rfl rfl) fun a Z => wla Z rfl fun a Z => wla Z rfl fun a Z => ab (hK2 _ _ ?_)
 replace Z := Z.p6 0 3 4 5 6 7 rfl
 refine ah fun K3 hK3 => aa fun K4 hK4 => wlm Z rfl fun a Z => wlv Z (v_ne rfl rfl) fun a Z => wlm Z rfl fun a Z => ?_
 rcases Bool.eq_false_or_eq_true (!decide (headE o l = 0)) with hb1 | hb1
 ·rw [hb1] at Z
  try simp only [qz] at hb1
  have hlo : logOk o l = false := by
   cases h : logOk o l with
   | false => rfl
   | true => exact absurd (dV.2 h) om
  have hsg : signOk key o l = false := by unfold signOk; rw [hlo]; rfl
  refine wln Z fun a Z => wln Z fun a Z => wln Z fun a Z => wlv Z (aA rfl rfl) fun a Z => ab (hK4 _ _ ?_)
  replace Z := Z.p6 0 3 4 5 6 19 rfl
  refine aD Z rfl ?_
  refine aa fun K5 hK5 => wla Z rfl fun a Z => wla Z rfl fun a Z => ab (hK5 _ _ <| ao ?_)
  refine al Z results13 (ac rfl (ac rfl ag)) ?_
  exact ⟨by simp only [retv]; unfold signB signE; rw [hsg]; rfl, Y.ext⟩
 rw [hb1] at Z
 try simp only [qz] at hb1
 have hlo : logOk o l = true := dV.1 om
 have hob := fw hlo
 have hlb := cj hlo
 have hs0 : small o := by unfold small; omega
 have hs1 : small (l.length : Int) := by unfold small; omega
 have hr32 : (headB o l).length = 32 := by rw [es hlo]; exact ca bE _
 refine wly Z (ae rfl) fun a Z => wly Z (aZ rfl rfl (runUnderlying9 _)) fun a Z => wly Z (v_ne rfl rfl) fun a Z => wlv Z (au rfl rfl) fun a Z => ab (hK4 _ _ ?_)
 replace Z := Z.p6 0 3 4 5 6 19 rfl
 refine ax Z rfl (fun hc2 => ?_) (fun hc2 => ?_)
 ·rw [hc2] at Z
  try simp only [qz] at hc2
  have hsg : signOk key o l = false := by unfold signOk; rw [hlo, decide_eq_false om]; rfl
  refine aa fun K6 hK6 => wla Z rfl fun a Z => wla Z rfl fun a Z => ab (hK6 _ _ <| ao ?_)
  refine al Z results13 (ac rfl (ac rfl ag)) ?_
  exact ⟨by simp only [retv]; unfold signB signE; rw [hsg]; rfl, Y.ext⟩
 rw [hc2] at Z
 try simp only [qz] at hc2
 have hsg : signOk key o l = true := by unfold signOk; rw [hlo, decide_eq_true om]; rfl
 refine ap <| hK3 _ _ <| aa fun K7 hK7 => wlm Z rfl fun a Z => wlv Z (ai (v := pt w0.hz) rfl kr) fun a Z => wlv Z (ld Y 0 rfl rfl (isAgg3 _) rfl) fun a Z => wlv Z (ai (v := po w0.hz 1) rfl kr) fun a Z => wlv Z (ld Y 0 rfl rfl (isAgg23 _) rfl) fun a Z => wlv Z ((aB (sT := 23) (Y.arg hlv) rfl rfl (runUnderlying23 _)).asi (m' := (l.length : Int)) (by rw [List.length_map])) fun a Z => wlm Z rfl fun a Z => am Z Y de call46 rfl (nL key o (l.length : Int) (headB o l) _ hs0 hs1 om om (Y.keepb hk0)) ?_
 clear Z Y
 intro a w3 Z Y
 refine wla Z rfl fun a Z => wla Z rfl fun a Z => ab (hK7 _ _ ?_)
 replace Z := Z.p2 4 5 rfl
 replace Y : St No w0 [] w3 := Y.mask [false]
 refine ao ?_
 refine al Z results13 (ac rfl (ac rfl ag)) ?_
 exact ⟨by simp only [retv]; unfold signB signE; rw [if_pos hsg, if_pos hsg, es hlo], Y.ext⟩
theorem jY {n a b : Int} (h : inB n a b = true) : a ≤ n ∧ n ≤ b := by simpa [inB] using h
theorem cC (key : By) (owner n : Int) (root t : By) (w0 : World) (hk0 : (blk 0 (kOf.map wv) 161).ok w0) :
  Ret Tryz.prog 15 #[sv key, iv owner, iv n, sv root, sv t] w0 fun v w => v = .bool (genR sha key owner n root t) ∧ Ext No w0 w := by
 refine aC func15 rfl ntmps15 (lb rfl) fun a Z => ?_
 replace Z := Z.p5 0 1 2 3 4 rfl
 replace Y : St No w0 [] w0 := St.init w0
 refine aa fun K1 hK1 => wla Z rfl fun a Z => ab (hK1 _ _ <| aa fun K2 hK2 => ?_)
 refine wlm Z rfl fun a Z => am Z Y de call49 rfl (dW owner 0 99 _) ?_
 clear Z Y
 intro a w1 Z Y
 refine wlm Z rfl fun a Z => ?_
 rcases Bool.eq_false_or_eq_true (inB owner 0 99) with hb1 | hb1
 ·rw [hb1] at Z
  try simp only [qz] at hb1
  have hs0 : small owner := by have h9 := jY hb1; unfold small; omega
  refine wly Z (ae rfl) fun a Z => aO Z Y de rfl de rfl call49 rfl (dW n 0 60 _) ?_
  clear Z Y
  intro a w2 Z Y
  refine wlv Z (aA rfl rfl) fun a Z => wla Z rfl fun a Z => ab (hK2 _ _ ?_)
  replace Z := Z.p7 0 1 2 3 4 10 11 rfl
  refine aa fun K3 hK3 => wlm Z rfl fun a Z => wlm Z rfl fun a Z => ?_
  rcases Bool.eq_false_or_eq_true (inB n 0 60) with hb2 | hb2
  ·rw [hb2] at Z
   try simp only [qz] at hb2
   have hs1 : small n := by have h9 := jY hb2; unfold small; omega
   refine wly Z (ae rfl) fun a Z => wly Z (aZ rfl rfl (runUnderlying9 _)) fun a Z => wly Z (v_eq rfl rfl) fun a Z => wlv Z (aA rfl rfl) fun a Z => wlm Z rfl fun a Z => ?_
   rcases Bool.eq_false_or_eq_true (decide ((key.length : Int) = 32)) with hb3 | hb3
   ·rw [hb3] at Z
    try simp only [qz] at hb3
    refine wly Z (ae rfl) fun a Z => wly Z (aZ rfl rfl (runUnderlying9 _)) fun a Z => wly Z (v_eq rfl rfl) fun a Z => wlv Z (aA rfl rfl) fun a Z => wlm Z rfl fun a Z => ?_
    rcases Bool.eq_false_or_eq_true (decide ((root.length : Int) = 32)) with hb4 | hb4
    ·rw [hb4] at Z
     try simp only [qz] at hb4
     refine wly Z (ae rfl) fun a Z => wly Z (ae rfl) fun a Z => wly Z (ae rfl) fun a Z => wly Z (ae rfl) fun a Z => wly Z (ae rfl) fun a Z => aO Z Y de rfl de rfl call46 rfl (nL key owner n root _ hs0 hs1 om om (Y.keepb hk0)) ?_
     clear Z Y
     intro a w3 Z Y
     refine wly Z (dt rfl rfl) fun a Z => wlv Z (aA rfl rfl) fun a Z => wla Z rfl fun a Z => ab (hK3 _ _ ?_)
     replace Z := Z.p1 10 rfl
     refine ao ?_
     refine al Z results15 (ac rfl ag) ?_
     refine ⟨?_, Y.ext⟩
     simp only [retv]
     refine congrArg Value.bool ?_
     unfold genR; rw [decide_eq_true (by omega : key.length = 32), decide_eq_true (by omega : root.length = 32), hb1, hb2]; rfl
    rw [hb4] at Z
    try simp only [qz] at hb4
    refine wln Z fun a Z => wln Z fun a Z => wln Z fun a Z => wln Z fun a Z => wln Z fun a Z => wln Z fun a Z => wln Z fun a Z => wlv Z (au rfl rfl) fun a Z => wla Z rfl fun a Z => ab (hK3 _ _ ?_)
    replace Z := Z.p1 10 rfl
    refine ao ?_
    refine al Z results15 (ac rfl ag) ?_
    refine ⟨?_, Y.ext⟩
    simp only [retv]
    refine congrArg Value.bool ?_
    rw [eq_comm, Bool.eq_false_iff]; intro h; simp only [genR, Bool.and_eq_true, decide_eq_true_eq] at h
    first | (obtain ⟨⟨⟨⟨h1, h2⟩, h3⟩, h4⟩, h5⟩ := h; first | omega | (rw [h2] at hb4; cases hb4) | (rw [h3] at hb4; cases hb4))
   rw [hb3] at Z
   try simp only [qz] at hb3
   refine wln Z fun a Z => wln Z fun a Z => wln Z fun a Z => wlv Z (au rfl rfl) fun a Z => wlm Z rfl fun a Z => wln Z fun a Z => wln Z fun a Z => wln Z fun a Z => wln Z fun a Z => wln Z fun a Z => wln Z fun a Z => ?_
   refine wln Z fun a Z => wlv Z (au rfl rfl) fun a Z => wla Z rfl fun a Z => ab (hK3 _ _ ?_)
   replace Z := Z.p1 10 rfl
   refine ao ?_
   refine al Z results15 (ac rfl ag) ?_
   refine ⟨?_, Y.ext⟩
   simp only [retv]
   refine congrArg Value.bool ?_
   rw [eq_comm, Bool.eq_false_iff]; intro h; simp only [genR, Bool.and_eq_true, decide_eq_true_eq] at h
   first | (obtain ⟨⟨⟨⟨h1, h2⟩, h3⟩, h4⟩, h5⟩ := h; first | omega | (rw [h2] at hb3; cases hb3) | (rw [h3] at hb3; cases hb3))
  rw [hb2] at Z
  try simp only [qz] at hb2
  refine wln Z fun a Z => wln Z fun a Z => wln Z fun a Z => wlv Z (au rfl rfl) fun a Z => wlm Z rfl fun a Z => wln Z fun a Z => wln Z fun a Z => wln Z fun a Z => wlv Z (au rfl rfl) fun a Z => wlm Z rfl fun a Z => wln Z fun a Z => wln Z fun a Z => ?_
  refine wln Z fun a Z => wln Z fun a Z => wln Z fun a Z => wln Z fun a Z => wln Z fun a Z => wlv Z (au rfl rfl) fun a Z => wla Z rfl fun a Z => ab (hK3 _ _ ?_)
  replace Z := Z.p1 10 rfl
  refine ao ?_
  refine al Z results15 (ac rfl ag) ?_
  refine ⟨?_, Y.ext⟩
  simp only [retv]
  refine congrArg Value.bool ?_
  rw [eq_comm, Bool.eq_false_iff]; intro h; simp only [genR, Bool.and_eq_true, decide_eq_true_eq] at h
  first | (obtain ⟨⟨⟨⟨h1, h2⟩, h3⟩, h4⟩, h5⟩ := h; first | omega | (rw [h2] at hb2; cases hb2) | (rw [h3] at hb2; cases hb2))
 rw [hb1] at Z
 try simp only [qz] at hb1
 refine wln Z fun a Z => wln Z fun a Z => wlv Z (au rfl rfl) fun a Z => wla Z rfl fun a Z => ab (hK2 _ _ ?_)
 replace Z := Z.p7 0 1 2 3 4 10 11 rfl
 refine aa fun K4 hK4 => wlm Z rfl fun a Z => wlm Z rfl fun a Z => wln Z fun a Z => wln Z fun a Z => wln Z fun a Z => wlv Z (au rfl rfl) fun a Z => wlm Z rfl fun a Z => wln Z fun a Z => wln Z fun a Z => wln Z fun a Z => wlv Z (au rfl rfl) fun a Z => wlm Z rfl fun a Z => ?_
 refine wln Z fun a Z => wln Z fun a Z => wln Z fun a Z => wln Z fun a Z => wln Z fun a Z => wln Z fun a Z => wln Z fun a Z => wlv Z (au rfl rfl) fun a Z => wla Z rfl fun a Z => ab (hK4 _ _ ?_)
 replace Z := Z.p1 10 rfl
 refine ao ?_
 refine al Z results15 (ac rfl ag) ?_
 refine ⟨?_, Y.ext⟩
 simp only [retv]
 refine congrArg Value.bool ?_
 rw [eq_comm, Bool.eq_false_iff]; intro h; simp only [genR, Bool.and_eq_true, decide_eq_true_eq] at h
 first | (obtain ⟨⟨⟨⟨h1, h2⟩, h3⟩, h4⟩, h5⟩ := h; first | omega | (rw [h2] at hb1; cases hb1) | (rw [h3] at hb1; cases hb1))
theorem bW (root : By) (n i : Int) (x : Rec) (pv_ : Value) (ps : List By) (w0 : World) (hpv : SlAt w0 pv_ 1 (ps.map fun s => [sv s])) (hpl : ps.length ≤ 1000) (hn : i64 n) (hk0 : (blk 0 (kOf.map wv) 161).ok w0) :
  Ret Tryz.prog 25 #[sv root, iv n, iv i, .agg #[iv x.t, iv x.kind, iv x.a, iv x.b, sv x.text], pv_] w0 fun v w => v = .bool (checkB root n i x ps) ∧ Ext No w0 w := by
 refine aC func25 rfl ntmps25 (lb rfl) fun a Z => ?_
 replace Z := Z.p5 0 1 2 3 4 rfl
 replace Y : St No w0 [] w0 := St.init w0
 refine aa fun K1 hK1 => bh Z Y de rfl (cs := [iv x.t, iv x.kind, iv x.a, iv x.b, sv x.text]) rfl ?_
 clear Z Y
 intro a w1 Z Y
 refine wla Z rfl fun a Z => ab (hK1 _ _ <| aa fun K2 hK2 => ?_)
 refine wlv Z (aw (Y.g 0 rfl) rfl (isAgg48 _) (sizeOf48 _)) fun a Z => am Z Y de call33 rfl (jg x _) ?_
 clear Z Y
 intro a w2 Z Y
 refine wlm Z rfl fun a Z => wlv Z (ak rfl rfl) fun a Z => wlv Z (ak rfl rfl) fun a Z => wla Z rfl fun a Z => wla Z rfl fun a Z => ab (hK2 _ _ ?_)
 replace Z := Z.p7 0 1 2 4 10 11 12 rfl
 replace Y : St No w0 [] w2 := Y.mask [false]
 refine aa fun K3 hK3 => wlm Z rfl fun a Z => wlv Z (v_eq rfl rfl) fun a Z => wlm Z rfl fun a Z => ?_
 rcases Bool.eq_false_or_eq_true (decide (eE x = 0)) with hb1 | hb1
 ·rw [hb1] at Z
  try simp only [qz] at hb1
  have hxo : x.ok = true := by unfold eE at hb1; cases h : x.ok <;> simp_all
  refine wly Z (ae rfl) fun a Z => wly Z (ae rfl) fun a Z => wly Z (ae rfl) fun a Z => wly Z (ae rfl) fun a Z => wly Z (ae rfl) fun a Z => aO Z Y de rfl de rfl call57 rfl (mE root (eB x) n i pv_ ps _ (Y.arg hpv) om (by have := kW x; omega) (by unfold i64 at hn; omega) (Y.keepb hk0)) ?_
  clear Z Y
  intro a w3 Z Y
  refine wlv Z (aA rfl rfl) fun a Z => wla Z rfl fun a Z => ab (hK3 _ _ ?_)
  replace Z := Z.p1 10 rfl
  refine ao ?_
  refine al Z results25 (ac rfl ag) ?_
  exact ⟨by simp only [retv]; unfold checkB; rw [hxo, show eB x = x.enc from if_pos hxo]; rfl, Y.ext⟩
 rw [hb1] at Z
 try simp only [qz] at hb1
 have hxo : x.ok = false := by unfold eE at hb1; cases h : x.ok <;> simp_all
 refine wln Z fun a Z => wln Z fun a Z => wln Z fun a Z => wln Z fun a Z => wln Z fun a Z => wln Z fun a Z => wlv Z (au rfl rfl) fun a Z => wla Z rfl fun a Z => ab (hK3 _ _ ?_)
 replace Z := Z.p1 10 rfl
 refine ao ?_
 refine al Z results25 (ac rfl ag) ?_
 exact ⟨by simp only [retv]; unfold checkB; rw [hxo]; rfl, Y.ext⟩
theorem bM (old : By) (n : Int) (root : By) (m : Int) (pv_ : Value) (ps : List By) (w0 : World) (hpv : SlAt w0 pv_ 1 (ps.map fun s => [sv s])) (hpl : ps.length ≤ 1000) (hm : i64 m) (hk0 : (blk 0 (kOf.map wv) 161).ok w0) :
  Ret Tryz.prog 23 #[sv old, iv n, sv root, iv m, pv_] w0 fun v w => v = .bool (aJ sha old n root m ps) ∧ Ext No w0 w := by
 refine aC func23 rfl ntmps23 (lb rfl) fun a Z => ?_
 replace Z := Z.p5 0 1 2 3 4 rfl
 replace Y : St No w0 [] w0 := St.init w0
 refine aa fun K1 hK1 => wla Z rfl fun a Z => ab (hK1 _ _ <| aa fun K2 hK2 => ?_)
 refine wlm Z rfl fun a Z => wlm Z rfl fun a Z => wlm Z rfl fun a Z => wlm Z rfl fun a Z => wlm Z rfl fun a Z => am Z Y de call55 rfl (kA old root n m pv_ ps _ (Y.arg hpv) om (by unfold i64 at hm; omega) (Y.keepb hk0)) ?_
 clear Z Y
 intro a w1 Z Y
 refine wla Z rfl fun a Z => ab (hK2 _ _ ?_)
 replace Z := Z.p1 10 rfl
 refine ao ?_
 refine al Z results23 (ac rfl ag) ?_
 exact ⟨by rfl, Y.ext⟩
theorem lL {o : Int} {l : List Rec} {v : Value} {i : Nat} {w0 : World} (hlo : logOk o l = true) (hv : SlAt w0 v 1 ((codesB l).map fun s => [sv s])) (hi : i < l.length) (hk0 : (blk 0 (kOf.map wv) 161).ok w0) : Ret Tryz.prog 51 #[v, iv (i : Int)] w0 (MemR w0 (fun v : Value => .tuple #[v, iv 0]) (fun v => [own v 9 1 ((proofH sha (codesR l) i).map fun s => [sv s])]) (fun _ => True)) := by
 rw [cQ (bL hlo)] at hv
 have h60 := cj hlo
 exact nj v (codesR l) i w0 hv (by rw [bO]; exact hi) (by rw [bO]; omega) (fun s h => Nat.le_trans (cr (bL hlo) s h) de) hk0
theorem g8 (o : Int) (lv : Value) (l : List Rec) (i : Nat) (w0 : World) (hlv : SlAt w0 lv 5 (l.map Rec.cells)) (hlo : logOk o l = true) (hi : i < l.length) (hk0 : (blk 0 (kOf.map wv) 161).ok w0) :
  Ret Tryz.prog 50 #[.agg #[iv o, lv], iv (i : Int), .func (.func 51) #[] #[]] w0 (MemR w0 (fun v : Value => .tuple #[v, iv 0]) (fun v => [own v 9 1 ((proofH sha (codesR l) i).map fun s => [sv s])]) (fun _ => True)) := by
 have hll := cj hlo
 refine aC func50 rfl ntmps50 (lb rfl) fun a Z => ?_
 replace Z := Z.p3 0 1 2 rfl
 replace Y : St No w0 [] w0 := St.init w0
 refine aa fun K1 hK1 => bh Z Y de rfl (cs := [iv o, lv]) rfl ?_
 clear Z Y
 intro a w1 Z Y
 refine wla Z rfl fun a Z => wla Z rfl fun a Z => ab (hK1 _ _ <| aa fun K2 hK2 => ?_)
 refine wlv Z (aw (Y.g 0 rfl) rfl (isAgg25 _) (sizeOf25 _)) fun a Z => aR Z Y de call40 rfl (dQ o lv l _ (Y.arg hlv) hlo) ?_
 clear Z Y
 intro a w2 x2 hp Z Y
 revert x2 hp Z Y; rintro v1 hp Z Y
 clear hp
 replace Y : St No w0 [_, _] w2 := Y
 refine wlm Z rfl fun a Z => wlv Z (ak rfl rfl) fun a Z => wlv Z (ak rfl rfl) fun a Z => wla Z rfl fun a Z => wla Z rfl fun a Z => ab (hK2 _ _ ?_)
 replace Z := Z.p6 1 2 6 7 8 9 rfl
 replace Y := Y.k1 1 rfl
 refine ah fun K3 hK3 => aa fun K4 hK4 => wlm Z rfl fun a Z => wlv Z ((bp rfl).asb (b' := false) rfl) fun a Z => ab (hK4 _ _ <| aG Z rfl ?_)
 refine ap <| hK3 _ _ <| aa fun K5 hK5 => wlm Z rfl fun a Z => wlm Z rfl fun a Z => wlm Z rfl fun a Z => ik Z Y de rfl call51 rfl (lL hlo (Y.ow 0 rfl) hi (Y.keepb hk0)) ?_
 clear Z Y
 intro a w3 x4 hp Z Y
 revert x4 hp Z Y; rintro v3 - Z Y
 replace Y : St No w0 [_, _] w3 := Y
 refine wlm Z rfl fun a Z => wlv Z (ak rfl rfl) fun a Z => wlv Z (ak rfl rfl) fun a Z => wla Z rfl fun a Z => wla Z rfl fun a Z => ab (hK5 _ _ ?_)
 replace Z := Z.p4 6 7 10 11 rfl
 replace Y := Y.k1 1 rfl
 refine ah fun K6 hK6 => aa fun K7 hK7 => wlm Z rfl fun a Z => wlv Z ((v_ne rfl rfl).asb (b' := false) rfl) fun a Z => ab (hK7 _ _ <| aG Z rfl ?_)
 refine ap <| hK6 _ _ <| aa fun K8 hK8 => wlm Z rfl fun a Z => wla Z rfl fun a Z => wla Z rfl fun a Z => ab (hK8 _ _ <| ao ?_)
 refine al Z results50 (ac rfl (ac rfl ag)) ?_
 exact ⟨v3, rfl, trivial, Y.ext, St.out (E := [own v3 9 1 ((proofH sha (codesR l) i).map fun s => [sv s])]) (H := []) (Y.select [0] de)⟩
theorem jd (o : Int) (lv : Value) (l : List Rec) (i : Int) (w0 : World) (hlv : SlAt w0 lv 5 (l.map Rec.cells)) (hno : inR o l i = false) (hk0 : (blk 0 (kOf.map wv) 161).ok w0) :
  Ret Tryz.prog 50 #[.agg #[iv o, lv], iv i, .func (.func 51) #[] #[]] w0 fun v w => v = .tuple #[.slice none 0 0, iv 110] ∧ Ext No w0 w := by
 refine aC func50 rfl ntmps50 (lb rfl) fun a Z => ?_
 replace Z := Z.p3 0 1 2 rfl
 replace Y : St No w0 [] w0 := St.init w0
 refine aa fun K1 hK1 => bh Z Y de rfl (cs := [iv o, lv]) rfl ?_
 clear Z Y
 intro a w1 Z Y
 refine wla Z rfl fun a Z => wla Z rfl fun a Z => ab (hK1 _ _ <| aa fun K2 hK2 => ?_)
 refine wlv Z (aw (Y.g 0 rfl) rfl (isAgg25 _) (sizeOf25 _)) fun a Z => ?_
 rcases Bool.eq_false_or_eq_true (logOk o l) with hb1 | hb1
 ·try simp only [qz] at hb1
  have hlo : logOk o l = true := hb1
  have hi : i < 0 ∨ (l.length : Int) ≤ i := by
   unfold inR at hno; rw [hlo] at hno
   simp only [Bool.true_and, Bool.and_eq_false_iff, decide_eq_false_iff_not] at hno; omega
  refine aR Z Y de call40 rfl (dQ o lv l _ (Y.arg hlv) hlo) ?_
  clear Z Y
  intro a w2 x3 hp Z Y
  revert x3 hp Z Y; rintro v2 hp Z Y
  clear hp
  replace Y : St No w0 [_, _] w2 := Y
  refine wlm Z rfl fun a Z => wlv Z (ak rfl rfl) fun a Z => wlv Z (ak rfl rfl) fun a Z => wla Z rfl fun a Z => wla Z rfl fun a Z => ab (hK2 _ _ ?_)
  replace Z := Z.p6 1 2 6 7 8 9 rfl
  replace Y := Y.k1 1 rfl
  refine ah fun K3 hK3 => aa fun K4 hK4 => wlm Z rfl fun a Z => wlv Z ((bp rfl).asb (b' := false) rfl) fun a Z => ab (hK4 _ _ <| aG Z rfl ?_)
  refine ap <| hK3 _ _ <| aa fun K5 hK5 => wlm Z rfl fun a Z => wlm Z rfl fun a Z => wlm Z rfl fun a Z => eF Z Y de rfl call51 rfl (lX v2 (codesB l) i _ (Y.ow 0 rfl) (by rw [cg]; omega)) ?_
  clear Z Y
  intro a w3 Z Y
  refine wlm Z rfl fun a Z => wlv Z (ak rfl rfl) fun a Z => wlv Z (ak rfl rfl) fun a Z => wla Z rfl fun a Z => wla Z rfl fun a Z => ab (hK5 _ _ ?_)
  replace Z := Z.p4 6 7 10 11 rfl
  replace Y : St No w0 [] w3 := Y.mask [false]
  refine ah fun K6 hK6 => aa fun K7 hK7 => wlm Z rfl fun a Z => wlv Z ((v_ne rfl rfl).asb (b' := true) rfl) fun a Z => ab (hK7 _ _ <| aD Z rfl ?_)
  refine aa fun K8 hK8 => wla Z rfl fun a Z => wla Z rfl fun a Z => ab (hK8 _ _ <| ao ?_)
  refine al Z results50 (ac rfl (ac rfl ag)) ?_
  exact ⟨by rfl, Y.ext⟩
 try simp only [qz] at hb1
 have hlo : logOk o l = false := hb1
 refine am Z Y de call40 rfl (gz o lv l _ (Y.arg hlv) hlo) ?_
 clear Z Y
 intro a w4 Z Y
 refine wlm Z rfl fun a Z => wlv Z (ak rfl rfl) fun a Z => wlv Z (ak rfl rfl) fun a Z => wla Z rfl fun a Z => wla Z rfl fun a Z => ab (hK2 _ _ ?_)
 replace Z := Z.p6 1 2 6 7 8 9 rfl
 replace Y : St No w0 [] w4 := Y.mask [false]
 refine ah fun K9 hK9 => aa fun K10 hK10 => wlm Z rfl fun a Z => wlv Z ((bp rfl).asb (b' := true) rfl) fun a Z => ab (hK10 _ _ <| aD Z rfl ?_)
 refine aa fun K11 hK11 => wla Z rfl fun a Z => wla Z rfl fun a Z => ab (hK11 _ _ <| ao ?_)
 refine al Z results50 (ac rfl (ac rfl ag)) ?_
 exact ⟨by rfl, Y.ext⟩
theorem gJ (o : Int) (lv : Value) (l : List Rec) (i : Nat) (w0 : World) (hlv : SlAt w0 lv 5 (l.map Rec.cells)) (hll : l.length ≤ 1000) (hlo : logOk o l = true) (hi : i < l.length) (hk0 : (blk 0 (kOf.map wv) 161).ok w0) :
  Ret Tryz.prog 18 #[.agg #[iv o, lv], iv (i : Int)] w0 (MemR w0 (fun v : Value => .tuple #[v, iv 0]) (fun v => [own v 9 1 ((proofH sha (codesR l) i).map fun s => [sv s])]) (fun _ => True)) := by
 refine aC func18 rfl ntmps18 (lb rfl) fun a Z => ?_
 replace Z := Z.p2 0 1 rfl
 replace Y : St No w0 [] w0 := St.init w0
 refine aa fun K1 hK1 => bh Z Y de rfl (cs := [iv o, lv]) rfl ?_
 clear Z Y
 intro a w1 Z Y
 refine wla Z rfl fun a Z => wla Z rfl fun a Z => ab (hK1 _ _ <| aa fun K2 hK2 => ?_)
 refine wlv Z (aw (Y.g 0 rfl) rfl (isAgg25 _) (sizeOf25 _)) fun a Z => wlm Z rfl fun a Z => aR Z Y de call50 rfl (g8 o lv l i _ (Y.arg hlv) hlo hi (Y.keepb hk0)) ?_
 clear Z Y
 intro a w2 x2 hp Z Y
 revert x2 hp Z Y; rintro v1 hp Z Y
 clear hp
 replace Y : St No w0 [_, _] w2 := Y
 refine wlv Z (ak rfl rfl) fun a Z => wlv Z (ak rfl rfl) fun a Z => wla Z rfl fun a Z => wla Z rfl fun a Z => ab (hK2 _ _ ?_)
 replace Z := Z.p2 4 5 rfl
 replace Y := Y.k1 1 rfl
 refine ao ?_
 refine al Z results18 (ac rfl (ac rfl ag)) ?_
 exact ⟨v1, rfl, trivial, Y.ext, St.out (E := [own v1 9 1 ((proofH sha (codesR l) i).map fun s => [sv s])]) (H := []) (Y.select [0] de)⟩
theorem l4 (o : Int) (lv : Value) (l : List Rec) (i : Int) (w0 : World) (hlv : SlAt w0 lv 5 (l.map Rec.cells)) (hll : l.length ≤ 1000) (hno : inR o l i = false) (hk0 : (blk 0 (kOf.map wv) 161).ok w0) :
  Ret Tryz.prog 18 #[.agg #[iv o, lv], iv i] w0 (MemR w0 (fun v : Value => .tuple #[v, iv 110]) (fun v => [own v 9 1 ((([] : List By)).map fun s => [sv s])]) (fun _ => True)) := by
 refine aC func18 rfl ntmps18 (lb rfl) fun a Z => ?_
 replace Z := Z.p2 0 1 rfl
 replace Y : St No w0 [] w0 := St.init w0
 refine aa fun K1 hK1 => bh Z Y de rfl (cs := [iv o, lv]) rfl ?_
 clear Z Y
 intro a w1 Z Y
 refine wla Z rfl fun a Z => wla Z rfl fun a Z => ab (hK1 _ _ <| aa fun K2 hK2 => ?_)
 refine wlv Z (aw (Y.g 0 rfl) rfl (isAgg25 _) (sizeOf25 _)) fun a Z => wlm Z rfl fun a Z => am Z Y de call50 rfl (jd o lv l i _ (Y.arg hlv) hno (Y.keepb hk0)) ?_
 clear Z Y
 intro a w2 Z Y
 refine wlv Z (ak rfl rfl) fun a Z => wlv Z (ak rfl rfl) fun a Z => wla Z rfl fun a Z => wla Z rfl fun a Z => ab (hK2 _ _ ?_)
 replace Z := Z.p2 4 5 rfl
 replace Y : St No w0 [] w2 := Y.mask [false]
 refine ao ?_
 refine al Z results18 (ac rfl (ac rfl ag)) ?_
 replace Y : St No w0 [own (.slice none 0 0) 9 1 (([] : List By).map fun s => [sv s])] w2 := Y.nil_own
 exact ⟨.slice none 0 0, rfl, trivial, Y.ext, St.out (E := [own (.slice none 0 0) 9 1 (([] : List By).map fun s => [sv s])]) (H := []) (Y.select [0] de)⟩
theorem gc (o : Int) (lv : Value) (l : List Rec) (i : Int) (w0 : World) (hlv : SlAt w0 lv 5 (l.map Rec.cells)) (hll : l.length ≤ 1000) (hk0 : (blk 0 (kOf.map wv) 161).ok w0) : Ret Tryz.prog 18 #[.agg #[iv o, lv], iv i] w0 (MemR w0 (fun v : Value => .tuple #[v, iv (proveE o l i)]) (fun v => [own v 9 1 ((proveL o l i).map fun s => [sv s])]) (fun _ => True)) := by
 unfold proveL proveE
 cases h : inR o l i with
 | true =>
  have h' := h
  unfold inR at h'
  simp only [Bool.and_eq_true, decide_eq_true_eq] at h'
  obtain ⟨n, rfl⟩ := Int.eq_ofNat_of_zero_le h'.1.2
  rw [if_pos rfl, if_pos rfl, Int.toNat_natCast]; exact gJ o lv l n w0 hlv hll h'.1.1 om hk0
 | false => rw [if_neg sm, if_neg sm]; exact l4 o lv l i w0 hlv hll h hk0
theorem o7 (lv : Value) (ls : List By) (i : Nat) (w0 : World) (hlv : SlAt w0 lv 1 (ls.map fun s => [sv s])) (hi : i ≤ ls.length) (hln : ls.length ≤ 1000) (hls : ∀ s ∈ ls, s.length ≤ 40000000) (hk0 : (blk 0 (kOf.map wv) 161).ok w0) :
  Ret Tryz.prog 53 #[lv, iv (i : Int)] w0 (MemR w0 (fun v : Value => .tuple #[v, iv 0]) (fun v => [own v 9 1 ((extH sha ls i).map fun s => [sv s])]) (fun _ => True)) := by
 by_cases h : i = 0
 ·subst h
  refine (nm lv ls w0 hlv).mono ?_
  rintro v w ⟨rfl, hx⟩
  exact ⟨.slice none 0 0, rfl, trivial, hx, ee (iR _ _ _) (fun k hk => by cases hk)⟩
 ·have := pY lv ls i w0 hlv om hi hln hls hk0
  rw [extH, if_neg h]; exact this
theorem lR {o : Int} {l : List Rec} {v : Value} {i : Nat} {w0 : World} (hlo : logOk o l = true) (hv : SlAt w0 v 1 ((codesB l).map fun s => [sv s])) (hi : i ≤ l.length) (hk0 : (blk 0 (kOf.map wv) 161).ok w0) : Ret Tryz.prog 53 #[v, iv (i : Int)] w0 (MemR w0 (fun v : Value => .tuple #[v, iv 0]) (fun v => [own v 9 1 ((extH sha (codesR l) i).map fun s => [sv s])]) (fun _ => True)) := by
 rw [cQ (bL hlo)] at hv
 have h60 := cj hlo
 exact o7 v (codesR l) i w0 hv (by rw [bO]; exact hi) (by rw [bO]; omega) (fun s h => Nat.le_trans (cr (bL hlo) s h) de) hk0
theorem g4 (o : Int) (lv : Value) (l : List Rec) (i : Nat) (w0 : World) (hlv : SlAt w0 lv 5 (l.map Rec.cells)) (hlo : logOk o l = true) (hi : i ≤ l.length) (hk0 : (blk 0 (kOf.map wv) 161).ok w0) :
  Ret Tryz.prog 50 #[.agg #[iv o, lv], iv (i : Int), .func (.func 53) #[] #[]] w0 (MemR w0 (fun v : Value => .tuple #[v, iv 0]) (fun v => [own v 9 1 ((extH sha (codesR l) i).map fun s => [sv s])]) (fun _ => True)) := by
 have hll := cj hlo
 refine aC func50 rfl ntmps50 (lb rfl) fun a Z => ?_
 replace Z := Z.p3 0 1 2 rfl
 replace Y : St No w0 [] w0 := St.init w0
 refine aa fun K1 hK1 => bh Z Y de rfl (cs := [iv o, lv]) rfl ?_
 clear Z Y
 intro a w1 Z Y
 refine wla Z rfl fun a Z => wla Z rfl fun a Z => ab (hK1 _ _ <| aa fun K2 hK2 => ?_)
 refine wlv Z (aw (Y.g 0 rfl) rfl (isAgg25 _) (sizeOf25 _)) fun a Z => aR Z Y de call40 rfl (dQ o lv l _ (Y.arg hlv) hlo) ?_
 clear Z Y
 intro a w2 x2 hp Z Y
 revert x2 hp Z Y; rintro v1 hp Z Y
 clear hp
 replace Y : St No w0 [_, _] w2 := Y
 refine wlm Z rfl fun a Z => wlv Z (ak rfl rfl) fun a Z => wlv Z (ak rfl rfl) fun a Z => wla Z rfl fun a Z => wla Z rfl fun a Z => ab (hK2 _ _ ?_)
 replace Z := Z.p6 1 2 6 7 8 9 rfl
 replace Y := Y.k1 1 rfl
 refine ah fun K3 hK3 => aa fun K4 hK4 => wlm Z rfl fun a Z => wlv Z ((bp rfl).asb (b' := false) rfl) fun a Z => ab (hK4 _ _ <| aG Z rfl ?_)
 refine ap <| hK3 _ _ <| aa fun K5 hK5 => wlm Z rfl fun a Z => wlm Z rfl fun a Z => wlm Z rfl fun a Z => ik Z Y de rfl call53 rfl (lR hlo (Y.ow 0 rfl) hi (Y.keepb hk0)) ?_
 clear Z Y
 intro a w3 x4 hp Z Y
 revert x4 hp Z Y; rintro v3 - Z Y
 replace Y : St No w0 [_, _] w3 := Y
 refine wlm Z rfl fun a Z => wlv Z (ak rfl rfl) fun a Z => wlv Z (ak rfl rfl) fun a Z => wla Z rfl fun a Z => wla Z rfl fun a Z => ab (hK5 _ _ ?_)
 replace Z := Z.p4 6 7 10 11 rfl
 replace Y := Y.k1 1 rfl
 refine ah fun K6 hK6 => aa fun K7 hK7 => wlm Z rfl fun a Z => wlv Z ((v_ne rfl rfl).asb (b' := false) rfl) fun a Z => ab (hK7 _ _ <| aG Z rfl ?_)
 refine ap <| hK6 _ _ <| aa fun K8 hK8 => wlm Z rfl fun a Z => wla Z rfl fun a Z => wla Z rfl fun a Z => ab (hK8 _ _ <| ao ?_)
 refine al Z results50 (ac rfl (ac rfl ag)) ?_
 exact ⟨v3, rfl, trivial, Y.ext, St.out (E := [own v3 9 1 ((extH sha (codesR l) i).map fun s => [sv s])]) (H := []) (Y.select [0] de)⟩
theorem iP (o : Int) (lv : Value) (l : List Rec) (i : Int) (w0 : World) (hlv : SlAt w0 lv 5 (l.map Rec.cells)) (hno : inG o l i = false) (hk0 : (blk 0 (kOf.map wv) 161).ok w0) :
  Ret Tryz.prog 50 #[.agg #[iv o, lv], iv i, .func (.func 53) #[] #[]] w0 fun v w => v = .tuple #[.slice none 0 0, iv 110] ∧ Ext No w0 w := by
 refine aC func50 rfl ntmps50 (lb rfl) fun a Z => ?_
 replace Z := Z.p3 0 1 2 rfl
 replace Y : St No w0 [] w0 := St.init w0
 refine aa fun K1 hK1 => bh Z Y de rfl (cs := [iv o, lv]) rfl ?_
 clear Z Y
 intro a w1 Z Y
 refine wla Z rfl fun a Z => wla Z rfl fun a Z => ab (hK1 _ _ <| aa fun K2 hK2 => ?_)
 refine wlv Z (aw (Y.g 0 rfl) rfl (isAgg25 _) (sizeOf25 _)) fun a Z => ?_
 rcases Bool.eq_false_or_eq_true (logOk o l) with hb1 | hb1
 ·try simp only [qz] at hb1
  have hlo : logOk o l = true := hb1
  have hi : i < 0 ∨ (l.length : Int) < i := by
   unfold inG at hno; rw [hlo] at hno
   simp only [Bool.true_and, Bool.and_eq_false_iff, decide_eq_false_iff_not] at hno; omega
  refine aR Z Y de call40 rfl (dQ o lv l _ (Y.arg hlv) hlo) ?_
  clear Z Y
  intro a w2 x3 hp Z Y
  revert x3 hp Z Y; rintro v2 hp Z Y
  clear hp
  replace Y : St No w0 [_, _] w2 := Y
  refine wlm Z rfl fun a Z => wlv Z (ak rfl rfl) fun a Z => wlv Z (ak rfl rfl) fun a Z => wla Z rfl fun a Z => wla Z rfl fun a Z => ab (hK2 _ _ ?_)
  replace Z := Z.p6 1 2 6 7 8 9 rfl
  replace Y := Y.k1 1 rfl
  refine ah fun K3 hK3 => aa fun K4 hK4 => wlm Z rfl fun a Z => wlv Z ((bp rfl).asb (b' := false) rfl) fun a Z => ab (hK4 _ _ <| aG Z rfl ?_)
  refine ap <| hK3 _ _ <| aa fun K5 hK5 => wlm Z rfl fun a Z => wlm Z rfl fun a Z => wlm Z rfl fun a Z => eF Z Y de rfl call53 rfl (oQ v2 (codesB l) i _ (Y.ow 0 rfl) (by rw [cg]; omega)) ?_
  clear Z Y
  intro a w3 Z Y
  refine wlm Z rfl fun a Z => wlv Z (ak rfl rfl) fun a Z => wlv Z (ak rfl rfl) fun a Z => wla Z rfl fun a Z => wla Z rfl fun a Z => ab (hK5 _ _ ?_)
  replace Z := Z.p4 6 7 10 11 rfl
  replace Y : St No w0 [] w3 := Y.mask [false]
  refine ah fun K6 hK6 => aa fun K7 hK7 => wlm Z rfl fun a Z => wlv Z ((v_ne rfl rfl).asb (b' := true) rfl) fun a Z => ab (hK7 _ _ <| aD Z rfl ?_)
  refine aa fun K8 hK8 => wla Z rfl fun a Z => wla Z rfl fun a Z => ab (hK8 _ _ <| ao ?_)
  refine al Z results50 (ac rfl (ac rfl ag)) ?_
  exact ⟨by rfl, Y.ext⟩
 try simp only [qz] at hb1
 have hlo : logOk o l = false := hb1
 refine am Z Y de call40 rfl (gz o lv l _ (Y.arg hlv) hlo) ?_
 clear Z Y
 intro a w4 Z Y
 refine wlm Z rfl fun a Z => wlv Z (ak rfl rfl) fun a Z => wlv Z (ak rfl rfl) fun a Z => wla Z rfl fun a Z => wla Z rfl fun a Z => ab (hK2 _ _ ?_)
 replace Z := Z.p6 1 2 6 7 8 9 rfl
 replace Y : St No w0 [] w4 := Y.mask [false]
 refine ah fun K9 hK9 => aa fun K10 hK10 => wlm Z rfl fun a Z => wlv Z ((bp rfl).asb (b' := true) rfl) fun a Z => ab (hK10 _ _ <| aD Z rfl ?_)
 refine aa fun K11 hK11 => wla Z rfl fun a Z => wla Z rfl fun a Z => ab (hK11 _ _ <| ao ?_)
 refine al Z results50 (ac rfl (ac rfl ag)) ?_
 exact ⟨by rfl, Y.ext⟩
theorem gy (o : Int) (lv : Value) (l : List Rec) (i : Nat) (w0 : World) (hlv : SlAt w0 lv 5 (l.map Rec.cells)) (hll : l.length ≤ 1000) (hlo : logOk o l = true) (hi : i ≤ l.length) (hk0 : (blk 0 (kOf.map wv) 161).ok w0) :
  Ret Tryz.prog 20 #[.agg #[iv o, lv], iv (i : Int)] w0 (MemR w0 (fun v : Value => .tuple #[v, iv 0]) (fun v => [own v 9 1 ((extH sha (codesR l) i).map fun s => [sv s])]) (fun _ => True)) := by
 refine aC func20 rfl ntmps20 (lb rfl) fun a Z => ?_
 replace Z := Z.p2 0 1 rfl
 replace Y : St No w0 [] w0 := St.init w0
 refine aa fun K1 hK1 => bh Z Y de rfl (cs := [iv o, lv]) rfl ?_
 clear Z Y
 intro a w1 Z Y
 refine wla Z rfl fun a Z => wla Z rfl fun a Z => ab (hK1 _ _ <| aa fun K2 hK2 => ?_)
 refine wlv Z (aw (Y.g 0 rfl) rfl (isAgg25 _) (sizeOf25 _)) fun a Z => wlm Z rfl fun a Z => aR Z Y de call50 rfl (g4 o lv l i _ (Y.arg hlv) hlo hi (Y.keepb hk0)) ?_
 clear Z Y
 intro a w2 x2 hp Z Y
 revert x2 hp Z Y; rintro v1 hp Z Y
 clear hp
 replace Y : St No w0 [_, _] w2 := Y
 refine wlv Z (ak rfl rfl) fun a Z => wlv Z (ak rfl rfl) fun a Z => wla Z rfl fun a Z => wla Z rfl fun a Z => ab (hK2 _ _ ?_)
 replace Z := Z.p2 4 5 rfl
 replace Y := Y.k1 1 rfl
 refine ao ?_
 refine al Z results20 (ac rfl (ac rfl ag)) ?_
 exact ⟨v1, rfl, trivial, Y.ext, St.out (E := [own v1 9 1 ((extH sha (codesR l) i).map fun s => [sv s])]) (H := []) (Y.select [0] de)⟩
theorem mB (o : Int) (lv : Value) (l : List Rec) (i : Int) (w0 : World) (hlv : SlAt w0 lv 5 (l.map Rec.cells)) (hll : l.length ≤ 1000) (hno : inG o l i = false) (hk0 : (blk 0 (kOf.map wv) 161).ok w0) :
  Ret Tryz.prog 20 #[.agg #[iv o, lv], iv i] w0 (MemR w0 (fun v : Value => .tuple #[v, iv 110]) (fun v => [own v 9 1 ((([] : List By)).map fun s => [sv s])]) (fun _ => True)) := by
 refine aC func20 rfl ntmps20 (lb rfl) fun a Z => ?_
 replace Z := Z.p2 0 1 rfl
 replace Y : St No w0 [] w0 := St.init w0
 refine aa fun K1 hK1 => bh Z Y de rfl (cs := [iv o, lv]) rfl ?_
 clear Z Y
 intro a w1 Z Y
 refine wla Z rfl fun a Z => wla Z rfl fun a Z => ab (hK1 _ _ <| aa fun K2 hK2 => ?_)
 refine wlv Z (aw (Y.g 0 rfl) rfl (isAgg25 _) (sizeOf25 _)) fun a Z => wlm Z rfl fun a Z => am Z Y de call50 rfl (iP o lv l i _ (Y.arg hlv) hno (Y.keepb hk0)) ?_
 clear Z Y
 intro a w2 Z Y
 refine wlv Z (ak rfl rfl) fun a Z => wlv Z (ak rfl rfl) fun a Z => wla Z rfl fun a Z => wla Z rfl fun a Z => ab (hK2 _ _ ?_)
 replace Z := Z.p2 4 5 rfl
 replace Y : St No w0 [] w2 := Y.mask [false]
 refine ao ?_
 refine al Z results20 (ac rfl (ac rfl ag)) ?_
 replace Y : St No w0 [own (.slice none 0 0) 9 1 (([] : List By).map fun s => [sv s])] w2 := Y.nil_own
 exact ⟨.slice none 0 0, rfl, trivial, Y.ext, St.out (E := [own (.slice none 0 0) 9 1 (([] : List By).map fun s => [sv s])]) (H := []) (Y.select [0] de)⟩
theorem gk (o : Int) (lv : Value) (l : List Rec) (i : Int) (w0 : World) (hlv : SlAt w0 lv 5 (l.map Rec.cells)) (hll : l.length ≤ 1000) (hk0 : (blk 0 (kOf.map wv) 161).ok w0) : Ret Tryz.prog 20 #[.agg #[iv o, lv], iv i] w0 (MemR w0 (fun v : Value => .tuple #[v, iv (grownE o l i)]) (fun v => [own v 9 1 ((grownL o l i).map fun s => [sv s])]) (fun _ => True)) := by
 unfold grownL grownE
 cases h : inG o l i with
 | true =>
  have h' := h
  unfold inG at h'
  simp only [Bool.and_eq_true, decide_eq_true_eq] at h'
  obtain ⟨n, rfl⟩ := Int.eq_ofNat_of_zero_le h'.1.2
  rw [if_pos rfl, if_pos rfl, Int.toNat_natCast]; exact gy o lv l n w0 hlv hll h'.1.1 om hk0
 | false => rw [if_neg sm, if_neg sm]; exact mB o lv l i w0 hlv hll h hk0
def exE : By := [20, 2, 14, 1, 8, 110, 101, 119, 115]
def exM : List Rec := exR ++ [⟨20, 3, 0, 0, []⟩]
def exRoot : By := rootH sha (codesR exR)
def exNext : By := rootH sha (codesR exM)
def exPf : List By := proofH sha (codesR exR) 1
def exQ : List By := extH sha (codesR exM) 3
def exTag : By := tagR sha (keyR 1) 4 3 exRoot
theorem gZ {f : FuncId} {args : Array Value} {w : World} {a b : Value} (h : a = b) (hr : Ret Tryz.prog f args w fun v w' => v = a ∧ Ext No w w') : Ret Tryz.prog f args w fun v w' => v = b ∧ Ext No w w' := by subst h; exact hr
theorem cc {f : FuncId} {args : Array Value} {w : World} {b c : Bool} (h : b = c) (hr : Ret Tryz.prog f args w fun v w' => v = .bool b ∧ Ext No w w') : Ret Tryz.prog f args w fun v w' => v = .bool c ∧ Ext No w w' := by subst h; exact hr
theorem jm {f : FuncId} {args : Array Value} {w : World} {b c : Int} (h : b = c) (hr : Ret Tryz.prog f args w fun v w' => v = iv b ∧ Ext No w w') : Ret Tryz.prog f args w fun v w' => v = iv c ∧ Ext No w w' := by subst h; exact hr
theorem ex_eB : eB (exR.getD 0 Rec.z) = exE := by decide +kernel
theorem ex_eE : eE (exR.getD 0 Rec.z) = 0 := by decide +kernel
theorem ex_dX : decX exE = exR.getD 0 Rec.z := by decide +kernel
theorem ex_dE : decE exE = 0 := by decide +kernel
theorem gq : logOk 4 exR = true := by decide +kernel
theorem iV : logOk 4 exM = true := by decide +kernel
theorem pd : logOk 100 [] = false := by decide +kernel
theorem ex_hB : headB 4 exR = exRoot := es gq
theorem ex_hE : headE 4 exR = 0 := dV.2 gq
theorem pN : headB 4 exM = exNext := es iV
theorem qe : headE 4 exM = 0 := dV.2 iV
theorem js (n : Int) : (keyR n).length = 32 := bE _
theorem pA : signOk (keyR 1) 4 exR = true := by unfold signOk; rw [gq, js]; rfl
theorem ex_sB : signB (keyR 1) 4 exR = exTag := if_pos pA
theorem ex_sE : signE (keyR 1) 4 exR = 0 := if_pos pA
theorem pO : addOk 4 exR ⟨19, 1, 0, 0, []⟩ = false := by decide +kernel
theorem pF : addOk 4 exR ⟨20, 3, 0, 0, []⟩ = true := by decide +kernel
theorem ex_f1 : findH 4 exR 1 9 = -1 := by decide +kernel
theorem ex_f2 : findH 4 exR 1 19 = 0 := by decide +kernel
theorem ex_f3 : findH 4 exR 1 20 = 2 := by decide +kernel
theorem f5 : exRoot = [21, 112, 33, 172, 240, 109, 75, 130, 191, 249, 217, 221, 50, 198, 0, 231, 116, 242, 6, 54, 79, 38, 84, 56, 148, 132, 237, 35, 98, 124, 34, 181] := by decide +kernel
theorem lF : exNext = [195, 244, 205, 59, 182, 231, 47, 220, 108, 75, 52, 189, 34, 70, 131, 114, 76, 87, 137, 243, 75, 37, 231, 109, 74, 49, 79, 149, 141, 24, 151, 82] := by decide +kernel
theorem kJ : keyR 1 = [219, 193, 180, 201, 0, 255, 228, 141, 87, 91, 93, 165, 198, 56, 4, 1, 37, 246, 93, 176, 254, 62, 36, 73, 75, 118, 234, 152, 100, 87, 217, 134] := by decide +kernel
theorem ov : exTag = [75, 183, 243, 190, 88, 89, 30, 0, 212, 159, 241, 14, 211, 216, 181, 111, 180, 45, 128, 188, 226, 87, 91, 67, 48, 251, 122, 74, 0, 4, 207, 40] := by unfold exTag; rw [kJ, f5]; decide +kernel
theorem ex_c1 : checkB exRoot 3 1 (exR.getD 1 Rec.z) exPf = true := by
 have h := iM (S := sha) bE (l := codesR exR) (i := 1) de
 unfold checkB
 rw [show (exR.getD 1 Rec.z).ok = true from by decide, show (exR.getD 1 Rec.z).enc = (codesR exR).getD 1 [] from (mW de).symm, Bool.true_and]
 exact h
theorem ex_c2 : checkB exRoot 3 0 (exR.getD 1 Rec.z) exPf = false := by rw [f5]; decide +kernel
theorem ex_g1 : aJ sha exRoot 3 exNext 4 exQ = true := kD (S := sha) bE (l := codesR exM) (m := 3) de
theorem ex_g2 : aJ sha exNext 3 exRoot 4 exQ = false := by rw [f5, lF]; decide +kernel
theorem ex_n1 : genR sha (keyR 1) 4 3 exRoot exTag = true := by
 unfold genR exTag
 rw [show exRoot.length = 32 from ca bE _, js, decide_eq_true rfl, decide_eq_true rfl]; rfl
theorem ex_n2 : genR sha (keyR 1) 5 3 exRoot exTag = false := by rw [ov, kJ, f5]; decide +kernel
theorem ex_n3 : genR sha (keyR 1) 4 3 exNext exTag = false := by rw [ov, kJ, lF]; decide +kernel
theorem py : exPf.length ≤ 8 := by decide +kernel
theorem pp : exQ.length ≤ 8 := by decide +kernel
theorem qg {lv : Value} {w0 : World} (hlv : SlAt w0 lv 5 (exR.map Rec.cells)) : Ret Tryz.prog 35 #[.agg #[iv 4, lv], .agg #[iv 20, iv 3, iv 0, iv 0, sv []]] w0 (MemR w0 (fun v : Value => .tuple #[.agg #[iv 4, v], iv 0]) (fun v => [own v 48 5 (exM.map Rec.cells)]) (fun _ => True)) := m5 4 lv exR ⟨20, 3, 0, 0, []⟩ w0 hlv de pF
theorem oY (w0 : World) (hk0 : (blk 0 (kOf.map wv) 161).ok w0) :
  Ret Tryz.prog 5 #[] w0 fun v w => v = .bool true ∧ Ext No w0 w := by
 refine aC func5 rfl ntmps5 (lb rfl) fun a Z => ?_
 replace Z : Fr 206 [] [] a := Z
 replace Y : St No w0 [] w0 := St.init w0
 refine aa fun K1 hK1 => wla Z rfl fun a Z => ab (hK1 _ _ <| aa fun K2 hK2 => ?_)
 refine aR Z Y de call32 rfl (kR _) ?_
 clear Z Y
 intro a w1 x2 hp Z Y
 revert x2 hp Z Y; rintro lv1 hp Z Y
 clear hp
 replace Y : St No w0 [_] w1 := Y
 refine aY Z Y de (zeroValue25 _) (cs := [iv 0, .slice none 0 0]) rfl ?_
 clear Z Y
 intro a w2 Z Y
 refine bf (us := [iv 4, lv1]) 0 Z Y rfl rfl rfl (sizeOf25 _) (by intro z hz; simp only [List.mem_cons, List.not_mem_nil, or_false] at hz; rcases hz with rfl | rfl <;> first | rfl | exact SlAt.one (Y.ow 1 rfl)) (lb rfl) (ds := [iv 4, lv1]) rfl rfl ?_
 clear Z Y
 intro a w3 Z Y
 refine ab (hK2 _ _ <| aa fun K3 hK3 => ?_)
 refine wlv Z (ai (v := po w1.hz 1) rfl kr) fun a Z => wlv Z (ld Y 0 rfl rfl (isAgg23 _) rfl) fun a Z => wlv Z ((aj (i := 0) (sT := 23) (Y.ow 1 rfl) rfl rfl (runUnderlying23 _) (sizeOf48 _) om de).as (v' := slAddr lv1 (0 * 5)) rfl) fun a Z => wlv Z ((aU (Y.ow 1 rfl) (i := 0) de rfl (isAgg48 _) (sizeOf48 _)).as (v' := .agg #[iv ((exR.getD 0 Rec.z).t), iv ((exR.getD 0 Rec.z).kind), iv ((exR.getD 0 Rec.z).a), iv ((exR.getD 0 Rec.z).b), sv ((exR.getD 0 Rec.z).text)]) (by rw [bl Rec.z]; rfl)) fun a Z => am Z Y de call33 rfl (gZ (by rw [ex_eB, ex_eE]) (jg (exR.getD 0 Rec.z) _)) ?_
 clear Z Y
 intro a w4 Z Y
 refine wlm Z rfl fun a Z => wlv Z (ak rfl rfl) fun a Z => wlv Z (ak rfl rfl) fun a Z => wla Z rfl fun a Z => wla Z rfl fun a Z => ab (hK3 _ _ ?_)
 replace Z := Z.p4 0 1 2 3 rfl
 refine aa fun K4 hK4 => wlm Z rfl fun a Z => am Z Y de call34 rfl (gZ (by rw [ex_dX, ex_dE]) (pR exE _ de)) ?_
 clear Z Y
 intro a w5 Z Y
 refine wlm Z rfl fun a Z => wlv Z (ak rfl rfl) fun a Z => wlv Z (ak rfl rfl) fun a Z => aY Z Y de (zeroValue48 _) (cs := [iv 0, iv 0, iv 0, iv 0, .string (⟨#[]⟩)]) rfl ?_
 clear Z Y
 intro a w6 Z Y
 refine aL 0 Z Y rfl rfl rfl (sizeOf48 _) rfl (lb rfl) (ds := [iv ((exR.getD 0 Rec.z).t), iv ((exR.getD 0 Rec.z).kind), iv ((exR.getD 0 Rec.z).a), iv ((exR.getD 0 Rec.z).b), sv ((exR.getD 0 Rec.z).text)]) rfl rfl ?_
 clear Z Y
 intro a w7 Z Y
 refine wla Z rfl fun a Z => ab (hK4 _ _ <| aa fun K5 hK5 => ?_)
 refine wlv Z (aw (Y.g 1 rfl) rfl (isAgg25 _) (sizeOf25 _)) fun a Z => am Z Y de call10 rfl (gZ (by rw [ex_hB, ex_hE]) (fS 4 lv1 exR _ (Y.ow 2 rfl) (Y.keepb hk0))) ?_
 clear Z Y
 intro a w8 Z Y
 refine wlm Z rfl fun a Z => wlv Z (ak rfl rfl) fun a Z => wlv Z (ak rfl rfl) fun a Z => wla Z rfl fun a Z => wla Z rfl fun a Z => ab (hK5 _ _ ?_)
 replace Z := Z.p8 0 1 2 3 4 5 6 7 rfl
 refine aa fun K6 hK6 => wlv Z (aw (Y.g 1 rfl) rfl (isAgg25 _) (sizeOf25 _)) fun a Z => aR Z Y de call18 rfl (gJ 4 lv1 exR 1 _ (Y.ow 2 rfl) de gq de (Y.keepb hk0)) ?_
 clear Z Y
 intro a w9 x4 hp Z Y
 revert x4 hp Z Y; rintro v3 hp Z Y
 clear hp
 replace Y : St No w0 [_, _, _, _] w9 := Y
 refine wlm Z rfl fun a Z => wlv Z (ak rfl rfl) fun a Z => wlv Z (ak rfl rfl) fun a Z => wla Z rfl fun a Z => wla Z rfl fun a Z => ab (hK6 _ _ <| aa fun K7 hK7 => ?_)
 refine wlv Z (aw (Y.g 2 rfl) rfl (isAgg25 _) (sizeOf25 _)) fun a Z => wlv Z (bx (v := .agg #[iv 19, iv 1, iv 0, iv 0, sv ([] : By)]) rfl kr) fun a Z => aR Z Y de call35 rfl (oI 4 lv1 exR ⟨19, 1, 0, 0, []⟩ _ (Y.ow 3 rfl) de pO) ?_
 clear Z Y
 intro a w10 x6 hp Z Y
 revert x6 hp Z Y; rintro lv5 hp Z Y
 clear hp
 replace Y : St No w0 [_, _, _, _, _] w10 := Y
 refine wlm Z rfl fun a Z => wlv Z (ak rfl rfl) fun a Z => wlv Z (ak rfl rfl) fun a Z => aY Z Y de (zeroValue25 _) (cs := [iv 0, .slice none 0 0]) rfl ?_
 clear Z Y
 intro a w11 Z Y
 refine bf (us := [iv 0, lv5]) 0 Z Y rfl rfl rfl (sizeOf25 _) (by intro z hz; simp only [List.mem_cons, List.not_mem_nil, or_false] at hz; rcases hz with rfl | rfl <;> first | rfl | exact SlAt.one (Y.ow 1 rfl)) (lb rfl) (ds := [iv 0, lv5]) rfl rfl ?_
 clear Z Y
 intro a w12 Z Y
 refine wla Z rfl fun a Z => ab (hK7 _ _ ?_)
 replace Z : Fr 206 [(0, _), (1, _), (2, _), (3, _), (4, _), (5, _), (6, _), (7, _), (8, _), (9, _), (11, _)] [] a := Z.pick [0, 1, 2, 3, 4, 5, 6, 7, 8, 9, 11]
 replace Y := Y.k5 62 rfl
 refine aa fun K8 hK8 => wlv Z (aw (Y.g 3 rfl) rfl (isAgg25 _) (sizeOf25 _)) fun a Z => wlv Z (bx (v := .agg #[iv 20, iv 3, iv 0, iv 0, sv ([] : By)]) rfl kr) fun a Z => aR Z Y de call35 rfl (qg (Y.ow 4 rfl)) ?_
 clear Z Y
 intro a w13 x8 hp Z Y
 revert x8 hp Z Y; rintro lv7 hp Z Y
 clear hp
 replace Y : St No w0 [_, _, _, _, _, _] w13 := Y
 refine wlm Z rfl fun a Z => wlv Z (ak rfl rfl) fun a Z => wlv Z (ak rfl rfl) fun a Z => aY Z Y de (zeroValue25 _) (cs := [iv 0, .slice none 0 0]) rfl ?_
 clear Z Y
 intro a w14 Z Y
 refine bf (us := [iv 4, lv7]) 0 Z Y rfl rfl rfl (sizeOf25 _) (by intro z hz; simp only [List.mem_cons, List.not_mem_nil, or_false] at hz; rcases hz with rfl | rfl <;> first | rfl | exact SlAt.one (Y.ow 1 rfl)) (lb rfl) (ds := [iv 4, lv7]) rfl rfl ?_
 clear Z Y
 intro a w15 Z Y
 refine wla Z rfl fun a Z => ab (hK8 _ _ ?_)
 replace Z : Fr 206 [(0, _), (1, _), (2, _), (3, _), (4, _), (5, _), (6, _), (7, _), (8, _), (9, _), (11, _), (12, _), (13, _)] [] a := Z.pick [0, 1, 2, 3, 4, 5, 6, 7, 8, 9, 11, 12, 13]
 replace Y := Y.k6 123 rfl
 refine aa fun K9 hK9 => wlv Z (aw (Y.g 0 rfl) rfl (isAgg25 _) (sizeOf25 _)) fun a Z => aR Z Y de call20 rfl (gy 4 lv7 exM 3 _ (Y.ow 1 rfl) de iV de (Y.keepb hk0)) ?_
 clear Z Y
 intro a w16 x10 hp Z Y
 revert x10 hp Z Y; rintro v9 hp Z Y
 clear hp
 replace Y : St No w0 [_, _, _, _, _, _, _] w16 := Y
 refine wlm Z rfl fun a Z => wlv Z (ak rfl rfl) fun a Z => wlv Z (ak rfl rfl) fun a Z => wla Z rfl fun a Z => wla Z rfl fun a Z => ab (hK9 _ _ <| aa fun K10 hK10 => ?_)
 refine wlv Z (aw (Y.g 1 rfl) rfl (isAgg25 _) (sizeOf25 _)) fun a Z => am Z Y de call10 rfl (gZ (by rw [pN, qe]) (fS 4 lv7 exM _ (Y.ow 2 rfl) (Y.keepb hk0))) ?_
 clear Z Y
 intro a w17 Z Y
 refine wlm Z rfl fun a Z => wlv Z (ak rfl rfl) fun a Z => wlv Z (ak rfl rfl) fun a Z => wla Z rfl fun a Z => wla Z rfl fun a Z => ab (hK10 _ _ ?_)
 replace Z := Z.p17 0 1 2 3 4 5 6 7 8 9 11 12 13 14 15 16 17 rfl
 refine aa fun K11 hK11 => am Z Y de call12 rfl (lj 1 _ (by unfold i64; omega)) ?_
 clear Z Y
 intro a w18 Z Y
 refine wla Z rfl fun a Z => ab (hK11 _ _ <| aa fun K12 hK12 => ?_)
 refine wlm Z rfl fun a Z => wlv Z (aw (Y.g 5 rfl) rfl (isAgg25 _) (sizeOf25 _)) fun a Z => am Z Y de call13 rfl (gZ (by rw [ex_sB, ex_sE]) (jh (keyR 1) 4 lv1 exR _ (Y.ow 6 rfl) (Y.keepb hk0))) ?_
 clear Z Y
 intro a w19 Z Y
 refine wlm Z rfl fun a Z => wlv Z (ak rfl rfl) fun a Z => wlv Z (ak rfl rfl) fun a Z => wla Z rfl fun a Z => wla Z rfl fun a Z => ab (hK12 _ _ ?_)
 replace Z := Z.p20 0 1 2 3 4 5 6 7 8 9 11 12 13 14 15 16 17 18 19 20 rfl
 refine ah fun K13 hK13 => aa fun K14 hK14 => wlm Z rfl fun a Z => wlv Z ((v_ne rfl rfl).asb (b' := false) rfl) fun a Z => wlm Z rfl fun a Z => wly Z (ae rfl) fun a Z => wly Z ((v_ne rfl rfl).asb (b' := false) rfl) fun a Z => wlv Z (au rfl rfl) fun a Z => wlm Z rfl fun a Z => wly Z (ae rfl) fun a Z => wly Z ((v_ne rfl rfl).asb (b' := false) rfl) fun a Z => wlv Z (au rfl rfl) fun a Z => wlm Z rfl fun a Z => wly Z (ae rfl) fun a Z => wly Z ((v_ne rfl rfl).asb (b' := false) rfl) fun a Z => wlv Z (au rfl rfl) fun a Z => wlm Z rfl fun a Z => wly Z (ae rfl) fun a Z => wly Z ((v_ne rfl rfl).asb (b' := false) rfl) fun a Z => wlv Z (au rfl rfl) fun a Z => wlm Z rfl fun a Z => wly Z (ae rfl) fun a Z => wly Z ((v_ne rfl rfl).asb (b' := false) rfl) fun a Z => wlv Z (au rfl rfl) fun a Z => wlm Z rfl fun a Z => wly Z (ae rfl) fun a Z => wly Z ((v_ne rfl rfl).asb (b' := false) rfl) fun a Z => wlv Z (au rfl rfl) fun a Z => wlm Z rfl fun a Z => wly Z (ae rfl) fun a Z => wly Z ((v_ne rfl rfl).asb (b' := false) rfl) fun a Z => ?_
 refine wlv Z (au rfl rfl) fun a Z => wlm Z rfl fun a Z => wly Z (ae rfl) fun a Z => wly Z ((v_ne rfl rfl).asb (b' := false) rfl) fun a Z => wlv Z (au rfl rfl) fun a Z => ab (hK14 _ _ ?_)
 replace Z := Z.p12 0 1 2 4 6 8 12 14 16 18 19 110 rfl
 refine aG Z rfl ?_
 refine ap <| hK13 _ _ <| aa fun K15 hK15 => wlm Z rfl fun a Z => wlv Z (ai (v := po w1.hz 1) rfl kr) fun a Z => wlv Z (ld Y 5 rfl rfl (isAgg23 _) rfl) fun a Z => wlv Z ((aj (i := 1) (sT := 23) (Y.ow 6 rfl) rfl rfl (runUnderlying23 _) (sizeOf48 _) om de).as (v' := slAddr lv1 (1 * 5)) rfl) fun a Z => wlv Z ((aU (Y.ow 6 rfl) (i := 1) de rfl (isAgg48 _) (sizeOf48 _)).as (v' := .agg #[iv ((exR.getD 1 Rec.z).t), iv ((exR.getD 1 Rec.z).kind), iv ((exR.getD 1 Rec.z).a), iv ((exR.getD 1 Rec.z).b), sv ((exR.getD 1 Rec.z).text)]) (by rw [bl Rec.z]; rfl)) fun a Z => wlm Z rfl fun a Z => am Z Y de call25 rfl (cc ex_c1 (bW exRoot 3 1 (exR.getD 1 Rec.z) v3 exPf _ (Y.ow 3 rfl) (by have := py; omega) (by unfold i64; omega) (Y.keepb hk0))) ?_
 clear Z Y
 intro a w20 Z Y
 refine wlm Z rfl fun a Z => wly Z (ae rfl) fun a Z => wly Z (ai (v := po w1.hz 1) rfl kr) fun a Z => wly Z (ld Y 5 rfl rfl (isAgg23 _) rfl) fun a Z => wly Z ((aj (i := 1) (sT := 23) (Y.ow 6 rfl) rfl rfl (runUnderlying23 _) (sizeOf48 _) om de).as (v' := slAddr lv1 (1 * 5)) rfl) fun a Z => wly Z ((aU (Y.ow 6 rfl) (i := 1) de rfl (isAgg48 _) (sizeOf48 _)).as (v' := .agg #[iv ((exR.getD 1 Rec.z).t), iv ((exR.getD 1 Rec.z).kind), iv ((exR.getD 1 Rec.z).a), iv ((exR.getD 1 Rec.z).b), sv ((exR.getD 1 Rec.z).text)]) (by rw [bl Rec.z]; rfl)) fun a Z => wly Z (ae rfl) fun a Z => aO Z Y de rfl de rfl call25 rfl (cc ex_c2 (bW exRoot 3 0 (exR.getD 1 Rec.z) v3 exPf _ (Y.ow 3 rfl) (by have := py; omega) (by unfold i64; omega) (Y.keepb hk0))) ?_
 clear Z Y
 intro a w21 Z Y
 refine wly Z ((bp rfl).asb (b' := true) rfl) fun a Z => wlv Z (aA rfl rfl) fun a Z => wlm Z rfl fun a Z => wly Z (ae rfl) fun a Z => wly Z (ae rfl) fun a Z => wly Z (ae rfl) fun a Z => aO Z Y de rfl de rfl call23 rfl (cc ex_g1 (bM exRoot 3 exNext 4 v9 exQ _ (Y.ow 0 rfl) (by have := pp; omega) (by unfold i64; omega) (Y.keepb hk0))) ?_
 clear Z Y
 intro a w22 Z Y
 refine wlv Z (aA rfl rfl) fun a Z => wlm Z rfl fun a Z => wly Z (ae rfl) fun a Z => wly Z (ae rfl) fun a Z => wly Z (ae rfl) fun a Z => aO Z Y de rfl de rfl call23 rfl (cc ex_g2 (bM exNext 3 exRoot 4 v9 exQ _ (Y.ow 0 rfl) (by have := pp; omega) (by unfold i64; omega) (Y.keepb hk0))) ?_
 clear Z Y
 intro a w23 Z Y
 refine wly Z ((bp rfl).asb (b' := true) rfl) fun a Z => wlv Z (aA rfl rfl) fun a Z => wla Z rfl fun a Z => ab (hK15 _ _ ?_)
 replace Z := Z.p10 0 1 2 4 6 12 16 18 19 21 rfl
 replace Y := Y.k5 118 rfl
 refine aa fun K16 hK16 => wlm Z rfl fun a Z => wlm Z rfl fun a Z => wlm Z rfl fun a Z => am Z Y de call15 rfl (cc ex_n1 (cC (keyR 1) 4 3 exRoot exTag _ (Y.keepb hk0))) ?_
 clear Z Y
 intro a w24 Z Y
 refine wlm Z rfl fun a Z => wly Z (ae rfl) fun a Z => wly Z (ae rfl) fun a Z => wly Z (ae rfl) fun a Z => aO Z Y de rfl de rfl call15 rfl (cc ex_n2 (cC (keyR 1) 5 3 exRoot exTag _ (Y.keepb hk0))) ?_
 clear Z Y
 intro a w25 Z Y
 refine wly Z ((bp rfl).asb (b' := true) rfl) fun a Z => wlv Z (aA rfl rfl) fun a Z => wlm Z rfl fun a Z => wly Z (ae rfl) fun a Z => wly Z (ae rfl) fun a Z => wly Z (ae rfl) fun a Z => aO Z Y de rfl de rfl call15 rfl (cc ex_n3 (cC (keyR 1) 4 3 exNext exTag _ (Y.keepb hk0))) ?_
 clear Z Y
 intro a w26 Z Y
 refine wly Z ((bp rfl).asb (b' := true) rfl) fun a Z => wlv Z (aA rfl rfl) fun a Z => wla Z rfl fun a Z => ab (hK16 _ _ ?_)
 replace Z := Z.p7 0 1 2 4 12 21 22 rfl
 refine aa fun K17 hK17 => wlv Z (aw (Y.g 3 rfl) rfl (isAgg25 _) (sizeOf25 _)) fun a Z => am Z Y de call36 rfl (jm ex_f1 (iG 4 lv1 exR 1 9 _ (Y.ow 4 rfl))) ?_
 clear Z Y
 intro a w27 Z Y
 refine wlv Z ((v_eq rfl rfl).asb (b' := true) rfl) fun a Z => wlm Z rfl fun a Z => wly Z (aw (Y.g 3 rfl) rfl (isAgg25 _) (sizeOf25 _)) fun a Z => aO Z Y de rfl de rfl call36 rfl (jm ex_f2 (iG 4 lv1 exR 1 19 _ (Y.ow 4 rfl))) ?_
 clear Z Y
 intro a w28 Z Y
 refine wly Z ((v_eq rfl rfl).asb (b' := true) rfl) fun a Z => wlv Z (aA rfl rfl) fun a Z => wlm Z rfl fun a Z => wly Z (aw (Y.g 3 rfl) rfl (isAgg25 _) (sizeOf25 _)) fun a Z => aO Z Y de rfl de rfl call36 rfl (jm ex_f3 (iG 4 lv1 exR 1 20 _ (Y.ow 4 rfl))) ?_
 clear Z Y
 intro a w29 Z Y
 refine wly Z ((v_eq rfl rfl).asb (b' := true) rfl) fun a Z => wlv Z (aA rfl rfl) fun a Z => wla Z rfl fun a Z => ab (hK17 _ _ ?_)
 replace Z := Z.p8 0 1 2 4 12 21 22 23 rfl
 refine ah fun K18 hK18 => aH kr (aI kr fun w30 hxz => ?_)
 replace Y := Y.grow hxz
 refine aK (k := 0) 3 [2] kr kr kr ?_
 refine wlm Z rfl fun a Z => wlv Z ((dt rfl rfl).asb (b' := true) (by exact decide_eq_true rfl)) fun a Z => wlm Z rfl fun a Z => ab <| aP (k := 3) 8 [3, 7] Z kr kr kr rfx ?_
 replace Z : Fr 206 [(0, _), (1, _), (2, _), (4, _), (12, _), (21, _), (22, _), (23, _), (172, _), (173, _), (174, _)] [] a := Z.pick [0, 1, 2, 4, 12, 21, 22, 23, 172, 173, 174]
 refine az [] (fun i => match i with | _ => fun _ _ => False) 5 [[], [], [1], [2], [3]] [.agg #[iv ((exR.getD 0 Rec.z).t), iv ((exR.getD 0 Rec.z).kind), iv ((exR.getD 0 Rec.z).a), iv ((exR.getD 0 Rec.z).b), sv ((exR.getD 0 Rec.z).text)], po w1.hz 1, lv1, slAddr lv1 (0 * 5), .agg #[iv ((exR.getD 0 Rec.z).t), iv ((exR.getD 0 Rec.z).kind), iv ((exR.getD 0 Rec.z).a), iv ((exR.getD 0 Rec.z).b), sv ((exR.getD 0 Rec.z).text)]] Z Y kr kr kr ?_ ?_ ?_
 ·intro i hi hiq
  match i, hi, hiq with
  | 0, _, _ => exact fun w Y => OpV.g (aw (Y.g 2 rfl) rfl (isAgg48 _) (sizeOf48 _))
  | 1, _, _ => exact fun w Y => OpV.g (ai (v := po w1.hz 1) rfl kr)
  | 2, _, _ => exact fun w Y => OpV.g (ld Y 3 rfl rfl (isAgg23 _) rfl)
  | 3, _, _ => exact fun w Y => OpV.g ((aj (i := 0) (sT := 23) (Y.ow 4 rfl) rfl rfl (runUnderlying23 _) (sizeOf48 _) om de).as (v' := slAddr lv1 (0 * 5)) rfl)
  | 4, _, _ => exact fun w Y => OpV.g ((aU (Y.ow 4 rfl) (i := 0) de rfl (isAgg48 _) (sizeOf48 _)).as (v' := .agg #[iv ((exR.getD 0 Rec.z).t), iv ((exR.getD 0 Rec.z).kind), iv ((exR.getD 0 Rec.z).a), iv ((exR.getD 0 Rec.z).b), sv ((exR.getD 0 Rec.z).text)]) (by rw [bl Rec.z]; rfl))
 ·intro i hi
  exact absurd hi sm
 clear Z Y
 intro  a w31 Z Y
 replace Z : Fr 206 [(175, .agg #[iv ((exR.getD 0 Rec.z).t), iv ((exR.getD 0 Rec.z).kind), iv ((exR.getD 0 Rec.z).a), iv ((exR.getD 0 Rec.z).b), sv ((exR.getD 0 Rec.z).text)]), (176, po w1.hz 1), (177, lv1), (178, slAddr lv1 (0 * 5)), (179, .agg #[iv ((exR.getD 0 Rec.z).t), iv ((exR.getD 0 Rec.z).kind), iv ((exR.getD 0 Rec.z).a), iv ((exR.getD 0 Rec.z).b), sv ((exR.getD 0 Rec.z).text)]), (0, _), (1, _), (2, _), (4, _), (12, _), (21, _), (22, _), (23, _), (172, _), (173, _), (174, _)] [] a := Z
 refine ab <| aK (k := 8) 35 [34] kr kr kr ?_
 refine wly Z ((ox rfl rfl kr (eqRec ((exR.getD 0 Rec.z).t) ((exR.getD 0 Rec.z).kind) ((exR.getD 0 Rec.z).a) ((exR.getD 0 Rec.z).b) ((exR.getD 0 Rec.z).text) ((exR.getD 0 Rec.z).t) ((exR.getD 0 Rec.z).kind) ((exR.getD 0 Rec.z).a) ((exR.getD 0 Rec.z).b) ((exR.getD 0 Rec.z).text) _)).asb (b' := true) (by exact decide_eq_true rfl)) fun a Z => wlv Z (aA rfl rfl) fun a Z => wlm Z rfl fun a Z => wly Z (ae rfl) fun a Z => wlv Z (aA rfl rfl) fun a Z => wlm Z rfl fun a Z => wly Z (ae rfl) fun a Z => wlv Z (aA rfl rfl) fun a Z => wlm Z rfl fun a Z => wly Z (ae rfl) fun a Z => wlv Z (aA rfl rfl) fun a Z => wlm Z rfl fun a Z => wly Z (ai (v := po w13.hz 1) rfl kr) fun a Z => wly Z (ld Y 0 rfl rfl (isAgg23 _) rfl) fun a Z => wly Z ((aB (sT := 23) (Y.ow 1 rfl) rfl rfl (runUnderlying23 _)).asi (m' := (exM.length : Int)) (by rw [List.length_map])) fun a Z => wly Z ((v_eq rfl rfl).asb (b' := true) de) fun a Z => wlv Z (aA rfl rfl) fun a Z => wlm Z rfl fun a Z => wly Z (aw (Y.g 3 rfl) rfl (isAgg25 _) (sizeOf25 _)) fun a Z => aO Z Y de rfl de rfl call37 rfl (cc gq (dY 4 lv1 exR _ (Y.ow 4 rfl))) ?_
 clear Z Y
 intro a w32 Z Y
 refine wlv Z (aA rfl rfl) fun a Z => wlm Z rfl fun a Z => wly Z (bx (v := .agg #[iv 100, .slice none 0 0]) rfl kr) fun a Z => aO Z Y de rfl de rfl call37 rfl (cc pd (dY 100 (.slice none 0 0) ([] : List Rec) _ (jK _ _))) ?_
 clear Z Y
 intro a w33 Z Y
 refine wly Z ((bp rfl).asb (b' := true) rfl) fun a Z => wlv Z (aA rfl rfl) fun a Z => wla Z rfl fun a Z => ab <| aW kr ?_
 refine hK18 _ _ ?_
 replace Z := Z.p1 0 rfl
 replace Y := Y.k2 18 rfl
 refine ao ?_
 refine al Z results5 (ac rfl ag) ?_
 exact ⟨by rfl, Y.ext⟩
theorem cV {w : World} {v : Value} {sz : Nat} {els : List (List Value)} (h : SlAt w v sz els) : ∃ a n c, v = .slice a n c := dz h
theorem lg : ∀ {l : List Rin} {t : Int}, 0 ≤ t → t + 30 * l.length ≤ 10000000 → ∀ x ∈ recsR t l, x.t ≤ t + 30 * l.length
 | [], t, h, hb, x, hx => by cases hx
 | y :: l, t, h, hb, x, hx => by
  have h0 := bu y.x0 (n := 30) om
  rw [List.length_cons] at hb ⊢
  have e : (entR (t + pickI y.x0 30) y.x1 y.x2 y.x3 y.x4).t = t + pickI y.x0 30 := by
   show pickI (t + pickI y.x0 30) 10000001 = _
   generalize pickI y.x0 30 = z at *
   unfold pickI
   rw [if_neg om]
   exact Int.emod_eq_of_lt om om
  rw [recsR] at hx
  rcases List.mem_cons.1 hx with rfl | hx
  ·rw [e]; omega
  ·have := lg (l := l) (t := t + pickI y.x0 30) om om x hx
   omega
theorem ph (l : List Rin) : ∀ x ∈ madeR l, x.t ≤ 360 := by
 intro x hx
 have := lg (Int.le_refl 0) (by rw [List.length_take]; omega) x hx
 rw [List.length_take] at this; omega
theorem qc {owner o : Int} {xv : Value} {ys : List Rin} {l : List Rec} {w0 : World} (ho : pickI owner 100 = o) (hl : madeR ys = l) (hxv : SlAt w0 xv 5 (ys.map Rin.cells)) (hys : ∀ y ∈ ys, y.wt) (how : i64 owner) : Ret Tryz.prog 7 #[iv owner, xv] w0 (MemR w0 (fun v : Value => .agg #[iv o, v]) (fun v => [own v 48 5 (l.map Rec.cells)]) (fun _ => True)) := by
 subst ho; subst hl
 exact nf owner xv ys w0 hxv hys how
end Go.Proofs.YtddfkkdanpmnaaaGreatDoor
namespace Go.PW
open Go.RowKit Go.ChangeShapes Go.WideShapes Go.ChangeAt
section
variable {H : Type} {enc : TypeId × Value → H}
theorem j6 {a : Assume} {C : Checked} {os : Os} {f : FuncId} {fn : Func} {s : ChangeSpec} {conds : List PathCond} {apart fresh handsOn again : Bool} {X : World → Array Value → Prop}
  (hX : ∀ (w w' : World) (args : Array Value), w.heap = w'.heap → X w args → X w' args)
  (own : ownKnob C.prog.godebug = none) (started : os.Started) (noInit : C.prog.inits.idxOf? f = none) (hfn : C.prog.funcs[f]? = some fn)
  (witness : ∃ (w : World) (tape : Tape) (i : Input), w.os = os ∧ (w.forCall tape i).Shaped C.prog ∧ i.vars = [] ∧ Input.okWide C.prog (w.forCall tape i) .any w.heap.size f i ∧
   ((s.pre enc C.prog fn conds apart (w.forCall tape i).memory i.args ∧ X (w.forCall tape i).memory i.args) ∧ sizedMet enc C.prog fn (OpenSpec.ofChange s) apart (w.forCall tape i).memory i.args) ∧ a.holds C.prog (lone (Frame.enter C.prog f i.args .normal) [] (w.forCall tape i)))
  (contract : ∀ (W : World) (base : Nat) (args : Array Value) (ds gs : List (DataW H)) (before : List MemPlace),
   (∀ (j : Nat) t v, fn.params[j]? = some t → args[j]? = some v → Value.okWide C.prog W .any base t v) →
   DataW.Whole enc C.prog fn.params.toList s.vars apart W args.toList ds gs before →
   conds.all (PathCond.test C.prog ⟨fn.params.toList, ds, s.plain.varTypes C.prog, gs⟩) = true →
   (DataW.weightsEach C.prog (fn.params.toList ++ s.plain.varTypes C.prog) (ds ++ gs)).all (· ≤ reachBytes) = true → X W args → W.ShapedOpen C.prog →
   Calls C.prog f args W fun e W' => ∃ v, e = .returned v ∧ s.post enc C.prog fn apart fresh handsOn again W args v W') :
  ReturnsInHanded a C os f .any (fun w args => (s.pre enc C.prog fn conds apart w args ∧ X w args) ∧ sizedMet enc C.prog fn (OpenSpec.ofChange s) apart w args) (s.post enc C.prog fn apart fresh handsOn again) := by
 refine returnsInHanded_of_calls own started noInit witness ?_
 intro w tape i _ hsh _ hok hpre _
 obtain ⟨_, _, _, fn', hfn', _, _, _, _, hval⟩ := hok
 have e : fn' = fn := Option.some.inj (hfn'.symm.trans hfn)
 subst e
 obtain ⟨⟨⟨ds, gs, before, hw, hc⟩, hx⟩, hz⟩ := hpre
 have hw' := DataW.Whole.of_heap (w' := w.forCall tape i) rfx hw
 refine (contract (w.forCall tape i) w.heap.size i.args ds gs before hval hw' hc (hz.weights hw) (hX _ _ _ rfx hx) hsh).mono fun e W' ⟨v, he, hp⟩ => ?_
 subst he
 exact ChangeSpec.post_blind hp
end
section
variable {H : Type} {enc : TypeId × Value → H} {P : Program} {w : World} {base : Nat} {spare : Nat → Bool} {held : Bool} {fuel : Nat} {t e : TypeId} {cs : List Value} {x : DataW H × List MemPlace}
theorem kS {n : Nat} {ks : List Int} (ht : P.underlying t = some (.array n e)) (he : P.underlying e = some (.int .u32)) (hc : P.cellsOf e = 1) (hct : P.cellsOf t = n) (h : DataW.trod enc P w base spare held fuel t cs = some x) (hx : x.1 = .agg (ks.map fun k => .lit (.int .u32 k))) : cs = ks.map (fun k => .int .u32 k) := by
 obtain ⟨xs, m, rfl, rfl, hlen, hxs, hel⟩ := DataW.trod_array ht h
 simp only [DataW.agg.injEq] at hx
 have hl : ks.length = n := by
  have h := congrArg List.length hx
  rw [List.length_map, List.length_map] at h
  omega
 refine List.ext_getElem (by rw [hlen, hct, List.length_map, hl]) fun i h1 h2 => ?_
 have hi : i < n := by rw [← hct, ← hlen]; exact h1
 have hi2 : i < ks.length := by omega
 have h3 := hel i hi
 rw [hc, Nat.mul_one, List.getElem?_eq_getElem om] at h3
 obtain ⟨k, e1, e2, _⟩ := DataW.trod_int he h3
 rw [List.drop_eq_getElem_cons h1, List.take_succ_cons] at e1
 injection e1 with e1 _
 have h4 : (xs.map (·.1))[i]? = (ks.map fun k => DataW.lit (H := H) (.int .u32 k))[i]? := by rw [hx]
 rw [List.getElem?_map, List.getElem?_map, List.getElem?_eq_getElem om, List.getElem?_eq_getElem hi2, Option.map_some, Option.map_some, e2] at h4
 simp only [Option.some.injEq, DataW.lit.injEq, Lit.int.injEq, true_and] at h4
 rw [e1, List.getElem_map, h4]
theorem na {r : Reach} {b0 : Nat} {v : Value} {d : DataW H} {ps : List MemPlace} {sp : Nat → Bool} (ht : P.underlying t = some .string) (hval : Value.okWide P w r b0 t v) (hw : Wt P t d) (hd : DataW.Trod enc P w base sp held t v d ps) :
  ∃ s : List UInt8, v = sv s ∧ s.length ≤ 140737488355328 := by
 obtain ⟨s, rfl, rfl, _, _⟩ := Go.ChangeMaps.open_string ht hval hd
 refine ⟨s.data.toList, rfl, ?_⟩
 have h1 := hw s.data.toList.length (by simp [DataW.weights])
 have h2 := reachBytes_lt
 omega
theorem jH (ht : P.underlying t = some .string) (hw : Wt P t x.1) (h : DataW.trod enc P w base spare held fuel t cs = some x) : ∃ s : List UInt8, cs = [sv s] ∧ s.length ≤ 140737488355328 := by
 obtain ⟨s', hcs, hx, hs⟩ := DataW.trod_string ht h
 subst hx
 refine ⟨s'.data.toList, hcs, ?_⟩
 have h1 := hw s'.data.toList.length (by simp [DataW.weights])
 have h2 := reachBytes_lt
 omega
end
end Go.PW
namespace Go.Proofs.YtddfkkdanpmnaaaGreatDoor
open Go.RowKit Go.PW _root_.Go.Proofs.Tryz
open Go.ChangeShapes Go.WideShapes Go.ChangeAt Go.RowKit Go.PW
theorem ownD : ownKnob Tryz.prog.godebug = none := by kernel_rfl
theorem cL : laidOutB Tryz.prog = true := by kernel_rfl
def laid1 : List (String × DataW Unit) := [("dialtone/digest.round", Rows.laid_dialtone_digest_round)]
theorem gRound : Tryz.prog.globalNamed "dialtone/digest.round" = some 0 := by kernel_rfl
theorem tRound : (Tryz.prog.globals[0]?).map (·.type) = some 161 := by kernel_rfl
theorem pf : (Rows.laid_dialtone_digest_round : DataW Unit) = .agg ((kOf.map fun k => (k.toNat : Int)).map fun k => .lit (.int .u32 k)) := by kernel_rfl
theorem nb (os : Os) (args : Array Value) : laidMetH Tryz.prog laid1 ((World.doorLaid Tryz.prog 4000 os).forCall (fun _ _ => 0) ⟨#[], args, []⟩).memory :=
 laidMetH_of_parts3 (fuel := 8) (laidMet_of_run' 8 kr kr) kr kr
theorem kN (os : Os) (args : Array Value) : ((World.doorLaid Tryz.prog 4000 os).forCall (fun _ _ => 0) ⟨#[], args, []⟩).Shaped Tryz.prog := World.shaped_of_RefB kr kr
theorem qh {W : World} (h : laidMetH Tryz.prog laid1 W) (hs : W.ShapedOpen Tryz.prog) : (blk 0 (kOf.map wv) 161).ok W := by
 rw [MakeChecks.laidMetH_plain _ _ _ kr] at h
 obtain ⟨ps, ⟨g0, t0, cs0, f0, p0, q0, hg0, ht0, hv0, hd0, _, _⟩, _, _⟩ := h
 obtain rfl := Option.some.inj (gRound.symm.trans hg0)
 obtain rfl := Option.some.inj (tRound.symm.trans ht0)
 obtain ⟨cs, hcs, _, _⟩ := hs.1 0 (List.replicate 64 (.int .u32 0)).toArray 161 (of_decide_eq_true kr) kr
 have e : cs0 = cs := by
  have := hv0
  simp only [World.var?, gRound, Option.bind_some, hcs, Option.some.injEq] at this
  exact this.symm
 subst e
 have hw := kS (ks := kOf.map fun k => (k.toNat : Int)) underlying161 underlying116 kr kr hd0 pf
 have hl : cs0 = (kOf.map wv).toArray := by
  apply Array.toList_inj.1
  rw [hw, List.map_map]; rfl
 show W.heap[0]? = some (.cells (kOf.map wv).toArray 161)
 rw [← hl]; exact hcs
open Go.ChangeShapes Go.WideShapes Go.ChangeAt
section
variable {H : Type} {enc : TypeId × Value → H} {W : World} {base b0 : Nat} {sp : Nat → Bool} {hd : Bool} {v : Value} {d : DataW H} {ps : List MemPlace} {r : Reach}
theorem gX {n : Int} (h : Go.PW.i64 n) : i64 n := h
theorem len5 {α : Type} {l : List α} (h : l.length = 5) : ∃ a0 a1 a2 a3 a4, l = [a0, a1, a2, a3, a4] := by
 match l, h with
 | [a0, a1, a2, a3, a4], _ => exact ⟨_, _, _, _, _, rfl⟩
theorem oq {fuel : Nat} {cs : List Value} {x : DataW H × List MemPlace} (hl : cs.length = 5) (hw : Wt Tryz.prog 65 x.1) (h : DataW.trod enc Tryz.prog W base sp hd fuel 65 cs = some x) :
  ∃ (n0 : Int) (n1 : Int) (n2 : Int) (n3 : Int) (n4 : Int), cs = [iv n0, iv n1, iv n2, iv n3, iv n4] ∧ (i64 n0) ∧ (i64 n1) ∧ (i64 n2) ∧ (i64 n3) ∧ (i64 n4) := by
 obtain ⟨zs, hz, he, hy⟩ := lZ 5 underlying65 underlying3 kr h hl
 obtain ⟨n0, n1, n2, n3, n4, rfl⟩ := len5 hz
 exact ⟨n0, n1, n2, n3, n4, he, hy n0 sm, hy n1 sm, hy n2 sm, hy n3 sm, hy n4 sm⟩
theorem md {fuel : Nat} {v : Value} {x : DataW H × List MemPlace} (hok : Cell.okWide Tryz.prog W r b0 22 v) (hw : Wt Tryz.prog 22 x.1) (h : DataW.trod enc Tryz.prog W base sp hd fuel 22 [v] = some x) :
  ∃ xs : List Rin, SlAt W v 5 (xs.map Rin.cells) ∧ ∀ a ∈ xs, a.wt := by
 obtain ⟨els, h1, h2⟩ := iK 5 underlying22 kr de (of_decide_eq_true kr) hok hw h
 exact kH (f := Rin.cells) (q := fun a => a.wt) h1 fun i hi => by
  obtain ⟨n, y, hy, hwy⟩ := h2 i hi
  obtain ⟨n0, n1, n2, n3, n4, he, hf⟩ := oq (h1.1 _ (List.getElem_mem hi)) hwy hy
  exact ⟨⟨n0, n1, n2, n3, n4⟩, he, hf⟩
theorem kP (hval : Value.okWide Tryz.prog W r b0 22 v) (hw : Wt Tryz.prog 22 d) (hd0 : DataW.Trod enc Tryz.prog W base sp hd 22 v d ps) :
  ∃ xs : List Rin, SlAt W v 5 (xs.map Rin.cells) ∧ ∀ a ∈ xs, a.wt := by
 obtain ⟨fuel, hf⟩ := hd0
 have hcs : v.cells.toList = [v] := by
  rcases ec (by rw [underlying22]) hval with h
  have : ∃ a n c, v = .slice a n c := by
   unfold Cell.okWide Cell.ok at h
   rw [underlying22] at h
   cases v <;> simp_all
  obtain ⟨a, n, c, rfl⟩ := this
  rfl
 rw [hcs] at hf
 exact md (ec (by rw [underlying22]) hval) hw hf
theorem len2 {α : Type} {l : List α} (h : l.length = 2) : ∃ a0 a1, l = [a0, a1] := by
 match l, h with
 | [a0, a1], _ => exact ⟨_, _, rfl⟩
theorem oh {fuel : Nat} {cs : List Value} {x : DataW H × List MemPlace} (hl : cs.length = 2) (hw : Wt Tryz.prog 25 x.1) (h : DataW.trod enc Tryz.prog W base sp hd fuel 25 cs = some x) :
  ∃ (n0 : Int) (v1 : Value), cs = [iv n0, v1] ∧ (i64 n0) ∧ (∃ n z, DataW.trod enc Tryz.prog W base sp hd n 23 [v1] = some z ∧ Wt Tryz.prog 23 z.1) := by
 obtain ⟨c0, c1, rfl⟩ := len2 hl
 obtain ⟨m0, z0, h0, w0⟩ := cF 0 _ underlying25 hw h rfl
 have k0 : Tryz.prog.cellsOf 3 = 1 := by kernel_rfl
 replace h0 : DataW.trod enc Tryz.prog W base sp hd m0 3 [c0] = some z0 := by rw [show [c0] = ([c0, c1].drop 0).take (Tryz.prog.cellsOf 3) from by rw [k0]; rfl]; exact h0
 obtain ⟨m1, z1, h1, w1⟩ := cF 1 _ underlying25 hw h rfl
 have k1 : Tryz.prog.cellsOf 23 = 1 := by kernel_rfl
 replace h1 : DataW.trod enc Tryz.prog W base sp hd m1 23 [c1] = some z1 := by rw [show [c1] = ([c0, c1].drop 1).take (Tryz.prog.cellsOf 23) from by rw [k1]; rfl]; exact h1
 obtain ⟨n0, e0, f0⟩ := dT underlying3 h0
 obtain rfl : c0 = iv n0 := by simpa using e0
 obtain ⟨v1, e1⟩ : ∃ q, q = c1 := ⟨_, rfl⟩
 subst e1
 exact ⟨n0, v1, rfl, f0, ⟨m1, z1, h1, w1⟩⟩
theorem nN {fuel : Nat} {cs : List Value} {x : DataW H × List MemPlace} (hl : cs.length = 5) (hw : Wt Tryz.prog 48 x.1) (h : DataW.trod enc Tryz.prog W base sp hd fuel 48 cs = some x) :
  ∃ (n0 : Int) (n1 : Int) (n2 : Int) (n3 : Int) (s4 : By), cs = [iv n0, iv n1, iv n2, iv n3, sv s4] ∧ (i64 n0) ∧ (i64 n1) ∧ (i64 n2) ∧ (i64 n3) ∧ (s4.length ≤ 140737488355328) := by
 obtain ⟨c0, c1, c2, c3, c4, rfl⟩ := len5 hl
 obtain ⟨m0, z0, h0, w0⟩ := cF 0 _ underlying48 hw h rfl
 have k0 : Tryz.prog.cellsOf 3 = 1 := by kernel_rfl
 replace h0 : DataW.trod enc Tryz.prog W base sp hd m0 3 [c0] = some z0 := by rw [show [c0] = ([c0, c1, c2, c3, c4].drop 0).take (Tryz.prog.cellsOf 3) from by rw [k0]; rfl]; exact h0
 obtain ⟨m1, z1, h1, w1⟩ := cF 1 _ underlying48 hw h rfl
 have k1 : Tryz.prog.cellsOf 3 = 1 := by kernel_rfl
 replace h1 : DataW.trod enc Tryz.prog W base sp hd m1 3 [c1] = some z1 := by rw [show [c1] = ([c0, c1, c2, c3, c4].drop 1).take (Tryz.prog.cellsOf 3) from by rw [k1]; rfl]; exact h1
 obtain ⟨m2, z2, h2, w2⟩ := cF 2 _ underlying48 hw h rfl
 have k2 : Tryz.prog.cellsOf 3 = 1 := by kernel_rfl
 replace h2 : DataW.trod enc Tryz.prog W base sp hd m2 3 [c2] = some z2 := by rw [show [c2] = ([c0, c1, c2, c3, c4].drop 2).take (Tryz.prog.cellsOf 3) from by rw [k2]; rfl]; exact h2
 obtain ⟨m3, z3, h3, w3⟩ := cF 3 _ underlying48 hw h rfl
 have k3 : Tryz.prog.cellsOf 3 = 1 := by kernel_rfl
 replace h3 : DataW.trod enc Tryz.prog W base sp hd m3 3 [c3] = some z3 := by rw [show [c3] = ([c0, c1, c2, c3, c4].drop 3).take (Tryz.prog.cellsOf 3) from by rw [k3]; rfl]; exact h3
 obtain ⟨m4, z4, h4, w4⟩ := cF 4 _ underlying48 hw h rfl
 have k4 : Tryz.prog.cellsOf 9 = 1 := by kernel_rfl
 replace h4 : DataW.trod enc Tryz.prog W base sp hd m4 9 [c4] = some z4 := by rw [show [c4] = ([c0, c1, c2, c3, c4].drop 4).take (Tryz.prog.cellsOf 9) from by rw [k4]; rfl]; exact h4
 obtain ⟨n0, e0, f0⟩ := dT underlying3 h0
 obtain rfl : c0 = iv n0 := by simpa using e0
 obtain ⟨n1, e1, f1⟩ := dT underlying3 h1
 obtain rfl : c1 = iv n1 := by simpa using e1
 obtain ⟨n2, e2, f2⟩ := dT underlying3 h2
 obtain rfl : c2 = iv n2 := by simpa using e2
 obtain ⟨n3, e3, f3⟩ := dT underlying3 h3
 obtain rfl : c3 = iv n3 := by simpa using e3
 obtain ⟨s4, e4, f4⟩ := jH underlying9 w4 h4
 obtain rfl : c4 = sv s4 := by simpa using e4
 exact ⟨n0, n1, n2, n3, s4, rfl, f0, f1, f2, f3, f4⟩
theorem lT {fuel : Nat} {v : Value} {x : DataW H × List MemPlace} (hok : Cell.okWide Tryz.prog W r b0 23 v) (hw : Wt Tryz.prog 23 x.1) (h : DataW.trod enc Tryz.prog W base sp hd fuel 23 [v] = some x) :
  ∃ xs : List Rec, SlAt W v 5 (xs.map Rec.cells) ∧ ∀ a ∈ xs, True := by
 obtain ⟨els, h1, h2⟩ := iK 5 underlying23 kr de (of_decide_eq_true kr) hok hw h
 exact kH (f := Rec.cells) (q := fun a => True) h1 fun i hi => by
  obtain ⟨n, y, hy, hwy⟩ := h2 i hi
  obtain ⟨n0, n1, n2, n3, s4, he, hf⟩ := nN (h1.1 _ (List.getElem_mem hi)) hwy hy
  exact ⟨⟨n0, n1, n2, n3, s4⟩, he, trivial⟩
theorem kC (hval : Value.okWide Tryz.prog W r b0 25 v) (hw : Wt Tryz.prog 25 d) (hd0 : DataW.Trod enc Tryz.prog W base sp hd 25 v d ps) :
  ∃ (n0 : Int) (v1 : Value) (xv1 : List Rec), v = .agg #[iv n0, v1] ∧ (i64 n0) ∧ (SlAt W v1 5 (xv1.map Rec.cells)) ∧ (∀ a ∈ xv1, True) := by
 obtain ⟨csA, rfl, hsz, hrow⟩ := jR kr hval
 obtain ⟨fuel, hf⟩ := hd0
 have hc : Tryz.prog.cellsOf 25 = 2 := by kernel_rfl
 obtain ⟨n0, v1, he, g0, g1⟩ := oh (cs := csA.toList) (by rw [Array.length_toList, hsz, hc]) hw hf
 obtain rfl : csA = #[iv n0, v1] := by
  have he2 : csA.toList = [iv n0, v1] := he
  cases csA; simp only at he2; rw [he2]
 obtain ⟨n1_, z1_, h1_, w1_⟩ := g1
 obtain ⟨xv1, k1_, q1_⟩ := lT (nu (i := 1) (ts := [3, 23]) kr rfl hrow rfl) w1_ h1_
 exact ⟨n0, v1, xv1, rfl, g0, k1_, q1_⟩
theorem mr {fuel : Nat} {v : Value} {x : DataW H × List MemPlace} (hok : Cell.okWide Tryz.prog W r b0 26 v) (hw : Wt Tryz.prog 26 x.1) (h : DataW.trod enc Tryz.prog W base sp hd fuel 26 [v] = some x) :
  ∃ xs : List By, SlAt W v 1 (xs.map (fun s : By => [sv s])) ∧ ∀ a ∈ xs, True := by
 obtain ⟨els, h1, h2⟩ := iK 1 underlying26 kr de (of_decide_eq_true kr) hok hw h
 exact kH (f := fun s : By => [sv s]) (q := fun a => True) h1 fun i hi => by
  obtain ⟨n, y, hy, hwy⟩ := h2 i hi
  obtain ⟨s0, he, f0⟩ := jH underlying9 hwy hy
  exact ⟨s0, he, trivial⟩
theorem ku (hval : Value.okWide Tryz.prog W r b0 26 v) (hw : Wt Tryz.prog 26 d) (hd0 : DataW.Trod enc Tryz.prog W base sp hd 26 v d ps) :
  ∃ xs : List By, SlAt W v 1 (xs.map (fun s : By => [sv s])) ∧ ∀ a ∈ xs, True := by
 obtain ⟨fuel, hf⟩ := hd0
 have hcs : v.cells.toList = [v] := by
  rcases ec (by rw [underlying26]) hval with h
  have : ∃ a n c, v = .slice a n c := by
   unfold Cell.okWide Cell.ok at h
   rw [underlying26] at h
   cases v <;> simp_all
  obtain ⟨a, n, c, rfl⟩ := this
  rfl
 rw [hcs] at hf
 exact mr (ec (by rw [underlying26]) hval) hw hf
end
end Go.Proofs.YtddfkkdanpmnaaaGreatDoor
