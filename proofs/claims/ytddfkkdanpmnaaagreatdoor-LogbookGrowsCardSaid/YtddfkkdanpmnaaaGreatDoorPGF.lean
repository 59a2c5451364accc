/- Texts joined: LgG, LgH, LgI, LgJ, LgK, Laid, Door, OpenL. -/
import Derived.Test.YtddfkkdanpmnaaaGreatDoorPGE
import Derived.Test.YtddfkkdanpmnaaaGreatDoorPGD
import Derived.Test.YtddfkkdanpmnaaaGreatDoorPGB
import Derived.Test.YtddfkkdanpmnaaaGreatDoorPGA
import Derived.LaidMore
import Derived.OpenShut
import Derived.Stop.Joined
import Derived.SevenTiedAt
import Derived.ChangeMaps5
import Derived.Test.YtddfkkdanpmnaaaGreatDoorRows
set_option linter.unusedVariables false
set_option linter.unusedSimpArgs false
set_option maxRecDepth 4000
set_option maxHeartbeats 4000000
namespace Go.Proofs.YtddfkkdanpmnaaaGreatDoor
open Go.RowKit Go.PW _root_.Go.Proofs.Tryz
theorem gl {M : Nat → Prop} {w0 : World} (T : TypeId) (b : Nat) (ad v : Value) (bs s : By) (ws : World) (hlie : liesAt Tryz.prog Tryz.prog.depth T (2 / Tryz.prog.cellsOf T) 0 86 1 = true) (had : ad = .pointer none ∨ ad = pt b) (hne : s ≠ []) (hbn : bs.length + s.length ≤ 1000000000) (Y : St M w0 [bld T b ad v bs] ws) :
  Ret Tryz.prog 67 #[pt b, sv s] ws fun u w => u = .tuple #[iv (s.length : Int), .nilIface] ∧ ∃ v2, St M w0 [bld T b (pt b) v2 (bs ++ s)] w := by
 rcases had with rfl | rfl
 ·exact kR T b v bs s ws hlie hne hbn Y
 ·exact mI T b v bs s ws hlie hne hbn Y
theorem lx (n : Int) : putI n ≠ [] := fun h => by have := (bI n).1; rw [h] at this; simp at this
theorem lK (s : By) : putS s ≠ [] := fun h => lx _ (List.append_eq_nil_iff.1 h).1
theorem nS {a b : By} (h : b ≠ []) : a ++ b ≠ [] := fun e => h (List.append_eq_nil_iff.1 e).2
theorem lD {s : By} (h : s.length = 32) : s ≠ [] := fun e => by rw [e] at h; cases h
def encRb (l : List Rec) (k : Nat) : List Value := [iv (k : Int), .agg (l.getD k Rec.z).cells.toArray]
theorem dP (n lo hi : Int) (w0 : World) :
  Ret Tryz.prog 49 #[iv n, iv lo, iv hi] w0 fun v w => v = .bool (inB n lo hi) ∧ Ext No w0 w := by
 refine aD func49 rfl ntmps49 (lb rfl) fun a Z => ?_
 replace Z := Z.p3 0 1 2 rfl
 replace Y : St No w0 [] w0 := St.init w0
 refine aa fun K1 hK1 => wla Z rfl fun a Z => ab (hK1 _ _ <| aa fun K2 hK2 => ?_)
 refine wlm Z rfl fun a Z => wlm Z rfl fun a Z => wlv Z (v_le rfl rfl) fun a Z => wlm Z rfl fun a Z => ?_
 refine cR (N := 15) (df := []) 4 [(14, .bool ((decide (lo ≤ n)) && (decide (n ≤ hi)))), (0, iv n), (1, iv lo), (2, iv hi), (6, .bool false)] ?_ (fun hj => ?_)
 rotate_left
 ·rcases Bool.eq_false_or_eq_true (decide (lo ≤ n)) with hb1 | hb1
  ·rw [hb1] at Z
   have hb1b := hb1
   try simp only [qz, Bool.and_eq_true, Bool.or_eq_true, Bool.and_eq_false_iff, Bool.or_eq_false_iff] at hb1
   refine wly Z (ah rfl) fun a Z => wly Z (ah rfl) fun a Z => wly Z (v_le rfl rfl) fun a Z => wlv Z (az rfl rfl) fun a Z => ?_
   refine hj _ ?_
   try rw [hb1b]
   exact Z.pick [14, 0, 1, 2, 6]
  rw [hb1] at Z
  have hb1b := hb1
  try simp only [qz, Bool.and_eq_true, Bool.or_eq_true, Bool.and_eq_false_iff, Bool.or_eq_false_iff] at hb1
  refine wln Z fun a Z => wln Z fun a Z => wln Z fun a Z => wlv Z (ay rfl rfl) fun a Z => ?_
  refine hj _ ?_
  try rw [hb1b]
  exact Z.pick [14, 0, 1, 2, 6]
 intro a Z
 refine wla Z rfl fun a Z => ab (hK2 _ _ <| ap ?_)
 refine al Z results49 (ac rfl ag) ?_
 exact ⟨by rfl, Y.ext⟩
theorem eU (x : Rec) (w0 : World) :
  Ret Tryz.prog 64 #[.agg #[iv x.t, iv x.kind, iv x.a, iv x.b, sv x.text]] w0 fun v w => v = .bool x.ok ∧ Ext No w0 w := by
 refine aD func64 rfl ntmps64 (lb rfl) fun a Z => ?_
 replace Z := Z.p1 0 rfl
 replace Y : St No w0 [] w0 := St.init w0
 refine aa fun K1 hK1 => bj Z Y de rfl (cs := [iv x.t, iv x.kind, iv x.a, iv x.b, sv x.text]) rfl ?_
 clear Z Y
 intro a w1 Z Y
 refine wla Z rfl fun a Z => ab (hK1 _ _ <| aa fun K2 hK2 => ?_)
 refine wlv Z (ak (v := pt w0.hz) rfl kr) fun a Z => wlv Z (ld Y 0 rfl rfl (isAgg3 _) rfl) fun a Z => am Z Y de call49 rfl (dP x.t 0 10000000 _) ?_
 clear Z Y
 intro a w2 Z Y
 refine wlm Z rfl fun a Z => ?_
 rcases Bool.eq_false_or_eq_true (inB x.t 0 10000000) with hb1 | hb1
 ·rw [hb1] at Z
  try simp only [qz] at hb1
  refine wly Z (ak (v := po w0.hz 1) rfl kr) fun a Z => wly Z (ld Y 0 rfl rfl (isAgg3 _) rfl) fun a Z => ba Z Y de rfl de rfl call49 rfl (dP x.kind 1 20 _) ?_
  clear Z Y
  intro a w3 Z Y
  refine wlv Z (az rfl rfl) fun a Z => wlm Z rfl fun a Z => ?_
  rcases Bool.eq_false_or_eq_true (inB x.kind 1 20) with hb2 | hb2
  ·rw [hb2] at Z
   try simp only [qz] at hb2
   refine wly Z (ak (v := po w0.hz 2) rfl kr) fun a Z => wly Z (ld Y 0 rfl rfl (isAgg3 _) rfl) fun a Z => ba Z Y de rfl de rfl call49 rfl (dP x.a (-1) 99999999 _) ?_
   clear Z Y
   intro a w4 Z Y
   refine wlv Z (az rfl rfl) fun a Z => wlm Z rfl fun a Z => ?_
   rcases Bool.eq_false_or_eq_true (inB x.a (-1) 99999999) with hb3 | hb3
   ·rw [hb3] at Z
    try simp only [qz] at hb3
    refine wly Z (ak (v := po w0.hz 3) rfl kr) fun a Z => wly Z (ld Y 0 rfl rfl (isAgg3 _) rfl) fun a Z => ba Z Y de rfl de rfl call49 rfl (dP x.b (-1) 99999999 _) ?_
    clear Z Y
    intro a w5 Z Y
    refine wlv Z (az rfl rfl) fun a Z => wlm Z rfl fun a Z => ?_
    rcases Bool.eq_false_or_eq_true (inB x.b (-1) 99999999) with hb4 | hb4
    ·rw [hb4] at Z
     try simp only [qz] at hb4
     refine wly Z (ak (v := po w0.hz 4) rfl kr) fun a Z => wly Z (ld Y 0 rfl rfl (isAgg9 _) rfl) fun a Z => wly Z (bo rfl rfl (runUnderlying9 _)) fun a Z => wly Z (v_le rfl rfl) fun a Z => wlv Z (az rfl rfl) fun a Z => wla Z rfl fun a Z => ab (hK2 _ _ ?_)
     replace Z := Z.p1 2 rfl
     replace Y : St No w0 [] w5 := Y.mask [false]
     refine ap ?_
     refine al Z results64 (ac rfl ag) ?_
     refine ⟨?_, Y.ext⟩
     simp only [retv]
     refine congrArg Value.bool ?_
     unfold Rec.ok
     simp only [hb1, hb2, hb3, hb4, Bool.true_and]
     exact decide_eq_decide.2 om
    rw [hb4] at Z
    try simp only [qz] at hb4
    refine wln Z fun a Z => wln Z fun a Z => wln Z fun a Z => wln Z fun a Z => wlv Z (ay rfl rfl) fun a Z => wla Z rfl fun a Z => ab (hK2 _ _ ?_)
    replace Z := Z.p1 2 rfl
    replace Y : St No w0 [] w5 := Y.mask [false]
    refine ap ?_
    refine al Z results64 (ac rfl ag) ?_
    refine ⟨?_, Y.ext⟩
    simp only [retv]
    refine congrArg Value.bool ?_
    unfold Rec.ok
    simp only [hb1, hb2, hb3, hb4, Bool.true_and, Bool.false_and]
   rw [hb3] at Z
   try simp only [qz] at hb3
   refine wln Z fun a Z => wln Z fun a Z => wln Z fun a Z => wlv Z (ay rfl rfl) fun a Z => wlm Z rfl fun a Z => wln Z fun a Z => wln Z fun a Z => wln Z fun a Z => wln Z fun a Z => wlv Z (ay rfl rfl) fun a Z => wla Z rfl fun a Z => ab (hK2 _ _ ?_)
   replace Z := Z.p1 2 rfl
   replace Y : St No w0 [] w4 := Y.mask [false]
   refine ap ?_
   refine al Z results64 (ac rfl ag) ?_
   refine ⟨?_, Y.ext⟩
   simp only [retv]
   refine congrArg Value.bool ?_
   unfold Rec.ok
   simp only [hb1, hb2, hb3, Bool.true_and, Bool.false_and]
  rw [hb2] at Z
  try simp only [qz] at hb2
  refine wln Z fun a Z => wln Z fun a Z => wln Z fun a Z => wlv Z (ay rfl rfl) fun a Z => wlm Z rfl fun a Z => wln Z fun a Z => wln Z fun a Z => wln Z fun a Z => wlv Z (ay rfl rfl) fun a Z => wlm Z rfl fun a Z => wln Z fun a Z => wln Z fun a Z => ?_
  refine wln Z fun a Z => wln Z fun a Z => wlv Z (ay rfl rfl) fun a Z => wla Z rfl fun a Z => ab (hK2 _ _ ?_)
  replace Z := Z.p1 2 rfl
  replace Y : St No w0 [] w3 := Y.mask [false]
  refine ap ?_
  refine al Z results64 (ac rfl ag) ?_
  refine ⟨?_, Y.ext⟩
  simp only [retv]
  refine congrArg Value.bool ?_
  unfold Rec.ok
  simp only [hb1, hb2, Bool.true_and, Bool.false_and]
 rw [hb1] at Z
 try simp only [qz] at hb1
 refine wln Z fun a Z => wln Z fun a Z => wln Z fun a Z => wlv Z (ay rfl rfl) fun a Z => wlm Z rfl fun a Z => wln Z fun a Z => wln Z fun a Z => wln Z fun a Z => wlv Z (ay rfl rfl) fun a Z => wlm Z rfl fun a Z => wln Z fun a Z => wln Z fun a Z => ?_
 refine wln Z fun a Z => wlv Z (ay rfl rfl) fun a Z => wlm Z rfl fun a Z => wln Z fun a Z => wln Z fun a Z => wln Z fun a Z => wln Z fun a Z => wlv Z (ay rfl rfl) fun a Z => wla Z rfl fun a Z => ab (hK2 _ _ ?_)
 replace Z := Z.p1 2 rfl
 replace Y : St No w0 [] w2 := Y.mask [false]
 refine ap ?_
 refine al Z results64 (ac rfl ag) ?_
 refine ⟨?_, Y.ext⟩
 simp only [retv]
 refine congrArg Value.bool ?_
 unfold Rec.ok
 simp only [hb1, Bool.true_and, Bool.false_and]
theorem dL (o : Int) (lv : Value) (l : List Rec) (w0 : World) (hlv : SlAt w0 lv 5 (l.map Rec.cells)) :
  Ret Tryz.prog 37 #[.agg #[iv o, lv]] w0 fun v w => v = .bool (logOk o l) ∧ Ext No w0 w := by
 have hxb := hlv.2.1
 simp only [List.length_map, big] at hxb
 refine aD func37 rfl ntmps37 (lb rfl) fun a Z => ?_
 replace Z := Z.p1 0 rfl
 replace Y : St No w0 [] w0 := St.init w0
 refine aa fun K1 hK1 => bj Z Y de rfl (cs := [iv o, lv]) rfl ?_
 clear Z Y
 intro a w1 Z Y
 refine wla Z rfl fun a Z => ab (hK1 _ _ <| aa fun K2 hK2 => ?_)
 refine wla Z rfl fun a Z => ab (hK2 _ _ <| ae fun K3 hK3 => ?_)
 refine aa fun K4 hK4 => wlv Z (ak (v := po w0.hz 1) rfl kr) fun a Z => wlv Z (ld Y 0 rfl rfl (isAgg23 _) rfl) fun a Z => wlv Z ((aE (sT := 23) (Y.arg hlv) rfl rfl (runUnderlying23 _)).asi (m' := (l.length : Int)) (by rw [List.length_map])) fun a Z => wlm Z rfl fun a Z => ab (hK4 _ _ <| aq ?_)
 refine aR (fun m a w => ∃ (k : Nat), m = l.length - k ∧ (k ≤ l.length) ∧ (aQ 0 l = aQ (prevT l k) (l.drop k)) ∧ Fr 34 [(1, pt w0.hz), (7, lv), (8, iv (l.length : Int)), (3, iv (prevT l k)), (9, iv (k : Int))] [] a ∧ St No w0 [blk w0.hz [iv o, lv] 25] w) _ ⟨0, rfl, Nat.zero_le _, rfl, Z.pick [1, 7, 8, 3, 9], Y.select [0] de⟩ ?_
 rintro _ a w2 ⟨k, rfl, hk, hs, Z, Y⟩
 refine aa fun K5 hK5 => wlv Z (v_lt rfl rfl) fun a Z => ab (hK5 _ _ <| ae fun K6 hK6 => ?_)
 refine ax Z rfl (fun hc1 => ?_) (fun hc1 => ?_)
 ·rw [hc1] at Z
  try simp only [qz] at hc1
  have hkx : k < l.length := by omega
  refine ar <| hK6 _ _ <| ae fun K7 hK7 => aq <| aa fun K8 hK8 => wlv Z ((aj (i := (k : Int)) (sT := 23) (Y.arg hlv) rfl rfl (runUnderlying23 _) (sizeOf48 _) om (by rw [List.length_map]; omega)).as (v' := slAddr lv (k * 5)) rfl) fun a Z => wlv Z ((bX (Y.arg hlv) (i := k) (by rw [List.length_map]; omega) rfl (isAgg48 _) (sizeOf48 _)).as (v' := .agg #[iv ((l.getD k Rec.z).t), iv ((l.getD k Rec.z).kind), iv ((l.getD k Rec.z).a), iv ((l.getD k Rec.z).b), sv ((l.getD k Rec.z).text)]) (by rw [br Rec.z]; rfl)) fun a Z => aU Z Y de (zeroValue48 _) (cs := [iv 0, iv 0, iv 0, iv 0, .string (⟨#[]⟩)]) rfl ?_
  clear Z Y
  intro a w3 Z Y
  refine aH 0 Z Y rfl rfl rfl (sizeOf48 _) rfl (lb rfl) (ds := [iv ((l.getD k Rec.z).t), iv ((l.getD k Rec.z).kind), iv ((l.getD k Rec.z).a), iv ((l.getD k Rec.z).b), sv ((l.getD k Rec.z).text)]) rfl rfl ?_
  clear Z Y
  intro a w4 Z Y
  refine ab (hK8 _ _ <| ae fun K9 hK9 => ?_)
  refine aa fun K10 hK10 => wlv Z (aw (Y.g 0 rfl) rfl (isAgg48 _) (sizeOf48 _)) fun a Z => am Z Y de call64 rfl (eU (l.getD k Rec.z) _) ?_
  clear Z Y
  intro a w5 Z Y
  refine wlv Z (bq rfl) fun a Z => wlm Z rfl fun a Z => ?_
  rcases Bool.eq_false_or_eq_true (!((l.getD k Rec.z).ok)) with hb2 | hb2
  ·rw [hb2] at Z
   try simp only [qz] at hb2
   have hbad : aQ 0 l = false := by rw [hs]; exact pP hkx (by simpa using hb2)
   refine wln Z fun a Z => wln Z fun a Z => wln Z fun a Z => wln Z fun a Z => wlv Z (az rfl rfl) fun a Z => ab (hK10 _ _ ?_)
   replace Z := Z.p6 1 7 8 9 5 21 rfl
   refine aI Z rfl ?_
   refine aa fun K11 hK11 => wla Z rfl fun a Z => ab (hK11 _ _ <| ap ?_)
   refine al Z results37 (ac rfl ag) ?_
   refine ⟨?_, Y.ext⟩
   simp only [retv]
   refine congrArg Value.bool ?_
   unfold logOk; rw [hbad]; rfl
  rw [hb2] at Z
  try simp only [qz] at hb2
  have hok : (l.getD k Rec.z).ok = true := by simpa using hb2
  refine wly Z (ak (v := pt w2.hz) rfl kr) fun a Z => wly Z (ld Y 0 rfl rfl (isAgg3 _) rfl) fun a Z => wly Z (ah rfl) fun a Z => wly Z (v_lt rfl rfl) fun a Z => wlv Z (ay rfl rfl) fun a Z => ab (hK10 _ _ ?_)
  replace Z := Z.p6 1 7 8 9 5 21 rfl
  refine ax Z rfl (fun hc3 => ?_) (fun hc3 => ?_)
  ·rw [hc3] at Z
   try simp only [qz] at hc3
   have hbad : aQ 0 l = false := by rw [hs]; exact pQ hkx hc3
   refine aa fun K12 hK12 => wla Z rfl fun a Z => ab (hK12 _ _ <| ap ?_)
   refine al Z results37 (ac rfl ag) ?_
   refine ⟨?_, Y.ext⟩
   simp only [retv]
   refine congrArg Value.bool ?_
   unfold logOk; rw [hbad]; rfl
  rw [hc3] at Z
  try simp only [qz] at hc3
  have hgo : prevT l k ≤ (l.getD k Rec.z).t := by omega
  refine ar <| hK9 _ _ <| ao <| wlv Z (ak (v := pt w2.hz) rfl kr) fun a Z => wlv Z (ld Y 0 rfl rfl (isAgg3 _) rfl) fun a Z => wla Z rfl fun a Z => ab <| hK7 _ _ <| ao <| wlv Z (aV rfl rfl ⟨om, om⟩) fun a Z => wlm Z rfl fun a Z => ab ?_
  refine ⟨_, ?_, k + 1, rfl, om, (by rw [hs]; exact nP hkx hok hgo), Z.pick [1, 7, 8, 3, 9], Y.select [1] de⟩
  omega
 rw [hc1] at Z
 try simp only [qz] at hc1
 have hall : aQ 0 l = true := by rw [hs, show k = l.length by omega, List.drop_length]; rfl
 refine aJ <| hK3 _ _ <| aa fun K13 hK13 => wlv Z (ak (v := pt w0.hz) rfl kr) fun a Z => wlv Z (ld Y 0 rfl rfl (isAgg3 _) rfl) fun a Z => am Z Y de call49 rfl (dP o 0 99 _) ?_
 clear Z Y
 intro a w6 Z Y
 refine wlm Z rfl fun a Z => ?_
 rcases Bool.eq_false_or_eq_true (inB o 0 99) with hb4 | hb4
 ·rw [hb4] at Z
  try simp only [qz] at hb4
  refine wly Z (ak (v := po w0.hz 1) rfl kr) fun a Z => wly Z (ld Y 0 rfl rfl (isAgg23 _) rfl) fun a Z => wly Z ((aE (sT := 23) (Y.arg hlv) rfl rfl (runUnderlying23 _)).asi (m' := (l.length : Int)) (by rw [List.length_map])) fun a Z => wly Z (v_le rfl rfl) fun a Z => wlv Z (az rfl rfl) fun a Z => wla Z rfl fun a Z => ab (hK13 _ _ ?_)
  replace Z := Z.p1 2 rfl
  replace Y : St No w0 [] w6 := Y.mask [false]
  refine ap ?_
  refine al Z results37 (ac rfl ag) ?_
  refine ⟨?_, Y.ext⟩
  simp only [retv]
  refine congrArg Value.bool ?_
  unfold logOk; rw [hall, hb4]; simp only [Bool.true_and]; exact decide_eq_decide.2 om
 rw [hb4] at Z
 try simp only [qz] at hb4
 refine wln Z fun a Z => wln Z fun a Z => wln Z fun a Z => wln Z fun a Z => wlv Z (ay rfl rfl) fun a Z => wla Z rfl fun a Z => ab (hK13 _ _ ?_)
 replace Z := Z.p1 2 rfl
 replace Y : St No w0 [] w6 := Y.mask [false]
 refine ap ?_
 refine al Z results37 (ac rfl ag) ?_
 refine ⟨?_, Y.ext⟩
 simp only [retv]
 refine congrArg Value.bool ?_
 unfold logOk; rw [hall, hb4]; rfl
theorem ga {M : Nat → Prop} {w0 : World} (T : TypeId) (b : Nat) (ad v lv : Value) (bs : By) (ns : List Int) (ws : World) (hlie : liesAt Tryz.prog Tryz.prog.depth T (2 / Tryz.prog.cellsOf T) 0 86 1 = true) (had : ad = .pointer none ∨ ad = pt b) (hns : smalls ns) (hnn : ns ≠ []) (hbn : bs.length + 9 * ns.length ≤ 1000000000) (Y : St M w0 [bld T b (ad) v bs, own lv 3 1 ((ns).map fun n => [iv n])] ws) :
  Ret Tryz.prog 65 #[pt b, lv] ws fun u w => u = .tuple #[] ∧ ∃ v2, St M w0 [bld T b (pt b) v2 (bs ++ puts ns)] w := by
 refine aD func65 rfl ntmps65 (lb rfl) fun a Z => ?_
 replace Z := Z.p2 0 1 rfl
 skip
 refine aa fun K1 hK1 => wlm Z rfl fun a Z => wlv Z ((aE (sT := 40) (Y.ow 1 rfl) rfl rfl (runUnderlying40 _)).asi (m' := (ns.length : Int)) (by rw [List.length_map])) fun a Z => wlm Z rfl fun a Z => ab (hK1 _ _ <| aq ?_)
 replace Y : St M w0 [bld T b ad v (bs ++ puts (ns.take 0)), own lv 3 1 ((ns).map fun n => [iv n])] ws := by rw [show bs ++ puts (ns.take 0) = bs from by simp [puts]]; exact Y
 refine aR (fun m a w => ∃ (k : Nat) (ad : Value) (v : Value), m = ns.length - k ∧ (k ≤ ns.length) ∧ (ad = .pointer none ∨ ad = pt b) ∧ (0 < k → ad = pt b) ∧ Fr 25 [(0, pt b), (8, lv), (9, iv (ns.length : Int)), (10, iv (k : Int))] [] a ∧ St M w0 [bld T b (ad) v (bs ++ puts (ns.take k)), own lv 3 1 ((ns).map fun n => [iv n])] w) _ ⟨0, ad, v, rfl, Nat.zero_le _, had, (fun h => absurd h (Nat.lt_irrefl 0)), Z.pick [0, 8, 9, 10], Y⟩ ?_
 rintro _ a w1 ⟨k, ad, v, rfl, hk, had, hak, Z, Y⟩
 refine aa fun K2 hK2 => wlv Z (v_lt rfl rfl) fun a Z => ab (hK2 _ _ <| ae fun K3 hK3 => ?_)
 refine ax Z rfl (fun hc1 => ?_) (fun hc1 => ?_)
 ·rw [hc1] at Z
  try simp only [qz] at hc1
  refine ar <| hK3 _ _ <| ae fun K4 hK4 => aq <| aa fun K5 hK5 => wlv Z ((aj (i := (k : Int)) (sT := 40) (Y.ow 1 rfl) rfl rfl (runUnderlying40 _) (sizeOf3 _) om (by rw [List.length_map]; omega)).as (v' := slAddr lv (k * 1)) rfl) fun a Z => wlv Z (au (u := iv (ns.getD k 0)) (i := k) (j := 0) (Y.ow 1 rfl) (by rw [List.length_map]; omega) rfl (isAgg3 _) (by rw [br (0 : Int)]; rfl)) fun a Z => wla Z rfl fun a Z => ab (hK5 _ _ <| aa fun K6 hK6 => ?_)
  refine wlm Z rfl fun a Z => am Z Y de call96 rfl (hT (ns.getD k 0) _ (hns _ (aW om))) ?_
  clear Z Y
  intro a w2 Z Y
  refine wlm Z rfl fun a Z => wlv Z (ai rfl rfl) fun a Z => wlv Z (ai rfl rfl) fun a Z => wla Z rfl fun a Z => wla Z rfl fun a Z => ab (hK6 _ _ ?_)
  replace Z := Z.p5 0 8 9 10 6 rfl
  refine ao <| wlm Z rfl fun a Z => wlv Z (bp rfl) fun a Z => wlv Z (ak (v := pt b) rfl kr) fun a Z => wlm Z rfl fun a Z => dg (R := fun u e' => u = .tuple #[iv ((putI (ns.getD k 0)).length : Int), .nilIface] ∧ ∃ v2, e' = bld T b (pt b) v2 ((bs ++ puts (ns.take k)) ++ (putI (ns.getD k 0)))) 0 Z Y rfl de call67 rfl (fun h => (gl T b _ _ _ _ _ hlie (had) (lx _) (by have h1 := gu (ns.take k); have h2 := (bI (ns.getD k 0)).2; rw [List.length_take] at h1; rw [List.length_append]; omega) h).mono fun u w ⟨h1, v2, h2⟩ => ⟨_, ⟨h1, v2, rfl⟩, h2⟩) ?_
  clear Z Y
  rintro a w3 _ _ ⟨rfl, v2, rfl⟩ Z Y
  replace Y : St M w0 [_, _] w3 := Y
  refine ab <| hK4 _ _ ?_
  replace Z := Z.p4 0 8 9 10 rfl
  refine ao <| wlv Z (aV rfl rfl ⟨om, om⟩) fun a Z => wlm Z rfl fun a Z => ab ?_
  replace Y : St M w0 [bld T b (pt b) v2 (bs ++ puts (ns.take (k + 1))), own lv 3 1 ((ns).map fun n => [iv n])] w3 := by rw [show bs ++ puts (ns.take (k + 1)) = (bs ++ puts (ns.take k)) ++ (putI (ns.getD k 0)) from by rw [bO 0 om, mP, List.append_assoc]]; exact Y
  refine ⟨_, ?_, k + 1, pt b, v2, rfl, om, (.inr rfl), (fun _ => rfl), Z.pick [0, 8, 9, 10], Y⟩
  omega
 rw [hc1] at Z
 try simp only [qz] at hc1
 obtain rfl : k = ns.length := by omega
 rw [List.take_length] at Y
 obtain rfl := hak (List.length_pos_iff.2 hnn)
 refine aJ ?_
 refine dt Z results65 ag ?_
 exact ⟨rfl, _, Y.select [0] de⟩
theorem qb (x : Rec) (w0 : World) (hok : x.ok = true) :
  Ret Tryz.prog 33 #[.agg #[iv x.t, iv x.kind, iv x.a, iv x.b, sv x.text]] w0 fun v w => v = .tuple #[sv x.enc, iv 0] ∧ Ext No w0 w := by
 have hle := Rec.len hok
 have hpl := gu [x.t, x.kind, x.a, x.b]
 have hq4 := bI (x.text.length : Int)
 have hq5 : (putS x.text).length ≤ 300 := by unfold putS; rw [List.length_append]; omega
 simp only [List.length_cons, List.length_nil] at hpl
 refine aD func33 rfl ntmps33 (lb rfl) fun a Z => ?_
 replace Z := Z.p1 0 rfl
 replace Y : St No w0 [] w0 := St.init w0
 refine aa fun K1 hK1 => bj Z Y de rfl (cs := [iv x.t, iv x.kind, iv x.a, iv x.b, sv x.text]) rfl ?_
 clear Z Y
 intro a w1 Z Y
 refine wla Z rfl fun a Z => wla Z rfl fun a Z => ab (hK1 _ _ <| ae fun K2 hK2 => ?_)
 refine aa fun K3 hK3 => wlv Z (aw (Y.g 0 rfl) rfl (isAgg48 _) (sizeOf48 _)) fun a Z => am Z Y de call64 rfl (eU x _) ?_
 clear Z Y
 intro a w2 Z Y
 refine wlv Z (bq rfl) fun a Z => ab (hK3 _ _ ?_)
 refine ax Z rfl (fun hc1 => ?_) (fun hc1 => ?_)
 ·rw [hc1] at Z
  try simp only [qz] at hc1
  simp [hok] at hc1
 rw [hc1] at Z
 try simp only [qz] at hc1
 refine ar <| hK2 _ _ <| aa fun K4 hK4 => aU Z Y de (zeroValue88 _) (cs := [.pointer none, .slice none 0 0]) rfl ?_
 clear Z Y
 intro a w3 Z Y
 refine ab (hK4 _ _ ?_)
 replace Y : St No w0 (own (.slice none 0 0) 5 1 [] :: [blk w2.hz [.pointer none, .slice none 0 0] 88, blk w0.hz [iv x.t, iv x.kind, iv x.a, iv x.b, sv x.text] 48]) w3 := Y.nil_own
 replace Y : St No w0 [blk w2.hz [.pointer none, .slice none 0 0] 88, own (.slice none 0 0) 5 1 ([]), blk w0.hz [iv x.t, iv x.kind, iv x.a, iv x.b, sv x.text] 48] w3 := Y.select [1, 0, 2] de
 replace Y : St No w0 [bld 88 w2.hz (.pointer none) (.slice none 0 0) ([] : By), blk w0.hz [iv x.t, iv x.kind, iv x.a, iv x.b, sv x.text] 48] w3 := St.join [blk w2.hz [.pointer none, .slice none 0 0] 88, own (.slice none 0 0) 5 1 ([])] [blk w0.hz [iv x.t, iv x.kind, iv x.a, iv x.b, sv x.text] 48] Y
 refine aa fun K5 hK5 => wlv Z (ak (v := pt w0.hz) rfl kr) fun a Z => wlv Z (ld Y 1 rfl rfl (isAgg3 _) rfl) fun a Z => wlv Z (ak (v := po w0.hz 1) rfl kr) fun a Z => wlv Z (ld Y 1 rfl rfl (isAgg3 _) rfl) fun a Z => wlv Z (ak (v := po w0.hz 2) rfl kr) fun a Z => wlv Z (ld Y 1 rfl rfl (isAgg3 _) rfl) fun a Z => wlv Z (ak (v := po w0.hz 3) rfl kr) fun a Z => wlv Z (ld Y 1 rfl rfl (isAgg3 _) rfl) fun a Z => aC (E := 3) (sz := 1) rfl [[iv x.t], [iv x.kind], [iv x.a], [iv x.b]] kr sm rfl de de Z Y ?_
 clear Z Y
 intro a w4 Z Y
 replace Y : St No w0 [bld 88 w2.hz (.pointer none) (.slice none 0 0) ([] : By), own (.slice (some ⟨w3.hz, 0, none⟩) 4 4) 3 1 ([[iv x.t], [iv x.kind], [iv x.a], [iv x.b]]), blk w0.hz [iv x.t, iv x.kind, iv x.a, iv x.b, sv x.text] 48] w4 := Y.select [1, 0, 2] de
 replace Y := St.join [bld 88 w2.hz (.pointer none) (.slice none 0 0) ([] : By), own (.slice (some ⟨w3.hz, 0, none⟩) 4 4) 3 1 ([[iv x.t], [iv x.kind], [iv x.a], [iv x.b]])] [blk w0.hz [iv x.t, iv x.kind, iv x.a, iv x.b, sv x.text] 48] Y
 refine dg (R := fun u e' => u = .tuple #[] ∧ ∃ v2, e' = bld 88 w2.hz (pt w2.hz) v2 (([] : By) ++ puts [x.t, x.kind, x.a, x.b])) 0 Z Y rfl de call65 rfl (fun h => (ga 88 w2.hz _ _ _ _ [x.t, x.kind, x.a, x.b] _ kr (.inl rfl) (Rec.smalls hok) sm sm (St.unjoin [bld 88 w2.hz (.pointer none) (.slice none 0 0) ([] : By), own (.slice (some ⟨w3.hz, 0, none⟩) 4 4) 3 1 ([[iv x.t], [iv x.kind], [iv x.a], [iv x.b]])] [] h)).mono fun u w ⟨h1, v2, h2⟩ => ⟨_, ⟨h1, v2, rfl⟩, h2⟩) ?_
 clear Z Y
 rintro a w5 _ _ ⟨rfl, v2, rfl⟩ Z Y
 replace Y : St No w0 [_, _] w5 := Y
 refine ab (hK5 _ _ ?_)
 replace Z := Z.p4 1 2 3 4 rfl
 refine aa fun K6 hK6 => wlv Z (ak (v := po w0.hz 4) rfl kr) fun a Z => wlv Z (ld Y 1 rfl rfl (isAgg9 _) rfl) fun a Z => am Z Y de call66 rfl (iY x.text _ om) ?_
 clear Z Y
 intro a w6 Z Y
 refine wlm Z rfl fun a Z => wlv Z (ai rfl rfl) fun a Z => wlv Z (ai rfl rfl) fun a Z => wla Z rfl fun a Z => wla Z rfl fun a Z => ab (hK6 _ _ ?_)
 replace Z := Z.p4 2 3 4 5 rfl
 replace Y := Y.k1 1 rfl
 refine aa fun K7 hK7 => wlv Z (ak (v := pt w2.hz) rfl kr) fun a Z => wlm Z rfl fun a Z => dg (R := fun u e' => u = .tuple #[iv ((putS x.text).length : Int), .nilIface] ∧ ∃ v2, e' = bld 88 w2.hz (pt w2.hz) v2 ((([] : By) ++ puts [x.t, x.kind, x.a, x.b]) ++ (putS x.text))) 0 Z Y rfl de call67 rfl (fun h => (gl 88 w2.hz _ _ _ _ _ kr (.inr rfl) (lK _) (by rw [List.length_append, List.length_nil]; omega) h).mono fun u w ⟨h1, v2, h2⟩ => ⟨_, ⟨h1, v2, rfl⟩, h2⟩) ?_
 clear Z Y
 rintro a w7 _ _ ⟨rfl, v3, rfl⟩ Z Y
 replace Y : St No w0 [_] w7 := Y
 refine ab (hK7 _ _ <| aa fun K8 hK8 => ?_)
 refine wlv Z (ak (v := pt w2.hz) rfl kr) fun a Z => dg (R := fun u e' => u = sv ((([] : By) ++ puts [x.t, x.kind, x.a, x.b]) ++ (putS x.text)) ∧ e' = blk w2.hz [pt w2.hz, v3] 88) 0 Z Y rfl de call68 rfl (fun h => (gj 88 w2.hz _ _ _ (nS (lK _)) h).mono fun u w ⟨h1, h2⟩ => ⟨_, ⟨h1, rfl⟩, h2⟩) ?_
 clear Z Y
 rintro a w8 _ _ ⟨rfl, rfl⟩ Z Y
 replace Y : St No w0 [_] w8 := Y
 refine wla Z rfl fun a Z => wla Z rfl fun a Z => ab (hK8 _ _ ?_)
 replace Z := Z.p2 2 3 rfl
 refine ap ?_
 refine al Z results33 (ac rfl (ac rfl ag)) ?_
 exact ⟨by simp only [retv]; simp [Rec.enc], Y.ext⟩
theorem pB (x : Rec) (w0 : World) (hok : x.ok = false) :
  Ret Tryz.prog 33 #[.agg #[iv x.t, iv x.kind, iv x.a, iv x.b, sv x.text]] w0 fun v w => v = .tuple #[sv ([] : By), iv 110] ∧ Ext No w0 w := by
 refine aD func33 rfl ntmps33 (lb rfl) fun a Z => ?_
 replace Z := Z.p1 0 rfl
 replace Y : St No w0 [] w0 := St.init w0
 refine aa fun K1 hK1 => bj Z Y de rfl (cs := [iv x.t, iv x.kind, iv x.a, iv x.b, sv x.text]) rfl ?_
 clear Z Y
 intro a w1 Z Y
 refine wla Z rfl fun a Z => wla Z rfl fun a Z => ab (hK1 _ _ <| ae fun K2 hK2 => ?_)
 refine aa fun K3 hK3 => wlv Z (aw (Y.g 0 rfl) rfl (isAgg48 _) (sizeOf48 _)) fun a Z => am Z Y de call64 rfl (eU x _) ?_
 clear Z Y
 intro a w2 Z Y
 refine wlv Z (bq rfl) fun a Z => ab (hK3 _ _ ?_)
 refine ax Z rfl (fun hc1 => ?_) (fun hc1 => ?_)
 ·rw [hc1] at Z
  try simp only [qz] at hc1
  refine aa fun K4 hK4 => wla Z rfl fun a Z => wla Z rfl fun a Z => ab (hK4 _ _ <| ap ?_)
  refine al Z results33 (ac rfl (ac rfl ag)) ?_
  exact ⟨by rfl, Y.ext⟩
 rw [hc1] at Z
 try simp only [qz] at hc1
 simp [hok] at hc1
theorem jj (x : Rec) (w0 : World) : Ret Tryz.prog 33 #[.agg #[iv x.t, iv x.kind, iv x.a, iv x.b, sv x.text]] w0 fun v w => v = .tuple #[sv (eB x), iv (eE x)] ∧ Ext No w0 w := by
 unfold eB eE
 cases h : x.ok with
 | true => rw [if_pos rfl, if_pos rfl]; exact qb x w0 h
 | false => rw [if_neg sm, if_neg sm]; exact pB x w0 h
theorem mX (key : By) (o n : Int) (root : By) (w0 : World) (ho : small o) (hn : small n) (hr : root.length = 32) (hk : key.length ≤ 1000) (hk0 : (blk 0 (kOf.map wv) 161).ok w0) :
  Ret Tryz.prog 46 #[sv key, iv o, iv n, sv root] w0 fun v w => v = sv (tagR sha key o n root) ∧ Ext No w0 w := by
 have hpl := gu [o, n]
 simp only [List.length_cons, List.length_nil] at hpl
 have hsm : smalls [o, n] := by intro z hz; simp only [List.mem_cons, List.not_mem_nil, or_false] at hz; rcases hz with rfl | rfl; exact ho; exact hn
 have hxl : (([] : By) ++ puts [o, n] ++ root).length ≤ 60 := by simp only [List.length_append, List.length_nil]; omega
 refine aD func46 rfl ntmps46 (lb rfl) fun a Z => ?_
 replace Z := Z.p4 0 1 2 3 rfl
 replace Y : St No w0 [] w0 := St.init w0
 refine aa fun K1 hK1 => wla Z rfl fun a Z => ab (hK1 _ _ <| aa fun K2 hK2 => ?_)
 refine aU Z Y de (zeroValue88 _) (cs := [.pointer none, .slice none 0 0]) rfl ?_
 clear Z Y
 intro a w1 Z Y
 refine ab (hK2 _ _ ?_)
 replace Y : St No w0 (own (.slice none 0 0) 5 1 [] :: [blk w0.hz [.pointer none, .slice none 0 0] 88]) w1 := Y.nil_own
 replace Y : St No w0 [blk w0.hz [.pointer none, .slice none 0 0] 88, own (.slice none 0 0) 5 1 ([])] w1 := Y.select [1, 0] de
 replace Y : St No w0 [bld 88 w0.hz (.pointer none) (.slice none 0 0) ([] : By)] w1 := St.join [blk w0.hz [.pointer none, .slice none 0 0] 88, own (.slice none 0 0) 5 1 ([])] [] Y
 refine aa fun K3 hK3 => wlm Z rfl fun a Z => wlm Z rfl fun a Z => aC (E := 3) (sz := 1) rfl [[iv o], [iv n]] kr sm rfl de de Z Y ?_
 clear Z Y
 intro a w2 Z Y
 replace Y : St No w0 [bld 88 w0.hz (.pointer none) (.slice none 0 0) ([] : By), own (.slice (some ⟨w1.hz, 0, none⟩) 2 2) 3 1 ([[iv o], [iv n]])] w2 := Y.select [1, 0] de
 replace Y := St.join [bld 88 w0.hz (.pointer none) (.slice none 0 0) ([] : By), own (.slice (some ⟨w1.hz, 0, none⟩) 2 2) 3 1 ([[iv o], [iv n]])] [] Y
 refine dg (R := fun u e' => u = .tuple #[] ∧ ∃ v2, e' = bld 88 w0.hz (pt w0.hz) v2 (([] : By) ++ puts [o, n])) 0 Z Y rfl de call65 rfl (fun h => (ga 88 w0.hz _ _ _ _ [o, n] _ kr (.inl rfl) (hsm) sm sm (St.unjoin [bld 88 w0.hz (.pointer none) (.slice none 0 0) ([] : By), own (.slice (some ⟨w1.hz, 0, none⟩) 2 2) 3 1 ([[iv o], [iv n]])] [] h)).mono fun u w ⟨h1, v2, h2⟩ => ⟨_, ⟨h1, v2, rfl⟩, h2⟩) ?_
 clear Z Y
 rintro a w3 _ _ ⟨rfl, v1, rfl⟩ Z Y
 replace Y : St No w0 [_] w3 := Y
 refine ab (hK3 _ _ ?_)
 replace Z := Z.p4 0 3 8 9 rfl
 refine aa fun K4 hK4 => wlv Z (ak (v := pt w0.hz) rfl kr) fun a Z => wlm Z rfl fun a Z => dg (R := fun u e' => u = .tuple #[iv (root.length : Int), .nilIface] ∧ ∃ v2, e' = bld 88 w0.hz (pt w0.hz) v2 ((([] : By) ++ puts [o, n]) ++ root)) 0 Z Y rfl de call67 rfl (fun h => (gl 88 w0.hz _ _ _ _ _ kr (.inr rfl) (lD hr) (by rw [List.length_append, List.length_nil]; omega) h).mono fun u w ⟨h1, v2, h2⟩ => ⟨_, ⟨h1, v2, rfl⟩, h2⟩) ?_
 clear Z Y
 rintro a w4 _ _ ⟨rfl, v2, rfl⟩ Z Y
 replace Y : St No w0 [_] w4 := Y
 refine ab (hK4 _ _ <| aa fun K5 hK5 => ?_)
 refine wlm Z rfl fun a Z => wlv Z (ak (v := pt w0.hz) rfl kr) fun a Z => dg (R := fun u e' => u = sv ((([] : By) ++ puts [o, n]) ++ root) ∧ e' = blk w0.hz [pt w0.hz, v2] 88) 0 Z Y rfl de call68 rfl (fun h => (gj 88 w0.hz _ _ _ (nS (lD hr)) h).mono fun u w ⟨h1, h2⟩ => ⟨_, ⟨h1, rfl⟩, h2⟩) ?_
 clear Z Y
 rintro a w5 _ _ ⟨rfl, rfl⟩ Z Y
 replace Y : St No w0 [_] w5 := Y
 refine am Z Y de call75 rfl (iE ((([] : By) ++ puts [o, n]) ++ root) _ om (Y.keepb hk0)) ?_
 clear Z Y
 intro a w6 Z Y
 refine am Z Y de call76 rfl (eV key (leafH sha ((([] : By) ++ puts [o, n]) ++ root)) _ om (by first | omega | (rw [jD aZ]; decide)) (Y.keepb hk0)) ?_
 clear Z Y
 intro a w7 Z Y
 refine wla Z rfl fun a Z => ab (hK5 _ _ ?_)
 replace Z := Z.p1 8 rfl
 refine ap ?_
 refine al Z results46 (ac rfl ag) ?_
 exact ⟨by simp only [retv]; simp [tagR, j6, nodeH], Y.ext⟩
theorem md {M : Nat → Prop} {w0 : World} (o : Int) (lv : Value) (l : List Rec) (lp b1 : Nat) (J Jx : List Nat → Ent → Prop) (hY : Rounds Tryz.prog M w0 lp (encRb l) (NxB l.length) J Jx) (e0 : Ent) (ws : World) (hn : l.length ≤ 1000000) (hlv : ∀ (H : List Ent) (w : World), St M w0 H w → SlAt w lv 5 (l.map Rec.cells)) (hJ : J [] e0) (Y : St M w0 [e0, blk b1 [iv o, lv] 25] ws) :
  Ret Tryz.prog 98 #[.func (.yield lp) #[] #[], pt b1] ws fun _ w => ∃ e1 Hi1, St M w0 (e1 :: Hi1) w ∧ ((∃ ys, (ys = backs l.length l.length ∧ Hi1 = [blk b1 [iv o, lv] 25]) ∧ J ys e1) ∨ (∃ pre, Hi1 = [blk b1 [iv o, lv] 25] ∧ Jx pre e1)) := by
 refine aD func98 rfl ntmps98 (lb rfl) fun a Z => ?_
 replace Z := Z.p2 0 1 rfl
 skip
 refine aa fun K1 hK1 => wlv Z (ak (v := po b1 1) rfl kr) fun a Z => wlv Z (ld Y 1 rfl rfl (isAgg23 _) rfl) fun a Z => wlv Z ((aE (sT := 23) (hlv _ _ Y) rfl rfl (runUnderlying23 _)).asi (m' := (l.length : Int)) (by rw [List.length_map])) fun a Z => wlv Z (bh rfl rfl ⟨om, om⟩) fun a Z => wla Z rfl fun a Z => ab (hK1 _ _ <| aq ?_)
 rw [show (l.length : Int) - 1 = (l.length : Int) - 1 - ((0 : Nat) : Int) from by omega] at Z
 refine aR (fun m a w => ∃ (j : Nat) (e : Ent), m = l.length - j ∧ (j ≤ l.length) ∧ (J (backs l.length j) e) ∧ Fr 21 [(0, .func (.yield lp) #[] #[]), (1, pt b1), (3, iv ((l.length : Int) - 1 - (j : Int)))] [] a ∧ St M w0 [e, blk b1 [iv o, lv] 25] w) _ ⟨0, e0, rfl, Nat.zero_le _, hJ, Z.pick [0, 1, 3], Y⟩ ?_
 rintro _ a w1 ⟨j, e, rfl, hj, hJ, Z, Y⟩
 refine ae fun K2 hK2 => aa fun K3 hK3 => wlm Z rfl fun a Z => wlv Z (v_ge rfl rfl) fun a Z => ab (hK3 _ _ ?_)
 refine ax Z rfl (fun hc1 => ?_) (fun hc1 => ?_)
 ·rw [hc1] at Z
  try simp only [qz] at hc1
  have hjl : j < l.length := by omega
  refine ar <| hK2 _ _ <| ae fun K4 hK4 => aq ?_
  have hidx : (l.length : Int) - 1 - (j : Int) = ((l.length - 1 - j : Nat) : Int) := by omega
  refine aa fun K5 hK5 => wlm Z rfl fun a Z => wlm Z rfl fun a Z => wlv Z (ak (v := po b1 1) rfl kr) fun a Z => wlv Z (ld Y 1 rfl rfl (isAgg23 _) rfl) fun a Z => wlm Z rfl fun a Z => wlv Z ((aj (i := (l.length : Int) - 1 - (j : Int)) (sT := 23) (hlv _ _ Y) rfl rfl (runUnderlying23 _) (sizeOf48 _) om (by rw [List.length_map]; omega)).as (v' := slAddr lv ((l.length - 1 - j) * 5)) (by rw [show ((l.length : Int) - 1 - (j : Int)).toNat = (l.length - 1 - j) from by omega])) fun a Z => wlv Z ((bX (hlv _ _ Y) (i := (l.length - 1 - j)) (by rw [List.length_map]; omega) rfl (isAgg48 _) (sizeOf48 _)).as (v' := .agg #[iv ((l.getD (l.length - 1 - j) Rec.z).t), iv ((l.getD (l.length - 1 - j) Rec.z).kind), iv ((l.getD (l.length - 1 - j) Rec.z).a), iv ((l.getD (l.length - 1 - j) Rec.z).b), sv ((l.getD (l.length - 1 - j) Rec.z).text)]) (by rw [br Rec.z]; rfl)) fun a Z => ?_
  rw [hidx] at Z
  refine wl_r (fh rfl rfl (hY.yield (pre := backs l.length j) (x := l.length - 1 - j) (by show l.length - 1 - j + 1 + (backs l.length j).length = l.length; rw [dy]; omega) hJ (Y.only (i := 0) rfl))) rfl rfl Z ?_
  clear Z
  intro a v w2 hR Z
  obtain ⟨y2, e3, rfl, hx, hok, hft, hJt, hJf⟩ := hR
  replace Y := Y.exchange (k := 0) rfl hx hok hft
  replace Y : St M w0 [_, _] w2 := Y
  clear hx hok hft
  refine wlv Z (bq rfl) fun a Z => ab (hK5 _ _ ?_)
  replace Z := Z.p4 0 1 3 20 rfl
  refine ax Z rfl (fun hc4 => ?_) (fun hc4 => ?_)
  ·rw [hc4] at Z
   try simp only [qz] at hc4
   have hJ := hJf hc4
   refine ap ?_
   refine al Z results98 ag ?_
   exact ⟨_, _, Y, .inr ⟨_, rfl, hJ⟩⟩
  rw [hc4] at Z
  try simp only [qz] at hc4
  have hJ := hJt hc4
  refine ar <| hK4 _ _ <| ao <| wlm Z rfl fun a Z => wlv Z (bh rfl rfl ⟨om, om⟩) fun a Z => wla Z rfl fun a Z => ab ?_
  rw [show ((l.length - 1 - j : Nat) : Int) - 1 = (l.length : Int) - 1 - ((j + 1 : Nat) : Int) from by omega] at Z
  refine ⟨_, ?_, j + 1, e3, rfl, om, hJ, Z.pick [0, 1, 3], Y⟩
  omega
 rw [hc1] at Z
 try simp only [qz] at hc1
 obtain rfl : j = l.length := by omega
 refine aJ ?_
 refine dt Z results98 ag ?_
 exact ⟨_, _, Y, .inl ⟨_, ⟨rfl, rfl⟩, hJ⟩⟩
theorem gx {M : Nat → Prop} {w0 : World} (o : Int) (lv : Value) (l : List Rec) (b1 : Nat) (hn : l.length ≤ 1000000) (hlv : ∀ (H : List Ent) (w : World), St M w0 H w → SlAt w lv 5 (l.map Rec.cells)) :
  Iter Tryz.prog 98 [pt b1] (encRb l) (NxB l.length) (fun ys Hi => ys = backs l.length l.length ∧ Hi = [blk b1 [iv o, lv] 25]) (fun pre Hi => Hi = [blk b1 [iv o, lv] 25]) M w0 [blk b1 [iv o, lv] 25] :=
 fun lp J Jx w e hY hJ Y => md o lv l lp b1 J Jx hY e w hn hlv hJ Y
theorem j4 (o : Int) (lv : Value) (w0 : World) (l : List Rec) (hlv : SlAt w0 lv 5 (l.map Rec.cells)) :
  Ret Tryz.prog 74 #[.agg #[iv o, lv]] w0 (MemR w0 (fun z : Nat => .func (.func 98) #[] #[pt z]) (fun z => [blk z [iv o, lv] 25]) (fun _ => True)) := by
 refine aD func74 rfl ntmps74 (lb rfl) fun a Z => ?_
 replace Z := Z.p1 0 rfl
 replace Y : St No w0 [] w0 := St.init w0
 refine aa fun K1 hK1 => bj Z Y de rfl (cs := [iv o, lv]) rfl ?_
 clear Z Y
 intro a w1 Z Y
 refine wla Z rfl fun a Z => ab (hK1 _ _ <| aa fun K2 hK2 => ?_)
 refine wlv Z (cy rfl rfl) fun a Z => wla Z rfl fun a Z => ab (hK2 _ _ <| ap ?_)
 refine al Z results74 (ac rfl ag) ?_
 exact ⟨w0.hz, rfl, trivial, Y.ext, St.out (H := []) Y⟩
section
variable {f : Rec → Bool} {l : List Rec} {pre : List Nat} {x : Nat}
theorem qp (hnx : NxB l.length pre x) (h : findF f l l.length = findF f l (l.length - pre.length)) (hf : f (l.getD x Rec.z) = false) : findF f l l.length = findF f l (l.length - (pre ++ [x]).length) := by
 unfold NxB at hnx
 rw [h, show l.length - pre.length = x + 1 from by omega, findF, if_neg (by rw [hf]; decide), List.length_append, List.length_singleton, show l.length - (pre.length + 1) = x from by omega]
theorem pJ (hnx : NxB l.length pre x) (h : findF f l l.length = findF f l (l.length - pre.length)) (hf : f (l.getD x Rec.z) = true) : findF f l l.length = (x : Int) := by
 unfold NxB at hnx
 rw [h, show l.length - pre.length = x + 1 from by omega, findF, if_pos hf]
theorem oM (h : findF f l l.length = findF f l (l.length - (backs l.length l.length).length)) : findF f l l.length = -1 := by
 rw [h, dy, Nat.sub_self]; rfl
end
def outR (l : List Rec) (n : Nat) : List By := List.replicate (l.length - n) [] ++ codesB (l.drop (l.length - n))
theorem jM (l : List Rec) (n : Nat) (h : n ≤ l.length) : (outR l n).length = l.length := by
 rw [outR, List.length_append, List.length_replicate, db, List.length_drop]; omega
theorem qw (l : List Rec) : outR l 0 = List.replicate l.length [] := by
 rw [outR, Nat.sub_zero, List.drop_length]; simp [codesB]
theorem nC (l : List Rec) : outR l (backs l.length l.length).length = codesB l := by
 rw [dy, outR, Nat.sub_self]; simp
theorem nt {l : List Rec} {pre : List Nat} {x : Nat} (hnx : NxB l.length pre x) : (outR l pre.length).set x (eB (l.getD x Rec.z)) = outR l (pre ++ [x]).length := by
 unfold NxB at hnx
 have e1 : l.length - pre.length = x + 1 := by omega
 have e2 : l.length - (pre ++ [x]).length = x := by rw [List.length_append, List.length_singleton]; omega
 unfold outR
 rw [e1, e2, List.replicate_succ', List.append_assoc, List.set_append_right _ _ (by rw [List.length_replicate]; exact Nat.le_refl _), List.length_replicate, Nat.sub_self, fd (show x < l.length by omega)]
 rfl
theorem od {l : List Rec} {pre : List Nat} {x : Nat} (hnx : NxB l.length pre x) : ((outR l pre.length).map fun s => [sv s]).set x [sv (eB (l.getD x Rec.z))] = (outR l (pre ++ [x]).length).map fun s => [sv s] := by
 rw [← nt hnx, List.map_set]
theorem oe {l : List Rec} {pre : List Nat} {x : Nat} (hnx : NxB l.length pre x) (hk : x < ((outR l pre.length).map fun s => [sv s]).length) : ((outR l pre.length).map fun s => [sv s]).set x (splice ((outR l pre.length).map fun s => [sv s])[x] 0 [sv (eB (l.getD x Rec.z))]) = (outR l (pre ++ [x]).length).map fun s => [sv s] := by
 rw [← od hnx]; congr 1; rw [List.getElem_map]; rfl
theorem fg (x : Int) (n : Int) (w0 : World) :
  Ret Tryz.prog 70 #[iv x, iv n, iv 0] w0 fun v w => v = .tuple #[iv x, iv n] ∧ Ext No w0 w := by
 refine aD func70 rfl ntmps70 (lb rfl) fun a Z => ?_
 replace Z := Z.p3 0 1 2 rfl
 replace Y : St No w0 [] w0 := St.init w0
 refine aa fun K1 hK1 => wla Z rfl fun a Z => wla Z rfl fun a Z => ab (hK1 _ _ <| ae fun K2 hK2 => ?_)
 refine aa fun K3 hK3 => wlm Z rfl fun a Z => wlv Z ((v_ne rfl rfl).asb (b' := false) rfl) fun a Z => ab (hK3 _ _ <| aL Z rfl ?_)
 refine ar <| hK2 _ _ <| aa fun K4 hK4 => wlm Z rfl fun a Z => wlm Z rfl fun a Z => wla Z rfl fun a Z => wla Z rfl fun a Z => ab (hK4 _ _ ?_)
 replace Z := Z.p2 6 7 rfl
 refine ap ?_
 refine al Z results70 (ac rfl (ac rfl ag)) ?_
 exact ⟨by rfl, Y.ext⟩
theorem eh (x : Int) (n : Int) (w0 : World) :
  Pan Tryz.prog 70 #[iv x, iv n, iv 10] w0 fun c w => c = [{ v := .iface 97 (.agg #[]), recovered := false }] ∧ Ext No w0 w := by
 refine nU func70 rfl ntmps70 (lb rfl) fun a Z => ?_
 replace Z := Z.p3 0 1 2 rfl
 replace Y : St No w0 [] w0 := St.init w0
 refine aa fun K1 hK1 => wla Z rfl fun a Z => wla Z rfl fun a Z => ab (hK1 _ _ <| ae fun K2 hK2 => ?_)
 refine aa fun K3 hK3 => wlm Z rfl fun a Z => wlv Z ((v_ne rfl rfl).asb (b' := true) rfl) fun a Z => ab (hK3 _ _ <| aI Z rfl ?_)
 refine bY ?_
 refine bQ 2 ?_
 refine wlv Z (bA (v := .agg #[]) rfl kr) fun a Z => wlv Z (dm rfl underlying97) fun a Z => ab <| ff Z rfl ?_
 exact gK (X := fun c w => c = [{ v := .iface 97 (.agg #[]), recovered := false }] ∧ Ext No w0 w) Z ⟨rfl, Y.ext⟩
theorem oo (x : By) (n : Int) (w0 : World) :
  Ret Tryz.prog 72 #[sv x, iv n, iv 0] w0 fun v w => v = .tuple #[sv x, iv n] ∧ Ext No w0 w := by
 refine aD func72 rfl ntmps72 (lb rfl) fun a Z => ?_
 replace Z := Z.p3 0 1 2 rfl
 replace Y : St No w0 [] w0 := St.init w0
 refine aa fun K1 hK1 => wla Z rfl fun a Z => wla Z rfl fun a Z => ab (hK1 _ _ <| ae fun K2 hK2 => ?_)
 refine aa fun K3 hK3 => wlm Z rfl fun a Z => wlv Z ((v_ne rfl rfl).asb (b' := false) rfl) fun a Z => ab (hK3 _ _ <| aL Z rfl ?_)
 refine ar <| hK2 _ _ <| aa fun K4 hK4 => wlm Z rfl fun a Z => wlm Z rfl fun a Z => wla Z rfl fun a Z => wla Z rfl fun a Z => ab (hK4 _ _ ?_)
 replace Z := Z.p2 6 7 rfl
 refine ap ?_
 refine al Z results72 (ac rfl (ac rfl ag)) ?_
 exact ⟨by rfl, Y.ext⟩
theorem lW (x : By) (n : Int) (w0 : World) :
  Pan Tryz.prog 72 #[sv x, iv n, iv 10] w0 fun c w => c = [{ v := .iface 97 (.agg #[]), recovered := false }] ∧ Ext No w0 w := by
 refine nU func72 rfl ntmps72 (lb rfl) fun a Z => ?_
 replace Z := Z.p3 0 1 2 rfl
 replace Y : St No w0 [] w0 := St.init w0
 refine aa fun K1 hK1 => wla Z rfl fun a Z => wla Z rfl fun a Z => ab (hK1 _ _ <| ae fun K2 hK2 => ?_)
 refine aa fun K3 hK3 => wlm Z rfl fun a Z => wlv Z ((v_ne rfl rfl).asb (b' := true) rfl) fun a Z => ab (hK3 _ _ <| aI Z rfl ?_)
 refine bY ?_
 refine bQ 2 ?_
 refine wlv Z (bA (v := .agg #[]) rfl kr) fun a Z => wlv Z (dm rfl underlying97) fun a Z => ab <| ff Z rfl ?_
 exact gK (X := fun c w => c = [{ v := .iface 97 (.agg #[]), recovered := false }] ∧ Ext No w0 w) Z ⟨rfl, Y.ext⟩
theorem l0 {P : Program} {w : World} {L : List (Nat × Value)} {dst : Option Tmp} {T T' ty : TypeId} {pos : String} {af : Array Edge} {x y : Operand} (hx : ev L x = some .nilIface) (hy : ev L y = some .nilIface) (hr : (binOp .eql T .nilIface .nilIface).run P w = .ok (.bool true) w) (hg : (eqGuard .eql T x y .nilIface .nilIface).run P w = .ok () w) : OpV P ⟨dst, .binOp .eql T x y T', ty, pos, af, none⟩ L w (.bool true) :=
 ⟨rfl, fun N df a h => by
  simp only [execOp, h.eval hx, h.eval hy, Sem.run_bind, hg, hr, Result.andThen_ok]; rfl⟩
theorem da {M : Nat → Prop} {w0 : World} (b2 b3 : Nat) (c0 c1 c2 c3 c4 c5 : Value) (ws : World) (Y : St M w0 [blk b2 [c0, c1, c2, c3, c4] 48, blk b3 [c5] 33] ws) :
  CallsDIn Fence.wide 0 Tryz.prog 69 #[pt b2, pt b3] (.panicking [{ v := .iface 97 (.agg #[]), recovered := false }]) ws fun e u' w => u' = (.panicking [{ v := .iface 97 (.agg #[]), recovered := true }]) ∧ ∃ x, e = .returned x ∧ St M w0 [blk b2 [iv 0, iv 0, iv 0, iv 0, sv ([] : By)] 48, blk b3 [iv 110] 33] w  := by
 refine n5 (args := [pt b2, pt b3]) func69 rfl ntmps69 (lb rfl) rfl rfl de (fun _ _ => rfl) (.inr ⟨rfl, rfl⟩) fun a Z => ?_
 replace Z := Z.p3 5 0 1 rfl
 skip
 refine aq <| aa fun K1 hK1 => wlv Z (kA rfl rfl kr kr) fun a Z => ab (hK1 _ _ <| aL Z rfl ?_)
 refine aa fun K2 hK2 => wlv Z (jc rfl underlying97) fun a Z => wlv Z (ai rfl rfl) fun a Z => wlv Z (ai rfl rfl) fun a Z => ab (hK2 _ _ <| aI Z rfl ?_)
 refine aa fun K3 hK3 => aU Z Y de (zeroValue97 _) (cs := []) rfl ?_
 clear Z Y
 intro a w1 Z Y
 refine aH 0 Z Y rfl rfl rfl (sizeOf97 _) rfl (lb rfl) (ds := []) rfl rfl ?_
 clear Z Y
 intro a w2 Z Y
 refine ab (hK3 _ _ ?_)
 replace Z := Z.p2 0 1 rfl
 replace Y := Y.k2 6 rfl
 refine ao <| wlv Z (bA (v := .agg #[iv 0, iv 0, iv 0, iv 0, .string (⟨#[]⟩)]) rfl kr) fun a Z => aH 0 Z Y rfl rfl rfl (sizeOf48 _) rfl (lb rfl) (ds := [iv 0, iv 0, iv 0, iv 0, .string (⟨#[]⟩)]) rfl rfl ?_
 clear Z Y
 intro a w3 Z Y
 refine aH 1 Z Y rfl rfl rfl (sizeOf33 _) rfl (lb rfl) (ds := [iv 110]) rfl rfl ?_
 clear Z Y
 intro a w4 Z Y
 refine ab ?_
 refine jm Z results69 ag ?_
 exact Y.select [0, 1] de
theorem nF (b2 b3 : Nat) (ws : World) :
  CallsDIn Fence.wide 0 Tryz.prog 69 #[pt b2, pt b3] .returning ws fun e u' w => u' = .returning ∧ ∃ x, e = .returned x ∧ Ext No ws w  := by
 refine n5 (args := [pt b2, pt b3]) func69 rfl ntmps69 (lb rfl) rfl rfl de (fun _ _ => rfl) (.inl ⟨rfl, rfl, rfl⟩) fun a Z => ?_
 replace Z := Z.p3 5 0 1 rfl
 replace Y : St No ws [] ws := St.init ws
 refine aq <| aa fun K1 hK1 => wlv Z (l0 rfl rfl kr kr) fun a Z => ab (hK1 _ _ <| aI Z rfl ?_)
 refine ao <| wla Z rfl fun a Z => ab ?_
 refine jm Z results69 ag ?_
 exact Y.ext
theorem ql (s : By) (w0 : World) (hsl : s.length ≤ 1000000) :
  Ret Tryz.prog 34 #[sv s] w0 fun v w => v = .tuple #[.agg (decX s).cells.toArray, iv (decE s)] ∧ Ext No w0 w := by
 refine oZ func34 rfl ntmps34 (lb rfl) fun a Z => ?_
 replace Z := Z.p1 0 rfl
 replace Y : St No w0 [] w0 := St.init w0
 refine aa fun K1 hK1 => aU Z Y de (zeroValue48 _) (cs := [iv 0, iv 0, iv 0, iv 0, .string (⟨#[]⟩)]) rfl ?_
 clear Z Y
 intro a w1 Z Y
 refine aU Z Y de (zeroValue33 _) (cs := [iv 0]) rfl ?_
 clear Z Y
 intro a w2 Z Y
 refine ab (hK1 _ _ <| aa fun K2 hK2 => ?_)
 refine wlv Z (cy rfl rfl) fun a Z => ob Z rfl fun a Z => ab (hK2 _ _ <| aa fun K3 hK3 => ?_)
 refine wla Z rfl fun a Z => ab (hK3 _ _ <| ae fun K4 hK4 => ?_)
 refine aa fun K5 hK5 => wlv Z (ak (v := pt w0.hz) rfl kr) fun a Z => wlv Z (ak (v := po w0.hz 1) rfl kr) fun a Z => wlv Z (ak (v := po w0.hz 2) rfl kr) fun a Z => wlv Z (ak (v := po w0.hz 3) rfl kr) fun a Z => wlv Z (bA (v := .agg #[pt w0.hz, po w0.hz 1, po w0.hz 2, po w0.hz 3]) rfl kr) fun a Z => wlm Z rfl fun a Z => ab (hK5 _ _ <| aq ?_)
 refine fo 6 ?_
 refine cf ?_
 refine aa fun K6 hK6 => wlv Z ((v_lt rfl rfl).asb (b' := true) rfl) fun a Z => ab (hK6 _ _ <| ae fun K7 hK7 => ?_)
 refine aI Z rfl ?_
 refine ar <| hK7 _ _ <| ae fun K8 hK8 => aq <| aa fun K9 hK9 => wlv Z (eg (v := pt w0.hz) rfl rfl kr) fun a Z => wla Z rfl fun a Z => ab (hK9 _ _ ?_)
 replace Z := Z.p7 0 2 3 4 12 13 6 rfl
 refine bY ?_
 refine bQ 7 ?_
 refine wlm Z rfl fun a Z => wlm Z rfl fun a Z => wlm Z rfl fun a Z => ?_
 rcases Bool.eq_false_or_eq_true ((rdI s).isSome) with hb1 | hb1
 ·try simp only [qz] at hb1
  obtain ⟨⟨n1, r1⟩, hq1⟩ := Option.isSome_iff_exists.1 hb1
  have hd1 := oD.trans (fR hq1)
  have hsf1 := (dM hq1).trans (List.suffix_refl s)
  refine am Z Y de call71 rfl (es sm (List.suffix_refl s) hsl hq1) ?_
  clear Z Y
  intro a w3 Z Y
  refine wlv Z (ai rfl rfl) fun a Z => wlv Z (ai rfl rfl) fun a Z => wlv Z (ai rfl rfl) fun a Z => ab <| bQ 1 ?_
  refine am Z Y de call70 rfl (fg n1 ((s.length - r1.length : Nat) : Int) _) ?_
  clear Z Y
  intro a w4 Z Y
  refine ab <| j5 ?_
  refine wlm Z rfl fun a Z => wlv Z (ai rfl rfl) fun a Z => wlv Z (ai rfl rfl) fun a Z => wlv Z (bp rfl) fun a Z => aH 1 Z Y rfl rfl rfl (sizeOf3 _) rfl (lb rfl) (ds := [iv n1, iv 0, iv 0, iv 0, .string (⟨#[]⟩)]) rfl rfl ?_
  clear Z Y
  intro a w5 Z Y
  refine wla Z rfl fun a Z => ab <| hK8 _ _ ?_
  replace Z := Z.p6 0 2 3 12 13 4 rfl
  refine ao <| wlv Z ((aV rfl rfl de).asi (m' := 1) rfl) fun a Z => wlm Z rfl fun a Z => ab <| cf ?_
  refine aa fun K10 hK10 => wlv Z ((v_lt rfl rfl).asb (b' := true) rfl) fun a Z => ab (hK10 _ _ <| ae fun K11 hK11 => ?_)
  refine aI Z rfl ?_
  refine ar <| hK11 _ _ <| ae fun K12 hK12 => aq <| aa fun K13 hK13 => wlv Z (eg (v := po w0.hz 1) rfl rfl kr) fun a Z => wla Z rfl fun a Z => ab (hK13 _ _ <| bY ?_)
  refine bQ 7 ?_
  refine wlm Z rfl fun a Z => wlm Z rfl fun a Z => wlm Z rfl fun a Z => ?_
  rcases Bool.eq_false_or_eq_true ((rdI r1).isSome) with hb2 | hb2
  ·try simp only [qz] at hb2
   obtain ⟨⟨n2, r2⟩, hq2⟩ := Option.isSome_iff_exists.1 hb2
   have hd2 := hd1.trans (fR hq2)
   have hsf2 := (dM hq2).trans hsf1
   refine am Z Y de call71 rfl (es rfl hsf1 hsl hq2) ?_
   clear Z Y
   intro a w6 Z Y
   refine wlv Z (ai rfl rfl) fun a Z => wlv Z (ai rfl rfl) fun a Z => wlv Z (ai rfl rfl) fun a Z => ab <| bQ 1 ?_
   refine am Z Y de call70 rfl (fg n2 ((s.length - r2.length : Nat) : Int) _) ?_
   clear Z Y
   intro a w7 Z Y
   refine ab <| j5 ?_
   refine wlm Z rfl fun a Z => wlv Z (ai rfl rfl) fun a Z => wlv Z (ai rfl rfl) fun a Z => wlv Z (bp rfl) fun a Z => aH 1 Z Y rfl rfl rfl (sizeOf3 _) rfl (lb rfl) (ds := [iv n1, iv n2, iv 0, iv 0, .string (⟨#[]⟩)]) rfl rfl ?_
   clear Z Y
   intro a w8 Z Y
   refine wla Z rfl fun a Z => ab <| hK12 _ _ ?_
   replace Z := Z.p6 0 2 3 12 13 4 rfl
   refine ao <| wlv Z ((aV rfl rfl de).asi (m' := 2) rfl) fun a Z => wlm Z rfl fun a Z => ab <| cf ?_
   refine aa fun K14 hK14 => wlv Z ((v_lt rfl rfl).asb (b' := true) rfl) fun a Z => ab (hK14 _ _ <| ae fun K15 hK15 => ?_)
   refine aI Z rfl ?_
   refine ar <| hK15 _ _ <| ae fun K16 hK16 => aq <| aa fun K17 hK17 => wlv Z (eg (v := po w0.hz 2) rfl rfl kr) fun a Z => wla Z rfl fun a Z => ab (hK17 _ _ <| bY ?_)
   refine bQ 7 ?_
   refine wlm Z rfl fun a Z => wlm Z rfl fun a Z => wlm Z rfl fun a Z => ?_
   rcases Bool.eq_false_or_eq_true ((rdI r2).isSome) with hb3 | hb3
   ·try simp only [qz] at hb3
    obtain ⟨⟨n3, r3⟩, hq3⟩ := Option.isSome_iff_exists.1 hb3
    have hd3 := hd2.trans (fR hq3)
    have hsf3 := (dM hq3).trans hsf2
    refine am Z Y de call71 rfl (es rfl hsf2 hsl hq3) ?_
    clear Z Y
    intro a w9 Z Y
    refine wlv Z (ai rfl rfl) fun a Z => wlv Z (ai rfl rfl) fun a Z => wlv Z (ai rfl rfl) fun a Z => ab <| bQ 1 ?_
    refine am Z Y de call70 rfl (fg n3 ((s.length - r3.length : Nat) : Int) _) ?_
    clear Z Y
    intro a w10 Z Y
    refine ab <| j5 ?_
    refine wlm Z rfl fun a Z => wlv Z (ai rfl rfl) fun a Z => wlv Z (ai rfl rfl) fun a Z => wlv Z (bp rfl) fun a Z => aH 1 Z Y rfl rfl rfl (sizeOf3 _) rfl (lb rfl) (ds := [iv n1, iv n2, iv n3, iv 0, .string (⟨#[]⟩)]) rfl rfl ?_
    clear Z Y
    intro a w11 Z Y
    refine wla Z rfl fun a Z => ab <| hK16 _ _ ?_
    replace Z := Z.p6 0 2 3 12 13 4 rfl
    refine ao <| wlv Z ((aV rfl rfl de).asi (m' := 3) rfl) fun a Z => wlm Z rfl fun a Z => ab <| cf ?_
    refine aa fun K18 hK18 => wlv Z ((v_lt rfl rfl).asb (b' := true) rfl) fun a Z => ab (hK18 _ _ <| ae fun K19 hK19 => ?_)
    refine aI Z rfl ?_
    refine ar <| hK19 _ _ <| ae fun K20 hK20 => aq <| aa fun K21 hK21 => wlv Z (eg (v := po w0.hz 3) rfl rfl kr) fun a Z => wla Z rfl fun a Z => ab (hK21 _ _ <| bY ?_)
    refine bQ 7 ?_
    refine wlm Z rfl fun a Z => wlm Z rfl fun a Z => wlm Z rfl fun a Z => ?_
    rcases Bool.eq_false_or_eq_true ((rdI r3).isSome) with hb4 | hb4
    ·try simp only [qz] at hb4
     obtain ⟨⟨n4, r4⟩, hq4⟩ := Option.isSome_iff_exists.1 hb4
     have hd4 := hd3.trans (fR hq4)
     have hsf4 := (dM hq4).trans hsf3
     refine am Z Y de call71 rfl (es rfl hsf3 hsl hq4) ?_
     clear Z Y
     intro a w12 Z Y
     refine wlv Z (ai rfl rfl) fun a Z => wlv Z (ai rfl rfl) fun a Z => wlv Z (ai rfl rfl) fun a Z => ab <| bQ 1 ?_
     refine am Z Y de call70 rfl (fg n4 ((s.length - r4.length : Nat) : Int) _) ?_
     clear Z Y
     intro a w13 Z Y
     refine ab <| j5 ?_
     refine wlm Z rfl fun a Z => wlv Z (ai rfl rfl) fun a Z => wlv Z (ai rfl rfl) fun a Z => wlv Z (bp rfl) fun a Z => aH 1 Z Y rfl rfl rfl (sizeOf3 _) rfl (lb rfl) (ds := [iv n1, iv n2, iv n3, iv n4, .string (⟨#[]⟩)]) rfl rfl ?_
     clear Z Y
     intro a w14 Z Y
     refine wla Z rfl fun a Z => ab <| hK20 _ _ ?_
     replace Z := Z.p6 0 2 3 12 13 4 rfl
     refine ao <| wlv Z ((aV rfl rfl de).asi (m' := 4) rfl) fun a Z => wlm Z rfl fun a Z => ab <| cf ?_
     refine aa fun K22 hK22 => wlv Z ((v_lt rfl rfl).asb (b' := false) rfl) fun a Z => ab (hK22 _ _ <| ae fun K23 hK23 => ?_)
     refine aL Z rfl ?_
     refine aJ <| hK4 _ _ <| gh fun K24 hK24 hP24 => bQ 6 ?_
     refine wlm Z rfl fun a Z => wlm Z rfl fun a Z => ?_
     rcases Bool.eq_false_or_eq_true ((rdS r4).isSome) with hb5 | hb5
     ·try simp only [qz] at hb5
      obtain ⟨⟨x9, r5⟩, hq5⟩ := Option.isSome_iff_exists.1 hb5
      have hd5 := hd4.trans (oE.trans (oI hq5))
      have hsf5 := (pD hq5).trans hsf4
      refine am Z Y de call73 rfl (mt s r4 x9 r5 _ _ rfl hsf4 hsl hq5) ?_
      clear Z Y
      intro a w15 Z Y
      refine wlv Z (ai rfl rfl) fun a Z => wlv Z (ai rfl rfl) fun a Z => wlv Z (ai rfl rfl) fun a Z => ab <| bQ 1 ?_
      refine am Z Y de call72 rfl (oo x9 ((s.length - r5.length : Nat) : Int) _) ?_
      clear Z Y
      intro a w16 Z Y
      refine ab <| j5 ?_
      refine wlm Z rfl fun a Z => wlv Z (ai rfl rfl) fun a Z => wlv Z (ai rfl rfl) fun a Z => wlv Z (ak (v := po w0.hz 4) rfl kr) fun a Z => aH 1 Z Y rfl rfl rfl (sizeOf9 _) rfl (lb rfl) (ds := [iv n1, iv n2, iv n3, iv n4, sv x9]) rfl rfl ?_
      clear Z Y
      intro a w17 Z Y
      refine wla Z rfl fun a Z => ab (hK24 _ _ ?_)
      replace Z := Z.p4 0 2 3 4 rfl
      refine ae fun K25 hK25 => aa fun K26 hK26 => wlm Z rfl fun a Z => wlm Z rfl fun a Z => wlv Z (bo rfl rfl (runUnderlying9 _)) fun a Z => wlv Z (v_lt rfl rfl) fun a Z => wlm Z rfl fun a Z => ?_
      rcases Bool.eq_false_or_eq_true (decide (((s.length - r5.length : Nat) : Int) < (s.length : Int))) with hb6 | hb6
      ·rw [hb6] at Z
       try simp only [qz] at hb6
       have hdn := hd5.trans (mo (by intro h0; have h1 := congrArg List.length h0; rw [List.length_nil] at h1; omega))
       refine wln Z fun a Z => wln Z fun a Z => wln Z fun a Z => wlv Z (az rfl rfl) fun a Z => ab (hK26 _ _ ?_)
       replace Z := Z.p3 2 3 48 rfl
       refine aI Z rfl ?_
       refine bY ?_
       refine bQ 2 ?_
       refine wlv Z (bA (v := .agg #[]) rfl kr) fun a Z => wlv Z (dm rfl underlying97) fun a Z => ab <| ff Z rfl ?_
       replace Y : St No w0 [blk w0.hz [iv n1, iv n2, iv n3, iv n4, sv x9] 48, blk w1.hz [iv 0] 33] w17 := Y.select [1, 0] de
       exact cz Z call69 (da _ _ _ _ _ _ _ _ _ Y) results34 (fun w9 Y => ⟨(aM rfl (bU (Y.g 0 rfl) (isAgg48 _) (sizeOf48 _)) (aM rfl (cF (Y.g 1 rfl) (isAgg33 _)) ag)), by simp only [retv]; unfold decX decE; rw [hdn]; rfl, Y.ext⟩)
      rw [hb6] at Z
      try simp only [qz] at hb6
      have hqn : r5 = [] := List.eq_nil_of_length_eq_zero (by have := hsf5.length_le; omega)
      refine wly Z (aw (Y.g 1 rfl) rfl (isAgg48 _) (sizeOf48 _)) fun a Z => ba Z Y de rfl de rfl call64 rfl (eU (⟨n1, n2, n3, n4, x9⟩ : Rec) _) ?_
      clear Z Y
      intro a w18 Z Y
      refine wly Z (bq rfl) fun a Z => wlv Z (ay rfl rfl) fun a Z => ab (hK26 _ _ ?_)
      replace Z := Z.p3 2 3 48 rfl
      refine ax Z rfl (fun hc7 => ?_) (fun hc7 => ?_)
      ·rw [hc7] at Z
       try simp only [qz] at hc7
       have hdn := hd5.trans (mF (by exact hc7))
       refine bY ?_
       refine bQ 2 ?_
       refine wlv Z (bA (v := .agg #[]) rfl kr) fun a Z => wlv Z (dm rfl underlying97) fun a Z => ab <| ff Z rfl ?_
       replace Y : St No w0 [blk w0.hz [iv n1, iv n2, iv n3, iv n4, sv x9] 48, blk w1.hz [iv 0] 33] w18 := Y.select [1, 0] de
       exact cz Z call69 (da _ _ _ _ _ _ _ _ _ Y) results34 (fun w9 Y => ⟨(aM rfl (bU (Y.g 0 rfl) (isAgg48 _) (sizeOf48 _)) (aM rfl (cF (Y.g 1 rfl) (isAgg33 _)) ag)), by simp only [retv]; unfold decX decE; rw [hdn]; rfl, Y.ext⟩)
      rw [hc7] at Z
      try simp only [qz] at hc7
      have hds := hd5.trans (mA hqn (by exact hc7))
      refine ar <| hK25 _ _ <| aa fun K27 hK27 => wlv Z (aw (Y.g 1 rfl) rfl (isAgg48 _) (sizeOf48 _)) fun a Z => aH 1 Z Y rfl rfl rfl (sizeOf48 _) rfl (lb rfl) (ds := [iv n1, iv n2, iv n3, iv n4, sv x9]) rfl rfl ?_
      clear Z Y
      intro a w19 Z Y
      refine aH 0 Z Y rfl rfl rfl (sizeOf33 _) rfl (lb rfl) (ds := [iv 0]) rfl rfl ?_
      clear Z Y
      intro a w20 Z Y
      refine ab (hK27 _ _ <| ap ?_)
      refine m2 (vs := [.agg #[iv n1, iv n2, iv n3, iv n4, sv x9], iv 0]) Z call69 (nF _ _ _) results34 (fun w9 hx => ?_)
      have Y := Y.grow hx
      exact ⟨(aM rfl (bU (Y.g 1 rfl) (isAgg48 _) (sizeOf48 _)) (aM rfl (cF (Y.g 0 rfl) (isAgg33 _)) ag)), by simp only [retv]; unfold decX decE; rw [hds]; rfl, Y.ext⟩
     try simp only [qz] at hb5
     have hq5 : rdS r4 = none := by
      cases h : rdS r4 with
      | none => rfl
      | some z => rw [h] at hb5; cases hb5
     have hdn := hd4.trans (oE.trans (mj hq5))
     refine am Z Y de call73 rfl (kw rfl hsf4 hsl hq5) ?_
     clear Z Y
     intro a w21 Z Y
     refine wlv Z (ai rfl rfl) fun a Z => wlv Z (ai rfl rfl) fun a Z => wlv Z (ai rfl rfl) fun a Z => ab <| gb (X := fun c w2 => c = [{ v := .iface 97 (.agg #[]), recovered := false }] ∧ Ext No w21 w2) Z call72 rfl (lW ([]) 0 _) ?_
     rintro _ w22 ⟨rfl, hx⟩
     have Y := Y.grow hx
     refine hP24 _ _ _ ?_
     replace Y : St No w0 [blk w0.hz [iv n1, iv n2, iv n3, iv n4, .string (⟨#[]⟩)] 48, blk w1.hz [iv 0] 33] w22 := Y.select [1, 0] de
     exact cz Z call69 (da _ _ _ _ _ _ _ _ _ Y) results34 (fun w9 Y => ⟨(aM rfl (bU (Y.g 0 rfl) (isAgg48 _) (sizeOf48 _)) (aM rfl (cF (Y.g 1 rfl) (isAgg33 _)) ag)), by simp only [retv]; unfold decX decE; rw [hdn]; rfl, Y.ext⟩)
    try simp only [qz] at hb4
    have hq4 : rdI r3 = none := by
     cases h : rdI r3 with
     | none => rfl
     | some z => rw [h] at hb4; cases hb4
    have hdn := hd3.trans (eX hq4)
    refine am Z Y de call71 rfl (ed rfl hsf3 hsl hq4) ?_
    clear Z Y
    intro a w23 Z Y
    refine wlv Z (ai rfl rfl) fun a Z => wlv Z (ai rfl rfl) fun a Z => wlv Z (ai rfl rfl) fun a Z => ab <| gb (X := fun c w2 => c = [{ v := .iface 97 (.agg #[]), recovered := false }] ∧ Ext No w23 w2) Z call70 rfl (eh 0 0 _) ?_
    rintro _ w24 ⟨rfl, hx⟩
    have Y := Y.grow hx
    replace Y : St No w0 [blk w0.hz [iv n1, iv n2, iv n3, iv 0, .string (⟨#[]⟩)] 48, blk w1.hz [iv 0] 33] w24 := Y.select [1, 0] de
    exact cz Z call69 (da _ _ _ _ _ _ _ _ _ Y) results34 (fun w9 Y => ⟨(aM rfl (bU (Y.g 0 rfl) (isAgg48 _) (sizeOf48 _)) (aM rfl (cF (Y.g 1 rfl) (isAgg33 _)) ag)), by simp only [retv]; unfold decX decE; rw [hdn]; rfl, Y.ext⟩)
   try simp only [qz] at hb3
   have hq3 : rdI r2 = none := by
    cases h : rdI r2 with
    | none => rfl
    | some z => rw [h] at hb3; cases hb3
   have hdn := hd2.trans (eX hq3)
   refine am Z Y de call71 rfl (ed rfl hsf2 hsl hq3) ?_
   clear Z Y
   intro a w25 Z Y
   refine wlv Z (ai rfl rfl) fun a Z => wlv Z (ai rfl rfl) fun a Z => wlv Z (ai rfl rfl) fun a Z => ab <| gb (X := fun c w2 => c = [{ v := .iface 97 (.agg #[]), recovered := false }] ∧ Ext No w25 w2) Z call70 rfl (eh 0 0 _) ?_
   rintro _ w26 ⟨rfl, hx⟩
   have Y := Y.grow hx
   replace Y : St No w0 [blk w0.hz [iv n1, iv n2, iv 0, iv 0, .string (⟨#[]⟩)] 48, blk w1.hz [iv 0] 33] w26 := Y.select [1, 0] de
   exact cz Z call69 (da _ _ _ _ _ _ _ _ _ Y) results34 (fun w9 Y => ⟨(aM rfl (bU (Y.g 0 rfl) (isAgg48 _) (sizeOf48 _)) (aM rfl (cF (Y.g 1 rfl) (isAgg33 _)) ag)), by simp only [retv]; unfold decX decE; rw [hdn]; rfl, Y.ext⟩)
  try simp only [qz] at hb2
  have hq2 : rdI r1 = none := by
   cases h : rdI r1 with
   | none => rfl
   | some z => rw [h] at hb2; cases hb2
  have hdn := hd1.trans (eX hq2)
  refine am Z Y de call71 rfl (ed rfl hsf1 hsl hq2) ?_
  clear Z Y
  intro a w27 Z Y
  refine wlv Z (ai rfl rfl) fun a Z => wlv Z (ai rfl rfl) fun a Z => wlv Z (ai rfl rfl) fun a Z => ab <| gb (X := fun c w2 => c = [{ v := .iface 97 (.agg #[]), recovered := false }] ∧ Ext No w27 w2) Z call70 rfl (eh 0 0 _) ?_
  rintro _ w28 ⟨rfl, hx⟩
  have Y := Y.grow hx
  replace Y : St No w0 [blk w0.hz [iv n1, iv 0, iv 0, iv 0, .string (⟨#[]⟩)] 48, blk w1.hz [iv 0] 33] w28 := Y.select [1, 0] de
  exact cz Z call69 (da _ _ _ _ _ _ _ _ _ Y) results34 (fun w9 Y => ⟨(aM rfl (bU (Y.g 0 rfl) (isAgg48 _) (sizeOf48 _)) (aM rfl (cF (Y.g 1 rfl) (isAgg33 _)) ag)), by simp only [retv]; unfold decX decE; rw [hdn]; rfl, Y.ext⟩)
 try simp only [qz] at hb1
 have hq1 : rdI s = none := by
  cases h : rdI s with
  | none => rfl
  | some z => rw [h] at hb1; cases hb1
 have hdn := oD.trans (eX hq1)
 refine am Z Y de call71 rfl (ed sm (List.suffix_refl s) hsl hq1) ?_
 clear Z Y
 intro a w29 Z Y
 refine wlv Z (ai rfl rfl) fun a Z => wlv Z (ai rfl rfl) fun a Z => wlv Z (ai rfl rfl) fun a Z => ab <| gb (X := fun c w2 => c = [{ v := .iface 97 (.agg #[]), recovered := false }] ∧ Ext No w29 w2) Z call70 rfl (eh 0 0 _) ?_
 rintro _ w30 ⟨rfl, hx⟩
 have Y := Y.grow hx
 replace Y : St No w0 [blk w0.hz [iv 0, iv 0, iv 0, iv 0, .string (⟨#[]⟩)] 48, blk w1.hz [iv 0] 33] w30 := Y.select [1, 0] de
 exact cz Z call69 (da _ _ _ _ _ _ _ _ _ Y) results34 (fun w9 Y => ⟨(aM rfl (bU (Y.g 0 rfl) (isAgg48 _) (sizeOf48 _)) (aM rfl (cF (Y.g 1 rfl) (isAgg33 _)) ag)), by simp only [retv]; unfold decX decE; rw [hdn]; rfl, Y.ext⟩)
theorem ne (o : Int) (lv : Value) (l : List Rec) (x : Rec) (w0 : World) (hlv : SlAt w0 lv 5 (l.map Rec.cells)) (hll : l.length ≤ 1000) (hok : addOk o l x = true) :
  Ret Tryz.prog 35 #[.agg #[iv o, lv], .agg #[iv x.t, iv x.kind, iv x.a, iv x.b, sv x.text]] w0 (MemR w0 (fun v : Value => .tuple #[.agg #[iv o, v], iv 0]) (fun v => [own v 48 5 ((l ++ [x]).map Rec.cells)]) (fun _ => True)) := by
 refine aD func35 rfl ntmps35 (lb rfl) fun a Z => ?_
 replace Z := Z.p2 0 1 rfl
 replace Y : St No w0 [] w0 := St.init w0
 refine aa fun K1 hK1 => bj Z Y de rfl (cs := [iv o, lv]) rfl ?_
 clear Z Y
 intro a w1 Z Y
 refine bj Z Y de rfl (cs := [iv x.t, iv x.kind, iv x.a, iv x.b, sv x.text]) rfl ?_
 clear Z Y
 intro a w2 Z Y
 refine aU Z Y de (zeroValue25 _) (cs := [iv 0, .slice none 0 0]) rfl ?_
 clear Z Y
 intro a w3 Z Y
 refine wla Z rfl fun a Z => ab (hK1 _ _ <| ae fun K2 hK2 => ?_)
 refine aF kr (aG kr fun w4 hxz => ?_)
 replace Y := Y.grow hxz
 refine aT (k := 0) 11 [9, 10] Z kr kr kr rfx ?_
 replace Z := Z.p6 0 1 2 3 4 5 rfl
 refine dF 2 5 8 9 (fun v => own v 48 5 ([])) (fun v => own v 48 5 (([]) ++ ((l).map Rec.cells))) (fun v => own v 48 5 ((([]) ++ ((l).map Rec.cells)) ++ ([[iv x.t, iv x.kind, iv x.a, iv x.b, sv x.text]]))) (fun u => .agg #[iv o, u]) 11 [[], [0], [], [], [3], [2, 4], [], [6], [5, 7], [1, 8], []] (fun i => match i with | 0 => pv (pt w0.hz) | 1 => pv (iv o) | 2 => fun v E => E = [] | 3 => pv (po w0.hz 1) | 4 => pv (lv) | 5 => fun v E => E = [] | 6 => pv (.agg #[iv x.t, iv x.kind, iv x.a, iv x.b, sv x.text]) | 7 => pm (fun b : Nat => .slice (some ⟨b, 0, none⟩) 1 1) (fun b => [own (.slice (some ⟨b, 0, none⟩) 1 1) 48 5 [[iv x.t, iv x.kind, iv x.a, iv x.b, sv x.text]]]) (fun _ => True) | 8 => fun v E => E = [] | 9 => fun v E => E = [] | 10 => pm (fun b : Nat => pt b) (fun b => [blk b [iv 0, .slice none 0 0] 25]) (fun _ => True) | _ => fun _ _ => False) Z Y kr kr kr de de de de de ?_ ?_ ?_ ?_ ?_ ?_ ?_
 ·intro i v E h
  match i, h with
  | 0, _ => exact by decide
  | 1, _ => exact by decide
  | 2, _ => exact by decide
  | 3, _ => exact by decide
  | 4, _ => exact by decide
  | 5, _ => exact by decide
  | 6, _ => exact by decide
  | 7, _ => exact by decide
  | 8, _ => exact by decide
  | 9, _ => exact by decide
  | 10, _ => exact by decide
  | i + 11, h => exact h.elim
 ·intro i hi h0 h1 h2 h3 e
  match i, hi, h0, h1, h2, h3 with
  | 0, _, _, _, _, _ => exact fun w Y => OpV.g (ak (v := pt w0.hz) rfl kr)
  | 1, _, _, _, _, _ =>
   rintro _ _ ⟨rfl, rfl⟩
   intro w Y
   exact OpV.g (ld Y 3 rfl rfl (isAgg3 _) rfl)
  | 2, _, h, _, _, _ => exact absurd rfl h
  | 3, _, _, _, _, _ => exact fun w Y => OpV.g (ak (v := po w0.hz 1) rfl kr)
  | 4, _, _, _, _, _ =>
   rintro _ _ ⟨rfl, rfl⟩
   intro w Y
   exact OpV.g (ld Y 3 rfl rfl (isAgg23 _) rfl)
  | 5, _, _, h, _, _ => exact absurd rfl h
  | 6, _, _, _, _, _ => exact fun w Y => OpV.g (aw (Y.g 2 rfl) rfl (isAgg48 _) (sizeOf48 _))
  | 7, _, _, _, _, _ =>
   rintro _ _ ⟨rfl, rfl⟩
   intro w Y
   exact aX (E := 48) (sz := 5) rfl [[iv x.t, iv x.kind, iv x.a, iv x.b, sv x.text]] (fun _ => by kernel_rfl) sm rfl de
  | 8, _, _, _, h, _ => exact absurd rfl h
  | 9, _, _, _, _, h => exact absurd rfl h
  | 10, _, _, _, _, _ => exact fun w Y => ei (zeroValue25 _) (cs := [iv 0, .slice none 0 0]) rfl
 ·intro w Y
  exact OpR.to_own (f := fun b : Nat => .slice (some ⟨b, 0, none⟩) 0 0) (e := fun v => own v 48 5 []) (aX (E := 48) (sz := 5) rfl [] (fun _ => by kernel_rfl) sm rfl de) (fun v => rfl)
 ·rintro s1 _ rfl _ _ ⟨rfl, rfl⟩
  intro w Y
  replace Y : St No w0 (own s1 48 5 ([]) :: _) w := Y
  exact (cg (Y.g 0 rfl) rfl rfl (Y.arg hlv) underlying23 (inf := Tryz.t48) (z := .agg #[iv 0, iv 0, iv 0, iv 0, .string (⟨#[]⟩)]) rfl rfl rfl rfl de (by first | (simp [Value.oneCell', yv, wv, sv]; done) | exact bW (by intro e he; obtain ⟨p, _, rfl⟩ := List.mem_map.1 he; exact ⟨p, rfl⟩)) (by have hby : Tryz.t48.bytes = 48 := rfl; simp only [big, hby, List.length_append, List.length_map, List.length_cons, List.length_nil]; omega) (by have hby : Tryz.t48.bytes = 48 := rfl; simp only [big, hby, List.length_append, List.length_map, List.length_cons, List.length_nil]; omega)).mono fun v w' ⟨h1, h2, h3⟩ => ⟨h1, h2, h3, rfl⟩
 ·rintro s2 _ rfl _ _ ⟨b3, rfl, -, rfl⟩
  intro w Y
  replace Y : St No w0 (own s2 48 5 (([]) ++ ((l).map Rec.cells)) :: _) w := Y
  exact (cg (Y.g 0 rfl) rfl rfl (Y.ow 1 rfl) underlying23 (inf := Tryz.t48) (z := .agg #[iv 0, iv 0, iv 0, iv 0, .string (⟨#[]⟩)]) rfl rfl rfl rfl de (by first | (simp [Value.oneCell', yv, wv, sv]; done) | exact bW (by intro e he; obtain ⟨p, _, rfl⟩ := List.mem_map.1 he; exact ⟨p, rfl⟩)) (by have hby : Tryz.t48.bytes = 48 := rfl; simp only [big, hby, List.length_append, List.length_map, List.length_cons, List.length_nil]; omega) (by have hby : Tryz.t48.bytes = 48 := rfl; simp only [big, hby, List.length_append, List.length_map, List.length_cons, List.length_nil]; omega)).mono fun v w' ⟨h1, h2, h3⟩ => ⟨h1, h2, h3, rfl⟩
 ·rintro _ _ ⟨rfl, rfl⟩ s4 _ rfl
  intro w Y
  have Y : St No w0 (own s4 48 5 ((([]) ++ ((l).map Rec.cells)) ++ ([[iv x.t, iv x.kind, iv x.a, iv x.b, sv x.text]])) :: _) w := Y
  obtain ⟨_, _, _, esl⟩ := ee (Y.ow 0 rfl)
  exact OpV.hopv (OpV.g (bA (v := .agg #[iv o, s4]) rfl (by rw [esl]; kernel_rfl))) rfl
 clear Z Y
 rintro vq _ _ ⟨⟨rfl, rfl⟩, -⟩ _ _ ⟨⟨rfl, rfl⟩, -⟩ s1 _ ⟨rfl, -, -⟩ _ _ ⟨⟨rfl, rfl⟩, -⟩ _ _ ⟨⟨rfl, rfl⟩, -⟩ s2 _ ⟨rfl, -, -⟩ _ _ ⟨⟨rfl, rfl⟩, -⟩ _ _ ⟨⟨b3, rfl, -, rfl⟩, -⟩ s4 _ ⟨rfl, hvq, -⟩ _ _ ⟨rfl, -, hv3⟩ _ _ ⟨⟨b5, rfl, -, rfl⟩, -⟩ a w5 Z Y
 obtain rfl := hvq rfl
 obtain rfl := hv3 rfl
 replace Z : Fr 27 [(7, _), (8, _), (9, _), (10, _), (11, _), (12, _), (13, _), (14, _), (15, _), (16, _), (6, _), (0, _), (1, _), (2, _), (3, _), (4, _), (5, _)] [] a := Z
 replace Y : St No w0 [_, _, _, _, _, _] w5 := Y
 replace Y : St No w0 [own (.slice (some ⟨b3, 0, none⟩) 1 1) 48 5 ([[iv x.t, iv x.kind, iv x.a, iv x.b, sv x.text]]), blk b5 [iv 0, .slice none 0 0] 25, own s4 48 5 ((l ++ [x]).map Rec.cells), blk w2.hz [iv 0, .slice none 0 0] 25, blk w1.hz [iv x.t, iv x.kind, iv x.a, iv x.b, sv x.text] 48, blk w0.hz [iv o, lv] 25] w5 := by rw [List.map_append]; exact Y
 refine ab <| aP (k := 11) 12 [11] kr kr kr ?_
 refine bu (us := [iv o, s4]) 1 Z Y rfl rfl rfl (sizeOf25 _) (by intro z hz; simp only [List.mem_cons, List.not_mem_nil, or_false] at hz; rcases hz with rfl | rfl <;> first | rfl | exact SlAt.one (Y.ow 2 rfl)) (lb rfl) (ds := [iv o, s4]) rfl rfl ?_
 clear Z Y
 intro a w6 Z Y
 refine ab <| aS kr ?_
 refine hK2 _ _ ?_
 replace Z := Z.p4 2 4 5 6 rfl
 replace Y := Y.k4 46 rfl
 refine ae fun K3 hK3 => aa fun K4 hK4 => wlv Z (aw (Y.g 3 rfl) rfl (isAgg25 _) (sizeOf25 _)) fun a Z => am Z Y de call37 rfl (dL o lv l _ (Y.arg hlv)) ?_
 clear Z Y
 intro a w7 Z Y
 refine wlv Z (bq rfl) fun a Z => wlm Z rfl fun a Z => ?_
 rcases Bool.eq_false_or_eq_true (!(logOk o l)) with hb6 | hb6
 ·rw [hb6] at Z
  try simp only [qz] at hb6
  exfalso; obtain ⟨h1, h2⟩ := hP hok; simp [h1, h2] at hb6
 rw [hb6] at Z
 try simp only [qz] at hb6
 refine wly Z (aw (Y.g 0 rfl) rfl (isAgg25 _) (sizeOf25 _)) fun a Z => ba Z Y de rfl de rfl call37 rfl (dL o s4 (l ++ [x]) _ (Y.ow 1 rfl)) ?_
 clear Z Y
 intro a w8 Z Y
 refine wly Z (bq rfl) fun a Z => wlv Z (ay rfl rfl) fun a Z => ab (hK4 _ _ ?_)
 replace Z := Z.p4 4 5 6 24 rfl
 replace Y := Y.k3 7 rfl
 refine ax Z rfl (fun hc7 => ?_) (fun hc7 => ?_)
 ·rw [hc7] at Z
  try simp only [qz] at hc7
  exfalso; obtain ⟨h1, h2⟩ := hP hok; simp [h1, h2] at hc7
 rw [hc7] at Z
 try simp only [qz] at hc7
 refine ar <| hK3 _ _ <| aa fun K5 hK5 => wlv Z (aw (Y.g 0 rfl) rfl (isAgg25 _) (sizeOf25 _)) fun a Z => bu (us := [iv o, s4]) 2 Z Y rfl rfl rfl (sizeOf25 _) (by intro z hz; simp only [List.mem_cons, List.not_mem_nil, or_false] at hz; rcases hz with rfl | rfl <;> first | rfl | exact SlAt.one (Y.ow 1 rfl)) (lb rfl) (ds := [iv o, s4]) rfl rfl ?_
 clear Z Y
 intro a w9 Z Y
 refine wla Z rfl fun a Z => ab (hK5 _ _ <| ap ?_)
 refine al Z results35 (aM rfl (bU (Y.g 2 rfl) (isAgg25 _) (sizeOf25 _)) (ac rfl ag)) ?_
 exact ⟨_, rfl, trivial, Y.ext, St.out (E := [own _ 48 5 ((l ++ [x]).map Rec.cells)]) (H := []) (Y.select [1] de)⟩
theorem oO (o : Int) (lv : Value) (l : List Rec) (x : Rec) (w0 : World) (hlv : SlAt w0 lv 5 (l.map Rec.cells)) (hll : l.length ≤ 1000) (hok : addOk o l x = false) :
  Ret Tryz.prog 35 #[.agg #[iv o, lv], .agg #[iv x.t, iv x.kind, iv x.a, iv x.b, sv x.text]] w0 (MemR w0 (fun v : Value => .tuple #[.agg #[iv 0, v], iv 110]) (fun v => [own v 48 5 (([] : List Rec).map Rec.cells)]) (fun _ => True)) := by
 refine aD func35 rfl ntmps35 (lb rfl) fun a Z => ?_
 replace Z := Z.p2 0 1 rfl
 replace Y : St No w0 [] w0 := St.init w0
 refine aa fun K1 hK1 => bj Z Y de rfl (cs := [iv o, lv]) rfl ?_
 clear Z Y
 intro a w1 Z Y
 refine bj Z Y de rfl (cs := [iv x.t, iv x.kind, iv x.a, iv x.b, sv x.text]) rfl ?_
 clear Z Y
 intro a w2 Z Y
 refine aU Z Y de (zeroValue25 _) (cs := [iv 0, .slice none 0 0]) rfl ?_
 clear Z Y
 intro a w3 Z Y
 refine wla Z rfl fun a Z => ab (hK1 _ _ <| ae fun K2 hK2 => ?_)
 refine aF kr (aG kr fun w4 hxz => ?_)
 replace Y := Y.grow hxz
 refine aT (k := 0) 11 [9, 10] Z kr kr kr rfx ?_
 replace Z := Z.p6 0 1 2 3 4 5 rfl
 refine dF 2 5 8 9 (fun v => own v 48 5 ([])) (fun v => own v 48 5 (([]) ++ ((l).map Rec.cells))) (fun v => own v 48 5 ((([]) ++ ((l).map Rec.cells)) ++ ([[iv x.t, iv x.kind, iv x.a, iv x.b, sv x.text]]))) (fun u => .agg #[iv o, u]) 11 [[], [0], [], [], [3], [2, 4], [], [6], [5, 7], [1, 8], []] (fun i => match i with | 0 => pv (pt w0.hz) | 1 => pv (iv o) | 2 => fun v E => E = [] | 3 => pv (po w0.hz 1) | 4 => pv (lv) | 5 => fun v E => E = [] | 6 => pv (.agg #[iv x.t, iv x.kind, iv x.a, iv x.b, sv x.text]) | 7 => pm (fun b : Nat => .slice (some ⟨b, 0, none⟩) 1 1) (fun b => [own (.slice (some ⟨b, 0, none⟩) 1 1) 48 5 [[iv x.t, iv x.kind, iv x.a, iv x.b, sv x.text]]]) (fun _ => True) | 8 => fun v E => E = [] | 9 => fun v E => E = [] | 10 => pm (fun b : Nat => pt b) (fun b => [blk b [iv 0, .slice none 0 0] 25]) (fun _ => True) | _ => fun _ _ => False) Z Y kr kr kr de de de de de ?_ ?_ ?_ ?_ ?_ ?_ ?_
 ·intro i v E h
  match i, h with
  | 0, _ => exact by decide
  | 1, _ => exact by decide
  | 2, _ => exact by decide
  | 3, _ => exact by decide
  | 4, _ => exact by decide
  | 5, _ => exact by decide
  | 6, _ => exact by decide
  | 7, _ => exact by decide
  | 8, _ => exact by decide
  | 9, _ => exact by decide
  | 10, _ => exact by decide
  | i + 11, h => exact h.elim
 ·intro i hi h0 h1 h2 h3 e
  match i, hi, h0, h1, h2, h3 with
  | 0, _, _, _, _, _ => exact fun w Y => OpV.g (ak (v := pt w0.hz) rfl kr)
  | 1, _, _, _, _, _ =>
   rintro _ _ ⟨rfl, rfl⟩
   intro w Y
   exact OpV.g (ld Y 3 rfl rfl (isAgg3 _) rfl)
  | 2, _, h, _, _, _ => exact absurd rfl h
  | 3, _, _, _, _, _ => exact fun w Y => OpV.g (ak (v := po w0.hz 1) rfl kr)
  | 4, _, _, _, _, _ =>
   rintro _ _ ⟨rfl, rfl⟩
   intro w Y
   exact OpV.g (ld Y 3 rfl rfl (isAgg23 _) rfl)
  | 5, _, _, h, _, _ => exact absurd rfl h
  | 6, _, _, _, _, _ => exact fun w Y => OpV.g (aw (Y.g 2 rfl) rfl (isAgg48 _) (sizeOf48 _))
  | 7, _, _, _, _, _ =>
   rintro _ _ ⟨rfl, rfl⟩
   intro w Y
   exact aX (E := 48) (sz := 5) rfl [[iv x.t, iv x.kind, iv x.a, iv x.b, sv x.text]] (fun _ => by kernel_rfl) sm rfl de
  | 8, _, _, _, h, _ => exact absurd rfl h
  | 9, _, _, _, _, h => exact absurd rfl h
  | 10, _, _, _, _, _ => exact fun w Y => ei (zeroValue25 _) (cs := [iv 0, .slice none 0 0]) rfl
 ·intro w Y
  exact OpR.to_own (f := fun b : Nat => .slice (some ⟨b, 0, none⟩) 0 0) (e := fun v => own v 48 5 []) (aX (E := 48) (sz := 5) rfl [] (fun _ => by kernel_rfl) sm rfl de) (fun v => rfl)
 ·rintro s1 _ rfl _ _ ⟨rfl, rfl⟩
  intro w Y
  replace Y : St No w0 (own s1 48 5 ([]) :: _) w := Y
  exact (cg (Y.g 0 rfl) rfl rfl (Y.arg hlv) underlying23 (inf := Tryz.t48) (z := .agg #[iv 0, iv 0, iv 0, iv 0, .string (⟨#[]⟩)]) rfl rfl rfl rfl de (by first | (simp [Value.oneCell', yv, wv, sv]; done) | exact bW (by intro e he; obtain ⟨p, _, rfl⟩ := List.mem_map.1 he; exact ⟨p, rfl⟩)) (by have hby : Tryz.t48.bytes = 48 := rfl; simp only [big, hby, List.length_append, List.length_map, List.length_cons, List.length_nil]; omega) (by have hby : Tryz.t48.bytes = 48 := rfl; simp only [big, hby, List.length_append, List.length_map, List.length_cons, List.length_nil]; omega)).mono fun v w' ⟨h1, h2, h3⟩ => ⟨h1, h2, h3, rfl⟩
 ·rintro s2 _ rfl _ _ ⟨b3, rfl, -, rfl⟩
  intro w Y
  replace Y : St No w0 (own s2 48 5 (([]) ++ ((l).map Rec.cells)) :: _) w := Y
  exact (cg (Y.g 0 rfl) rfl rfl (Y.ow 1 rfl) underlying23 (inf := Tryz.t48) (z := .agg #[iv 0, iv 0, iv 0, iv 0, .string (⟨#[]⟩)]) rfl rfl rfl rfl de (by first | (simp [Value.oneCell', yv, wv, sv]; done) | exact bW (by intro e he; obtain ⟨p, _, rfl⟩ := List.mem_map.1 he; exact ⟨p, rfl⟩)) (by have hby : Tryz.t48.bytes = 48 := rfl; simp only [big, hby, List.length_append, List.length_map, List.length_cons, List.length_nil]; omega) (by have hby : Tryz.t48.bytes = 48 := rfl; simp only [big, hby, List.length_append, List.length_map, List.length_cons, List.length_nil]; omega)).mono fun v w' ⟨h1, h2, h3⟩ => ⟨h1, h2, h3, rfl⟩
 ·rintro _ _ ⟨rfl, rfl⟩ s4 _ rfl
  intro w Y
  have Y : St No w0 (own s4 48 5 ((([]) ++ ((l).map Rec.cells)) ++ ([[iv x.t, iv x.kind, iv x.a, iv x.b, sv x.text]])) :: _) w := Y
  obtain ⟨_, _, _, esl⟩ := ee (Y.ow 0 rfl)
  exact OpV.hopv (OpV.g (bA (v := .agg #[iv o, s4]) rfl (by rw [esl]; kernel_rfl))) rfl
 clear Z Y
 rintro vq _ _ ⟨⟨rfl, rfl⟩, -⟩ _ _ ⟨⟨rfl, rfl⟩, -⟩ s1 _ ⟨rfl, -, -⟩ _ _ ⟨⟨rfl, rfl⟩, -⟩ _ _ ⟨⟨rfl, rfl⟩, -⟩ s2 _ ⟨rfl, -, -⟩ _ _ ⟨⟨rfl, rfl⟩, -⟩ _ _ ⟨⟨b3, rfl, -, rfl⟩, -⟩ s4 _ ⟨rfl, hvq, -⟩ _ _ ⟨rfl, -, hv3⟩ _ _ ⟨⟨b5, rfl, -, rfl⟩, -⟩ a w5 Z Y
 obtain rfl := hvq rfl
 obtain rfl := hv3 rfl
 replace Z : Fr 27 [(7, _), (8, _), (9, _), (10, _), (11, _), (12, _), (13, _), (14, _), (15, _), (16, _), (6, _), (0, _), (1, _), (2, _), (3, _), (4, _), (5, _)] [] a := Z
 replace Y : St No w0 [_, _, _, _, _, _] w5 := Y
 replace Y : St No w0 [own (.slice (some ⟨b3, 0, none⟩) 1 1) 48 5 ([[iv x.t, iv x.kind, iv x.a, iv x.b, sv x.text]]), blk b5 [iv 0, .slice none 0 0] 25, own s4 48 5 ((l ++ [x]).map Rec.cells), blk w2.hz [iv 0, .slice none 0 0] 25, blk w1.hz [iv x.t, iv x.kind, iv x.a, iv x.b, sv x.text] 48, blk w0.hz [iv o, lv] 25] w5 := by rw [List.map_append]; exact Y
 refine ab <| aP (k := 11) 12 [11] kr kr kr ?_
 refine bu (us := [iv o, s4]) 1 Z Y rfl rfl rfl (sizeOf25 _) (by intro z hz; simp only [List.mem_cons, List.not_mem_nil, or_false] at hz; rcases hz with rfl | rfl <;> first | rfl | exact SlAt.one (Y.ow 2 rfl)) (lb rfl) (ds := [iv o, s4]) rfl rfl ?_
 clear Z Y
 intro a w6 Z Y
 refine ab <| aS kr ?_
 refine hK2 _ _ ?_
 replace Z := Z.p4 2 4 5 6 rfl
 replace Y := Y.k4 46 rfl
 refine ae fun K3 hK3 => aa fun K4 hK4 => wlv Z (aw (Y.g 3 rfl) rfl (isAgg25 _) (sizeOf25 _)) fun a Z => am Z Y de call37 rfl (dL o lv l _ (Y.arg hlv)) ?_
 clear Z Y
 intro a w7 Z Y
 refine wlv Z (bq rfl) fun a Z => wlm Z rfl fun a Z => ?_
 rcases Bool.eq_false_or_eq_true (!(logOk o l)) with hb6 | hb6
 ·rw [hb6] at Z
  try simp only [qz] at hb6
  refine wln Z fun a Z => wln Z fun a Z => wln Z fun a Z => wlv Z (az rfl rfl) fun a Z => ab (hK4 _ _ ?_)
  replace Z := Z.p4 4 5 6 24 rfl
  replace Y := Y.k3 7 rfl
  refine aI Z rfl ?_
  refine aa fun K5 hK5 => wlv Z (bA (v := .agg #[iv 0, .slice none 0 0]) rfl kr) fun a Z => aH 2 Z Y rfl rfl rfl (sizeOf25 _) rfl (lb rfl) (ds := [iv 0, .slice none 0 0]) rfl rfl ?_
  clear Z Y
  intro a w8 Z Y
  refine wla Z rfl fun a Z => ab (hK5 _ _ <| ap ?_)
  refine al Z results35 (aM rfl (bU (Y.g 2 rfl) (isAgg25 _) (sizeOf25 _)) (ac rfl ag)) ?_
  replace Y : St No w0 [own (.slice none 0 0) 48 5 ((([] : List Rec)).map Rec.cells), blk b5 [iv o, s4] 25, own s4 48 5 ((l ++ [x]).map Rec.cells), blk w2.hz [iv 0, .slice none 0 0] 25] w8 := Y.nil_own
  exact ⟨.slice none 0 0, rfl, trivial, Y.ext, St.out (E := [own (.slice none 0 0) 48 5 ((([] : List Rec)).map Rec.cells)]) (H := []) (Y.select [0] de)⟩
 rw [hb6] at Z
 try simp only [qz] at hb6
 refine wly Z (aw (Y.g 0 rfl) rfl (isAgg25 _) (sizeOf25 _)) fun a Z => ba Z Y de rfl de rfl call37 rfl (dL o s4 (l ++ [x]) _ (Y.ow 1 rfl)) ?_
 clear Z Y
 intro a w9 Z Y
 refine wly Z (bq rfl) fun a Z => wlv Z (ay rfl rfl) fun a Z => ab (hK4 _ _ ?_)
 replace Z := Z.p4 4 5 6 24 rfl
 replace Y := Y.k3 7 rfl
 refine ax Z rfl (fun hc7 => ?_) (fun hc7 => ?_)
 ·rw [hc7] at Z
  try simp only [qz] at hc7
  refine aa fun K6 hK6 => wlv Z (bA (v := .agg #[iv 0, .slice none 0 0]) rfl kr) fun a Z => aH 2 Z Y rfl rfl rfl (sizeOf25 _) rfl (lb rfl) (ds := [iv 0, .slice none 0 0]) rfl rfl ?_
  clear Z Y
  intro a w10 Z Y
  refine wla Z rfl fun a Z => ab (hK6 _ _ <| ap ?_)
  refine al Z results35 (aM rfl (bU (Y.g 2 rfl) (isAgg25 _) (sizeOf25 _)) (ac rfl ag)) ?_
  replace Y : St No w0 [own (.slice none 0 0) 48 5 ((([] : List Rec)).map Rec.cells), blk b5 [iv o, s4] 25, own s4 48 5 ((l ++ [x]).map Rec.cells), blk w2.hz [iv 0, .slice none 0 0] 25] w10 := Y.nil_own
  exact ⟨.slice none 0 0, rfl, trivial, Y.ext, St.out (E := [own (.slice none 0 0) 48 5 ((([] : List Rec)).map Rec.cells)]) (H := []) (Y.select [0] de)⟩
 rw [hc7] at Z
 try simp only [qz] at hc7
 exfalso; unfold addOk at hok; simp only [hb6, hc7] at hok; simp at hok
theorem jh (o : Int) (lv : Value) (l : List Rec) (kind at_ : Int) (w0 : World) (hlv : SlAt w0 lv 5 (l.map Rec.cells)) :
  Ret Tryz.prog 36 #[.agg #[iv o, lv], iv kind, iv at_] w0 fun v w => v = iv (findH o l kind at_) ∧ Ext No w0 w := by
 have hxb := hlv.2.1
 simp only [List.length_map, big] at hxb
 refine aD func36 rfl ntmps36 (lb rfl) fun a Z => ?_
 replace Z := Z.p3 0 1 2 rfl
 replace Y : St No w0 [] w0 := St.init w0
 refine aa fun K1 hK1 => bj Z Y de rfl (cs := [iv o, lv]) rfl ?_
 clear Z Y
 intro a w1 Z Y
 refine bj Z Y de rfl (cs := [iv kind]) rfl ?_
 clear Z Y
 intro a w2 Z Y
 refine bj Z Y de rfl (cs := [iv at_]) rfl ?_
 clear Z Y
 intro a w3 Z Y
 refine aU Z Y de (zeroValue3 _) (cs := [iv 0]) rfl ?_
 clear Z Y
 intro a w4 Z Y
 refine ab (hK1 _ _ <| ae fun K2 hK2 => ?_)
 refine aa fun K3 hK3 => wlv Z (aw (Y.g 3 rfl) rfl (isAgg25 _) (sizeOf25 _)) fun a Z => am Z Y de call37 rfl (dL o lv l _ (Y.arg hlv)) ?_
 clear Z Y
 intro a w5 Z Y
 refine wlv Z (bq rfl) fun a Z => ab (hK3 _ _ ?_)
 refine ax Z rfl (fun hc1 => ?_) (fun hc1 => ?_)
 ·rw [hc1] at Z
  try simp only [qz, Bool.and_eq_true, Bool.or_eq_true, Bool.and_eq_false_iff, Bool.or_eq_false_iff] at hc1
  have hlo : logOk o l = false := by simpa using hc1
  refine aa fun K4 hK4 => aH 0 Z Y rfl rfl rfl (sizeOf3 _) rfl (lb rfl) (ds := [iv (-1)]) rfl rfl ?_
  clear Z Y
  intro a w6 Z Y
  refine ab (hK4 _ _ ?_)
  replace Z := Z.p4 3 4 5 6 rfl
  refine ap ?_
  refine al Z results36 (aM rfl (cF (Y.g 0 rfl) (isAgg3 _)) ag) ?_
  exact ⟨by simp only [retv]; rw [findH, if_neg (by rw [hlo]; decide)]; try rfl, Y.ext⟩
 rw [hc1] at Z
 try simp only [qz, Bool.and_eq_true, Bool.or_eq_true, Bool.and_eq_false_iff, Bool.or_eq_false_iff] at hc1
 have hlo : logOk o l = true := by simpa using hc1
 refine ar <| hK2 _ _ <| ae fun K5 hK5 => aa fun K6 hK6 => wlv Z (aw (Y.g 3 rfl) rfl (isAgg25 _) (sizeOf25 _)) fun a Z => aK Z Y de call74 rfl (j4 o lv _ l (Y.arg hlv)) ?_
 clear Z Y
 intro a w7 x2 hp Z Y
 revert x2 hp Z Y; rintro z1 hp Z Y
 clear hp
 replace Y : St No w0 [_, _, _, _, _] w7 := Y
 refine ab (hK6 _ _ ?_)
 replace Z := Z.p4 4 5 6 13 rfl
 replace Y := Y.k4 15 rfl
 refine aq ?_
 replace Y : St No w0 [blk w1.hz [iv kind] 3, blk w2.hz [iv at_] 3, blk w3.hz [iv 0] 3, blk z1 [iv o, lv] 25] w7 := Y.select [3, 2, 1, 0] de
 replace Z : Fr 27 [(4, pt w1.hz), (5, pt w2.hz), (6, pt w3.hz), (13, .func (.func 98) #[] #[pt z1])] [] a := Z.pick [4, 5, 6, 13]
 refine cU (M := No) (w0 := w0) (encs := (encRb l)) (Hi := [blk z1 [iv o, lv] 25]) (Hc := [blk w1.hz [iv kind] 3, blk w2.hz [iv at_] 3, blk w3.hz [iv 0] 3]) (fun pre H => (findF (hitR kind at_) l l.length = findF (hitR kind at_) l (l.length - (pre : List Nat).length)) ∧ H = [blk w1.hz [iv kind] 3, blk w2.hz [iv at_] 3, blk w3.hz [iv 0] 3]) (fun c pre H => c = .ret ∧ ∃ (i : Nat), (findF (hitR kind at_) l l.length = (i : Int)) ∧ H = [blk w1.hz [iv kind] 3, blk w2.hz [iv at_] 3, blk w3.hz [iv (i : Int)] 3]) (fun pre xs H a => ∃ (bA0 : Nat), Fr 27 [(4, pt w1.hz), (5, pt w2.hz), (6, pt w3.hz), (13, .func (.func 98) #[] #[pt z1]), (7, iv (xs : Int)), (8, pt bA0)] [] a ∧ (findF (hitR kind at_) l l.length = findF (hitR kind at_) l (l.length - (pre : List Nat).length)) ∧ H = [blk bA0 [iv ((l.getD xs Rec.z).t), iv ((l.getD xs Rec.z).kind), iv ((l.getD xs Rec.z).a), iv ((l.getD xs Rec.z).b), sv ((l.getD xs Rec.z).text)] 48, blk w1.hz [iv kind] 3, blk w2.hz [iv at_] 3, blk w3.hz [iv 0] 3]) rfl call98 Z Y (gx o lv l z1 (by have := co hlo; omega) (fun H w h => h.arg hlv)) de (fun _ => rfl) ⟨sm, rfl⟩ ?_ ?_ ?_ ?_
 ·clear Z Y
  rintro lp pre xs _ a w8 hnx ⟨hfi, rfl⟩ Z Y
  generalize (join [blk w1.hz [iv kind] 3, blk w2.hz [iv at_] 3, blk w3.hz [iv 0] 3]).foot = M1 at Y ⊢
  replace Z : Fr 27 [(15, .agg #[iv ((l.getD xs Rec.z).t), iv ((l.getD xs Rec.z).kind), iv ((l.getD xs Rec.z).a), iv ((l.getD xs Rec.z).b), sv ((l.getD xs Rec.z).text)]), (14, iv (xs : Int)), (4, pt w1.hz), (5, pt w2.hz), (6, pt w3.hz), (13, .func (.func 98) #[] #[pt z1])] [] a := Z
  refine aa fun K7 hK7 => wla Z rfl fun a Z => ab (hK7 _ _ <| ao ?_)
  refine aU Z Y de (zeroValue48 _) (cs := [iv 0, iv 0, iv 0, iv 0, .string (⟨#[]⟩)]) rfl ?_
  clear Z Y
  intro a w9 Z Y
  refine aH 0 Z Y rfl rfl rfl (sizeOf48 _) rfl (lb rfl) (ds := [iv ((l.getD xs Rec.z).t), iv ((l.getD xs Rec.z).kind), iv ((l.getD xs Rec.z).a), iv ((l.getD xs Rec.z).b), sv ((l.getD xs Rec.z).text)]) rfl rfl ?_
  clear Z Y
  intro a w10 Z Y
  refine ab ?_
  exact ⟨_, ⟨w8.hz, Z.pick [4, 5, 6, 13, 7, 8], hfi, rfl⟩, Y⟩
 ·rintro lp pre xs _ a w11 hnx ⟨bA0, Z, hfi, rfl⟩ hout hrec hnl Y
  clear hrec hnl
  generalize (join [blk bA0 [iv ((l.getD xs Rec.z).t), iv ((l.getD xs Rec.z).kind), iv ((l.getD xs Rec.z).a), iv ((l.getD xs Rec.z).b), sv ((l.getD xs Rec.z).text)] 48, blk w1.hz [iv kind] 3, blk w2.hz [iv at_] 3, blk w3.hz [iv 0] 3]).foot = M1 at Y hout ⊢
  refine aq <| aa fun K8 hK8 => wlv Z (ak (v := po bA0 1) rfl kr) fun a Z => wlv Z (ld Y 0 rfl rfl (isAgg3 _) rfl) fun a Z => wlv Z (ld Y 1 rfl rfl (isAgg3 _) rfl) fun a Z => wlv Z (v_eq rfl rfl) fun a Z => wlm Z rfl fun a Z => ?_
  refine cR (N := 27) (df := []) 5 [(25, .bool ((decide ((l.getD xs Rec.z).kind = kind)) && (decide ((l.getD xs Rec.z).t ≤ at_)))), (4, pt w1.hz), (5, pt w2.hz), (6, pt w3.hz), (13, .func (.func 98) #[] #[pt z1]), (7, iv (xs : Int)), (8, pt bA0)] ?_ (fun hj => ?_)
  rotate_left
  ·rcases Bool.eq_false_or_eq_true (decide ((l.getD xs Rec.z).kind = kind)) with hb3 | hb3
   ·rw [hb3] at Z
    have hb3b := hb3
    try simp only [qz, Bool.and_eq_true, Bool.or_eq_true, Bool.and_eq_false_iff, Bool.or_eq_false_iff] at hb3
    refine wly Z (ak (v := pt bA0) rfl kr) fun a Z => wly Z (ld Y 0 rfl rfl (isAgg3 _) rfl) fun a Z => wly Z (ld Y 2 rfl rfl (isAgg3 _) rfl) fun a Z => wly Z (v_le rfl rfl) fun a Z => wlv Z (az rfl rfl) fun a Z => ?_
    refine hj _ ?_
    try rw [hb3b]
    exact Z.pick [25, 4, 5, 6, 13, 7, 8]
   rw [hb3] at Z
   have hb3b := hb3
   try simp only [qz, Bool.and_eq_true, Bool.or_eq_true, Bool.and_eq_false_iff, Bool.or_eq_false_iff] at hb3
   refine wln Z fun a Z => wln Z fun a Z => wln Z fun a Z => wln Z fun a Z => wlv Z (ay rfl rfl) fun a Z => ?_
   refine hj _ ?_
   try rw [hb3b]
   exact Z.pick [25, 4, 5, 6, 13, 7, 8]
  intro a Z
  refine ab (hK8 _ _ ?_)
  refine ax Z rfl (fun hc4 => ?_) (fun hc4 => ?_)
  ·rw [hc4] at Z
   try simp only [qz, Bool.and_eq_true, Bool.or_eq_true, Bool.and_eq_false_iff, Bool.or_eq_false_iff] at hc4
   refine aa fun K9 hK9 => wlm Z rfl fun a Z => aH 3 Z Y rfl rfl rfl (sizeOf3 _) rfl (lb rfl) (ds := [iv (xs : Int)]) rfl rfl ?_
   clear Z Y
   intro a w12 Z Y
   refine ab (hK9 _ _ ?_)
   replace Z := Z.p1 6 rfl
   replace Y := Y.k3 14 rfl
   refine ap ?_
   exact ⟨_, ⟨rfl, xs, pJ hnx hfi (by unfold hitR; simp only [Bool.and_eq_true, decide_eq_true_eq]; omega), rfl⟩, Y.select [0, 1, 2] de⟩
  rw [hc4] at Z
  try simp only [qz, Bool.and_eq_true, Bool.or_eq_true, Bool.and_eq_false_iff, Bool.or_eq_false_iff] at hc4
  refine ar ?_
  exact ⟨_, ⟨qp hnx hfi (by unfold hitR; simp only [Bool.and_eq_false_iff, decide_eq_false_iff_not]; omega), rfl⟩, Y.select [1, 2, 3] de⟩
 ·rintro D pre _ _ a w13 ⟨rfl, rfl⟩ ⟨hfi, rfl⟩ Y Z
  replace Z : Fr 27 [(4, pt w1.hz), (5, pt w2.hz), (6, pt w3.hz), (13, .func (.func 98) #[] #[pt z1])] [{ target := .collected D, args := #[] }] a := Z
  replace Y : St No w0 [_, _, _, _, _] w13 := Y
  refine hK5 _ _ <| aa fun K10 hK10 => aH 3 Z Y rfl rfl rfl (sizeOf3 _) rfl (lb rfl) (ds := [iv (-1)]) rfl rfl ?_
  clear Z Y
  intro a w14 Z Y
  refine ab (hK10 _ _ <| ap ?_)
  have hD := Y.g 0 rfl
  replace Y := Y.unmark (i := 0) (o' := .deferred none) rfl
  replace Y : St No w0 [_, _, _, _] _ := Y
  refine bV Z hD results36 (aM rfl (cF (Y.g 2 rfl) (isAgg3 _)) ag) ?_
  exact ⟨by simp only [retv]; rw [findH, if_pos hlo, oM hfi]; try rfl, Y.ext⟩
 ·rintro D _ pre _ _ a w15 rfl ⟨rfl, i, hfh, rfl⟩ Y Z
  replace Z : Fr 27 [(4, pt w1.hz), (5, pt w2.hz), (6, pt w3.hz), (13, .func (.func 98) #[] #[pt z1])] [{ target := .collected D, args := #[] }] a := Z
  replace Y : St No w0 [_, _, _, _, _] w15 := Y
  refine ap ?_
  have hD := Y.g 0 rfl
  replace Y := Y.unmark (i := 0) (o' := .deferred none) rfl
  replace Y : St No w0 [_, _, _, _] _ := Y
  refine bV Z hD results36 (aM rfl (cF (Y.g 2 rfl) (isAgg3 _)) ag) ?_
  exact ⟨by simp only [retv]; rw [findH, if_pos hlo, hfh]; try rfl, Y.ext⟩
theorem ft (o : Int) (lv : Value) (l : List Rec) (w0 : World) (hlv : SlAt w0 lv 5 (l.map Rec.cells)) (hlo : logOk o l = true) :
  Ret Tryz.prog 40 #[.agg #[iv o, lv]] w0 (MemR w0 (fun v : Value => .tuple #[v, .bool true]) (fun v => [own v 9 1 ((codesB l).map fun s => [sv s])]) (fun _ => True)) := by
 have hxb := hlv.2.1
 simp only [List.length_map, big] at hxb
 have hl60 := co hlo
 refine aD func40 rfl ntmps40 (lb rfl) fun a Z => ?_
 replace Z := Z.p1 0 rfl
 replace Y : St No w0 [] w0 := St.init w0
 refine aa fun K1 hK1 => bj Z Y de rfl (cs := [iv o, lv]) rfl ?_
 clear Z Y
 intro a w1 Z Y
 refine wla Z rfl fun a Z => wla Z rfl fun a Z => ab (hK1 _ _ <| ae fun K2 hK2 => ?_)
 refine aa fun K3 hK3 => wlv Z (aw (Y.g 0 rfl) rfl (isAgg25 _) (sizeOf25 _)) fun a Z => am Z Y de call37 rfl (dL o lv l _ (Y.arg hlv)) ?_
 clear Z Y
 intro a w2 Z Y
 refine wlv Z (bq rfl) fun a Z => ab (hK3 _ _ ?_)
 refine ax Z rfl (fun hc1 => ?_) (fun hc1 => ?_)
 ·rw [hc1] at Z
  try simp only [qz] at hc1
  exfalso; simp [hlo] at hc1
 rw [hc1] at Z
 try simp only [qz] at hc1
 refine ar <| hK2 _ _ <| aa fun K4 hK4 => wlv Z (ak (v := po w0.hz 1) rfl kr) fun a Z => wlv Z (ld Y 0 rfl rfl (isAgg23 _) rfl) fun a Z => wlv Z ((aE (sT := 23) (Y.arg hlv) rfl rfl (runUnderlying23 _)).asi (m' := (l.length : Int)) (by rw [List.length_map])) fun a Z => iU (n := l.length) (E := 9) (sz := 1) rfl rfl ((List.replicate l.length ([] : By)).map fun s => [sv s]) (l3 underlying26 (inf := Tryz.t9) rfl rfl rfl rfl de l.length (by rw [List.map_replicate]; rfl) om _) (by intro e he; obtain ⟨_, _, rfl⟩ := List.mem_map.1 he; rfl) sm (by simp only [big]; omega) de Z Y ?_
 clear Z Y
 intro a w3 Z Y
 refine aU Z Y de (zeroValue26 _) (cs := [.slice none 0 0]) rfl ?_
 clear Z Y
 intro a w4 Z Y
 refine aH 0 Z Y rfl rfl rfl (sizeOf26 _) rfl (lb rfl) (ds := [(.slice (some ⟨w2.hz, 0, none⟩) l.length l.length)]) rfl rfl ?_
 clear Z Y
 intro a w5 Z Y
 refine ab (hK4 _ _ ?_)
 replace Z := Z.p4 1 2 3 4 rfl
 refine ae fun K5 hK5 => aa fun K6 hK6 => wlv Z (aw (Y.g 2 rfl) rfl (isAgg25 _) (sizeOf25 _)) fun a Z => aK Z Y de call74 rfl (j4 o lv _ l (Y.arg hlv)) ?_
 clear Z Y
 intro a w6 x2 hp Z Y
 revert x2 hp Z Y; rintro z1 hp Z Y
 clear hp
 replace Y : St No w0 [_, _, _, _] w6 := Y
 refine ab (hK6 _ _ <| aq ?_)
 replace Y : St No w0 [blk z1 [iv o, lv] 25, blk w3.hz [(.slice (some ⟨w2.hz, 0, none⟩) l.length l.length)] 26, own (.slice (some ⟨w2.hz, 0, none⟩) l.length l.length) 9 1 ((outR l ([] : List Nat).length).map fun s => [sv s]), blk w0.hz [iv o, lv] 25] w6 := by rw [show outR l ([] : List Nat).length = _ from qw l]; exact Y
 replace Y : St No w0 [blk w3.hz [(.slice (some ⟨w2.hz, 0, none⟩) l.length l.length)] 26, own (.slice (some ⟨w2.hz, 0, none⟩) l.length l.length) 9 1 ((outR l ([] : List Nat).length).map fun s => [sv s]), blk z1 [iv o, lv] 25] w6 := Y.select [1, 2, 0] de
 replace Z : Fr 27 [(1, pt w0.hz), (2, .slice none 0 0), (3, .bool false), (4, pt w3.hz), (14, .agg #[iv o, lv]), (15, .func (.func 98) #[] #[pt z1])] [] a := Z.pick [1, 2, 3, 4, 14, 15]
 refine cU (M := No) (w0 := w0) (encs := (encRb l)) (Hi := [blk z1 [iv o, lv] 25]) (Hc := [blk w3.hz [(.slice (some ⟨w2.hz, 0, none⟩) l.length l.length)] 26, own (.slice (some ⟨w2.hz, 0, none⟩) l.length l.length) 9 1 ((outR l ([] : List Nat).length).map fun s => [sv s])]) (fun pre H => (True) ∧ H = [blk w3.hz [(.slice (some ⟨w2.hz, 0, none⟩) l.length l.length)] 26, own (.slice (some ⟨w2.hz, 0, none⟩) l.length l.length) 9 1 ((outR l (pre : List Nat).length).map fun s => [sv s])]) (fun _ _ _ => False) (fun pre xs H a => ∃ (bA0 : Nat), Fr 27 [(1, pt w0.hz), (2, .slice none 0 0), (3, .bool false), (4, pt w3.hz), (14, .agg #[iv o, lv]), (15, .func (.func 98) #[] #[pt z1]), (5, iv (xs : Int)), (6, pt bA0)] [] a ∧ (True) ∧ H = [blk bA0 [iv ((l.getD xs Rec.z).t), iv ((l.getD xs Rec.z).kind), iv ((l.getD xs Rec.z).a), iv ((l.getD xs Rec.z).b), sv ((l.getD xs Rec.z).text)] 48, blk w3.hz [(.slice (some ⟨w2.hz, 0, none⟩) l.length l.length)] 26, own (.slice (some ⟨w2.hz, 0, none⟩) l.length l.length) 9 1 ((outR l (pre : List Nat).length).map fun s => [sv s])]) rfl call98 Z Y (gx o lv l z1 (by have := co hlo; omega) (fun H w h => h.arg hlv)) de (fun _ => rfl) ⟨trivial, rfl⟩ ?_ ?_ ?_ ?_
 ·clear Z Y
  rintro lp pre xs _ a w7 hnx ⟨htr, rfl⟩ Z Y
  generalize (join [blk w3.hz [(.slice (some ⟨w2.hz, 0, none⟩) l.length l.length)] 26, own (.slice (some ⟨w2.hz, 0, none⟩) l.length l.length) 9 1 ((outR l (pre : List Nat).length).map fun s => [sv s])]).foot = M1 at Y ⊢
  replace Z : Fr 27 [(17, .agg #[iv ((l.getD xs Rec.z).t), iv ((l.getD xs Rec.z).kind), iv ((l.getD xs Rec.z).a), iv ((l.getD xs Rec.z).b), sv ((l.getD xs Rec.z).text)]), (16, iv (xs : Int)), (1, pt w0.hz), (2, .slice none 0 0), (3, .bool false), (4, pt w3.hz), (14, .agg #[iv o, lv]), (15, .func (.func 98) #[] #[pt z1])] [] a := Z
  refine aa fun K7 hK7 => wla Z rfl fun a Z => ab (hK7 _ _ <| ao ?_)
  refine aU Z Y de (zeroValue48 _) (cs := [iv 0, iv 0, iv 0, iv 0, .string (⟨#[]⟩)]) rfl ?_
  clear Z Y
  intro a w8 Z Y
  refine aH 0 Z Y rfl rfl rfl (sizeOf48 _) rfl (lb rfl) (ds := [iv ((l.getD xs Rec.z).t), iv ((l.getD xs Rec.z).kind), iv ((l.getD xs Rec.z).a), iv ((l.getD xs Rec.z).b), sv ((l.getD xs Rec.z).text)]) rfl rfl ?_
  clear Z Y
  intro a w9 Z Y
  refine ab ?_
  exact ⟨_, ⟨w7.hz, Z.pick [1, 2, 3, 4, 14, 15, 5, 6], htr, rfl⟩, Y⟩
 ·rintro lp pre xs _ a w10 hnx ⟨bA0, Z, htr, rfl⟩ hout hrec hnl Y
  clear hrec hnl
  generalize (join [blk bA0 [iv ((l.getD xs Rec.z).t), iv ((l.getD xs Rec.z).kind), iv ((l.getD xs Rec.z).a), iv ((l.getD xs Rec.z).b), sv ((l.getD xs Rec.z).text)] 48, blk w3.hz [(.slice (some ⟨w2.hz, 0, none⟩) l.length l.length)] 26, own (.slice (some ⟨w2.hz, 0, none⟩) l.length l.length) 9 1 ((outR l (pre : List Nat).length).map fun s => [sv s])]).foot = M1 at Y hout ⊢
  refine aq <| aF kr ?_
  replace Z := Z.p8 1 2 3 4 14 15 5 6 rfl
  replace Y : St M1 w10 [own (.slice (some ⟨w2.hz, 0, none⟩) l.length l.length) 9 1 ((outR l (pre : List Nat).length).map fun s => [sv s]), blk bA0 [iv ((l.getD xs Rec.z).t), iv ((l.getD xs Rec.z).kind), iv ((l.getD xs Rec.z).a), iv ((l.getD xs Rec.z).b), sv ((l.getD xs Rec.z).text)] 48, blk w3.hz [(.slice (some ⟨w2.hz, 0, none⟩) l.length l.length)] 26] w10 := Y.select [2, 0, 1] de
  have hso3 := Y.ow 0 rfl
  refine ez [8] (fun q => if q = 8 then own (.slice (some ⟨w2.hz, 0, none⟩) l.length l.length) 9 1 ((outR l (pre : List Nat).length).map fun s => [sv s]) else join []) (fun q => if q = 8 then own (.slice (some ⟨w2.hz, 0, none⟩) l.length l.length) 9 1 ((outR l ((pre ++ [xs]) : List Nat).length).map fun s => [sv s]) else join []) 9 [[], [], [], [2], [3], [4], [4], [0, 1], [5, 7]] (fun i => match i with | 0 => pv ((.slice (some ⟨w2.hz, 0, none⟩) l.length l.length)) | 1 => pv (iv (xs : Int)) | 2 => pv (.agg #[iv ((l.getD xs Rec.z).t), iv ((l.getD xs Rec.z).kind), iv ((l.getD xs Rec.z).a), iv ((l.getD xs Rec.z).b), sv ((l.getD xs Rec.z).text)]) | 3 => pv (.tuple #[sv (eB (l.getD xs Rec.z)), iv (eE (l.getD xs Rec.z))]) | 4 => pv (.tuple #[sv (eB (l.getD xs Rec.z)), iv (eE (l.getD xs Rec.z))]) | 5 => pv (sv (eB (l.getD xs Rec.z))) | 6 => pv (iv (eE (l.getD xs Rec.z))) | 7 => pv (slAddr (.slice (some ⟨w2.hz, 0, none⟩) l.length l.length) (xs * 1)) | 8 => fun v E => v = undef ∧ E = [] | _ => fun _ _ => False) (by intro q; by_cases h8 : q = 8; (subst h8; rfl); simp only [h8, if_false]) Z (H := [blk bA0 [iv ((l.getD xs Rec.z).t), iv ((l.getD xs Rec.z).kind), iv ((l.getD xs Rec.z).a), iv ((l.getD xs Rec.z).b), sv ((l.getD xs Rec.z).text)] 48, blk w3.hz [(.slice (some ⟨w2.hz, 0, none⟩) l.length l.length)] 26]) Y kr kr kr kr de de ?_ ?_ ?_ ?_ ?_ ?_
  ·intro i v E h
   match i, h with
   | 0, _ => exact by decide
   | 1, _ => exact by decide
   | 2, _ => exact by decide
   | 3, _ => exact by decide
   | 4, _ => exact by decide
   | 5, _ => exact by decide
   | 6, _ => exact by decide
   | 7, _ => exact by decide
   | 8, _ => exact by decide
   | i + 9, h => exact h.elim
  ·intro q v E hq h
   simp only [List.mem_cons, List.not_mem_nil, or_false] at hq
   rcases hq with rfl <;> exact h
  ·intro q hq
   simp only [List.mem_cons, List.not_mem_nil, or_false] at hq
   rcases hq with rfl <;> exact ⟨rfl, rfl⟩
  ·intro i hi hiq e
   match i, hi, hiq with
   | 0, _, _ => exact fun w Y => OpV.g (ld Y 2 rfl rfl (isAgg26 _) rfl)
   | 1, _, _ => exact fun w Y => OpV.g (ah rfl)
   | 2, _, _ => exact fun w Y => OpV.g (aw (Y.g 1 rfl) rfl (isAgg48 _) (sizeOf48 _))
   | 3, _, _ =>
    rintro _ _ ⟨rfl, rfl⟩
    intro w Y
    exact bw call33 rfl (jj (l.getD xs Rec.z) _)
   | 4, _, _ =>
    rintro _ _ ⟨rfl, rfl⟩
    intro w Y
    exact OpV.g (ah rfl)
   | 5, _, _ =>
    rintro _ _ ⟨rfl, rfl⟩
    intro w Y
    exact OpV.g (ai rfl rfl)
   | 6, _, _ =>
    rintro _ _ ⟨rfl, rfl⟩
    intro w Y
    exact OpV.g (ai rfl rfl)
   | 7, _, _ =>
    rintro _ _ ⟨rfl, rfl⟩ _ _ ⟨rfl, rfl⟩
    intro w Y
    exact OpV.g ((fN (i := (xs : Int)) hso3 rfl rfl (runUnderlying26 _) (sizeOf9 _) om (by have h9 : xs + 1 + pre.length = l.length := hnx; rw [List.length_map, jM _ _ om]; omega)).as (v' := slAddr (.slice (some ⟨w2.hz, 0, none⟩) l.length l.length) (xs * 1)) rfl)
   | 8, _, h => exact absurd de h
  ·intro q hq
   simp only [List.mem_cons, List.not_mem_nil, or_false] at hq
   rcases hq with rfl
   ·rintro _ _ ⟨rfl, rfl⟩ _ _ ⟨rfl, rfl⟩
    intro w h
    exact kq (k := xs) (j := 0) rfl rfl h (by have h9 : xs + 1 + pre.length = l.length := hnx; rw [List.length_map, jM _ _ om]; omega) om (sizeOf9 _) (by simp [Value.oneCell', yv, wv, sv, Value.cells]) (lb rfl) (els' := ((outR l ((pre ++ [xs]) : List Nat).length).map fun s => [sv s])) (oe hnx _)
  clear Z Y
  rintro _ _ ⟨rfl, rfl⟩ _ _ ⟨rfl, rfl⟩ _ _ ⟨rfl, rfl⟩ _ _ ⟨rfl, rfl⟩ _ _ ⟨rfl, rfl⟩ _ _ ⟨rfl, rfl⟩ _ _ ⟨rfl, rfl⟩ _ _ ⟨rfl, rfl⟩ a w11 Z Y
  replace Z : Fr 27 [(19, _), (20, _), (21, _), (22, _), (18, _), (23, _), (24, _), (25, _), (1, _), (2, _), (3, _), (4, _), (14, _), (15, _), (5, _), (6, _)] [] a := Z
  replace Y : St M1 w10 [_, _, _] w11 := Y
  refine ab ?_
  exact ⟨_, ⟨trivial, rfl⟩, Y.select [2, 0] de⟩
 ·rintro D pre _ _ a w12 ⟨rfl, rfl⟩ ⟨htr, rfl⟩ Y Z
  replace Z : Fr 27 [(1, pt w0.hz), (2, .slice none 0 0), (3, .bool false), (4, pt w3.hz), (14, .agg #[iv o, lv]), (15, .func (.func 98) #[] #[pt z1])] [{ target := .collected D, args := #[] }] a := Z
  replace Y : St No w0 [_, _, _, _] w12 := Y
  refine hK5 _ _ <| aa fun K8 hK8 => wlv Z (ld Y 1 rfl rfl (isAgg26 _) rfl) fun a Z => wla Z rfl fun a Z => wla Z rfl fun a Z => ab (hK8 _ _ <| ap ?_)
  have hD := Y.g 0 rfl
  replace Y := Y.unmark (i := 0) (o' := .deferred none) rfl
  replace Y : St No w0 [_, _, _] _ := Y
  refine bV Z hD results40 (ac rfl (ac rfl ag)) ?_
  rw [nC] at Y
  exact ⟨(.slice (some ⟨w2.hz, 0, none⟩) l.length l.length), rfl, trivial, Y.ext, St.out (E := [own (.slice (some ⟨w2.hz, 0, none⟩) l.length l.length) 9 1 ((codesB l).map fun s => [sv s])]) (H := []) (Y.select [1] de)⟩
 ·rintro D c pre _ _ a w13 _ h
  exact h.elim
theorem n9 (o : Int) (lv : Value) (l : List Rec) (w0 : World) (hlv : SlAt w0 lv 5 (l.map Rec.cells)) (hlo : logOk o l = false) :
  Ret Tryz.prog 40 #[.agg #[iv o, lv]] w0 fun v w => v = .tuple #[.slice none 0 0, .bool false] ∧ Ext No w0 w := by
 refine aD func40 rfl ntmps40 (lb rfl) fun a Z => ?_
 replace Z := Z.p1 0 rfl
 replace Y : St No w0 [] w0 := St.init w0
 refine aa fun K1 hK1 => bj Z Y de rfl (cs := [iv o, lv]) rfl ?_
 clear Z Y
 intro a w1 Z Y
 refine wla Z rfl fun a Z => wla Z rfl fun a Z => ab (hK1 _ _ <| ae fun K2 hK2 => ?_)
 refine aa fun K3 hK3 => wlv Z (aw (Y.g 0 rfl) rfl (isAgg25 _) (sizeOf25 _)) fun a Z => am Z Y de call37 rfl (dL o lv l _ (Y.arg hlv)) ?_
 clear Z Y
 intro a w2 Z Y
 refine wlv Z (bq rfl) fun a Z => ab (hK3 _ _ ?_)
 refine ax Z rfl (fun hc1 => ?_) (fun hc1 => ?_)
 ·rw [hc1] at Z
  try simp only [qz] at hc1
  refine aa fun K4 hK4 => wla Z rfl fun a Z => wla Z rfl fun a Z => ab (hK4 _ _ <| ap ?_)
  refine al Z results40 (ac rfl (ac rfl ag)) ?_
  exact ⟨by rfl, Y.ext⟩
 rw [hc1] at Z
 try simp only [qz] at hc1
 exfalso; simp [hlo] at hc1
end Go.Proofs.YtddfkkdanpmnaaaGreatDoor
namespace Go.Proofs.YtddfkkdanpmnaaaGreatDoor
open Go.RowKit Go.PW _root_.Go.Proofs.Tryz
theorem fZ (o : Int) (lv : Value) (l : List Rec) (w0 : World) (hlv : SlAt w0 lv 5 (l.map Rec.cells)) (hk0 : (blk 0 (kOf.map wv) 161).ok w0) :
  Ret Tryz.prog 10 #[.agg #[iv o, lv]] w0 fun v w => v = .tuple #[sv (headB o l), iv (headE o l)] ∧ Ext No w0 w := by
 refine aD func10 rfl ntmps10 (lb rfl) fun a Z => ?_
 replace Z := Z.p1 0 rfl
 replace Y : St No w0 [] w0 := St.init w0
 refine aa fun K1 hK1 => bj Z Y de rfl (cs := [iv o, lv]) rfl ?_
 clear Z Y
 intro a w1 Z Y
 refine wla Z rfl fun a Z => wla Z rfl fun a Z => ab (hK1 _ _ <| aa fun K2 hK2 => ?_)
 refine wlv Z (aw (Y.g 0 rfl) rfl (isAgg25 _) (sizeOf25 _)) fun a Z => ?_
 rcases Bool.eq_false_or_eq_true (logOk o l) with hb1 | hb1
 ·try simp only [qz] at hb1
  have hlo : logOk o l = true := hb1
  have hll : l.length ≤ 60 := co hlo
  refine aK Z Y de call40 rfl (ft o lv l _ (Y.arg hlv) hlo) ?_
  clear Z Y
  intro a w2 x3 hp Z Y
  revert x3 hp Z Y; rintro v2 hp Z Y
  clear hp
  replace Y : St No w0 [_, _] w2 := Y
  refine wlm Z rfl fun a Z => wlv Z (ai rfl rfl) fun a Z => wlv Z (ai rfl rfl) fun a Z => wla Z rfl fun a Z => wla Z rfl fun a Z => ab (hK2 _ _ ?_)
  replace Z := Z.p4 2 3 4 5 rfl
  replace Y := Y.k1 1 rfl
  refine ae fun K3 hK3 => aa fun K4 hK4 => wlm Z rfl fun a Z => wlv Z ((bq rfl).asb (b' := false) rfl) fun a Z => ab (hK4 _ _ <| aL Z rfl ?_)
  refine ar <| hK3 _ _ <| aa fun K5 hK5 => wlm Z rfl fun a Z => am Z Y de call41 rfl (ef v2 (codesB l) _ (Y.ow 0 rfl) (by rw [db]; omega) (fun k hk => Nat.le_trans (eI l _ (aW hk)) de) (Y.keepb hk0)) ?_
  clear Z Y
  intro a w3 Z Y
  refine wla Z rfl fun a Z => wla Z rfl fun a Z => ab (hK5 _ _ ?_)
  replace Z := Z.p2 2 3 rfl
  replace Y : St No w0 [] w3 := Y.mask [false]
  refine ap ?_
  refine al Z results10 (ac rfl (ac rfl ag)) ?_
  exact ⟨by simp only [retv]; unfold headB headE; rw [if_pos hlo, if_pos hlo, cK (bL hlo)], Y.ext⟩
 try simp only [qz] at hb1
 have hlo : logOk o l = false := hb1
 have hll : l.length ≤ l.length := Nat.le_refl _
 refine am Z Y de call40 rfl (n9 o lv l _ (Y.arg hlv) hlo) ?_
 clear Z Y
 intro a w4 Z Y
 refine wlm Z rfl fun a Z => wlv Z (ai rfl rfl) fun a Z => wlv Z (ai rfl rfl) fun a Z => wla Z rfl fun a Z => wla Z rfl fun a Z => ab (hK2 _ _ ?_)
 replace Z := Z.p4 2 3 4 5 rfl
 replace Y : St No w0 [] w4 := Y.mask [false]
 refine ae fun K6 hK6 => aa fun K7 hK7 => wlm Z rfl fun a Z => wlv Z ((bq rfl).asb (b' := true) rfl) fun a Z => ab (hK7 _ _ <| aI Z rfl ?_)
 refine aa fun K8 hK8 => wla Z rfl fun a Z => wla Z rfl fun a Z => ab (hK8 _ _ <| ap ?_)
 refine al Z results10 (ac rfl (ac rfl ag)) ?_
 exact ⟨by simp only [retv]; unfold headB headE; rw [hlo]; rfl, Y.ext⟩
theorem pu (key : By) (o : Int) (lv : Value) (l : List Rec) (w0 : World) (hlv : SlAt w0 lv 5 (l.map Rec.cells)) (hk0 : (blk 0 (kOf.map wv) 161).ok w0) :
  Ret Tryz.prog 13 #[sv key, .agg #[iv o, lv]] w0 fun v w => v = .tuple #[sv (signB key o l), iv (signE key o l)] ∧ Ext No w0 w := by
 refine aD func13 rfl ntmps13 (lb rfl) fun a Z => ?_
 replace Z := Z.p2 0 1 rfl
 replace Y : St No w0 [] w0 := St.init w0
 refine aa fun K1 hK1 => bj Z Y de rfl (cs := [iv o, lv]) rfl ?_
 clear Z Y
 intro a w1 Z Y
 refine wla Z rfl fun a Z => wla Z rfl fun a Z => ab (hK1 _ _ <| aa fun K2 hK2 => ?_)
 refine wlv Z (aw (Y.g 0 rfl) rfl (isAgg25 _) (sizeOf25 _)) fun a Z => am Z Y de call10 rfl (fZ o lv l _ (Y.arg hlv) (Y.keepb hk0)) ?_
 clear Z Y
 intro a w2 Z Y
 refine wlm Z rfl fun a Z => wlv Z (ai rfl rfl) fun a Z => wlv Z (ai rfl rfl) fun a Z => wla Z rfl fun a Z => wla Z rfl fun a Z => ab (hK2 _ _ ?_)
 replace Z := Z.p6 0 3 4 5 6 7 rfl
 refine ae fun K3 hK3 => aa fun K4 hK4 => wlm Z rfl fun a Z => wlv Z (v_ne rfl rfl) fun a Z => wlm Z rfl fun a Z => ?_
 rcases Bool.eq_false_or_eq_true (!decide (headE o l = 0)) with hb1 | hb1
 ·rw [hb1] at Z
  try simp only [qz] at hb1
  have hlo : logOk o l = false := by
   cases h : logOk o l with
   | false => rfl
   | true => exact absurd (dI.2 h) om
  have hsg : signOk key o l = false := by unfold signOk; rw [hlo]; rfl
  refine wln Z fun a Z => wln Z fun a Z => wln Z fun a Z => wlv Z (az rfl rfl) fun a Z => ab (hK4 _ _ ?_)
  replace Z := Z.p6 0 3 4 5 6 19 rfl
  refine aI Z rfl ?_
  refine aa fun K5 hK5 => wla Z rfl fun a Z => wla Z rfl fun a Z => ab (hK5 _ _ <| ap ?_)
  refine al Z results13 (ac rfl (ac rfl ag)) ?_
  exact ⟨by simp only [retv]; unfold signB signE; rw [hsg]; rfl, Y.ext⟩
 rw [hb1] at Z
 try simp only [qz] at hb1
 have hlo : logOk o l = true := dI.1 om
 have hob := hO hlo
 have hlb := co hlo
 have hs0 : small o := by unfold small; omega
 have hs1 : small (l.length : Int) := by unfold small; omega
 have hr32 : (headB o l).length = 32 := by rw [dA hlo]; exact bc aZ _
 refine wly Z (ah rfl) fun a Z => wly Z (bo rfl rfl (runUnderlying9 _)) fun a Z => wly Z (v_ne rfl rfl) fun a Z => wlv Z (ay rfl rfl) fun a Z => ab (hK4 _ _ ?_)
 replace Z := Z.p6 0 3 4 5 6 19 rfl
 refine ax Z rfl (fun hc2 => ?_) (fun hc2 => ?_)
 ·rw [hc2] at Z
  try simp only [qz] at hc2
  have hsg : signOk key o l = false := by unfold signOk; rw [hlo, decide_eq_false om]; rfl
  refine aa fun K6 hK6 => wla Z rfl fun a Z => wla Z rfl fun a Z => ab (hK6 _ _ <| ap ?_)
  refine al Z results13 (ac rfl (ac rfl ag)) ?_
  exact ⟨by simp only [retv]; unfold signB signE; rw [hsg]; rfl, Y.ext⟩
 rw [hc2] at Z
 try simp only [qz] at hc2
 have hsg : signOk key o l = true := by unfold signOk; rw [hlo, decide_eq_true om]; rfl
 refine ar <| hK3 _ _ <| aa fun K7 hK7 => wlm Z rfl fun a Z => wlv Z (ak (v := pt w0.hz) rfl kr) fun a Z => wlv Z (ld Y 0 rfl rfl (isAgg3 _) rfl) fun a Z => wlv Z (ak (v := po w0.hz 1) rfl kr) fun a Z => wlv Z (ld Y 0 rfl rfl (isAgg23 _) rfl) fun a Z => wlv Z ((aE (sT := 23) (Y.arg hlv) rfl rfl (runUnderlying23 _)).asi (m' := (l.length : Int)) (by rw [List.length_map])) fun a Z => wlm Z rfl fun a Z => am Z Y de call46 rfl (mX key o (l.length : Int) (headB o l) _ hs0 hs1 om om (Y.keepb hk0)) ?_
 clear Z Y
 intro a w3 Z Y
 refine wla Z rfl fun a Z => wla Z rfl fun a Z => ab (hK7 _ _ ?_)
 replace Z := Z.p2 4 5 rfl
 replace Y : St No w0 [] w3 := Y.mask [false]
 refine ap ?_
 refine al Z results13 (ac rfl (ac rfl ag)) ?_
 exact ⟨by simp only [retv]; unfold signB signE; rw [if_pos hsg, if_pos hsg, dA hlo], Y.ext⟩
theorem jJ {n a b : Int} (h : inB n a b = true) : a ≤ n ∧ n ≤ b := by simpa [inB] using h
theorem eM (key : By) (owner n : Int) (root t : By) (w0 : World) (hk0 : (blk 0 (kOf.map wv) 161).ok w0) :
  Ret Tryz.prog 15 #[sv key, iv owner, iv n, sv root, sv t] w0 fun v w => v = .bool (genR sha key owner n root t) ∧ Ext No w0 w := by
 refine aD func15 rfl ntmps15 (lb rfl) fun a Z => ?_
 replace Z := Z.p5 0 1 2 3 4 rfl
 replace Y : St No w0 [] w0 := St.init w0
 refine aa fun K1 hK1 => wla Z rfl fun a Z => ab (hK1 _ _ <| aa fun K2 hK2 => ?_)
 refine wlm Z rfl fun a Z => am Z Y de call49 rfl (dP owner 0 99 _) ?_
 clear Z Y
 intro a w1 Z Y
 refine wlm Z rfl fun a Z => ?_
 rcases Bool.eq_false_or_eq_true (inB owner 0 99) with hb1 | hb1
 ·rw [hb1] at Z
  try simp only [qz] at hb1
  have hs0 : small owner := by have h9 := jJ hb1; unfold small; omega
  refine wly Z (ah rfl) fun a Z => ba Z Y de rfl de rfl call49 rfl (dP n 0 60 _) ?_
  clear Z Y
  intro a w2 Z Y
  refine wlv Z (az rfl rfl) fun a Z => wla Z rfl fun a Z => ab (hK2 _ _ ?_)
  replace Z := Z.p7 0 1 2 3 4 10 11 rfl
  refine aa fun K3 hK3 => wlm Z rfl fun a Z => wlm Z rfl fun a Z => ?_
  rcases Bool.eq_false_or_eq_true (inB n 0 60) with hb2 | hb2
  ·rw [hb2] at Z
   try simp only [qz] at hb2
   have hs1 : small n := by have h9 := jJ hb2; unfold small; omega
   refine wly Z (ah rfl) fun a Z => wly Z (bo rfl rfl (runUnderlying9 _)) fun a Z => wly Z (v_eq rfl rfl) fun a Z => wlv Z (az rfl rfl) fun a Z => wlm Z rfl fun a Z => ?_
   rcases Bool.eq_false_or_eq_true (decide ((key.length : Int) = 32)) with hb3 | hb3
   ·rw [hb3] at Z
    try simp only [qz] at hb3
    refine wly Z (ah rfl) fun a Z => wly Z (bo rfl rfl (runUnderlying9 _)) fun a Z => wly Z (v_eq rfl rfl) fun a Z => wlv Z (az rfl rfl) fun a Z => wlm Z rfl fun a Z => ?_
    rcases Bool.eq_false_or_eq_true (decide ((root.length : Int) = 32)) with hb4 | hb4
    ·rw [hb4] at Z
     try simp only [qz] at hb4
     refine wly Z (ah rfl) fun a Z => wly Z (ah rfl) fun a Z => wly Z (ah rfl) fun a Z => wly Z (ah rfl) fun a Z => wly Z (ah rfl) fun a Z => ba Z Y de rfl de rfl call46 rfl (mX key owner n root _ hs0 hs1 om om (Y.keepb hk0)) ?_
     clear Z Y
     intro a w3 Z Y
     refine wly Z (dX rfl rfl) fun a Z => wlv Z (az rfl rfl) fun a Z => wla Z rfl fun a Z => ab (hK3 _ _ ?_)
     replace Z := Z.p1 10 rfl
     refine ap ?_
     refine al Z results15 (ac rfl ag) ?_
     refine ⟨?_, Y.ext⟩
     simp only [retv]
     refine congrArg Value.bool ?_
     unfold genR; rw [decide_eq_true (by omega : key.length = 32), decide_eq_true (by omega : root.length = 32), hb1, hb2]; rfl
    rw [hb4] at Z
    try simp only [qz] at hb4
    refine wln Z fun a Z => wln Z fun a Z => wln Z fun a Z => wln Z fun a Z => wln Z fun a Z => wln Z fun a Z => wln Z fun a Z => wlv Z (ay rfl rfl) fun a Z => wla Z rfl fun a Z => ab (hK3 _ _ ?_)
    replace Z := Z.p1 10 rfl
    refine ap ?_
    refine al Z results15 (ac rfl ag) ?_
    refine ⟨?_, Y.ext⟩
    simp only [retv]
    refine congrArg Value.bool ?_
    rw [eq_comm, Bool.eq_false_iff]; intro h; simp only [genR, Bool.and_eq_true, decide_eq_true_eq] at h
    first | (obtain ⟨⟨⟨⟨h1, h2⟩, h3⟩, h4⟩, h5⟩ := h; first | omega | (rw [h2] at hb4; cases hb4) | (rw [h3] at hb4; cases hb4))
   rw [hb3] at Z
   try simp only [qz] at hb3
   refine wln Z fun a Z => wln Z fun a Z => wln Z fun a Z => wlv Z (ay rfl rfl) fun a Z => wlm Z rfl fun a Z => wln Z fun a Z => wln Z fun a Z => wln Z fun a Z => wln Z fun a Z => wln Z fun a Z => wln Z fun a Z => ?_
   refine wln Z fun a Z => wlv Z (ay rfl rfl) fun a Z => wla Z rfl fun a Z => ab (hK3 _ _ ?_)
   replace Z := Z.p1 10 rfl
   refine ap ?_
   refine al Z results15 (ac rfl ag) ?_
   refine ⟨?_, Y.ext⟩
   simp only [retv]
   refine congrArg Value.bool ?_
   rw [eq_comm, Bool.eq_false_iff]; intro h; simp only [genR, Bool.and_eq_true, decide_eq_true_eq] at h
   first | (obtain ⟨⟨⟨⟨h1, h2⟩, h3⟩, h4⟩, h5⟩ := h; first | omega | (rw [h2] at hb3; cases hb3) | (rw [h3] at hb3; cases hb3))
  rw [hb2] at Z
  try simp only [qz] at hb2
  refine wln Z fun a Z => wln Z fun a Z => wln Z fun a Z => wlv Z (ay rfl rfl) fun a Z => wlm Z rfl fun a Z => wln Z fun a Z => wln Z fun a Z => wln Z fun a Z => wlv Z (ay rfl rfl) fun a Z => wlm Z rfl fun a Z => wln Z fun a Z => wln Z fun a Z => ?_
  refine wln Z fun a Z => wln Z fun a Z => wln Z fun a Z => wln Z fun a Z => wln Z fun a Z => wlv Z (ay rfl rfl) fun a Z => wla Z rfl fun a Z => ab (hK3 _ _ ?_)
  replace Z := Z.p1 10 rfl
  refine ap ?_
  refine al Z results15 (ac rfl ag) ?_
  refine ⟨?_, Y.ext⟩
  simp only [retv]
  refine congrArg Value.bool ?_
  rw [eq_comm, Bool.eq_false_iff]; intro h; simp only [genR, Bool.and_eq_true, decide_eq_true_eq] at h
  first | (obtain ⟨⟨⟨⟨h1, h2⟩, h3⟩, h4⟩, h5⟩ := h; first | omega | (rw [h2] at hb2; cases hb2) | (rw [h3] at hb2; cases hb2))
 rw [hb1] at Z
 try simp only [qz] at hb1
 refine wln Z fun a Z => wln Z fun a Z => wlv Z (ay rfl rfl) fun a Z => wla Z rfl fun a Z => ab (hK2 _ _ ?_)
 replace Z := Z.p7 0 1 2 3 4 10 11 rfl
 refine aa fun K4 hK4 => wlm Z rfl fun a Z => wlm Z rfl fun a Z => wln Z fun a Z => wln Z fun a Z => wln Z fun a Z => wlv Z (ay rfl rfl) fun a Z => wlm Z rfl fun a Z => wln Z fun a Z => wln Z fun a Z => wln Z fun a Z => wlv Z (ay rfl rfl) fun a Z => wlm Z rfl fun a Z => ?_
 refine wln Z fun a Z => wln Z fun a Z => wln Z fun a Z => wln Z fun a Z => wln Z fun a Z => wln Z fun a Z => wln Z fun a Z => wlv Z (ay rfl rfl) fun a Z => wla Z rfl fun a Z => ab (hK4 _ _ ?_)
 replace Z := Z.p1 10 rfl
 refine ap ?_
 refine al Z results15 (ac rfl ag) ?_
 refine ⟨?_, Y.ext⟩
 simp only [retv]
 refine congrArg Value.bool ?_
 rw [eq_comm, Bool.eq_false_iff]; intro h; simp only [genR, Bool.and_eq_true, decide_eq_true_eq] at h
 first | (obtain ⟨⟨⟨⟨h1, h2⟩, h3⟩, h4⟩, h5⟩ := h; first | omega | (rw [h2] at hb1; cases hb1) | (rw [h3] at hb1; cases hb1))
theorem j9 (root : By) (n i : Int) (x : Rec) (pv_ : Value) (ps : List By) (w0 : World) (hpv : SlAt w0 pv_ 1 (ps.map fun s => [sv s])) (hpl : ps.length ≤ 1000) (hn : i64 n) (hk0 : (blk 0 (kOf.map wv) 161).ok w0) :
  Ret Tryz.prog 25 #[sv root, iv n, iv i, .agg #[iv x.t, iv x.kind, iv x.a, iv x.b, sv x.text], pv_] w0 fun v w => v = .bool (checkB root n i x ps) ∧ Ext No w0 w := by
 refine aD func25 rfl ntmps25 (lb rfl) fun a Z => ?_
 replace Z := Z.p5 0 1 2 3 4 rfl
 replace Y : St No w0 [] w0 := St.init w0
 refine aa fun K1 hK1 => bj Z Y de rfl (cs := [iv x.t, iv x.kind, iv x.a, iv x.b, sv x.text]) rfl ?_
 clear Z Y
 intro a w1 Z Y
 refine wla Z rfl fun a Z => ab (hK1 _ _ <| aa fun K2 hK2 => ?_)
 refine wlv Z (aw (Y.g 0 rfl) rfl (isAgg48 _) (sizeOf48 _)) fun a Z => am Z Y de call33 rfl (jj x _) ?_
 clear Z Y
 intro a w2 Z Y
 refine wlm Z rfl fun a Z => wlv Z (ai rfl rfl) fun a Z => wlv Z (ai rfl rfl) fun a Z => wla Z rfl fun a Z => wla Z rfl fun a Z => ab (hK2 _ _ ?_)
 replace Z := Z.p7 0 1 2 4 10 11 12 rfl
 replace Y : St No w0 [] w2 := Y.mask [false]
 refine aa fun K3 hK3 => wlm Z rfl fun a Z => wlv Z (v_eq rfl rfl) fun a Z => wlm Z rfl fun a Z => ?_
 rcases Bool.eq_false_or_eq_true (decide (eE x = 0)) with hb1 | hb1
 ·rw [hb1] at Z
  try simp only [qz] at hb1
  have hxo : x.ok = true := by unfold eE at hb1; cases h : x.ok <;> simp_all
  refine wly Z (ah rfl) fun a Z => wly Z (ah rfl) fun a Z => wly Z (ah rfl) fun a Z => wly Z (ah rfl) fun a Z => wly Z (ah rfl) fun a Z => ba Z Y de rfl de rfl call57 rfl (mK root (eB x) n i pv_ ps _ (Y.arg hpv) om (by have := nE x; omega) (by unfold i64 at hn; omega) (Y.keepb hk0)) ?_
  clear Z Y
  intro a w3 Z Y
  refine wlv Z (az rfl rfl) fun a Z => wla Z rfl fun a Z => ab (hK3 _ _ ?_)
  replace Z := Z.p1 10 rfl
  refine ap ?_
  refine al Z results25 (ac rfl ag) ?_
  exact ⟨by simp only [retv]; unfold checkB; rw [hxo, show eB x = x.enc from if_pos hxo]; rfl, Y.ext⟩
 rw [hb1] at Z
 try simp only [qz] at hb1
 have hxo : x.ok = false := by unfold eE at hb1; cases h : x.ok <;> simp_all
 refine wln Z fun a Z => wln Z fun a Z => wln Z fun a Z => wln Z fun a Z => wln Z fun a Z => wln Z fun a Z => wlv Z (ay rfl rfl) fun a Z => wla Z rfl fun a Z => ab (hK3 _ _ ?_)
 replace Z := Z.p1 10 rfl
 refine ap ?_
 refine al Z results25 (ac rfl ag) ?_
 exact ⟨by simp only [retv]; unfold checkB; rw [hxo]; rfl, Y.ext⟩
theorem dH (old : By) (n : Int) (root : By) (m : Int) (pv_ : Value) (ps : List By) (w0 : World) (hpv : SlAt w0 pv_ 1 (ps.map fun s => [sv s])) (hpl : ps.length ≤ 1000) (hm : i64 m) (hk0 : (blk 0 (kOf.map wv) 161).ok w0) :
  Ret Tryz.prog 23 #[sv old, iv n, sv root, iv m, pv_] w0 fun v w => v = .bool (aO sha old n root m ps) ∧ Ext No w0 w := by
 refine aD func23 rfl ntmps23 (lb rfl) fun a Z => ?_
 replace Z := Z.p5 0 1 2 3 4 rfl
 replace Y : St No w0 [] w0 := St.init w0
 refine aa fun K1 hK1 => wla Z rfl fun a Z => ab (hK1 _ _ <| aa fun K2 hK2 => ?_)
 refine wlm Z rfl fun a Z => wlm Z rfl fun a Z => wlm Z rfl fun a Z => wlm Z rfl fun a Z => wlm Z rfl fun a Z => am Z Y de call55 rfl (kP old root n m pv_ ps _ (Y.arg hpv) om (by unfold i64 at hm; omega) (Y.keepb hk0)) ?_
 clear Z Y
 intro a w1 Z Y
 refine wla Z rfl fun a Z => ab (hK2 _ _ ?_)
 replace Z := Z.p1 10 rfl
 refine ap ?_
 refine al Z results23 (ac rfl ag) ?_
 exact ⟨by rfl, Y.ext⟩
theorem lR {o : Int} {l : List Rec} {v : Value} {i : Nat} {w0 : World} (hlo : logOk o l = true) (hv : SlAt w0 v 1 ((codesB l).map fun s => [sv s])) (hi : i < l.length) (hk0 : (blk 0 (kOf.map wv) 161).ok w0) : Ret Tryz.prog 51 #[v, iv (i : Int)] w0 (MemR w0 (fun v : Value => .tuple #[v, iv 0]) (fun v => [own v 9 1 ((proofH sha (codesR l) i).map fun s => [sv s])]) (fun _ => True)) := by
 rw [cK (bL hlo)] at hv
 have h60 := co hlo
 exact oy v (codesR l) i w0 hv (by rw [bn]; exact hi) (by rw [bn]; omega) (fun s h => Nat.le_trans (bM (bL hlo) s h) de) hk0
theorem gU (o : Int) (lv : Value) (l : List Rec) (i : Nat) (w0 : World) (hlv : SlAt w0 lv 5 (l.map Rec.cells)) (hlo : logOk o l = true) (hi : i < l.length) (hk0 : (blk 0 (kOf.map wv) 161).ok w0) :
  Ret Tryz.prog 50 #[.agg #[iv o, lv], iv (i : Int), .func (.func 51) #[] #[]] w0 (MemR w0 (fun v : Value => .tuple #[v, iv 0]) (fun v => [own v 9 1 ((proofH sha (codesR l) i).map fun s => [sv s])]) (fun _ => True)) := by
 have hll := co hlo
 refine aD func50 rfl ntmps50 (lb rfl) fun a Z => ?_
 replace Z := Z.p3 0 1 2 rfl
 replace Y : St No w0 [] w0 := St.init w0
 refine aa fun K1 hK1 => bj Z Y de rfl (cs := [iv o, lv]) rfl ?_
 clear Z Y
 intro a w1 Z Y
 refine wla Z rfl fun a Z => wla Z rfl fun a Z => ab (hK1 _ _ <| aa fun K2 hK2 => ?_)
 refine wlv Z (aw (Y.g 0 rfl) rfl (isAgg25 _) (sizeOf25 _)) fun a Z => aK Z Y de call40 rfl (ft o lv l _ (Y.arg hlv) hlo) ?_
 clear Z Y
 intro a w2 x2 hp Z Y
 revert x2 hp Z Y; rintro v1 hp Z Y
 clear hp
 replace Y : St No w0 [_, _] w2 := Y
 refine wlm Z rfl fun a Z => wlv Z (ai rfl rfl) fun a Z => wlv Z (ai rfl rfl) fun a Z => wla Z rfl fun a Z => wla Z rfl fun a Z => ab (hK2 _ _ ?_)
 replace Z := Z.p6 1 2 6 7 8 9 rfl
 replace Y := Y.k1 1 rfl
 refine ae fun K3 hK3 => aa fun K4 hK4 => wlm Z rfl fun a Z => wlv Z ((bq rfl).asb (b' := false) rfl) fun a Z => ab (hK4 _ _ <| aL Z rfl ?_)
 refine ar <| hK3 _ _ <| aa fun K5 hK5 => wlm Z rfl fun a Z => wlm Z rfl fun a Z => wlm Z rfl fun a Z => il Z Y de rfl call51 rfl (lR hlo (Y.ow 0 rfl) hi (Y.keepb hk0)) ?_
 clear Z Y
 intro a w3 x4 hp Z Y
 revert x4 hp Z Y; rintro v3 - Z Y
 replace Y : St No w0 [_, _] w3 := Y
 refine wlm Z rfl fun a Z => wlv Z (ai rfl rfl) fun a Z => wlv Z (ai rfl rfl) fun a Z => wla Z rfl fun a Z => wla Z rfl fun a Z => ab (hK5 _ _ ?_)
 replace Z := Z.p4 6 7 10 11 rfl
 replace Y := Y.k1 1 rfl
 refine ae fun K6 hK6 => aa fun K7 hK7 => wlm Z rfl fun a Z => wlv Z ((v_ne rfl rfl).asb (b' := false) rfl) fun a Z => ab (hK7 _ _ <| aL Z rfl ?_)
 refine ar <| hK6 _ _ <| aa fun K8 hK8 => wlm Z rfl fun a Z => wla Z rfl fun a Z => wla Z rfl fun a Z => ab (hK8 _ _ <| ap ?_)
 refine al Z results50 (ac rfl (ac rfl ag)) ?_
 exact ⟨v3, rfl, trivial, Y.ext, St.out (E := [own v3 9 1 ((proofH sha (codesR l) i).map fun s => [sv s])]) (H := []) (Y.select [0] de)⟩
theorem kF (o : Int) (lv : Value) (l : List Rec) (i : Nat) (w0 : World) (hlv : SlAt w0 lv 5 (l.map Rec.cells)) (hll : l.length ≤ 1000) (hlo : logOk o l = true) (hi : i < l.length) (hk0 : (blk 0 (kOf.map wv) 161).ok w0) :
  Ret Tryz.prog 18 #[.agg #[iv o, lv], iv (i : Int)] w0 (MemR w0 (fun v : Value => .tuple #[v, iv 0]) (fun v => [own v 9 1 ((proofH sha (codesR l) i).map fun s => [sv s])]) (fun _ => True)) := by
 refine aD func18 rfl ntmps18 (lb rfl) fun a Z => ?_
 replace Z := Z.p2 0 1 rfl
 replace Y : St No w0 [] w0 := St.init w0
 refine aa fun K1 hK1 => bj Z Y de rfl (cs := [iv o, lv]) rfl ?_
 clear Z Y
 intro a w1 Z Y
 refine wla Z rfl fun a Z => wla Z rfl fun a Z => ab (hK1 _ _ <| aa fun K2 hK2 => ?_)
 refine wlv Z (aw (Y.g 0 rfl) rfl (isAgg25 _) (sizeOf25 _)) fun a Z => wlm Z rfl fun a Z => aK Z Y de call50 rfl (gU o lv l i _ (Y.arg hlv) hlo hi (Y.keepb hk0)) ?_
 clear Z Y
 intro a w2 x2 hp Z Y
 revert x2 hp Z Y; rintro v1 hp Z Y
 clear hp
 replace Y : St No w0 [_, _] w2 := Y
 refine wlv Z (ai rfl rfl) fun a Z => wlv Z (ai rfl rfl) fun a Z => wla Z rfl fun a Z => wla Z rfl fun a Z => ab (hK2 _ _ ?_)
 replace Z := Z.p2 4 5 rfl
 replace Y := Y.k1 1 rfl
 refine ap ?_
 refine al Z results18 (ac rfl (ac rfl ag)) ?_
 exact ⟨v1, rfl, trivial, Y.ext, St.out (E := [own v1 9 1 ((proofH sha (codesR l) i).map fun s => [sv s])]) (H := []) (Y.select [0] de)⟩
theorem pa (lv : Value) (ls : List By) (i : Nat) (w0 : World) (hlv : SlAt w0 lv 1 (ls.map fun s => [sv s])) (hi : i ≤ ls.length) (hln : ls.length ≤ 1000) (hls : ∀ s ∈ ls, s.length ≤ 40000000) (hk0 : (blk 0 (kOf.map wv) 161).ok w0) :
  Ret Tryz.prog 53 #[lv, iv (i : Int)] w0 (MemR w0 (fun v : Value => .tuple #[v, iv 0]) (fun v => [own v 9 1 ((extH sha ls i).map fun s => [sv s])]) (fun _ => True)) := by
 by_cases h : i = 0
 ·subst h
  refine (m9 lv ls w0 hlv).mono ?_
  rintro v w ⟨rfl, hx⟩
  exact ⟨.slice none 0 0, rfl, trivial, hx, dQ (iW _ _ _) (fun k hk => by cases hk)⟩
 ·have := pX lv ls i w0 hlv om hi hln hls hk0
  rw [extH, if_neg h]; exact this
theorem mJ {o : Int} {l : List Rec} {v : Value} {i : Nat} {w0 : World} (hlo : logOk o l = true) (hv : SlAt w0 v 1 ((codesB l).map fun s => [sv s])) (hi : i ≤ l.length) (hk0 : (blk 0 (kOf.map wv) 161).ok w0) : Ret Tryz.prog 53 #[v, iv (i : Int)] w0 (MemR w0 (fun v : Value => .tuple #[v, iv 0]) (fun v => [own v 9 1 ((extH sha (codesR l) i).map fun s => [sv s])]) (fun _ => True)) := by
 rw [cK (bL hlo)] at hv
 have h60 := co hlo
 exact pa v (codesR l) i w0 hv (by rw [bn]; exact hi) (by rw [bn]; omega) (fun s h => Nat.le_trans (bM (bL hlo) s h) de) hk0
theorem gV (o : Int) (lv : Value) (l : List Rec) (i : Nat) (w0 : World) (hlv : SlAt w0 lv 5 (l.map Rec.cells)) (hlo : logOk o l = true) (hi : i ≤ l.length) (hk0 : (blk 0 (kOf.map wv) 161).ok w0) :
  Ret Tryz.prog 50 #[.agg #[iv o, lv], iv (i : Int), .func (.func 53) #[] #[]] w0 (MemR w0 (fun v : Value => .tuple #[v, iv 0]) (fun v => [own v 9 1 ((extH sha (codesR l) i).map fun s => [sv s])]) (fun _ => True)) := by
 have hll := co hlo
 refine aD func50 rfl ntmps50 (lb rfl) fun a Z => ?_
 replace Z := Z.p3 0 1 2 rfl
 replace Y : St No w0 [] w0 := St.init w0
 refine aa fun K1 hK1 => bj Z Y de rfl (cs := [iv o, lv]) rfl ?_
 clear Z Y
 intro a w1 Z Y
 refine wla Z rfl fun a Z => wla Z rfl fun a Z => ab (hK1 _ _ <| aa fun K2 hK2 => ?_)
 refine wlv Z (aw (Y.g 0 rfl) rfl (isAgg25 _) (sizeOf25 _)) fun a Z => aK Z Y de call40 rfl (ft o lv l _ (Y.arg hlv) hlo) ?_
 clear Z Y
 intro a w2 x2 hp Z Y
 revert x2 hp Z Y; rintro v1 hp Z Y
 clear hp
 replace Y : St No w0 [_, _] w2 := Y
 refine wlm Z rfl fun a Z => wlv Z (ai rfl rfl) fun a Z => wlv Z (ai rfl rfl) fun a Z => wla Z rfl fun a Z => wla Z rfl fun a Z => ab (hK2 _ _ ?_)
 replace Z := Z.p6 1 2 6 7 8 9 rfl
 replace Y := Y.k1 1 rfl
 refine ae fun K3 hK3 => aa fun K4 hK4 => wlm Z rfl fun a Z => wlv Z ((bq rfl).asb (b' := false) rfl) fun a Z => ab (hK4 _ _ <| aL Z rfl ?_)
 refine ar <| hK3 _ _ <| aa fun K5 hK5 => wlm Z rfl fun a Z => wlm Z rfl fun a Z => wlm Z rfl fun a Z => il Z Y de rfl call53 rfl (mJ hlo (Y.ow 0 rfl) hi (Y.keepb hk0)) ?_
 clear Z Y
 intro a w3 x4 hp Z Y
 revert x4 hp Z Y; rintro v3 - Z Y
 replace Y : St No w0 [_, _] w3 := Y
 refine wlm Z rfl fun a Z => wlv Z (ai rfl rfl) fun a Z => wlv Z (ai rfl rfl) fun a Z => wla Z rfl fun a Z => wla Z rfl fun a Z => ab (hK5 _ _ ?_)
 replace Z := Z.p4 6 7 10 11 rfl
 replace Y := Y.k1 1 rfl
 refine ae fun K6 hK6 => aa fun K7 hK7 => wlm Z rfl fun a Z => wlv Z ((v_ne rfl rfl).asb (b' := false) rfl) fun a Z => ab (hK7 _ _ <| aL Z rfl ?_)
 refine ar <| hK6 _ _ <| aa fun K8 hK8 => wlm Z rfl fun a Z => wla Z rfl fun a Z => wla Z rfl fun a Z => ab (hK8 _ _ <| ap ?_)
 refine al Z results50 (ac rfl (ac rfl ag)) ?_
 exact ⟨v3, rfl, trivial, Y.ext, St.out (E := [own v3 9 1 ((extH sha (codesR l) i).map fun s => [sv s])]) (H := []) (Y.select [0] de)⟩
theorem f7 (o : Int) (lv : Value) (l : List Rec) (i : Nat) (w0 : World) (hlv : SlAt w0 lv 5 (l.map Rec.cells)) (hll : l.length ≤ 1000) (hlo : logOk o l = true) (hi : i ≤ l.length) (hk0 : (blk 0 (kOf.map wv) 161).ok w0) :
  Ret Tryz.prog 20 #[.agg #[iv o, lv], iv (i : Int)] w0 (MemR w0 (fun v : Value => .tuple #[v, iv 0]) (fun v => [own v 9 1 ((extH sha (codesR l) i).map fun s => [sv s])]) (fun _ => True)) := by
 refine aD func20 rfl ntmps20 (lb rfl) fun a Z => ?_
 replace Z := Z.p2 0 1 rfl
 replace Y : St No w0 [] w0 := St.init w0
 refine aa fun K1 hK1 => bj Z Y de rfl (cs := [iv o, lv]) rfl ?_
 clear Z Y
 intro a w1 Z Y
 refine wla Z rfl fun a Z => wla Z rfl fun a Z => ab (hK1 _ _ <| aa fun K2 hK2 => ?_)
 refine wlv Z (aw (Y.g 0 rfl) rfl (isAgg25 _) (sizeOf25 _)) fun a Z => wlm Z rfl fun a Z => aK Z Y de call50 rfl (gV o lv l i _ (Y.arg hlv) hlo hi (Y.keepb hk0)) ?_
 clear Z Y
 intro a w2 x2 hp Z Y
 revert x2 hp Z Y; rintro v1 hp Z Y
 clear hp
 replace Y : St No w0 [_, _] w2 := Y
 refine wlv Z (ai rfl rfl) fun a Z => wlv Z (ai rfl rfl) fun a Z => wla Z rfl fun a Z => wla Z rfl fun a Z => ab (hK2 _ _ ?_)
 replace Z := Z.p2 4 5 rfl
 replace Y := Y.k1 1 rfl
 refine ap ?_
 refine al Z results20 (ac rfl (ac rfl ag)) ?_
 exact ⟨v1, rfl, trivial, Y.ext, St.out (E := [own v1 9 1 ((extH sha (codesR l) i).map fun s => [sv s])]) (H := []) (Y.select [0] de)⟩
def exE : By := [20, 2, 14, 1, 8, 110, 101, 119, 115]
def exM : List Rec := exR ++ [⟨20, 3, 0, 0, []⟩]
def exRoot : By := rootH sha (codesR exR)
def exNext : By := rootH sha (codesR exM)
def exPf : List By := proofH sha (codesR exR) 1
def exQ : List By := extH sha (codesR exM) 3
def exTag : By := tagR sha (keyR 1) 4 3 exRoot
theorem gH {f : FuncId} {args : Array Value} {w : World} {a b : Value} (h : a = b) (hr : Ret Tryz.prog f args w fun v w' => v = a ∧ Ext No w w') : Ret Tryz.prog f args w fun v w' => v = b ∧ Ext No w w' := by subst h; exact hr
theorem ca {f : FuncId} {args : Array Value} {w : World} {b c : Bool} (h : b = c) (hr : Ret Tryz.prog f args w fun v w' => v = .bool b ∧ Ext No w w') : Ret Tryz.prog f args w fun v w' => v = .bool c ∧ Ext No w w' := by subst h; exact hr
theorem eS {f : FuncId} {args : Array Value} {w : World} {b c : Int} (h : b = c) (hr : Ret Tryz.prog f args w fun v w' => v = iv b ∧ Ext No w w') : Ret Tryz.prog f args w fun v w' => v = iv c ∧ Ext No w w' := by subst h; exact hr
theorem ex_eB : eB (exR.getD 0 Rec.z) = exE := by decide +kernel
theorem ex_eE : eE (exR.getD 0 Rec.z) = 0 := by decide +kernel
theorem ex_dX : decX exE = exR.getD 0 Rec.z := by decide +kernel
theorem ex_dE : decE exE = 0 := by decide +kernel
theorem gL : logOk 4 exR = true := by decide +kernel
theorem iS : logOk 4 exM = true := by decide +kernel
theorem pk : logOk 100 [] = false := by decide +kernel
theorem ex_hB : headB 4 exR = exRoot := dA gL
theorem ex_hE : headE 4 exR = 0 := dI.2 gL
theorem qr : headB 4 exM = exNext := dA iS
theorem qv : headE 4 exM = 0 := dI.2 iS
theorem jG (n : Int) : (keyR n).length = 32 := aZ _
theorem pN : signOk (keyR 1) 4 exR = true := by unfold signOk; rw [gL, jG]; rfl
theorem ex_sB : signB (keyR 1) 4 exR = exTag := if_pos pN
theorem ex_sE : signE (keyR 1) 4 exR = 0 := if_pos pN
theorem pZ : addOk 4 exR ⟨19, 1, 0, 0, []⟩ = false := by decide +kernel
theorem qd : addOk 4 exR ⟨20, 3, 0, 0, []⟩ = true := by decide +kernel
theorem ex_f1 : findH 4 exR 1 9 = -1 := by decide +kernel
theorem ex_f2 : findH 4 exR 1 19 = 0 := by decide +kernel
theorem ex_f3 : findH 4 exR 1 20 = 2 := by decide +kernel
theorem fX : exRoot = [21, 112, 33, 172, 240, 109, 75, 130, 191, 249, 217, 221, 50, 198, 0, 231, 116, 242, 6, 54, 79, 38, 84, 56, 148, 132, 237, 35, 98, 124, 34, 181] := by decide +kernel
theorem lH : exNext = [195, 244, 205, 59, 182, 231, 47, 220, 108, 75, 52, 189, 34, 70, 131, 114, 76, 87, 137, 243, 75, 37, 231, 109, 74, 49, 79, 149, 141, 24, 151, 82] := by decide +kernel
theorem kS : keyR 1 = [219, 193, 180, 201, 0, 255, 228, 141, 87, 91, 93, 165, 198, 56, 4, 1, 37, 246, 93, 176, 254, 62, 36, 73, 75, 118, 234, 152, 100, 87, 217, 134] := by decide +kernel
theorem m7 : exTag = [75, 183, 243, 190, 88, 89, 30, 0, 212, 159, 241, 14, 211, 216, 181, 111, 180, 45, 128, 188, 226, 87, 91, 67, 48, 251, 122, 74, 0, 4, 207, 40] := by unfold exTag; rw [kS, fX]; decide +kernel
theorem ex_c1 : checkB exRoot 3 1 (exR.getD 1 Rec.z) exPf = true := by
 have h := iP (S := sha) aZ (l := codesR exR) (i := 1) de
 unfold checkB
 rw [show (exR.getD 1 Rec.z).ok = true from by decide, show (exR.getD 1 Rec.z).enc = (codesR exR).getD 1 [] from (oC de).symm, Bool.true_and]
 exact h
theorem ex_c2 : checkB exRoot 3 0 (exR.getD 1 Rec.z) exPf = false := by rw [fX]; decide +kernel
theorem ex_g1 : aO sha exRoot 3 exNext 4 exQ = true := eC (S := sha) aZ (l := codesR exM) (m := 3) de
theorem ex_g2 : aO sha exNext 3 exRoot 4 exQ = false := by rw [fX, lH]; decide +kernel
theorem ex_n1 : genR sha (keyR 1) 4 3 exRoot exTag = true := by
 unfold genR exTag
 rw [show exRoot.length = 32 from bc aZ _, jG, decide_eq_true rfl, decide_eq_true rfl]; rfl
theorem ex_n2 : genR sha (keyR 1) 5 3 exRoot exTag = false := by rw [m7, kS, fX]; decide +kernel
theorem ex_n3 : genR sha (keyR 1) 4 3 exNext exTag = false := by rw [m7, kS, lH]; decide +kernel
theorem pO : exPf.length ≤ 8 := by decide +kernel
theorem pV : exQ.length ≤ 8 := by decide +kernel
theorem qi {lv : Value} {w0 : World} (hlv : SlAt w0 lv 5 (exR.map Rec.cells)) : Ret Tryz.prog 35 #[.agg #[iv 4, lv], .agg #[iv 20, iv 3, iv 0, iv 0, sv []]] w0 (MemR w0 (fun v : Value => .tuple #[.agg #[iv 4, v], iv 0]) (fun v => [own v 48 5 (exM.map Rec.cells)]) (fun _ => True)) := ne 4 lv exR ⟨20, 3, 0, 0, []⟩ w0 hlv de qd
theorem pn (w0 : World) (hk0 : (blk 0 (kOf.map wv) 161).ok w0) :
  Ret Tryz.prog 5 #[] w0 fun v w => v = .bool true ∧ Ext No w0 w := by
 refine aD func5 rfl ntmps5 (lb rfl) fun a Z => ?_
 replace Z : Fr 206 [] [] a := Z
 replace Y : St No w0 [] w0 := St.init w0
 refine aa fun K1 hK1 => wla Z rfl fun a Z => ab (hK1 _ _ <| aa fun K2 hK2 => ?_)
 refine aK Z Y de call32 rfl (kM _) ?_
 clear Z Y
 intro a w1 x2 hp Z Y
 revert x2 hp Z Y; rintro lv1 hp Z Y
 clear hp
 replace Y : St No w0 [_] w1 := Y
 refine aU Z Y de (zeroValue25 _) (cs := [iv 0, .slice none 0 0]) rfl ?_
 clear Z Y
 intro a w2 Z Y
 refine bu (us := [iv 4, lv1]) 0 Z Y rfl rfl rfl (sizeOf25 _) (by intro z hz; simp only [List.mem_cons, List.not_mem_nil, or_false] at hz; rcases hz with rfl | rfl <;> first | rfl | exact SlAt.one (Y.ow 1 rfl)) (lb rfl) (ds := [iv 4, lv1]) rfl rfl ?_
 clear Z Y
 intro a w3 Z Y
 refine ab (hK2 _ _ <| aa fun K3 hK3 => ?_)
 refine wlv Z (ak (v := po w1.hz 1) rfl kr) fun a Z => wlv Z (ld Y 0 rfl rfl (isAgg23 _) rfl) fun a Z => wlv Z ((aj (i := 0) (sT := 23) (Y.ow 1 rfl) rfl rfl (runUnderlying23 _) (sizeOf48 _) om de).as (v' := slAddr lv1 (0 * 5)) rfl) fun a Z => wlv Z ((bX (Y.ow 1 rfl) (i := 0) de rfl (isAgg48 _) (sizeOf48 _)).as (v' := .agg #[iv ((exR.getD 0 Rec.z).t), iv ((exR.getD 0 Rec.z).kind), iv ((exR.getD 0 Rec.z).a), iv ((exR.getD 0 Rec.z).b), sv ((exR.getD 0 Rec.z).text)]) (by rw [br Rec.z]; rfl)) fun a Z => am Z Y de call33 rfl (gH (by rw [ex_eB, ex_eE]) (jj (exR.getD 0 Rec.z) _)) ?_
 clear Z Y
 intro a w4 Z Y
 refine wlm Z rfl fun a Z => wlv Z (ai rfl rfl) fun a Z => wlv Z (ai rfl rfl) fun a Z => wla Z rfl fun a Z => wla Z rfl fun a Z => ab (hK3 _ _ ?_)
 replace Z := Z.p4 0 1 2 3 rfl
 refine aa fun K4 hK4 => wlm Z rfl fun a Z => am Z Y de call34 rfl (gH (by rw [ex_dX, ex_dE]) (ql exE _ de)) ?_
 clear Z Y
 intro a w5 Z Y
 refine wlm Z rfl fun a Z => wlv Z (ai rfl rfl) fun a Z => wlv Z (ai rfl rfl) fun a Z => aU Z Y de (zeroValue48 _) (cs := [iv 0, iv 0, iv 0, iv 0, .string (⟨#[]⟩)]) rfl ?_
 clear Z Y
 intro a w6 Z Y
 refine aH 0 Z Y rfl rfl rfl (sizeOf48 _) rfl (lb rfl) (ds := [iv ((exR.getD 0 Rec.z).t), iv ((exR.getD 0 Rec.z).kind), iv ((exR.getD 0 Rec.z).a), iv ((exR.getD 0 Rec.z).b), sv ((exR.getD 0 Rec.z).text)]) rfl rfl ?_
 clear Z Y
 intro a w7 Z Y
 refine wla Z rfl fun a Z => ab (hK4 _ _ <| aa fun K5 hK5 => ?_)
 refine wlv Z (aw (Y.g 1 rfl) rfl (isAgg25 _) (sizeOf25 _)) fun a Z => am Z Y de call10 rfl (gH (by rw [ex_hB, ex_hE]) (fZ 4 lv1 exR _ (Y.ow 2 rfl) (Y.keepb hk0))) ?_
 clear Z Y
 intro a w8 Z Y
 refine wlm Z rfl fun a Z => wlv Z (ai rfl rfl) fun a Z => wlv Z (ai rfl rfl) fun a Z => wla Z rfl fun a Z => wla Z rfl fun a Z => ab (hK5 _ _ ?_)
 replace Z := Z.p8 0 1 2 3 4 5 6 7 rfl
 refine aa fun K6 hK6 => wlv Z (aw (Y.g 1 rfl) rfl (isAgg25 _) (sizeOf25 _)) fun a Z => aK Z Y de call18 rfl (kF 4 lv1 exR 1 _ (Y.ow 2 rfl) de gL de (Y.keepb hk0)) ?_
 clear Z Y
 intro a w9 x4 hp Z Y
 revert x4 hp Z Y; rintro v3 hp Z Y
 clear hp
 replace Y : St No w0 [_, _, _, _] w9 := Y
 refine wlm Z rfl fun a Z => wlv Z (ai rfl rfl) fun a Z => wlv Z (ai rfl rfl) fun a Z => wla Z rfl fun a Z => wla Z rfl fun a Z => ab (hK6 _ _ <| aa fun K7 hK7 => ?_)
 refine wlv Z (aw (Y.g 2 rfl) rfl (isAgg25 _) (sizeOf25 _)) fun a Z => wlv Z (bA (v := .agg #[iv 19, iv 1, iv 0, iv 0, sv ([] : By)]) rfl kr) fun a Z => aK Z Y de call35 rfl (oO 4 lv1 exR ⟨19, 1, 0, 0, []⟩ _ (Y.ow 3 rfl) de pZ) ?_
 clear Z Y
 intro a w10 x6 hp Z Y
 revert x6 hp Z Y; rintro lv5 hp Z Y
 clear hp
 replace Y : St No w0 [_, _, _, _, _] w10 := Y
 refine wlm Z rfl fun a Z => wlv Z (ai rfl rfl) fun a Z => wlv Z (ai rfl rfl) fun a Z => aU Z Y de (zeroValue25 _) (cs := [iv 0, .slice none 0 0]) rfl ?_
 clear Z Y
 intro a w11 Z Y
 refine bu (us := [iv 0, lv5]) 0 Z Y rfl rfl rfl (sizeOf25 _) (by intro z hz; simp only [List.mem_cons, List.not_mem_nil, or_false] at hz; rcases hz with rfl | rfl <;> first | rfl | exact SlAt.one (Y.ow 1 rfl)) (lb rfl) (ds := [iv 0, lv5]) rfl rfl ?_
 clear Z Y
 intro a w12 Z Y
 refine wla Z rfl fun a Z => ab (hK7 _ _ ?_)
 replace Z := Z.p11 0 1 2 3 4 5 6 7 8 9 11 rfl
 replace Y := Y.k5 62 rfl
 refine aa fun K8 hK8 => wlv Z (aw (Y.g 3 rfl) rfl (isAgg25 _) (sizeOf25 _)) fun a Z => wlv Z (bA (v := .agg #[iv 20, iv 3, iv 0, iv 0, sv ([] : By)]) rfl kr) fun a Z => aK Z Y de call35 rfl (qi (Y.ow 4 rfl)) ?_
 clear Z Y
 intro a w13 x8 hp Z Y
 revert x8 hp Z Y; rintro lv7 hp Z Y
 clear hp
 replace Y : St No w0 [_, _, _, _, _, _] w13 := Y
 refine wlm Z rfl fun a Z => wlv Z (ai rfl rfl) fun a Z => wlv Z (ai rfl rfl) fun a Z => aU Z Y de (zeroValue25 _) (cs := [iv 0, .slice none 0 0]) rfl ?_
 clear Z Y
 intro a w14 Z Y
 refine bu (us := [iv 4, lv7]) 0 Z Y rfl rfl rfl (sizeOf25 _) (by intro z hz; simp only [List.mem_cons, List.not_mem_nil, or_false] at hz; rcases hz with rfl | rfl <;> first | rfl | exact SlAt.one (Y.ow 1 rfl)) (lb rfl) (ds := [iv 4, lv7]) rfl rfl ?_
 clear Z Y
 intro a w15 Z Y
 refine wla Z rfl fun a Z => ab (hK8 _ _ ?_)
 replace Z := Z.p13 0 1 2 3 4 5 6 7 8 9 11 12 13 rfl
 replace Y := Y.k6 123 rfl
 refine aa fun K9 hK9 => wlv Z (aw (Y.g 0 rfl) rfl (isAgg25 _) (sizeOf25 _)) fun a Z => aK Z Y de call20 rfl (f7 4 lv7 exM 3 _ (Y.ow 1 rfl) de iS de (Y.keepb hk0)) ?_
 clear Z Y
 intro a w16 x10 hp Z Y
 revert x10 hp Z Y; rintro v9 hp Z Y
 clear hp
 replace Y : St No w0 [_, _, _, _, _, _, _] w16 := Y
 refine wlm Z rfl fun a Z => wlv Z (ai rfl rfl) fun a Z => wlv Z (ai rfl rfl) fun a Z => wla Z rfl fun a Z => wla Z rfl fun a Z => ab (hK9 _ _ <| aa fun K10 hK10 => ?_)
 refine wlv Z (aw (Y.g 1 rfl) rfl (isAgg25 _) (sizeOf25 _)) fun a Z => am Z Y de call10 rfl (gH (by rw [qr, qv]) (fZ 4 lv7 exM _ (Y.ow 2 rfl) (Y.keepb hk0))) ?_
 clear Z Y
 intro a w17 Z Y
 refine wlm Z rfl fun a Z => wlv Z (ai rfl rfl) fun a Z => wlv Z (ai rfl rfl) fun a Z => wla Z rfl fun a Z => wla Z rfl fun a Z => ab (hK10 _ _ ?_)
 replace Z : Fr 206 [(0, _), (1, _), (2, _), (3, _), (4, _), (5, _), (6, _), (7, _), (8, _), (9, _), (11, _), (12, _), (13, _), (14, _), (15, _), (16, _), (17, _)] [] a := Z.pick [0, 1, 2, 3, 4, 5, 6, 7, 8, 9, 11, 12, 13, 14, 15, 16, 17]
 refine aa fun K11 hK11 => am Z Y de call12 rfl (pE 1 _ (by unfold i64; omega)) ?_
 clear Z Y
 intro a w18 Z Y
 refine wla Z rfl fun a Z => ab (hK11 _ _ <| aa fun K12 hK12 => ?_)
 refine wlm Z rfl fun a Z => wlv Z (aw (Y.g 5 rfl) rfl (isAgg25 _) (sizeOf25 _)) fun a Z => am Z Y de call13 rfl (gH (by rw [ex_sB, ex_sE]) (pu (keyR 1) 4 lv1 exR _ (Y.ow 6 rfl) (Y.keepb hk0))) ?_
 clear Z Y
 intro a w19 Z Y
 refine wlm Z rfl fun a Z => wlv Z (ai rfl rfl) fun a Z => wlv Z (ai rfl rfl) fun a Z => wla Z rfl fun a Z => wla Z rfl fun a Z => ab (hK12 _ _ ?_)
 replace Z : Fr 206 [(0, _), (1, _), (2, _), (3, _), (4, _), (5, _), (6, _), (7, _), (8, _), (9, _), (11, _), (12, _), (13, _), (14, _), (15, _), (16, _), (17, _), (18, _), (19, _), (20, _)] [] a := Z.pick [0, 1, 2, 3, 4, 5, 6, 7, 8, 9, 11, 12, 13, 14, 15, 16, 17, 18, 19, 20]
 refine ae fun K13 hK13 => aa fun K14 hK14 => wlm Z rfl fun a Z => wlv Z ((v_ne rfl rfl).asb (b' := false) rfl) fun a Z => wlm Z rfl fun a Z => wly Z (ah rfl) fun a Z => wly Z ((v_ne rfl rfl).asb (b' := false) rfl) fun a Z => wlv Z (ay rfl rfl) fun a Z => wlm Z rfl fun a Z => wly Z (ah rfl) fun a Z => wly Z ((v_ne rfl rfl).asb (b' := false) rfl) fun a Z => wlv Z (ay rfl rfl) fun a Z => wlm Z rfl fun a Z => wly Z (ah rfl) fun a Z => wly Z ((v_ne rfl rfl).asb (b' := false) rfl) fun a Z => wlv Z (ay rfl rfl) fun a Z => wlm Z rfl fun a Z => wly Z (ah rfl) fun a Z => wly Z ((v_ne rfl rfl).asb (b' := false) rfl) fun a Z => wlv Z (ay rfl rfl) fun a Z => wlm Z rfl fun a Z => wly Z (ah rfl) fun a Z => wly Z ((v_ne rfl rfl).asb (b' := false) rfl) fun a Z => wlv Z (ay rfl rfl) fun a Z => wlm Z rfl fun a Z => wly Z (ah rfl) fun a Z => wly Z ((v_ne rfl rfl).asb (b' := false) rfl) fun a Z => wlv Z (ay rfl rfl) fun a Z => wlm Z rfl fun a Z => wly Z (ah rfl) fun a Z => wly Z ((v_ne rfl rfl).asb (b' := false) rfl) fun a Z => ?_
 refine wlv Z (ay rfl rfl) fun a Z => wlm Z rfl fun a Z => wly Z (ah rfl) fun a Z => wly Z ((v_ne rfl rfl).asb (b' := false) rfl) fun a Z => wlv Z (ay rfl rfl) fun a Z => ab (hK14 _ _ ?_)
 replace Z := Z.p12 0 1 2 4 6 8 12 14 16 18 19 110 rfl
 refine aL Z rfl ?_
 refine ar <| hK13 _ _ <| aa fun K15 hK15 => wlm Z rfl fun a Z => wlv Z (ak (v := po w1.hz 1) rfl kr) fun a Z => wlv Z (ld Y 5 rfl rfl (isAgg23 _) rfl) fun a Z => wlv Z ((aj (i := 1) (sT := 23) (Y.ow 6 rfl) rfl rfl (runUnderlying23 _) (sizeOf48 _) om de).as (v' := slAddr lv1 (1 * 5)) rfl) fun a Z => wlv Z ((bX (Y.ow 6 rfl) (i := 1) de rfl (isAgg48 _) (sizeOf48 _)).as (v' := .agg #[iv ((exR.getD 1 Rec.z).t), iv ((exR.getD 1 Rec.z).kind), iv ((exR.getD 1 Rec.z).a), iv ((exR.getD 1 Rec.z).b), sv ((exR.getD 1 Rec.z).text)]) (by rw [br Rec.z]; rfl)) fun a Z => wlm Z rfl fun a Z => am Z Y de call25 rfl (ca ex_c1 (j9 exRoot 3 1 (exR.getD 1 Rec.z) v3 exPf _ (Y.ow 3 rfl) (by have := pO; omega) (by unfold i64; omega) (Y.keepb hk0))) ?_
 clear Z Y
 intro a w20 Z Y
 refine wlm Z rfl fun a Z => wly Z (ah rfl) fun a Z => wly Z (ak (v := po w1.hz 1) rfl kr) fun a Z => wly Z (ld Y 5 rfl rfl (isAgg23 _) rfl) fun a Z => wly Z ((aj (i := 1) (sT := 23) (Y.ow 6 rfl) rfl rfl (runUnderlying23 _) (sizeOf48 _) om de).as (v' := slAddr lv1 (1 * 5)) rfl) fun a Z => wly Z ((bX (Y.ow 6 rfl) (i := 1) de rfl (isAgg48 _) (sizeOf48 _)).as (v' := .agg #[iv ((exR.getD 1 Rec.z).t), iv ((exR.getD 1 Rec.z).kind), iv ((exR.getD 1 Rec.z).a), iv ((exR.getD 1 Rec.z).b), sv ((exR.getD 1 Rec.z).text)]) (by rw [br Rec.z]; rfl)) fun a Z => wly Z (ah rfl) fun a Z => ba Z Y de rfl de rfl call25 rfl (ca ex_c2 (j9 exRoot 3 0 (exR.getD 1 Rec.z) v3 exPf _ (Y.ow 3 rfl) (by have := pO; omega) (by unfold i64; omega) (Y.keepb hk0))) ?_
 clear Z Y
 intro a w21 Z Y
 refine wly Z ((bq rfl).asb (b' := true) rfl) fun a Z => wlv Z (az rfl rfl) fun a Z => wlm Z rfl fun a Z => wly Z (ah rfl) fun a Z => wly Z (ah rfl) fun a Z => wly Z (ah rfl) fun a Z => ba Z Y de rfl de rfl call23 rfl (ca ex_g1 (dH exRoot 3 exNext 4 v9 exQ _ (Y.ow 0 rfl) (by have := pV; omega) (by unfold i64; omega) (Y.keepb hk0))) ?_
 clear Z Y
 intro a w22 Z Y
 refine wlv Z (az rfl rfl) fun a Z => wlm Z rfl fun a Z => wly Z (ah rfl) fun a Z => wly Z (ah rfl) fun a Z => wly Z (ah rfl) fun a Z => ba Z Y de rfl de rfl call23 rfl (ca ex_g2 (dH exNext 3 exRoot 4 v9 exQ _ (Y.ow 0 rfl) (by have := pV; omega) (by unfold i64; omega) (Y.keepb hk0))) ?_
 clear Z Y
 intro a w23 Z Y
 refine wly Z ((bq rfl).asb (b' := true) rfl) fun a Z => wlv Z (az rfl rfl) fun a Z => wla Z rfl fun a Z => ab (hK15 _ _ ?_)
 replace Z := Z.p10 0 1 2 4 6 12 16 18 19 21 rfl
 replace Y := Y.k5 118 rfl
 refine aa fun K16 hK16 => wlm Z rfl fun a Z => wlm Z rfl fun a Z => wlm Z rfl fun a Z => am Z Y de call15 rfl (ca ex_n1 (eM (keyR 1) 4 3 exRoot exTag _ (Y.keepb hk0))) ?_
 clear Z Y
 intro a w24 Z Y
 refine wlm Z rfl fun a Z => wly Z (ah rfl) fun a Z => wly Z (ah rfl) fun a Z => wly Z (ah rfl) fun a Z => ba Z Y de rfl de rfl call15 rfl (ca ex_n2 (eM (keyR 1) 5 3 exRoot exTag _ (Y.keepb hk0))) ?_
 clear Z Y
 intro a w25 Z Y
 refine wly Z ((bq rfl).asb (b' := true) rfl) fun a Z => wlv Z (az rfl rfl) fun a Z => wlm Z rfl fun a Z => wly Z (ah rfl) fun a Z => wly Z (ah rfl) fun a Z => wly Z (ah rfl) fun a Z => ba Z Y de rfl de rfl call15 rfl (ca ex_n3 (eM (keyR 1) 4 3 exNext exTag _ (Y.keepb hk0))) ?_
 clear Z Y
 intro a w26 Z Y
 refine wly Z ((bq rfl).asb (b' := true) rfl) fun a Z => wlv Z (az rfl rfl) fun a Z => wla Z rfl fun a Z => ab (hK16 _ _ ?_)
 replace Z := Z.p7 0 1 2 4 12 21 22 rfl
 refine aa fun K17 hK17 => wlv Z (aw (Y.g 3 rfl) rfl (isAgg25 _) (sizeOf25 _)) fun a Z => am Z Y de call36 rfl (eS ex_f1 (jh 4 lv1 exR 1 9 _ (Y.ow 4 rfl))) ?_
 clear Z Y
 intro a w27 Z Y
 refine wlv Z ((v_eq rfl rfl).asb (b' := true) rfl) fun a Z => wlm Z rfl fun a Z => wly Z (aw (Y.g 3 rfl) rfl (isAgg25 _) (sizeOf25 _)) fun a Z => ba Z Y de rfl de rfl call36 rfl (eS ex_f2 (jh 4 lv1 exR 1 19 _ (Y.ow 4 rfl))) ?_
 clear Z Y
 intro a w28 Z Y
 refine wly Z ((v_eq rfl rfl).asb (b' := true) rfl) fun a Z => wlv Z (az rfl rfl) fun a Z => wlm Z rfl fun a Z => wly Z (aw (Y.g 3 rfl) rfl (isAgg25 _) (sizeOf25 _)) fun a Z => ba Z Y de rfl de rfl call36 rfl (eS ex_f3 (jh 4 lv1 exR 1 20 _ (Y.ow 4 rfl))) ?_
 clear Z Y
 intro a w29 Z Y
 refine wly Z ((v_eq rfl rfl).asb (b' := true) rfl) fun a Z => wlv Z (az rfl rfl) fun a Z => wla Z rfl fun a Z => ab (hK17 _ _ ?_)
 replace Z := Z.p8 0 1 2 4 12 21 22 23 rfl
 refine ae fun K18 hK18 => aF kr (aG kr fun w30 hxz => ?_)
 replace Y := Y.grow hxz
 refine aP (k := 0) 3 [2] kr kr kr ?_
 refine wlm Z rfl fun a Z => wlv Z ((dX rfl rfl).asb (b' := true) (by exact decide_eq_true rfl)) fun a Z => wlm Z rfl fun a Z => ab <| aT (k := 3) 8 [3, 7] Z kr kr kr rfx ?_
 replace Z := Z.p11 0 1 2 4 12 21 22 23 172 173 174 rfl
 refine aA [] (fun i => match i with | _ => fun _ _ => False) 5 [[], [], [1], [2], [3]] [.agg #[iv ((exR.getD 0 Rec.z).t), iv ((exR.getD 0 Rec.z).kind), iv ((exR.getD 0 Rec.z).a), iv ((exR.getD 0 Rec.z).b), sv ((exR.getD 0 Rec.z).text)], po w1.hz 1, lv1, slAddr lv1 (0 * 5), .agg #[iv ((exR.getD 0 Rec.z).t), iv ((exR.getD 0 Rec.z).kind), iv ((exR.getD 0 Rec.z).a), iv ((exR.getD 0 Rec.z).b), sv ((exR.getD 0 Rec.z).text)]] Z Y kr kr kr ?_ ?_ ?_
 ·intro i hi hiq
  match i, hi, hiq with
  | 0, _, _ => exact fun w Y => OpV.g (aw (Y.g 2 rfl) rfl (isAgg48 _) (sizeOf48 _))
  | 1, _, _ => exact fun w Y => OpV.g (ak (v := po w1.hz 1) rfl kr)
  | 2, _, _ => exact fun w Y => OpV.g (ld Y 3 rfl rfl (isAgg23 _) rfl)
  | 3, _, _ => exact fun w Y => OpV.g ((aj (i := 0) (sT := 23) (Y.ow 4 rfl) rfl rfl (runUnderlying23 _) (sizeOf48 _) om de).as (v' := slAddr lv1 (0 * 5)) rfl)
  | 4, _, _ => exact fun w Y => OpV.g ((bX (Y.ow 4 rfl) (i := 0) de rfl (isAgg48 _) (sizeOf48 _)).as (v' := .agg #[iv ((exR.getD 0 Rec.z).t), iv ((exR.getD 0 Rec.z).kind), iv ((exR.getD 0 Rec.z).a), iv ((exR.getD 0 Rec.z).b), sv ((exR.getD 0 Rec.z).text)]) (by rw [br Rec.z]; rfl))
 ·intro i hi
  exact absurd hi sm
 clear Z Y
 intro  a w31 Z Y
 replace Z : Fr 206 [(175, .agg #[iv ((exR.getD 0 Rec.z).t), iv ((exR.getD 0 Rec.z).kind), iv ((exR.getD 0 Rec.z).a), iv ((exR.getD 0 Rec.z).b), sv ((exR.getD 0 Rec.z).text)]), (176, po w1.hz 1), (177, lv1), (178, slAddr lv1 (0 * 5)), (179, .agg #[iv ((exR.getD 0 Rec.z).t), iv ((exR.getD 0 Rec.z).kind), iv ((exR.getD 0 Rec.z).a), iv ((exR.getD 0 Rec.z).b), sv ((exR.getD 0 Rec.z).text)]), (0, _), (1, _), (2, _), (4, _), (12, _), (21, _), (22, _), (23, _), (172, _), (173, _), (174, _)] [] a := Z
 refine ab <| aP (k := 8) 35 [34] kr kr kr ?_
 refine wly Z ((nD rfl rfl kr (eqRec ((exR.getD 0 Rec.z).t) ((exR.getD 0 Rec.z).kind) ((exR.getD 0 Rec.z).a) ((exR.getD 0 Rec.z).b) ((exR.getD 0 Rec.z).text) ((exR.getD 0 Rec.z).t) ((exR.getD 0 Rec.z).kind) ((exR.getD 0 Rec.z).a) ((exR.getD 0 Rec.z).b) ((exR.getD 0 Rec.z).text) _)).asb (b' := true) (by exact decide_eq_true rfl)) fun a Z => wlv Z (az rfl rfl) fun a Z => wlm Z rfl fun a Z => wly Z (ah rfl) fun a Z => wlv Z (az rfl rfl) fun a Z => wlm Z rfl fun a Z => wly Z (ah rfl) fun a Z => wlv Z (az rfl rfl) fun a Z => wlm Z rfl fun a Z => wly Z (ah rfl) fun a Z => wlv Z (az rfl rfl) fun a Z => wlm Z rfl fun a Z => wly Z (ak (v := po w13.hz 1) rfl kr) fun a Z => wly Z (ld Y 0 rfl rfl (isAgg23 _) rfl) fun a Z => wly Z ((aE (sT := 23) (Y.ow 1 rfl) rfl rfl (runUnderlying23 _)).asi (m' := (exM.length : Int)) (by rw [List.length_map])) fun a Z => wly Z ((v_eq rfl rfl).asb (b' := true) de) fun a Z => wlv Z (az rfl rfl) fun a Z => wlm Z rfl fun a Z => wly Z (aw (Y.g 3 rfl) rfl (isAgg25 _) (sizeOf25 _)) fun a Z => ba Z Y de rfl de rfl call37 rfl (ca gL (dL 4 lv1 exR _ (Y.ow 4 rfl))) ?_
 clear Z Y
 intro a w32 Z Y
 refine wlv Z (az rfl rfl) fun a Z => wlm Z rfl fun a Z => wly Z (bA (v := .agg #[iv 100, .slice none 0 0]) rfl kr) fun a Z => ba Z Y de rfl de rfl call37 rfl (ca pk (dL 100 (.slice none 0 0) ([] : List Rec) _ (jq _ _))) ?_
 clear Z Y
 intro a w33 Z Y
 refine wly Z ((bq rfl).asb (b' := true) rfl) fun a Z => wlv Z (az rfl rfl) fun a Z => wla Z rfl fun a Z => ab <| aS kr ?_
 refine hK18 _ _ ?_
 replace Z := Z.p1 0 rfl
 replace Y := Y.k2 18 rfl
 refine ap ?_
 refine al Z results5 (ac rfl ag) ?_
 exact ⟨by rfl, Y.ext⟩
theorem gG {w : World} {v : Value} {sz : Nat} {els : List (List Value)} (h : SlAt w v sz els) : ∃ a n c, v = .slice a n c := ee h
theorem lO : ∀ {l : List Rin} {t : Int}, 0 ≤ t → t + 30 * l.length ≤ 10000000 → ∀ x ∈ recsR t l, x.t ≤ t + 30 * l.length
 | [], t, h, hb, x, hx => by cases hx
 | y :: l, t, h, hb, x, hx => by
  have h0 := bF y.x0 (n := 30) om
  rw [List.length_cons] at hb ⊢
  have e : (entR (t + pickI y.x0 30) y.x1 y.x2 y.x3 y.x4).t = t + pickI y.x0 30 := by
   show pickI (t + pickI y.x0 30) 10000001 = _
   generalize pickI y.x0 30 = z at *
   unfold pickI
   rw [if_neg om]
   exact Int.emod_eq_of_lt om om
  rw [recsR] at hx
  rcases List.mem_cons.1 hx with rfl | hx
  ·rw [e]; omega
  ·have := lO (l := l) (t := t + pickI y.x0 30) om om x hx
   omega
theorem o4 (l : List Rin) : ∀ x ∈ madeR l, x.t ≤ 360 := by
 intro x hx
 have := lO (Int.le_refl 0) (by rw [List.length_take]; omega) x hx
 rw [List.length_take] at this; omega
theorem qu {owner o : Int} {xv : Value} {ys : List Rin} {l : List Rec} {w0 : World} (ho : pickI owner 100 = o) (hl : madeR ys = l) (hxv : SlAt w0 xv 5 (ys.map Rin.cells)) (hys : ∀ y ∈ ys, y.wt) (how : i64 owner) : Ret Tryz.prog 7 #[iv owner, xv] w0 (MemR w0 (fun v : Value => .agg #[iv o, v]) (fun v => [own v 48 5 (l.map Rec.cells)]) (fun _ => True)) := by
 subst ho; subst hl
 exact mS owner xv ys w0 hxv hys how
end Go.Proofs.YtddfkkdanpmnaaaGreatDoor
namespace Go.PW
open Go.RowKit Go.ChangeShapes Go.WideShapes Go.ChangeAt
section
variable {H : Type} {enc : TypeId × Value → H}
theorem kj {a : Assume} {C : Checked} {os : Os} {f : FuncId} {fn : Func} {s : ChangeSpec} {conds : List PathCond} {apart fresh handsOn again : Bool} {X : World → Array Value → Prop}
  (hX : ∀ (w w' : World) (args : Array Value), w.heap = w'.heap → X w args → X w' args)
  (own : ownKnob C.prog.godebug = none) (started : os.Started) (noInit : C.prog.inits.idxOf? f = none) (hfn : C.prog.funcs[f]? = some fn)
  (witness : ∃ (w : World) (tape : Tape) (i : Input), w.os = os ∧ (w.forCall tape i).Shaped C.prog ∧ i.vars = [] ∧ Input.okWide C.prog (w.forCall tape i) .any w.heap.size f i ∧
   ((s.pre enc C.prog fn conds apart (w.forCall tape i).memory i.args ∧ X (w.forCall tape i).memory i.args) ∧ sizedMet enc C.prog fn (OpenSpec.ofChange s) apart (w.forCall tape i).memory i.args) ∧ a.holds C.prog (lone (Frame.enter C.prog f i.args .normal) [] (w.forCall tape i)))
  (contract : ∀ (W : World) (base : Nat) (args : Array Value) (ds gs : List (DataW H)) (before : List MemPlace),
   (∀ (j : Nat) t v, fn.params[j]? = some t → args[j]? = some v → Value.okWide C.prog W .any base t v) →
   DataW.Whole enc C.prog fn.params.toList s.vars apart W args.toList ds gs before →
   conds.all (PathCond.test C.prog ⟨fn.params.toList, ds, s.plain.varTypes C.prog, gs⟩) = true →
   (DataW.weightsEach C.prog (fn.params.toList ++ s.plain.varTypes C.prog) (ds ++ gs)).all (· ≤ reachBytes) = true → X W args → W.ShapedOpen C.prog →
   Calls C.prog f args W fun e W' => ∃ v, e = .returned v ∧ s.post enc C.prog fn apart fresh handsOn again W args v W') :
  ReturnsInHanded a C os f .any (fun w args => (s.pre enc C.prog fn conds apart w args ∧ X w args) ∧ sizedMet enc C.prog fn (OpenSpec.ofChange s) apart w args) (s.post enc C.prog fn apart fresh handsOn again) := by
 refine returnsInHanded_of_calls own started noInit witness ?_
 intro w tape i _ hsh _ hok hpre _
 obtain ⟨_, _, _, fn', hfn', _, _, _, _, hval⟩ := hok
 have e : fn' = fn := Option.some.inj (hfn'.symm.trans hfn)
 subst e
 obtain ⟨⟨⟨ds, gs, before, hw, hc⟩, hx⟩, hz⟩ := hpre
 have hw' := DataW.Whole.of_heap (w' := w.forCall tape i) rfx hw
 refine (contract (w.forCall tape i) w.heap.size i.args ds gs before hval hw' hc (hz.weights hw) (hX _ _ _ rfx hx) hsh).mono fun e W' ⟨v, he, hp⟩ => ?_
 subst he
 exact ChangeSpec.post_blind hp
end
section
variable {H : Type} {enc : TypeId × Value → H} {P : Program} {w : World} {base : Nat} {spare : Nat → Bool} {held : Bool} {fuel : Nat} {t e : TypeId} {cs : List Value} {x : DataW H × List MemPlace}
theorem kT {n : Nat} {ks : List Int} (ht : P.underlying t = some (.array n e)) (he : P.underlying e = some (.int .u32)) (hc : P.cellsOf e = 1) (hct : P.cellsOf t = n) (h : DataW.trod enc P w base spare held fuel t cs = some x) (hx : x.1 = .agg (ks.map fun k => .lit (.int .u32 k))) : cs = ks.map (fun k => .int .u32 k) := by
 obtain ⟨xs, m, rfl, rfl, hlen, hxs, hel⟩ := DataW.trod_array ht h
 simp only [DataW.agg.injEq] at hx
 have hl : ks.length = n := by
  have h := congrArg List.length hx
  rw [List.length_map, List.length_map] at h
  omega
 refine List.ext_getElem (by rw [hlen, hct, List.length_map, hl]) fun i h1 h2 => ?_
 have hi : i < n := by rw [← hct, ← hlen]; exact h1
 have hi2 : i < ks.length := by omega
 have h3 := hel i hi
 rw [hc, Nat.mul_one, List.getElem?_eq_getElem om] at h3
 obtain ⟨k, e1, e2, _⟩ := DataW.trod_int he h3
 rw [List.drop_eq_getElem_cons h1, List.take_succ_cons] at e1
 injection e1 with e1 _
 have h4 : (xs.map (·.1))[i]? = (ks.map fun k => DataW.lit (H := H) (.int .u32 k))[i]? := by rw [hx]
 rw [List.getElem?_map, List.getElem?_map, List.getElem?_eq_getElem om, List.getElem?_eq_getElem hi2, Option.map_some, Option.map_some, e2] at h4
 simp only [Option.some.injEq, DataW.lit.injEq, Lit.int.injEq, true_and] at h4
 rw [e1, List.getElem_map, h4]
theorem nB (ht : P.underlying t = some .string) (hw : Wt P t x.1) (h : DataW.trod enc P w base spare held fuel t cs = some x) : ∃ s : List UInt8, cs = [sv s] ∧ s.length ≤ 140737488355328 := by
 obtain ⟨s', hcs, hx, hs⟩ := DataW.trod_string ht h
 subst hx
 refine ⟨s'.data.toList, hcs, ?_⟩
 have h1 := hw s'.data.toList.length (by simp [DataW.weights])
 have h2 := reachBytes_lt
 omega
end
end Go.PW
namespace Go.Proofs.YtddfkkdanpmnaaaGreatDoor
open Go.RowKit Go.PW _root_.Go.Proofs.Tryz
open Go.ChangeShapes Go.WideShapes Go.ChangeAt Go.RowKit Go.PW
theorem ownD : ownKnob Tryz.prog.godebug = none := by kernel_rfl
theorem dG : laidOutB Tryz.prog = true := by kernel_rfl
def laid1 : List (String × DataW Unit) := [("dialtone/digest.round", Rows.laid_dialtone_digest_round)]
theorem gRound : Tryz.prog.globalNamed "dialtone/digest.round" = some 0 := by kernel_rfl
theorem tRound : (Tryz.prog.globals[0]?).map (·.type) = some 161 := by kernel_rfl
theorem oW : (Rows.laid_dialtone_digest_round : DataW Unit) = .agg ((kOf.map fun k => (k.toNat : Int)).map fun k => .lit (.int .u32 k)) := by kernel_rfl
theorem ov (os : Os) (args : Array Value) : laidMetH Tryz.prog laid1 ((World.doorLaid Tryz.prog 4000 os).forCall (fun _ _ => 0) ⟨#[], args, []⟩).memory :=
 laidMetH_of_parts3 (fuel := 8) (laidMet_of_run' 8 kr kr) kr kr
theorem kB (os : Os) (args : Array Value) : ((World.doorLaid Tryz.prog 4000 os).forCall (fun _ _ => 0) ⟨#[], args, []⟩).Shaped Tryz.prog := World.shaped_of_RefB kr kr
theorem qa {W : World} (h : laidMetH Tryz.prog laid1 W) (hs : W.ShapedOpen Tryz.prog) : (blk 0 (kOf.map wv) 161).ok W := by
 rw [MakeChecks.laidMetH_plain _ _ _ kr] at h
 obtain ⟨ps, ⟨g0, t0, cs0, f0, p0, q0, hg0, ht0, hv0, hd0, _, _⟩, _, _⟩ := h
 obtain rfl := Option.some.inj (gRound.symm.trans hg0)
 obtain rfl := Option.some.inj (tRound.symm.trans ht0)
 obtain ⟨cs, hcs, _, _⟩ := hs.1 0 (List.replicate 64 (.int .u32 0)).toArray 161 (of_decide_eq_true kr) kr
 have e : cs0 = cs := by
  have := hv0
  simp only [World.var?, gRound, Option.bind_some, hcs, Option.some.injEq] at this
  exact this.symm
 subst e
 have hw := kT (ks := kOf.map fun k => (k.toNat : Int)) underlying161 underlying116 kr kr hd0 oW
 have hl : cs0 = (kOf.map wv).toArray := by
  apply Array.toList_inj.1
  rw [hw, List.map_map]; rfl
 show W.heap[0]? = some (.cells (kOf.map wv).toArray 161)
 rw [← hl]; exact hcs
open Go.ChangeShapes Go.WideShapes Go.ChangeAt
section
variable {H : Type} {enc : TypeId × Value → H} {W : World} {base b0 : Nat} {sp : Nat → Bool} {hd : Bool} {v : Value} {d : DataW H} {ps : List MemPlace} {r : Reach}
theorem lh {n : Int} (h : Go.PW.i64 n) : i64 n := h
theorem kU {t : TypeId} (ht : Tryz.prog.underlying t = some .bool) (hval : Value.okWide Tryz.prog W r b0 t v) : ∃ b : Bool, v = .bool b := by
 have h := dc (by rw [ht]) hval
 unfold Cell.okWide Cell.ok at h
 rw [ht] at h
 cases v <;> simp_all
theorem len5 {α : Type} {l : List α} (h : l.length = 5) : ∃ a0 a1 a2 a3 a4, l = [a0, a1, a2, a3, a4] := by
 match l, h with
 | [a0, a1, a2, a3, a4], _ => exact ⟨_, _, _, _, _, rfl⟩
theorem m8 {fuel : Nat} {cs : List Value} {x : DataW H × List MemPlace} (hl : cs.length = 5) (hw : Wt Tryz.prog 65 x.1) (h : DataW.trod enc Tryz.prog W base sp hd fuel 65 cs = some x) :
  ∃ (n0 : Int) (n1 : Int) (n2 : Int) (n3 : Int) (n4 : Int), cs = [iv n0, iv n1, iv n2, iv n3, iv n4] ∧ (i64 n0) ∧ (i64 n1) ∧ (i64 n2) ∧ (i64 n3) ∧ (i64 n4) := by
 obtain ⟨zs, hz, he, hy⟩ := l8 5 underlying65 underlying3 kr h hl
 obtain ⟨n0, n1, n2, n3, n4, rfl⟩ := len5 hz
 exact ⟨n0, n1, n2, n3, n4, he, hy n0 sm, hy n1 sm, hy n2 sm, hy n3 sm, hy n4 sm⟩
theorem mz {fuel : Nat} {v : Value} {x : DataW H × List MemPlace} (hok : Cell.okWide Tryz.prog W r b0 22 v) (hw : Wt Tryz.prog 22 x.1) (h : DataW.trod enc Tryz.prog W base sp hd fuel 22 [v] = some x) :
  ∃ xs : List Rin, SlAt W v 5 (xs.map Rin.cells) ∧ ∀ a ∈ xs, a.wt := by
 obtain ⟨els, h1, h2⟩ := lq 5 underlying22 kr de (of_decide_eq_true kr) hok hw h
 exact oF (f := Rin.cells) (q := fun a => a.wt) h1 fun i hi => by
  obtain ⟨n, y, hy, hwy⟩ := h2 i hi
  obtain ⟨n0, n1, n2, n3, n4, he, hf⟩ := m8 (h1.1 _ (List.getElem_mem hi)) hwy hy
  exact ⟨⟨n0, n1, n2, n3, n4⟩, he, hf⟩
theorem kx (hval : Value.okWide Tryz.prog W r b0 22 v) (hw : Wt Tryz.prog 22 d) (hd0 : DataW.Trod enc Tryz.prog W base sp hd 22 v d ps) :
  ∃ xs : List Rin, SlAt W v 5 (xs.map Rin.cells) ∧ ∀ a ∈ xs, a.wt := by
 obtain ⟨fuel, hf⟩ := hd0
 have hcs : v.cells.toList = [v] := by
  rcases dc (by rw [underlying22]) hval with h
  have : ∃ a n c, v = .slice a n c := by
   unfold Cell.okWide Cell.ok at h
   rw [underlying22] at h
   cases v <;> simp_all
  obtain ⟨a, n, c, rfl⟩ := this
  rfl
 rw [hcs] at hf
 exact mz (dc (by rw [underlying22]) hval) hw hf
theorem lQ {fuel : Nat} {v : Value} {x : DataW H × List MemPlace} (hok : Cell.okWide Tryz.prog W r b0 26 v) (hw : Wt Tryz.prog 26 x.1) (h : DataW.trod enc Tryz.prog W base sp hd fuel 26 [v] = some x) :
  ∃ xs : List By, SlAt W v 1 (xs.map (fun s : By => [sv s])) ∧ ∀ a ∈ xs, True := by
 obtain ⟨els, h1, h2⟩ := lq 1 underlying26 kr de (of_decide_eq_true kr) hok hw h
 exact oF (f := fun s : By => [sv s]) (q := fun a => True) h1 fun i hi => by
  obtain ⟨n, y, hy, hwy⟩ := h2 i hi
  obtain ⟨s0, he, f0⟩ := nB underlying9 hwy hy
  exact ⟨s0, he, trivial⟩
theorem kt (hval : Value.okWide Tryz.prog W r b0 26 v) (hw : Wt Tryz.prog 26 d) (hd0 : DataW.Trod enc Tryz.prog W base sp hd 26 v d ps) :
  ∃ xs : List By, SlAt W v 1 (xs.map (fun s : By => [sv s])) ∧ ∀ a ∈ xs, True := by
 obtain ⟨fuel, hf⟩ := hd0
 have hcs : v.cells.toList = [v] := by
  rcases dc (by rw [underlying26]) hval with h
  have : ∃ a n c, v = .slice a n c := by
   unfold Cell.okWide Cell.ok at h
   rw [underlying26] at h
   cases v <;> simp_all
  obtain ⟨a, n, c, rfl⟩ := this
  rfl
 rw [hcs] at hf
 exact lQ (dc (by rw [underlying26]) hval) hw hf
end
end Go.Proofs.YtddfkkdanpmnaaaGreatDoor
