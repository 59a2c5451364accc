/- Texts joined: RefC, RefD, RefE, WirA, BldA, WshN, RefI, LgA, LgB, LgC, LgD, LgE, LgF, LgG, LgH. -/
import Derived.Test.YtddfkkdanpmnaaaDoorPDC
import Derived.Test.YtddfkkdanpmnaaaDoorPDB
import Derived.Test.YtddfkkdanpmnaaaDoorPDA
import Derived.Laws.StructEq
namespace Go.Proofs.YtddfkkdanpmnaaaDoor
open Go.RowKit Go.PW
set_option linter.unusedVariables false
set_option linter.unusedSimpArgs false
set_option maxRecDepth 4000
theorem lU (v : W8) {q : Nat} (h : q < 8) : v.out.take (4 * (q + 1)) = v.out.take (4 * q) ++ [UInt8.ofNat (v.l.getD q 0#32 >>> 24).toNat, UInt8.ofNat (v.l.getD q 0#32 >>> 16).toNat, UInt8.ofNat (v.l.getD q 0#32 >>> 8).toNat, UInt8.ofNat (v.l.getD q 0#32).toNat] := by
 have : q = 0 ∨ q = 1 ∨ q = 2 ∨ q = 3 ∨ q = 4 ∨ q = 5 ∨ q = 6 ∨ q = 7 := by omega
 rcases this with rfl | rfl | rfl | rfl | rfl | rfl | rfl | rfl <;> simp [W8.out, W8.l, jG]
set_option maxHeartbeats 4000000 in
theorem mt (s : By) (w0 : World) (hs : s.length ≤ 100000000) :
  Ret Tryd.prog 70 #[sv s] w0 fun v w => v = sv (sha s) ∧ Ext No w0 w := by
 have hpb := eD s
 refine aG Tryd.func70 rfl Tryd.ntmps70 (lb rfl) fun a Z => ?_
 replace Z : Fr 56 [(0, _)] [] a := Z
 replace Y : St No w0 [] w0 := St.init w0
 refine aa fun K1 hK1 => wla Z rfl fun a Z => ab (hK1 _ _ <| aa fun K2 hK2 => ?_)
 refine aH (E := 133) (sz := 1) rfl [[wv (1779033703#32)], [wv (3144134277#32)], [wv (1013904242#32)], [wv (2773480762#32)], [wv (1359893119#32)], [wv (2600822924#32)], [wv (528734635#32)], [wv (1541459225#32)]] (by kernel_rfl) (by simp) rfl (by decide) (by decide) Z Y ?_
 clear Z Y
 intro a w1 Z Y
 refine wla Z rfl fun a Z => ab (hK2 _ _ <| aa fun K3 hK3 => ?_)
 refine wlm Z rfl fun a Z => aZ Z Y (by decide) Tryd.call88 rfl (iH s _ hs) ?_
 clear Z Y
 intro a w2 x1 hp Z Y
 revert x1 hp Z Y; rintro bz hp Z Y
 clear hp
 replace Y : St No w0 [own bz 5 1 ((padded s).map fun b => [yv b]), own (.slice (some ⟨w0.heap.size, 0, none⟩) 8 8) 133 1 ([[wv (1779033703#32)], [wv (3144134277#32)], [wv (1013904242#32)], [wv (2773480762#32)], [wv (1359893119#32)], [wv (2600822924#32)], [wv (528734635#32)], [wv (1541459225#32)]])] w2 := Y
 refine wla Z rfl fun a Z => ab (hK3 _ _ <| ac fun K4 hK4 => ?_)
 refine aa fun K5 hK5 => wla Z rfl fun a Z => ab (hK5 _ _ <| ap ?_)
 replace Y : St No w0 [own bz 5 1 ((padded s).map fun b => [yv b]), own (.slice (some ⟨w0.heap.size, 0, none⟩) 8 8) 133 1 (((blocks h0 (padded s) 0).l).map fun x => [wv x])] w2 := Y
 refine aT (fun m a w => ∃ (q : Nat) (hz : Value), m = (padded s).length / 64 - q ∧ (q ≤ (padded s).length / 64) ∧ Fr 56 [(2, sv ([])), (4, bz), (3, hz), (5, iv ((64 * q : Nat) : Int))] [] a ∧ St No w0 [own hz 133 1 (((blocks h0 (padded s) q).l).map fun x => [wv x]), own bz 5 1 ((padded s).map fun b => [yv b])] w) _ ⟨0, (.slice (some ⟨w0.heap.size, 0, none⟩) 8 8), rfl, Nat.zero_le _, Z.pick [2, 4, 3, 5], Y.select [1, 0] (by decide)⟩ ?_
 rintro _ a w3 ⟨q, hz, rfl, hq, Z, Y⟩
 refine ac fun K6 hK6 => aa fun K7 hK7 => wlm Z rfl fun a Z => wlm Z rfl fun a Z => wlv Z ((aM (sT := 71) (Y.ownAt (i := 1) rfl) rfl rfl (Tryd.runUnderlying71 _)).asi (m' := ((padded s).length : Int)) (by rw [List.length_map])) fun a Z => wlv Z (v_lt rfl rfl) fun a Z => ab (hK7 _ _ ?_)
 refine aC Z rfl (fun hc2 => ?_) (fun hc2 => ?_)
 ·rw [hc2] at Z
  try simp only [qz] at hc2
  have hpl := em s
  refine ao <| hK6 _ _ <| ac fun K8 hK8 => ap <| am <| wlm Z rfl fun a Z => wlm Z rfl fun a Z => wlm Z rfl fun a Z => wlm Z rfl fun a Z => wlv Z (aL rfl rfl ⟨by omega, by omega⟩) fun a Z => ?_
  refine wlv Z (bU (l := (64 * q)) (h := (64 * q + 64)) (Y.ownAt (i := 1) rfl) rfl rfl rfl Tryd.underlying71 (by kernel_rfl) (.inr (by first | rfl | (rw [show (((64 * q : Nat) : Int) : Int) = (((64 * q) : Nat) : Int) from by omega] <;> rfl))) (.inr (by first | rfl | (rw [show (((64 * q : Nat) : Int) + 64 : Int) = (((64 * q + 64) : Nat) : Int) from by omega] <;> rfl))) (by omega) (by first | (rw [List.length_map]; omega) | (simp <;> omega))) fun a Z => aZ Z Y (by decide) Tryd.call89 rfl (kJ hz (cut bz 1 (64 * q) (64 * q + 64) (slCap bz)) (blocks h0 (padded s) q) (((padded s).drop (64 * q)).take 64) _ (Y.ownAt (i := 0) rfl) (by have h := ((Y.ownAt (i := 1) rfl).cutm (l := (64 * q)) (h := (64 * q + 64)) (by omega) (by first | omega | (simp; omega))); rwa [show 64 * q + 64 - 64 * q = 64 from by omega] at h) (by simp; omega)) ?_
  clear Z Y
  intro a w4 x4 hp Z Y
  revert x4 hp Z Y; rintro v3 hp Z Y
  clear hp
  replace Y : St No w0 [own v3 133 1 (((block (blocks h0 (padded s) q) (((padded s).drop (64 * q)).take 64)).l).map fun x => [wv x]), own hz 133 1 (((blocks h0 (padded s) q).l).map fun x => [wv x]), own bz 5 1 ((padded s).map fun b => [yv b])] w4 := Y
  refine wla Z rfl fun a Z => ab <| hK8 _ _ ?_
  replace Z : Fr 56 [(2, _), (4, _), (5, _), (3, _)] [] a := Z.pick [2, 4, 5, 3]
  refine am <| wlm Z rfl fun a Z => wlv Z (aL rfl rfl ⟨by omega, by omega⟩) fun a Z => wla Z rfl fun a Z => ab ?_
  replace Y : St No w0 [own v3 133 1 (((blocks h0 (padded s) (q + 1)).l).map fun x => [wv x]), own hz 133 1 (((blocks h0 (padded s) q).l).map fun x => [wv x]), own bz 5 1 ((padded s).map fun b => [yv b])] w4 := Y
  rw [show ((64 * q : Nat) : Int) + 64 = ((64 * (q + 1) : Nat) : Int) from by omega] at Z
  refine ⟨_, ?_, q + 1, v3, rfl, (by omega), Z.pick [2, 4, 3, 5], Y.select [0, 2] (by decide)⟩
  omega
 rw [hc2] at Z
 try simp only [qz] at hc2
 have hpl := em s
 obtain rfl : q = (padded s).length / 64 := by omega
 refine aF <| hK4 _ _ <| aa fun K9 hK9 => wla Z rfl fun a Z => ab (hK9 _ _ ?_)
 replace Z : Fr 56 [(2, _), (3, _), (6, _)] [] a := Z.pick [2, 3, 6]
 refine ac fun K10 hK10 => aa fun K11 hK11 => wla Z rfl fun a Z => ab (hK11 _ _ <| ap ?_)
 replace Y : St No w0 [own (.slice none 0 0) 5 1 (((blocks h0 (padded s) ((padded s).length / 64)).out.take (4 * 0)).map fun b => [yv b]), own hz 133 1 (((blocks h0 (padded s) ((padded s).length / 64)).l).map fun x => [wv x]), own bz 5 1 ((padded s).map fun b => [yv b])] w3 := Y.nil_own
 refine aT (fun m a w => ∃ (r : Nat) (oz : Value), m = 8 - r ∧ (r ≤ 8) ∧ Fr 56 [(2, sv ([])), (3, hz), (6, oz), (7, iv (r : Int))] [] a ∧ St No w0 [own oz 5 1 (((blocks h0 (padded s) ((padded s).length / 64)).out.take (4 * r)).map fun b => [yv b]), own hz 133 1 (((blocks h0 (padded s) ((padded s).length / 64)).l).map fun x => [wv x])] w) _ ⟨0, .slice none 0 0, rfl, Nat.zero_le _, Z.pick [2, 3, 6, 7], Y.select [0, 1] (by decide)⟩ ?_
 rintro _ a w5 ⟨r, oz, rfl, hr, Z, Y⟩
 refine ac fun K12 hK12 => aa fun K13 hK13 => wlm Z rfl fun a Z => wlv Z (v_lt rfl rfl) fun a Z => ab (hK13 _ _ ?_)
 refine aC Z rfl (fun hc5 => ?_) (fun hc5 => ?_)
 ·rw [hc5] at Z
  try simp only [qz] at hc5
  refine ao <| hK12 _ _ <| ac fun K14 hK14 => ap <| aN (by kernel_rfl) (aQ (by kernel_rfl) fun w6 hxz => ?_)
  replace Y := Y.grow hxz
  refine bp (k := 0) 25 [0, 24] Z (by kernel_rfl) (by kernel_rfl) (by kernel_rfl) (by rfl) ?_
  replace Z : Fr 56 [(2, _), (3, _), (6, _), (7, _), (24, _), (25, _)] [] a := Z.pick [2, 3, 6, 7, 24, 25]
  refine aI [24] (fun i => match i with | 24 => pm (fun b : Nat => .slice (some ⟨b, 0, none⟩) 4 4) (fun b => [own (.slice (some ⟨b, 0, none⟩) 4 4) 5 1 [[yv (UInt8.ofNat (((blocks h0 (padded s) ((padded s).length / 64)).l.getD r 0#32) >>> 24).toNat)], [yv (UInt8.ofNat (((blocks h0 (padded s) ((padded s).length / 64)).l.getD r 0#32) >>> 16).toNat)], [yv (UInt8.ofNat (((blocks h0 (padded s) ((padded s).length / 64)).l.getD r 0#32) >>> 8).toNat)], [yv (UInt8.ofNat ((blocks h0 (padded s) ((padded s).length / 64)).l.getD r 0#32).toNat)]]]) (fun _ => True) | _ => fun _ _ => False) 25 [[], [], [], [1, 2], [3], [4], [5], [], [], [7, 8], [9], [10], [11], [], [], [13, 14], [15], [16], [17], [], [], [19, 20], [21], [22], [6, 12, 18, 23]] [oz, hz, iv (r : Int), slAddr hz (r * 1), wv ((blocks h0 (padded s) ((padded s).length / 64)).l.getD r 0#32), wv (((blocks h0 (padded s) ((padded s).length / 64)).l.getD r 0#32) >>> 24), yv (UInt8.ofNat (((blocks h0 (padded s) ((padded s).length / 64)).l.getD r 0#32) >>> 24).toNat), hz, iv (r : Int), slAddr hz (r * 1), wv ((blocks h0 (padded s) ((padded s).length / 64)).l.getD r 0#32), wv (((blocks h0 (padded s) ((padded s).length / 64)).l.getD r 0#32) >>> 16), yv (UInt8.ofNat (((blocks h0 (padded s) ((padded s).length / 64)).l.getD r 0#32) >>> 16).toNat), hz, iv (r : Int), slAddr hz (r * 1), wv ((blocks h0 (padded s) ((padded s).length / 64)).l.getD r 0#32), wv (((blocks h0 (padded s) ((padded s).length / 64)).l.getD r 0#32) >>> 8), yv (UInt8.ofNat (((blocks h0 (padded s) ((padded s).length / 64)).l.getD r 0#32) >>> 8).toNat), hz, iv (r : Int), slAddr hz (r * 1), wv ((blocks h0 (padded s) ((padded s).length / 64)).l.getD r 0#32), yv (UInt8.ofNat ((blocks h0 (padded s) ((padded s).length / 64)).l.getD r 0#32).toNat), undef] Z Y (by kernel_rfl) (by kernel_rfl) (by kernel_rfl) ?_ ?_ ?_
  ·intro i hi hiq
   match i, hi, hiq with
   | 0, _, _ =>
    intro w Y
    exact OpV.g (ai rfl)
   | 1, _, _ =>
    intro w Y
    exact OpV.g (ai rfl)
   | 2, _, _ =>
    intro w Y
    exact OpV.g (ai rfl)
   | 3, _, _ =>
    intro w Y
    exact OpV.g ((ak (i := (r : Int)) (sT := 134) (Y.ownAt (i := 1) rfl) rfl rfl (Tryd.runUnderlying134 _) (Tryd.sizeOf133 _) (by omega) (by rw [List.length_map]; first | omega | (rw [W8.l_len]; omega))).as (v' := slAddr hz (r * 1)) rfl)
   | 4, _, _ =>
    intro w Y
    exact OpV.g (ax (u := wv ((blocks h0 (padded s) ((padded s).length / 64)).l.getD r 0#32)) (i := r) (j := 0) (Y.ownAt (i := 1) rfl) (by rw [List.length_map]; first | omega | (rw [W8.l_len]; omega)) rfl (Tryd.isAgg133 _) (by rw [bE 0#32]; rfl))
   | 5, _, _ =>
    intro w Y
    exact OpV.g (dg (n := 24) rfl rfl)
   | 6, _, _ =>
    intro w Y
    exact OpV.g (di rfl (by kernel_rfl) Tryd.underlying5)
   | 7, _, _ =>
    intro w Y
    exact OpV.g (ai rfl)
   | 8, _, _ =>
    intro w Y
    exact OpV.g (ai rfl)
   | 9, _, _ =>
    intro w Y
    exact OpV.g ((ak (i := (r : Int)) (sT := 134) (Y.ownAt (i := 1) rfl) rfl rfl (Tryd.runUnderlying134 _) (Tryd.sizeOf133 _) (by omega) (by rw [List.length_map]; first | omega | (rw [W8.l_len]; omega))).as (v' := slAddr hz (r * 1)) rfl)
   | 10, _, _ =>
    intro w Y
    exact OpV.g (ax (u := wv ((blocks h0 (padded s) ((padded s).length / 64)).l.getD r 0#32)) (i := r) (j := 0) (Y.ownAt (i := 1) rfl) (by rw [List.length_map]; first | omega | (rw [W8.l_len]; omega)) rfl (Tryd.isAgg133 _) (by rw [bE 0#32]; rfl))
   | 11, _, _ =>
    intro w Y
    exact OpV.g (dg (n := 16) rfl rfl)
   | 12, _, _ =>
    intro w Y
    exact OpV.g (di rfl (by kernel_rfl) Tryd.underlying5)
   | 13, _, _ =>
    intro w Y
    exact OpV.g (ai rfl)
   | 14, _, _ =>
    intro w Y
    exact OpV.g (ai rfl)
   | 15, _, _ =>
    intro w Y
    exact OpV.g ((ak (i := (r : Int)) (sT := 134) (Y.ownAt (i := 1) rfl) rfl rfl (Tryd.runUnderlying134 _) (Tryd.sizeOf133 _) (by omega) (by rw [List.length_map]; first | omega | (rw [W8.l_len]; omega))).as (v' := slAddr hz (r * 1)) rfl)
   | 16, _, _ =>
    intro w Y
    exact OpV.g (ax (u := wv ((blocks h0 (padded s) ((padded s).length / 64)).l.getD r 0#32)) (i := r) (j := 0) (Y.ownAt (i := 1) rfl) (by rw [List.length_map]; first | omega | (rw [W8.l_len]; omega)) rfl (Tryd.isAgg133 _) (by rw [bE 0#32]; rfl))
   | 17, _, _ =>
    intro w Y
    exact OpV.g (dg (n := 8) rfl rfl)
   | 18, _, _ =>
    intro w Y
    exact OpV.g (di rfl (by kernel_rfl) Tryd.underlying5)
   | 19, _, _ =>
    intro w Y
    exact OpV.g (ai rfl)
   | 20, _, _ =>
    intro w Y
    exact OpV.g (ai rfl)
   | 21, _, _ =>
    intro w Y
    exact OpV.g ((ak (i := (r : Int)) (sT := 134) (Y.ownAt (i := 1) rfl) rfl rfl (Tryd.runUnderlying134 _) (Tryd.sizeOf133 _) (by omega) (by rw [List.length_map]; first | omega | (rw [W8.l_len]; omega))).as (v' := slAddr hz (r * 1)) rfl)
   | 22, _, _ =>
    intro w Y
    exact OpV.g (ax (u := wv ((blocks h0 (padded s) ((padded s).length / 64)).l.getD r 0#32)) (i := r) (j := 0) (Y.ownAt (i := 1) rfl) (by rw [List.length_map]; first | omega | (rw [W8.l_len]; omega)) rfl (Tryd.isAgg133 _) (by rw [bE 0#32]; rfl))
   | 23, _, _ =>
    intro w Y
    exact OpV.g (di rfl (by kernel_rfl) Tryd.underlying5)
   | 24, _, h => exact absurd (by simp) h
   | i + 25, h, _ => exact absurd h (by omega)
  ·intro i hi
   simp only [List.mem_cons, List.not_mem_nil, or_false] at hi
   subst hi
   ·intro w Y
    exact aK (E := 5) (sz := 1) rfl [[yv (UInt8.ofNat (((blocks h0 (padded s) ((padded s).length / 64)).l.getD r 0#32) >>> 24).toNat)], [yv (UInt8.ofNat (((blocks h0 (padded s) ((padded s).length / 64)).l.getD r 0#32) >>> 16).toNat)], [yv (UInt8.ofNat (((blocks h0 (padded s) ((padded s).length / 64)).l.getD r 0#32) >>> 8).toNat)], [yv (UInt8.ofNat ((blocks h0 (padded s) ((padded s).length / 64)).l.getD r 0#32).toNat)]] (fun _ => by kernel_rfl) (by simp) rfl (by decide)
  clear Z Y
  rintro _ _ ⟨b6, rfl, -, rfl⟩ a w7 Z Y
  replace Z : Fr 56 [(28, oz), (29, hz), (30, iv (r : Int)), (31, slAddr hz (r * 1)), (32, wv ((blocks h0 (padded s) ((padded s).length / 64)).l.getD r 0#32)), (33, wv (((blocks h0 (padded s) ((padded s).length / 64)).l.getD r 0#32) >>> 24)), (34, yv (UInt8.ofNat (((blocks h0 (padded s) ((padded s).length / 64)).l.getD r 0#32) >>> 24).toNat)), (35, hz), (36, iv (r : Int)), (37, slAddr hz (r * 1)), (38, wv ((blocks h0 (padded s) ((padded s).length / 64)).l.getD r 0#32)), (39, wv (((blocks h0 (padded s) ((padded s).length / 64)).l.getD r 0#32) >>> 16)), (40, yv (UInt8.ofNat (((blocks h0 (padded s) ((padded s).length / 64)).l.getD r 0#32) >>> 16).toNat)), (41, hz), (42, iv (r : Int)), (43, slAddr hz (r * 1)), (44, wv ((blocks h0 (padded s) ((padded s).length / 64)).l.getD r 0#32)), (45, wv (((blocks h0 (padded s) ((padded s).length / 64)).l.getD r 0#32) >>> 8)), (46, yv (UInt8.ofNat (((blocks h0 (padded s) ((padded s).length / 64)).l.getD r 0#32) >>> 8).toNat)), (47, hz), (48, iv (r : Int)), (49, slAddr hz (r * 1)), (50, wv ((blocks h0 (padded s) ((padded s).length / 64)).l.getD r 0#32)), (51, yv (UInt8.ofNat ((blocks h0 (padded s) ((padded s).length / 64)).l.getD r 0#32).toNat)), (52, _), (2, _), (3, _), (6, _), (7, _), (24, _), (25, _)] [] a := Z
  replace Y : St No w0 [_, _, _] w7 := Y
  refine ab <| bd (k := 25) 27 [26] (by kernel_rfl) (by kernel_rfl) (by kernel_rfl) ?_
  refine aR (i := 1) (sT := 71) (inf := Tryd.t5) (z := yv (0 : UInt8)) (b := 0) (off := 0) (m := 0) (c := 0) rfl rfl rfl (Y.ownAt (i := 0) rfl) (by simp) Tryd.underlying71 rfl rfl rfl rfl (by decide) (by simp [Value.oneCell', yv, wv, sv]) (by have hby : Tryd.t5.bytes = 1 := rfl; simp only [big, hby, List.length_append, List.length_map, List.length_take, fb, List.length_cons, List.length_nil]; omega) (by have hby : Tryd.t5.bytes = 1 := rfl; simp only [big, hby, List.length_append, List.length_map, List.length_take, fb, List.length_cons, List.length_nil]; omega) (by decide) Z Y fun a w8 s7 Z Y _ => wla Z rfl fun a Z => ab <| bl (by kernel_rfl) ?_
  refine hK14 _ _ ?_
  replace Z : Fr 56 [(2, _), (3, _), (7, _), (6, _)] [] a := Z.pick [2, 3, 7, 6]
  replace Y : St No w0 [_, _] w8 := Y.mask [false, true, true]
  refine am <| wlm Z rfl fun a Z => wlv Z (aL rfl rfl ⟨by omega, by omega⟩) fun a Z => wla Z rfl fun a Z => ab ?_
  rw [show (((blocks h0 (padded s) ((padded s).length / 64)).out.take (4 * r)).map fun b => [yv b]) ++ ([[yv (UInt8.ofNat (((blocks h0 (padded s) ((padded s).length / 64)).l.getD r 0#32) >>> 24).toNat)], [yv (UInt8.ofNat (((blocks h0 (padded s) ((padded s).length / 64)).l.getD r 0#32) >>> 16).toNat)], [yv (UInt8.ofNat (((blocks h0 (padded s) ((padded s).length / 64)).l.getD r 0#32) >>> 8).toNat)], [yv (UInt8.ofNat ((blocks h0 (padded s) ((padded s).length / 64)).l.getD r 0#32).toNat)]]) = (((blocks h0 (padded s) ((padded s).length / 64)).out.take (4 * (r + 1))).map fun b => [yv b]) from by rw [lU _ (by omega)]; simp] at Y
  refine ⟨_, ?_, r + 1, s7, rfl, (by omega), Z.pick [2, 3, 6, 7], Y.select [0, 1] (by decide)⟩
  omega
 rw [hc5] at Z
 try simp only [qz] at hc5
 obtain rfl : r = 8 := by omega
 rw [show 4 * 8 = 32 from rfl, List.take_of_length_le (by rw [fb]; decide)] at Y
 refine aF <| hK10 _ _ <| aa fun K15 hK15 => wlm Z rfl fun a Z => wlv Z (bS (Y.ownAt (i := 0) rfl) rfl Tryd.underlying71 Tryd.underlying5 Tryd.underlying9) fun a Z => wla Z rfl fun a Z => ab (hK15 _ _ ?_)
 replace Z : Fr 56 [(2, _)] [] a := Z.pick [2]
 refine au ?_
 refine aq Z Tryd.results70 (ae rfl ah) ?_
 exact ⟨by rfl, Y.ext⟩
end Go.Proofs.YtddfkkdanpmnaaaDoor
namespace Go.Proofs.YtddfkkdanpmnaaaDoor
open Go.RowKit Go.PW
set_option linter.unusedVariables false
set_option linter.unusedSimpArgs false
set_option maxRecDepth 4000
end Go.Proofs.YtddfkkdanpmnaaaDoor
namespace Go.Proofs.YtddfkkdanpmnaaaDoor
open Go.RowKit Go.PW
set_option linter.unusedVariables false
set_option linter.unusedSimpArgs false
set_option maxRecDepth 4000
end Go.Proofs.YtddfkkdanpmnaaaDoor
namespace Go.Proofs.YtddfkkdanpmnaaaDoor
open Go.RowKit Go.PW
set_option linter.unusedVariables false
set_option linter.unusedSimpArgs false
set_option maxRecDepth 4000
theorem kT {f z : Nat} (h : z < 128 ^ (f + 1)) (hz : 128 ≤ z) : ∃ g, f = g + 1 := by
 cases f with
 | zero => exfalso; simp at h; omega
 | succ g => exact ⟨g, rfl⟩
theorem gM {f z : Nat} (h : z < 128 ^ (f + 1 + 1)) : z / 128 < 128 ^ (f + 1) := by
 rw [Nat.pow_succ] at h
 exact Nat.div_lt_of_lt_mul (by rw [Nat.mul_comm]; exact h)
theorem mG {f z : Nat} (h : 128 ≤ z) : vb (f + 1) z = UInt8.ofNat (z % 128 + 128) :: vb f (z / 128) := by rw [vb, if_neg (by omega)]
theorem mZ {f z : Nat} (h : z < 128) : vb f z = [UInt8.ofNat z] := by cases f <;> simp [vb, h]
theorem jt {n : Int} (h : small n) : zz n < 128 ^ (8 + 1) := by
 have := iz h.1 h.2
 have e : (128 : Nat) ^ (8 + 1) = 9223372036854775808 := by decide
 rw [e]; exact this
theorem lZ {n : Int} (h : small n) : zz n < 18446744073709551616 := by have := iz h.1 h.2; omega
def gs : Nat → Nat → List (UInt8 × Bool)
 | 0, z => [(UInt8.ofNat (z % 128), true)]
 | f + 1, z => if z < 128 then [(UInt8.ofNat (z % 128), true)] else (UInt8.ofNat (z % 128), false) :: gs f (z / 128)
def enc1 (x : UInt8 × Bool) : UInt8 := if x.2 then x.1 else x.1 ||| 128
def encG (x : UInt8 × Bool) : List Value := [yv x.1, .bool x.2]
def NxG (pre : List (UInt8 × Bool)) (x : UInt8 × Bool) : Prop := pre.length < 9
theorem mD {f z : Nat} (h : ¬ z < 128) : gs (f + 1) z = (UInt8.ofNat (z % 128), false) :: gs f (z / 128) := by rw [gs, if_neg h]
theorem mE {f z : Nat} (h : z < 128) : gs f z = [(UInt8.ofNat (z % 128), true)] := by cases f <;> simp [gs, h]
theorem or128 : ∀ k, k < 128 → UInt8.ofNat k ||| 128 = UInt8.ofNat (k + 128) := by decide
theorem na : ∀ (f z : Nat), z < 128 ^ (f + 1) → (gs f z).map enc1 = vb f z
 | 0, z, h => by simp [gs, vb, enc1] at h ⊢; rw [Nat.mod_eq_of_lt h]
 | f + 1, z, h => by
  unfold gs vb
  split
  ·rename_i h1
   simp [enc1, Nat.mod_eq_of_lt h1]
  ·rw [List.map_cons, na f _ (gM h), enc1]
   simp only [Bool.false_eq_true, if_false]
   rw [or128 _ (Nat.mod_lt _ (by decide))]
def cu (n : Int) : Nat := (n % 18446744073709551616).toNat
theorem v_zz {P : Program} {w : World} {L : List (Nat × Value)} {dst : Option Tmp} {T T' ty : TypeId} {pos : String} {af : Array Edge} {gd : Option (Nat × Bool)} {x y : Operand} {n : Int} (hs : small n)
  (hx : ev L x = some (.int .u64 ((cu n * 2 % 18446744073709551616 : Nat) : Int))) (hy : ev L y = some (.int .u64 ((cu (if n < 0 then -1 else 0) : Nat) : Int))) : OpV P ⟨dst, .binOp .xor T x y T', ty, pos, af, gd⟩ L w (.int .u64 ((zz n : Nat) : Int)) := by
 have h1 := hs.1
 have h2 := hs.2
 by_cases hn : n < 0
 ·rw [if_pos hn] at hy
  have e : zz n = 18446744073709551615 - cu n * 2 % 18446744073709551616 := by unfold zz cu; rw [if_pos hn]; omega
  rw [e]
  exact m3 (Nat.mod_lt _ (by decide)) hx (by rw [hy]; rfl)
 ·rw [if_neg hn] at hy
  have e : zz n = cu n * 2 % 18446744073709551616 := by unfold zz cu; rw [if_neg hn]; omega
  rw [e]
  exact mP (Nat.mod_lt _ (by decide)) hx (by rw [hy]; rfl)
theorem ki (n : Int) (w0 : World) (hs : small n) :
  Ret Tryd.prog 77 #[iv n] w0 fun v w => v = .int .u64 ((zz n : Nat) : Int) ∧ Ext No w0 w := by
 have hs1 := hs.1
 have hs2 := hs.2
 refine aG Tryd.func77 rfl Tryd.ntmps77 (lb rfl) fun a Z => ?_
 replace Z : Fr 13 [(0, _)] [] a := Z
 replace Y : St No w0 [] w0 := St.init w0
 refine aa fun K1 hK1 => wla Z rfl fun a Z => ab (hK1 _ _ <| ac fun K2 hK2 => ?_)
 refine aa fun K3 hK3 => wlm Z rfl fun a Z => wlv Z (v_lt rfl rfl) fun a Z => ab (hK3 _ _ ?_)
 refine aC Z rfl (fun hc1 => ?_) (fun hc1 => ?_)
 ·rw [hc1] at Z
  try simp only [qz] at hc1
  refine aa fun K4 hK4 => wlm Z rfl fun a Z => wlv Z (hZ rfl (by omega) (by omega)) fun a Z => wlv Z ((cR rfl (by kernel_rfl) Tryd.underlying118).asi (m' := (((-n).toNat : Nat) : Int)) (by omega)) fun a Z => wlv Z (k9 (m := (-n).toNat) (n := 2) (by omega) rfl rfl) fun a Z => wlv Z (ma (m := ((-n).toNat * 2)) (n := 1) (by omega) (by omega) rfl rfl) fun a Z => wla Z rfl fun a Z => ab (hK4 _ _ ?_)
  replace Z : Fr 13 [(0, _), (2, _)] [] a := Z.pick [0, 2]
  refine au ?_
  refine aq Z Tryd.results77 (ae rfl ah) ?_
  refine ⟨congrArg (Value.int .u64) ?_, Y.ext⟩
  unfold zz
  split <;> omega
 rw [hc1] at Z
 try simp only [qz] at hc1
 refine ao <| hK2 _ _ <| aa fun K5 hK5 => wlm Z rfl fun a Z => wlv Z ((cR rfl (by kernel_rfl) Tryd.underlying118).asi (m' := (((n).toNat : Nat) : Int)) (by omega)) fun a Z => wlv Z (k9 (m := (n).toNat) (n := 2) (by omega) rfl rfl) fun a Z => wla Z rfl fun a Z => ab (hK5 _ _ ?_)
 replace Z : Fr 13 [(2, _)] [] a := Z.pick [2]
 refine au ?_
 refine aq Z Tryd.results77 (ae rfl ah) ?_
 refine ⟨congrArg (Value.int .u64) ?_, Y.ext⟩
 unfold zz
 split <;> omega
theorem i9 (n : Int) (w0 : World) (hs : small n) :
  Ret Tryd.prog 53 #[iv n] w0 fun v w => v = .tuple #[sv (putI n), iv 0] ∧ Ext No w0 w := by
 refine aG Tryd.func53 rfl Tryd.ntmps53 (lb rfl) fun a Z => ?_
 replace Z : Fr 31 [(0, _)] [] a := Z
 replace Y : St No w0 [] w0 := St.init w0
 refine aa fun K1 hK1 => wla Z rfl fun a Z => wla Z rfl fun a Z => ab (hK1 _ _ <| ac fun K2 hK2 => ?_)
 refine aa fun K3 hK3 => wlm Z rfl fun a Z => wlv Z ((v_lt rfl rfl).asb (b' := false) (by rw [decide_eq_false_iff_not]; have := hs.1; omega)) fun a Z => wlm Z rfl fun a Z => wly Z (ai rfl) fun a Z => wly Z ((v_gt rfl rfl).asb (b' := false) (by rw [decide_eq_false_iff_not]; have := hs.2; omega)) fun a Z => wlv Z (aw rfl rfl) fun a Z => ab (hK3 _ _ <| av Z rfl ?_)
 refine ao <| hK2 _ _ <| aa fun K4 hK4 => wlm Z rfl fun a Z => al Z Y (by decide) Tryd.call77 rfl (ki n _ hs) ?_
 clear Z Y
 intro a w1 Z Y
 refine wla Z rfl fun a Z => ab (hK4 _ _ ?_)
 replace Z : Fr 31 [(2, _), (3, _), (4, _)] [] a := Z.pick [2, 3, 4]
 refine aa fun K5 hK5 => wla Z rfl fun a Z => ab (hK5 _ _ <| ac fun K6 hK6 => ?_)
 refine ap ?_
 replace Y : St No w0 [own (.slice none 0 0) 5 1 ((([] : By)).map fun b => [yv b])] w1 := Y.nil_own
 refine aT (fun m a w => ∃ (f : Nat) (z : Nat) (bs : By) (v : Value), m = f ∧ (bs ++ vb f z = putI n) ∧ (z < 128 ^ (f + 1)) ∧ (bs.length + f = 8) ∧ (z < 18446744073709551616) ∧ Fr 31 [(2, sv ([])), (3, iv 0), (4, .int .u64 (z : Int)), (5, v)] [] a ∧ St No w0 [own v 5 1 ((bs).map fun b => [yv b])] w) _ ⟨8, zz n, [], .slice none 0 0, rfl, rfl, jt hs, rfl, lZ hs, Z.pick [2, 3, 4, 5], Y⟩ ?_
 rintro _ a w2 ⟨f, z, bs, v, rfl, hb, hz, hl, hz6, Z, Y⟩
 refine ac fun K7 hK7 => aa fun K8 hK8 => wlm Z rfl fun a Z => wlv Z (v_ge rfl rfl) fun a Z => ab (hK8 _ _ ?_)
 refine aC Z rfl (fun hc1 => ?_) (fun hc1 => ?_)
 ·rw [hc1] at Z
  try simp only [qz] at hc1
  obtain ⟨g, rfl⟩ := kT hz (by omega)
  rw [mG (by omega)] at hb
  refine ao <| hK7 _ _ <| ap <| aa fun K9 hK9 => wlm Z rfl fun a Z => wlm Z rfl fun a Z => wlv Z (ny (m := z) (n := 128) (by omega) rfl rfl) fun a Z => wlv Z (nt (m := (z % 128)) (n := 128) (by omega) rfl rfl) fun a Z => ?_
  refine wlv Z (eK (n := ((z % 128) + 128)) rfl (by kernel_rfl) Tryd.underlying5) fun a Z => aH (E := 5) (sz := 1) rfl [[yv (UInt8.ofNat ((z % 128) + 128))]] (by kernel_rfl) (by simp) rfl (by decide) (by decide) Z Y ?_
  clear Z Y
  intro a w3 Z Y
  refine aR (i := 1) (sT := 71) (inf := Tryd.t5) (z := yv (0 : UInt8)) (b := 0) (off := 0) (m := 0) (c := 0) rfl rfl rfl (Y.ownAt (i := 0) rfl) (by simp) Tryd.underlying71 rfl rfl rfl rfl (by decide) (by simp [Value.oneCell', yv, wv, sv]) (by have hby : Tryd.t5.bytes = 1 := rfl; simp [big, hby] <;> omega) (by have hby : Tryd.t5.bytes = 1 := rfl; simp [big, hby] <;> omega) (by decide) Z Y fun a w4 s2 Z Y _ => ?_
  rw [show ((bs).map fun b => [yv b]) ++ ([[yv (UInt8.ofNat ((z % 128) + 128))]]) = ((bs ++ [(UInt8.ofNat ((z % 128) + 128))]).map fun b => [yv b]) from by simp] at Y
  refine wla Z rfl fun a Z => ab (hK9 _ _ ?_)
  replace Z : Fr 31 [(2, _), (3, _), (4, _), (5, _)] [] a := Z.pick [2, 3, 4, 5]
  replace Y : St No w0 [_] w4 := Y.mask [false, true]
  refine am <| wlm Z rfl fun a Z => wlv Z (ne (m := z) (n := 128) (by omega) (by omega) rfl rfl) fun a Z => wla Z rfl fun a Z => ab ?_
  refine ⟨_, ?_, g, z / 128, bs ++ [UInt8.ofNat (z % 128 + 128)], s2, rfl, (by rw [List.append_assoc]; exact hb), (gM hz), (by rw [List.length_append]; simp; omega), (by omega), Z.pick [2, 3, 4, 5], Y⟩
  omega
 rw [hc1] at Z
 try simp only [qz] at hc1
 rw [mZ (by omega)] at hb
 refine aF <| hK6 _ _ <| aa fun K10 hK10 => wlm Z rfl fun a Z => wlm Z rfl fun a Z => wlv Z (eK (n := z) rfl (by kernel_rfl) Tryd.underlying5) fun a Z => aH (E := 5) (sz := 1) rfl [[yv (UInt8.ofNat z)]] (by kernel_rfl) (by simp) rfl (by decide) (by decide) Z Y ?_
 clear Z Y
 intro a w5 Z Y
 refine aR (i := 1) (sT := 71) (inf := Tryd.t5) (z := yv (0 : UInt8)) (b := 0) (off := 0) (m := 0) (c := 0) rfl rfl rfl (Y.ownAt (i := 0) rfl) (by simp) Tryd.underlying71 rfl rfl rfl rfl (by decide) (by simp [Value.oneCell', yv, wv, sv]) (by have hby : Tryd.t5.bytes = 1 := rfl; simp [big, hby] <;> omega) (by have hby : Tryd.t5.bytes = 1 := rfl; simp [big, hby] <;> omega) (by decide) Z Y fun a w6 s3 Z Y _ => ?_
 rw [show ((bs).map fun b => [yv b]) ++ ([[yv (UInt8.ofNat z)]]) = ((bs ++ [(UInt8.ofNat z)]).map fun b => [yv b]) from by simp] at Y
 refine wlv Z (bS (Y.ownAt (i := 1) rfl) rfl Tryd.underlying71 Tryd.underlying5 Tryd.underlying9) fun a Z => wla Z rfl fun a Z => wla Z rfl fun a Z => ab (hK10 _ _ ?_)
 replace Z : Fr 31 [(2, _), (3, _)] [] a := Z.pick [2, 3]
 replace Y : St No w0 [] w6 := Y.mask [false, false]
 refine au ?_
 refine aq Z Tryd.results53 (ae rfl (ae rfl ah)) ?_
 exact ⟨by rw [← hb]; rfl, Y.ext⟩
theorem kG (z : Nat) (w0 : World) :
  Ret Tryd.prog 91 #[.int .u64 (z : Int)] w0 (MemR w0 (fun b : Nat => .func (.func 104) #[] #[pt b]) (fun b => [blk b [.int .u64 (z : Int)] 118]) (fun _ => True)) := by
 refine aG Tryd.func91 rfl Tryd.ntmps91 (lb rfl) fun a Z => ?_
 replace Z : Fr 4 [(0, _)] [] a := Z
 replace Y : St No w0 [] w0 := St.init w0
 refine aa fun K1 hK1 => bn Z Y (by decide) rfl (cs := [.int .u64 (z : Int)]) rfl ?_
 clear Z Y
 intro a w1 Z Y
 refine wla Z rfl fun a Z => ab (hK1 _ _ <| aa fun K2 hK2 => ?_)
 refine wlv Z (cj rfl rfl) fun a Z => wla Z rfl fun a Z => ab (hK2 _ _ <| au ?_)
 refine aq Z Tryd.results91 (ae rfl ah) ?_
 exact ⟨w0.heap.size, rfl, trivial, Y.ext, St.out (H := []) Y⟩
theorem i8 {M : Nat → Prop} {w0 : World} (z0 lp bg : Nat) (J Jx : List (UInt8 × Bool) → Ent → Prop) (hY : Rounds Tryd.prog M w0 lp encG NxG J Jx) (e0 : Ent) (ws : World) (hz0 : z0 < 128 ^ (8 + 1)) (hz06 : z0 < 18446744073709551616) (hJ : J [] e0) (Y : St M w0 [e0, blk bg [.int .u64 (z0 : Int)] 118] ws) :
  Ret Tryd.prog 104 #[.func (.yield lp) #[] #[], pt bg] ws fun _ w => ∃ e1 Hi1, St M w0 (e1 :: Hi1) w ∧ ((∃ xs, (xs = gs 8 z0 ∧ ∃ z1 : Nat, Hi1 = [blk bg [.int .u64 (z1 : Int)] 118]) ∧ J xs e1) ∨ (∃ pre, (∃ z1 : Nat, Hi1 = [blk bg [.int .u64 (z1 : Int)] 118]) ∧ Jx pre e1)) := by
 refine aG Tryd.func104 rfl Tryd.ntmps104 (lb rfl) fun a Z => ?_
 replace Z : Fr 18 [(0, _), (1, _)] [] a := Z
 skip
 refine ap <| aT (fun m a w => ∃ (f : Nat) (z : Nat) (e : Ent) (dn : List (UInt8 × Bool)), m = f ∧ (dn ++ gs f z = gs 8 z0) ∧ (z < 128 ^ (f + 1)) ∧ (dn.length + f = 8) ∧ (z < 18446744073709551616) ∧ (J dn e) ∧ Fr 18 [(0, .func (.yield lp) #[] #[]), (1, pt bg)] [] a ∧ St M w0 [e, blk bg [.int .u64 (z : Int)] 118] w) _ ⟨8, z0, e0, [], rfl, rfl, hz0, rfl, hz06, hJ, Z.pick [0, 1], Y⟩ ?_
 rintro _ a w1 ⟨f, z, e, dn, rfl, hg, hz, hl, hz6, hJ, Z, Y⟩
 refine ap <| aa fun K1 hK1 => wlv Z (aj (Y.get (k := 1) rfl) rfl (Tryd.isAgg118 _) rfl) fun a Z => wlv Z (v_lt rfl rfl) fun a Z => wla Z rfl fun a Z => ab (hK1 _ _ <| ac fun K2 hK2 => ?_)
 refine aa fun K3 hK3 => wlm Z rfl fun a Z => wlv Z (aj (Y.get (k := 1) rfl) rfl (Tryd.isAgg118 _) rfl) fun a Z => wlv Z ((lE (m := z) (k := 7) (by omega) (by omega) rfl rfl).asi (m' := ((z % 128 : Nat) : Int)) rfl) fun a Z => wlv Z (eK (n := (z % 128)) rfl (by kernel_rfl) Tryd.underlying5) fun a Z => wlm Z rfl fun a Z => wl_r (eq rfl rfl (hY.yield (pre := dn) (x := (UInt8.ofNat (z % 128), decide ((z : Int) < 128))) (by show dn.length < 9; omega) hJ (Y.only (i := 0) rfl))) rfl rfl Z ?_
 clear Z
 intro a v w2 hR Z
 obtain ⟨y1, e2, rfl, hx, hok, hft, hJt, hJf⟩ := hR
 replace Y := Y.exchange (k := 0) rfl hx hok hft
 replace Y : St M w0 [e2, blk bg [.int .u64 (z : Int)] 118] w2 := Y
 clear hx hok hft
 refine wlv Z (bq rfl) fun a Z => wlm Z rfl fun a Z => ?_
 rcases Bool.eq_false_or_eq_true (!y1) with hb3 | hb3
 ·rw [hb3] at Z
  try simp only [qz] at hb3
  have hJ := hJf hb3
  refine wln Z fun a Z => wlv Z (aE rfl rfl) fun a Z => ab (hK3 _ _ ?_)
  replace Z : Fr 18 [(0, _), (1, _), (15, _)] [] a := Z.pick [0, 1, 15]
  refine aB Z rfl ?_
  refine au ?_
  refine aq Z Tryd.results104 ah ?_
  first | exact ⟨_, _, Y, .inl ⟨_, ⟨rfl, _, rfl⟩, hJ⟩⟩ | exact ⟨_, _, Y, .inr ⟨_, ⟨_, rfl⟩, hJ⟩⟩
 rw [hb3] at Z
 try simp only [qz] at hb3
 have hJ := hJt hb3
 refine wly Z (ai rfl) fun a Z => wlv Z (aw rfl rfl) fun a Z => ab (hK3 _ _ ?_)
 replace Z : Fr 18 [(0, _), (1, _), (15, _)] [] a := Z.pick [0, 1, 15]
 refine aC Z rfl (fun hc4 => ?_) (fun hc4 => ?_)
 ·rw [hc4] at Z
  try simp only [qz] at hc4
  rw [decide_eq_true hc4] at hJ
  rw [mE (by omega)] at hg
  rw [hg] at hJ
  refine au ?_
  refine aq Z Tryd.results104 ah ?_
  first | exact ⟨_, _, Y, .inl ⟨_, ⟨rfl, _, rfl⟩, hJ⟩⟩ | exact ⟨_, _, Y, .inr ⟨_, ⟨_, rfl⟩, hJ⟩⟩
 rw [hc4] at Z
 try simp only [qz] at hc4
 rw [decide_eq_false hc4] at hJ
 obtain ⟨g, rfl⟩ := kT hz (by omega)
 rw [mD (by omega)] at hg
 refine ao <| hK2 _ _ <| am <| wlv Z (aj (Y.get (k := 1) rfl) rfl (Tryd.isAgg118 _) rfl) fun a Z => wlv Z ((lC (m := z) (n := 7) (by omega) rfl rfl).asi (m' := ((z / 128 : Nat) : Int)) rfl) fun a Z => az 1 Z Y rfl rfl rfl (Tryd.sizeOf118 _) rfl (lb rfl) (ds := [.int .u64 ((z / 128 : Nat) : Int)]) rfl rfl ?_
 clear Z Y
 intro a w3 Z Y
 refine ab ?_
 refine ⟨_, ?_, g, z / 128, e2, dn ++ [(UInt8.ofNat (z % 128), false)], rfl, (by rw [List.append_assoc]; exact hg), (gM hz), (by rw [List.length_append]; simp; omega), (by omega), hJ, Z.pick [0, 1], Y⟩
 omega
theorem iI {M : Nat → Prop} {w0 : World} (z0 bg : Nat) (hz0 : z0 < 128 ^ (8 + 1)) (hz06 : z0 < 18446744073709551616) :
  Iter Tryd.prog 104 [pt bg] encG NxG (fun xs Hi1 => xs = gs 8 z0 ∧ ∃ z1 : Nat, Hi1 = [blk bg [.int .u64 (z1 : Int)] 118]) (fun pre Hi1 => ∃ z1 : Nat, Hi1 = [blk bg [.int .u64 (z1 : Int)] 118]) M w0 [blk bg [.int .u64 (z0 : Int)] 118] :=
 fun lp J Jx w e hY hJ Y => i8 z0 lp bg J Jx hY e w hz0 hz06 hJ Y
theorem ga (n : Int) (w0 : World) (hs : small n) :
  Ret Tryd.prog 75 #[iv n] w0 fun v w => v = .tuple #[sv (putI n), iv 0] ∧ Ext No w0 w := by
 have hs1 := hs.1
 have hs2 := hs.2
 refine aG Tryd.func75 rfl Tryd.ntmps75 (lb rfl) fun a Z => ?_
 replace Z : Fr 33 [(0, _)] [] a := Z
 replace Y : St No w0 [] w0 := St.init w0
 refine aa fun K1 hK1 => wla Z rfl fun a Z => wla Z rfl fun a Z => ab (hK1 _ _ <| ac fun K2 hK2 => ?_)
 refine aa fun K3 hK3 => wlm Z rfl fun a Z => wlv Z ((v_lt rfl rfl).asb (b' := false) (by rw [decide_eq_false_iff_not]; have := hs.1; omega)) fun a Z => wlm Z rfl fun a Z => wly Z (ai rfl) fun a Z => wly Z ((v_gt rfl rfl).asb (b' := false) (by rw [decide_eq_false_iff_not]; have := hs.2; omega)) fun a Z => wlv Z (aw rfl rfl) fun a Z => ab (hK3 _ _ <| av Z rfl ?_)
 refine ao <| hK2 _ _ <| aa fun K4 hK4 => aD Z Y (by decide) (Tryd.zeroValue71 _) (cs := [.slice none 0 0]) rfl ?_
 clear Z Y
 intro a w1 Z Y
 refine ab (hK4 _ _ ?_)
 replace Z : Fr 33 [(0, _), (2, _), (3, _), (4, _)] [] a := Z.pick [0, 2, 3, 4]
 refine ac fun K5 hK5 => aa fun K6 hK6 => wlm Z rfl fun a Z => wlv Z ((cR rfl (by kernel_rfl) Tryd.underlying118).asi (m' := ((cu (n) : Nat) : Int)) rfl) fun a Z => wlv Z (ln (m := cu n) (n := 1) (by omega) rfl rfl) fun a Z => wlm Z rfl fun a Z => wlv Z (mw (by omega) (by omega) rfl rfl) fun a Z => wlv Z ((cR rfl (by kernel_rfl) Tryd.underlying118).asi (m' := ((cu (if n < 0 then -1 else 0) : Nat) : Int)) rfl) fun a Z => ?_
 refine wlv Z (v_zz hs rfl rfl) fun a Z => aZ Z Y (by decide) Tryd.call91 rfl (kG (zz n) _) ?_
 clear Z Y
 intro a w2 x1 hp Z Y
 revert x1 hp Z Y; rintro bg hp Z Y
 clear hp
 replace Y : St No w0 [blk bg [.int .u64 (zz n : Int)] 118, blk w0.heap.size [.slice none 0 0] 71] w2 := Y
 refine ab (hK6 _ _ ?_)
 replace Z : Fr 33 [(2, _), (3, _), (4, _), (20, _)] [] a := Z.pick [2, 3, 4, 20]
 refine ap ?_
 replace Y : St No w0 [own (.slice none 0 0) 5 1 ((([] : List (UInt8 × Bool)).map enc1).map fun b => [yv b]), blk bg [.int .u64 (zz n : Int)] 118, blk w0.heap.size [.slice none 0 0] 71] w2 := Y.nil_own
 replace Y : St No w0 [blk w0.heap.size [.slice none 0 0] 71, own (.slice none 0 0) 5 1 ((([] : List (UInt8 × Bool)).map enc1).map fun b => [yv b]), blk bg [.int .u64 (zz n : Int)] 118] w2 := Y.select [2, 0, 1] (by decide)
 replace Z : Fr 33 [(2, sv ([])), (3, iv 0), (4, pt w0.heap.size), (20, .func (.func 104) #[] #[pt bg])] [] a := Z.pick [2, 3, 4, 20]
 refine cG (M := No) (w0 := w0) (encs := encG) (Hi := [blk bg [.int .u64 (zz n : Int)] 118]) (Hc := [blk w0.heap.size [.slice none 0 0] 71, own (.slice none 0 0) 5 1 ((([] : List (UInt8 × Bool)).map enc1).map fun b => [yv b])]) (fun pre H => ∃ (v : Value), H = [blk w0.heap.size [v] 71, own v 5 1 ((pre.map enc1).map fun b => [yv b])]) (fun _ _ _ => False) (fun pre xs H a => Fr 33 [(2, sv ([])), (3, iv 0), (4, pt w0.heap.size), (20, .func (.func 104) #[] #[pt bg]), (5, yv xs.1), (6, .bool xs.2)] [] a ∧ ∃ (v : Value), H = [blk w0.heap.size [v] 71, own v 5 1 ((pre.map enc1).map fun b => [yv b])]) rfl Tryd.call104 Z Y (iI (zz n) bg (jt hs) (lZ hs)) (by decide) (fun _ => rfl) ⟨.slice none 0 0, rfl⟩ ?_ ?_ ?_ ?_
 ·clear Z Y
  rintro lp pre xs _ a w3 hnx ⟨v, rfl⟩ Z Y
  generalize (join [blk w0.heap.size [v] 71, own v 5 1 ((pre.map enc1).map fun b => [yv b])]).foot = M1 at Y ⊢
  replace Z : Fr 33 [(22, .bool xs.2), (21, yv xs.1), (2, sv ([])), (3, iv 0), (4, pt w0.heap.size), (20, .func (.func 104) #[] #[pt bg])] [] a := Z
  refine aa fun K7 hK7 => wla Z rfl fun a Z => ab (hK7 _ _ <| am ?_)
  refine wla Z rfl fun a Z => ab ?_
  exact ⟨_, ⟨Z.pick [2, 3, 4, 20, 5, 6], v, rfl⟩, Y⟩
 ·rintro lp pre xs _ a w4 hnx ⟨Z, v, rfl⟩ hout hrec hnl Y
  clear hrec hnl
  generalize (join [blk w0.heap.size [v] 71, own v 5 1 ((pre.map enc1).map fun b => [yv b])]).foot = M1 at Y hout ⊢
  refine ap <| ac fun K8 hK8 => aa fun K9 hK9 => wlm Z rfl fun a Z => wlv Z (bq rfl) fun a Z => ab (hK9 _ _ ?_)
  refine aC Z rfl (fun hc2 => ?_) (fun hc2 => ?_)
  ·rw [hc2] at Z
   try simp only [qz] at hc2
   refine am <| wlm Z rfl fun a Z => wlv Z (v_yor (a := xs.1) (b := (128 : UInt8)) rfl rfl) fun a Z => wla Z rfl fun a Z => ab <| hK8 _ _ ?_
   replace Z : Fr 33 [(2, _), (3, _), (4, _), (5, _)] [] a := Z.pick [2, 3, 4, 5]
   refine am <| wlv Z (aj (Y.get (k := 0) rfl) rfl (Tryd.isAgg71 _) rfl) fun a Z => wlm Z rfl fun a Z => aH (E := 5) (sz := 1) rfl [[yv (xs.1 ||| (128 : UInt8))]] (by kernel_rfl) (by simp) rfl (by decide) (by decide) Z Y ?_
   clear Z Y
   intro a w5 Z Y
   refine aR (i := 2) (sT := 71) (inf := Tryd.t5) (z := yv (0 : UInt8)) (b := 0) (off := 0) (m := 0) (c := 0) rfl rfl rfl (Y.ownAt (i := 0) rfl) (by simp) Tryd.underlying71 rfl rfl rfl rfl (by decide) (by simp [Value.oneCell', yv, wv, sv]) (by have hby : Tryd.t5.bytes = 1 := rfl; have : pre.length < 9 := hnx; simp [big, hby] <;> omega) (by have hby : Tryd.t5.bytes = 1 := rfl; have : pre.length < 9 := hnx; simp [big, hby] <;> omega) (by decide) Z Y fun a w6 s3 Z Y _ => ?_
   rw [show ((pre.map enc1).map fun b => [yv b]) ++ ([[yv (xs.1 ||| (128 : UInt8))]]) = (((pre ++ [xs]).map enc1).map fun b => [yv b]) from by simp [enc1, hc2]] at Y
   refine cZ 1 Z Y (Y.ownAt (i := 2) rfl) rfl rfl rfl (Tryd.sizeOf71 _) (lb rfl) (ds := [s3]) rfl rfl ?_
   clear Z Y
   intro a w7 Z Y
   refine ab ?_
   exact ⟨_, ⟨s3, rfl⟩, Y.select [1, 2] (by decide)⟩
  rw [hc2] at Z
  try simp only [qz] at hc2
  refine ao <| hK8 _ _ <| am <| wlv Z (aj (Y.get (k := 0) rfl) rfl (Tryd.isAgg71 _) rfl) fun a Z => wlm Z rfl fun a Z => aH (E := 5) (sz := 1) rfl [[yv xs.1]] (by kernel_rfl) (by simp) rfl (by decide) (by decide) Z Y ?_
  clear Z Y
  intro a w8 Z Y
  refine aR (i := 2) (sT := 71) (inf := Tryd.t5) (z := yv (0 : UInt8)) (b := 0) (off := 0) (m := 0) (c := 0) rfl rfl rfl (Y.ownAt (i := 0) rfl) (by simp) Tryd.underlying71 rfl rfl rfl rfl (by decide) (by simp [Value.oneCell', yv, wv, sv]) (by have hby : Tryd.t5.bytes = 1 := rfl; have : pre.length < 9 := hnx; simp [big, hby] <;> omega) (by have hby : Tryd.t5.bytes = 1 := rfl; have : pre.length < 9 := hnx; simp [big, hby] <;> omega) (by decide) Z Y fun a w9 s4 Z Y _ => ?_
  rw [show ((pre.map enc1).map fun b => [yv b]) ++ ([[yv xs.1]]) = (((pre ++ [xs]).map enc1).map fun b => [yv b]) from by simp [enc1, hc2]] at Y
  refine cZ 1 Z Y (Y.ownAt (i := 2) rfl) rfl rfl rfl (Tryd.sizeOf71 _) (lb rfl) (ds := [s4]) rfl rfl ?_
  clear Z Y
  intro a w10 Z Y
  refine ab ?_
  exact ⟨_, ⟨s4, rfl⟩, Y.select [1, 2] (by decide)⟩
 ·rintro D pre _ _ a w11 ⟨rfl, z1, rfl⟩ ⟨v, rfl⟩ Y Z
  replace Z : Fr 33 [(2, sv ([])), (3, iv 0), (4, pt w0.heap.size), (20, .func (.func 104) #[] #[pt bg])] [{ target := .collected D, args := #[] }] a := Z
  replace Y : St No w0 [obj D (.deferred (some [])), blk w0.heap.size [v] 71, own v 5 1 (((gs 8 (zz n)).map enc1).map fun b => [yv b]), blk bg [.int .u64 (z1 : Int)] 118] w11 := Y
  refine hK5 _ _ <| aa fun K10 hK10 => wlv Z (aj (Y.get (k := 1) rfl) rfl (Tryd.isAgg71 _) rfl) fun a Z => wlv Z (bS (Y.ownAt (i := 2) rfl) rfl Tryd.underlying71 Tryd.underlying5 Tryd.underlying9) fun a Z => wla Z rfl fun a Z => wla Z rfl fun a Z => ab (hK10 _ _ <| au ?_)
  have hD := Y.get (k := 0) rfl
  replace Y := Y.unmark (i := 0) (o' := .deferred none) rfl
  replace Y : St No w0 [blk w0.heap.size [v] 71, own v 5 1 (((gs 8 (zz n)).map enc1).map fun b => [yv b]), blk bg [.int .u64 (z1 : Int)] 118] _ := Y
  refine bL Z hD Tryd.results75 (ae rfl (ae rfl ah)) ?_
  exact ⟨by rw [na 8 _ (jt hs)]; rfl, Y.ext⟩
 ·rintro D c pre _ _ a w12 _ h
  exact h.elim
end Go.Proofs.YtddfkkdanpmnaaaDoor
namespace Go.Proofs.YtddfkkdanpmnaaaDoor
open Go.RowKit Go.PW
set_option linter.unusedVariables false
set_option linter.unusedSimpArgs false
set_option maxRecDepth 4000
def bld (T : TypeId) (b : Nat) (ad v : Value) (bs : By) : Ent := join [blk b [ad, v] T, own v 5 1 ((bs).map fun b => [yv b])]
theorem fl {M : Nat → Prop} {w0 w : World} {T : TypeId} {b : Nat} {ad v : Value} {bs : By} {H : List Ent} (h : St M w0 (bld T b ad v bs :: H) w) : St M w0 ([blk b [ad, v] T, own v 5 1 ((bs).map fun b => [yv b])] ++ H) w := St.unjoin _ _ h
theorem iw (T : TypeId) (b : Nat) (v : Value) (w0 : World) (hlie : liesAt Tryd.prog Tryd.prog.depth T (2 / Tryd.prog.cellsOf T) 0 83 1 = true) (hb : (blk b [.pointer none, v] T).ok w0) :
  Ret Tryd.prog 76 #[pt b] w0 fun u w => u = .tuple #[] ∧ Ext (· = b) w0 w ∧ (blk b [pt b, v] T).ok w := by
 refine aG Tryd.func76 rfl Tryd.ntmps76 (lb rfl) fun a Z => ?_
 replace Z : Fr 20 [(0, _)] [] a := Z
 replace Y : St (· = b) w0 [blk b [.pointer none, v] T] w0 := St.one hb
 refine aa fun K1 hK1 => wlm Z rfl fun a Z => wlv Z (aY rfl) fun a Z => wlv Z (ay (v := pt b) rfl (by kernel_rfl)) fun a Z => wlv Z (aj (Y.get (k := 0) rfl) rfl (Tryd.isAgg81 _) rfl) fun a Z => wlv Z (nm rfl rfl Tryd.underlying81) fun a Z => ab (hK1 _ _ ?_)
 refine aB Z rfl ?_
 refine am <| wlm Z rfl fun a Z => wlm Z rfl fun a Z => wlv Z (jz (j := Tryd.t83) (Y.get (k := 0) rfl) rfl Tryd.underlying81 Tryd.underlying141 rfl rfl (by simp)) fun a Z => wlv Z (jv Tryd.func92 (by kernel_rfl) (by kernel_rfl) (by kernel_rfl) (by kernel_rfl) rfl) fun a Z => wlv Z (gE (j := Tryd.t83) (Y.get (k := 0) rfl) rfl Tryd.underlying141 Tryd.underlying81 rfl hlie) fun a Z => wlv Z (aY rfl) fun a Z => wlv Z (ay (v := pt b) rfl (by kernel_rfl)) fun a Z => ?_
 refine az 0 Z Y rfl rfl rfl (Tryd.sizeOf81 _) rfl (lb rfl) (ds := [pt b, v]) rfl rfl ?_
 clear Z Y
 intro a w2 Z Y
 refine ab ?_
 refine c7 Z Tryd.results76 ah ?_
 exact ⟨rfl, Y.ext, Y.get (k := 0) rfl⟩
theorem i7 (T : TypeId) (b : Nat) (v : Value) (w0 : World) (hlie : liesAt Tryd.prog Tryd.prog.depth T (2 / Tryd.prog.cellsOf T) 0 83 1 = true) (hb : (blk b [pt b, v] T).ok w0) :
  Ret Tryd.prog 76 #[pt b] w0 fun u w => u = .tuple #[] ∧ Ext (· = b) w0 w ∧ (blk b [pt b, v] T).ok w := by
 refine aG Tryd.func76 rfl Tryd.ntmps76 (lb rfl) fun a Z => ?_
 replace Z : Fr 20 [(0, _)] [] a := Z
 replace Y : St (· = b) w0 [blk b [pt b, v] T] w0 := St.one hb
 refine aa fun K1 hK1 => wlm Z rfl fun a Z => wlv Z (aY rfl) fun a Z => wlv Z (ay (v := pt b) rfl (by kernel_rfl)) fun a Z => wlv Z (aj (Y.get (k := 0) rfl) rfl (Tryd.isAgg81 _) rfl) fun a Z => wlv Z (lI rfl rfl Tryd.underlying81) fun a Z => ab (hK1 _ _ ?_)
 refine av Z rfl ?_
 refine aa fun K2 hK2 => wlm Z rfl fun a Z => wlv Z (aY rfl) fun a Z => wlv Z (ay (v := pt b) rfl (by kernel_rfl)) fun a Z => wlv Z (aj (Y.get (k := 0) rfl) rfl (Tryd.isAgg81 _) rfl) fun a Z => wlm Z rfl fun a Z => wlv Z (mJ (j := Tryd.t83) rfl rfl Tryd.underlying81 rfl) fun a Z => ab (hK2 _ _ ?_)
 replace Z : Fr 20 [(19, _)] [] a := Z.pick [19]
 refine av Z rfl ?_
 refine ao ?_
 refine c7 Z Tryd.results76 ah ?_
 exact ⟨rfl, Y.ext, Y.get (k := 0) rfl⟩
theorem ji {M : Nat → Prop} {w0 : World} (T : TypeId) (b : Nat) (v : Value) (bs : By) (s : By) (ws : World) (hlie : liesAt Tryd.prog Tryd.prog.depth T (2 / Tryd.prog.cellsOf T) 0 83 1 = true) (hne : s ≠ []) (hbn : bs.length + s.length ≤ 1000000000) (Y : St M w0 [bld T b (.pointer none) v bs] ws) :
  Ret Tryd.prog 51 #[pt b, sv s] ws fun u w => u = .tuple #[iv (s.length : Int), .nilIface] ∧ ∃ v2, St M w0 [bld T b (pt b) v2 (bs ++ s)] w := by
 refine aG Tryd.func51 rfl Tryd.ntmps51 (lb rfl) fun a Z => ?_
 replace Z : Fr 19 [(0, _), (1, _)] [] a := Z
 replace Y : St M w0 [blk b [.pointer none, v] T, own v 5 1 ((bs).map fun b => [yv b])] ws := fl Y
 refine aa fun K1 hK1 => wla Z rfl fun a Z => wla Z rfl fun a Z => ab (hK1 _ _ <| aa fun K2 hK2 => ?_)
 refine wlm Z rfl fun a Z => ft 0 Z Y (by decide) Tryd.call76 rfl rfl (iw T b _ _ hlie (Y.get (k := 0) rfl)) rfl ?_
 clear Z Y
 intro a w1 Z Y
 refine ab (hK2 _ _ <| aa fun K3 hK3 => ?_)
 refine wlm Z rfl fun a Z => wlm Z rfl fun a Z => wlv Z (aY rfl) fun a Z => wlv Z (ay (v := .pointer (some ⟨b, 1, none⟩)) rfl (by kernel_rfl)) fun a Z => wlv Z (aj (Y.get (k := 0) rfl) rfl (Tryd.isAgg71 _) rfl) fun a Z => wlm Z rfl fun a Z => dY (i := 1) (sT := 71) (uT := 9) (inf := Tryd.t5) (bs := bs) (s := s) rfl rfl rfl hne Tryd.underlying71 Tryd.underlying9 rfl rfl rfl rfl (by omega) (by decide) Z Y ?_
 clear Z Y
 intro a w2 s1 Z Y
 refine wlv Z (aY rfl) fun a Z => wlv Z (ay (v := .pointer (some ⟨b, 1, none⟩)) rfl (by kernel_rfl)) fun a Z => cZ 0 Z Y (Y.ownAt (i := 1) rfl) rfl rfl rfl (Tryd.sizeOf71 _) (lb rfl) (ds := [pt b, s1]) rfl rfl ?_
 clear Z Y
 intro a w3 Z Y
 refine ab (hK3 _ _ ?_)
 replace Z : Fr 19 [(1, _), (4, _), (5, _)] [] a := Z.pick [1, 4, 5]
 refine aa fun K4 hK4 => wlm Z rfl fun a Z => wlv Z (aJ rfl rfl (Tryd.runUnderlying9 _)) fun a Z => wla Z rfl fun a Z => wla Z rfl fun a Z => ab (hK4 _ _ <| au ?_)
 refine aq Z Tryd.results51 (ae rfl (ae rfl ah)) ?_
 replace Y : St M w0 [blk b [pt b, s1] T, own s1 5 1 ((bs ++ s).map fun b => [yv b])] _ := Y.select [0, 1] (by decide)
 exact ⟨rfl, s1, St.join [blk b [pt b, s1] T, own s1 5 1 ((bs ++ s).map fun b => [yv b])] [] Y⟩
theorem kL {M : Nat → Prop} {w0 : World} (T : TypeId) (b : Nat) (v : Value) (bs : By) (s : By) (ws : World) (hlie : liesAt Tryd.prog Tryd.prog.depth T (2 / Tryd.prog.cellsOf T) 0 83 1 = true) (hne : s ≠ []) (hbn : bs.length + s.length ≤ 1000000000) (Y : St M w0 [bld T b (pt b) v bs] ws) :
  Ret Tryd.prog 51 #[pt b, sv s] ws fun u w => u = .tuple #[iv (s.length : Int), .nilIface] ∧ ∃ v2, St M w0 [bld T b (pt b) v2 (bs ++ s)] w := by
 refine aG Tryd.func51 rfl Tryd.ntmps51 (lb rfl) fun a Z => ?_
 replace Z : Fr 19 [(0, _), (1, _)] [] a := Z
 replace Y : St M w0 [blk b [pt b, v] T, own v 5 1 ((bs).map fun b => [yv b])] ws := fl Y
 refine aa fun K1 hK1 => wla Z rfl fun a Z => wla Z rfl fun a Z => ab (hK1 _ _ <| aa fun K2 hK2 => ?_)
 refine wlm Z rfl fun a Z => ft 0 Z Y (by decide) Tryd.call76 rfl rfl (i7 T b _ _ hlie (Y.get (k := 0) rfl)) rfl ?_
 clear Z Y
 intro a w1 Z Y
 refine ab (hK2 _ _ <| aa fun K3 hK3 => ?_)
 refine wlm Z rfl fun a Z => wlm Z rfl fun a Z => wlv Z (aY rfl) fun a Z => wlv Z (ay (v := .pointer (some ⟨b, 1, none⟩)) rfl (by kernel_rfl)) fun a Z => wlv Z (aj (Y.get (k := 0) rfl) rfl (Tryd.isAgg71 _) rfl) fun a Z => wlm Z rfl fun a Z => dY (i := 1) (sT := 71) (uT := 9) (inf := Tryd.t5) (bs := bs) (s := s) rfl rfl rfl hne Tryd.underlying71 Tryd.underlying9 rfl rfl rfl rfl (by omega) (by decide) Z Y ?_
 clear Z Y
 intro a w2 s1 Z Y
 refine wlv Z (aY rfl) fun a Z => wlv Z (ay (v := .pointer (some ⟨b, 1, none⟩)) rfl (by kernel_rfl)) fun a Z => cZ 0 Z Y (Y.ownAt (i := 1) rfl) rfl rfl rfl (Tryd.sizeOf71 _) (lb rfl) (ds := [pt b, s1]) rfl rfl ?_
 clear Z Y
 intro a w3 Z Y
 refine ab (hK3 _ _ ?_)
 replace Z : Fr 19 [(1, _), (4, _), (5, _)] [] a := Z.pick [1, 4, 5]
 refine aa fun K4 hK4 => wlm Z rfl fun a Z => wlv Z (aJ rfl rfl (Tryd.runUnderlying9 _)) fun a Z => wla Z rfl fun a Z => wla Z rfl fun a Z => ab (hK4 _ _ <| au ?_)
 refine aq Z Tryd.results51 (ae rfl (ae rfl ah)) ?_
 replace Y : St M w0 [blk b [pt b, s1] T, own s1 5 1 ((bs ++ s).map fun b => [yv b])] _ := Y.select [0, 1] (by decide)
 exact ⟨rfl, s1, St.join [blk b [pt b, s1] T, own s1 5 1 ((bs ++ s).map fun b => [yv b])] [] Y⟩
theorem mr {w : World} {E : TypeId} {v : Value} {bs : By} (h : (own v E 1 ((bs).map fun b => [yv b])).ok w) (hne : bs ≠ []) : ∃ g cap, v = .slice (some ⟨g, 0, none⟩) bs.length cap ∧ cap ≠ 0 := by
 obtain ⟨h1, h2, h3, h4⟩ := h
 have hn : bs.length ≠ 0 := by simpa using hne
 rcases h4 with ⟨_, h0⟩ | ⟨g, cap, cur, fz, hv, _, _, hnc, _⟩
 ·rw [List.length_map] at h0; exact absurd h0 hn
 ·rw [List.length_map] at hv hnc; exact ⟨g, cap, hv, by omega⟩
theorem iE {M : Nat → Prop} {w0 : World} (T : TypeId) (b g cap : Nat) (bs : By) (ws : World) (hne : bs ≠ []) (hcap : cap ≠ 0) (Y : St M w0 [blk b [pt b, .slice (some ⟨g, 0, none⟩) bs.length cap] T, own (.slice (some ⟨g, 0, none⟩) bs.length cap) 5 1 ((bs).map fun b => [yv b])] ws) :
  Ret Tryd.prog 52 #[pt b] ws fun u w => u = sv bs ∧ St M w0 [blk b [pt b, .slice (some ⟨g, 0, none⟩) bs.length cap] T] w := by
 refine aG Tryd.func52 rfl Tryd.ntmps52 (lb rfl) fun a Z => ?_
 replace Z : Fr 14 [(0, _)] [] a := Z
 skip
 refine aa fun K1 hK1 => wla Z rfl fun a Z => ab (hK1 _ _ <| ac fun K2 hK2 => ?_)
 refine aN (by kernel_rfl) ?_
 replace Z : Fr 14 [(0, _), (2, _)] [] a := Z.pick [0, 2]
 replace Y : St M w0 (own (.slice (some ⟨g, 0, none⟩) bs.length cap) 5 1 ((bs).map fun b => [yv b]) :: [blk b [pt b, .slice (some ⟨g, 0, none⟩) bs.length cap] T]) ws := Y.front (i := 1) rfl
 refine f3 10 (own (.slice (some ⟨g, 0, none⟩) bs.length cap) 5 1 ((bs).map fun b => [yv b])) (fun _ => sl (.slice (some ⟨g, 0, none⟩) bs.length cap) 1 ((bs).map fun b => [yv b])) 11 [[], [0], [1], [2], [3], [], [5], [6], [7], [8], [4, 9]] (fun i => match i with | 0 => pv (pt b) | 1 => pv (pt b) | 2 => pv (.pointer (some ⟨b, 1, none⟩)) | 3 => pv (.slice (some ⟨g, 0, none⟩) bs.length cap) | 4 => pv (pt g) | 5 => pv (pt b) | 6 => pv (pt b) | 7 => pv (.pointer (some ⟨b, 1, none⟩)) | 8 => pv (.slice (some ⟨g, 0, none⟩) bs.length cap) | 9 => pv (iv (bs.length : Int)) | 10 => fun v E => v = sv bs ∧ E = [] | _ => fun _ _ => False) Z Y (by kernel_rfl) (by kernel_rfl) (by kernel_rfl) (by decide) ?_ ?_ ?_ ?_
 ·intro i v E h
  match i, h with
  | 0, _ => exact by decide
  | 1, _ => exact by decide
  | 2, _ => exact by decide
  | 3, _ => exact by decide
  | 4, _ => exact by decide
  | 5, _ => exact by decide
  | 6, _ => exact by decide
  | 7, _ => exact by decide
  | 8, _ => exact by decide
  | 9, _ => exact by decide
  | 10, _ => exact by decide
  | i + 11, h => exact h.elim
 ·intro i hi hiq e
  match i, hi, hiq with
  | 0, _, _ =>
   intro w Y
   exact OpV.g (ai rfl)
  | 1, _, _ =>
   rintro _ _ ⟨rfl, rfl⟩
   intro w Y
   exact OpV.g (aY rfl)
  | 2, _, _ =>
   rintro _ _ ⟨rfl, rfl⟩
   intro w Y
   exact OpV.g (ay (v := .pointer (some ⟨b, 1, none⟩)) rfl (by kernel_rfl))
  | 3, _, _ =>
   rintro _ _ ⟨rfl, rfl⟩
   intro w Y
   exact OpV.g (aj (Y.get (k := 1) rfl) rfl (Tryd.isAgg71 _) rfl)
  | 4, _, _ =>
   rintro _ _ ⟨rfl, rfl⟩
   intro w Y
   exact OpV.g (iM rfl hcap)
  | 5, _, _ =>
   intro w Y
   exact OpV.g (ai rfl)
  | 6, _, _ =>
   rintro _ _ ⟨rfl, rfl⟩
   intro w Y
   exact OpV.g (aY rfl)
  | 7, _, _ =>
   rintro _ _ ⟨rfl, rfl⟩
   intro w Y
   exact OpV.g (ay (v := .pointer (some ⟨b, 1, none⟩)) rfl (by kernel_rfl))
  | 8, _, _ =>
   rintro _ _ ⟨rfl, rfl⟩
   intro w Y
   exact OpV.g (aj (Y.get (k := 1) rfl) rfl (Tryd.isAgg71 _) rfl)
  | 9, _, _ =>
   rintro _ _ ⟨rfl, rfl⟩
   intro w Y
   exact OpV.g ((cB (v := iv (bs.length : Int)) (vs := [.slice (some ⟨g, 0, none⟩) bs.length cap]) (by simp [evs]; rfl) (by simp [builtin, Builtin.len_, Tryd.runUnderlying71]; rfl)).as rfl)
  | 10, _, h => exact absurd rfl h
 ·rintro _ _ ⟨rfl, rfl⟩ _ _ ⟨rfl, rfl⟩
  intro w Y
  exact (fH (Y.get (k := 0) rfl) hne rfl rfl Tryd.underlying117 (by kernel_rfl)).mono fun v w' ⟨h1, h2, h3, h4⟩ => ⟨h2, h3, h4, ⟨h1, rfl⟩⟩
 clear Z Y
 rintro vq _ _ ⟨⟨rfl, rfl⟩, -⟩ _ _ ⟨⟨rfl, rfl⟩, -⟩ _ _ ⟨⟨rfl, rfl⟩, -⟩ _ _ ⟨⟨rfl, rfl⟩, -⟩ _ _ ⟨⟨rfl, rfl⟩, -⟩ _ _ ⟨⟨rfl, rfl⟩, -⟩ _ _ ⟨⟨rfl, rfl⟩, -⟩ _ _ ⟨⟨rfl, rfl⟩, -⟩ _ _ ⟨⟨rfl, rfl⟩, -⟩ _ _ ⟨⟨rfl, rfl⟩, -⟩ _ _ ⟨⟨rfl, rfl⟩, -⟩ a w1 Z Y
 replace Z : Fr 14 [(3, _), (4, _), (5, _), (6, _), (7, _), (8, _), (9, _), (10, _), (11, _), (12, _), (13, _), (0, _), (2, _)] [] a := Z
 replace Y : St M w0 [(fun _ => sl (.slice (some ⟨g, 0, none⟩) bs.length cap) 1 ((bs).map fun b => [yv b])) vq, blk b [pt b, .slice (some ⟨g, 0, none⟩) bs.length cap] T] w1 := Y
 refine wla Z rfl fun a Z => ab <| hK2 _ _ ?_
 replace Z : Fr 14 [(2, _)] [] a := Z.pick [2]
 refine au ?_
 refine aq Z Tryd.results52 (ae rfl ah) ?_
 exact ⟨rfl, Y.select [1] (by decide)⟩
theorem fC {M : Nat → Prop} {w0 : World} (T : TypeId) (b : Nat) (v : Value) (bs : By) (ws : World) (hne : bs ≠ []) (Y : St M w0 [bld T b (pt b) v bs] ws) :
  Ret Tryd.prog 52 #[pt b] ws fun u w => u = sv bs ∧ St M w0 [blk b [pt b, v] T] w := by
 have Y : St M w0 [blk b [pt b, v] T, own v 5 1 ((bs).map fun b => [yv b])] ws := fl Y
 obtain ⟨g, cap, rfl, hcap⟩ := mr (Y.get (k := 1) rfl) hne
 exact iE T b g cap bs ws hne hcap Y
end Go.Proofs.YtddfkkdanpmnaaaDoor
namespace Go.Proofs.YtddfkkdanpmnaaaDoor
open Go.RowKit Go.PW
set_option linter.unusedVariables false
set_option linter.unusedSimpArgs false
set_option maxRecDepth 4000
theorem p128 (i : Nat) : (128 : Nat) ^ i = 2 ^ (7 * i) := by rw [Nat.pow_mul]
theorem v_ixz {P : Program} {w : World} {L : List (Nat × Value)} {dst : Option Tmp} {T T' ty : TypeId} {pos : String} {af : Array Edge} {gd : Option (Nat × Bool)} {x y : Operand} {z : Nat} (hz : z < 9223372036854775808)
  (hx : ev L x = some (iv ((z / 2 : Nat) : Int))) (hy : ev L y = some (iv (-((z % 2 : Nat) : Int)))) : OpV P ⟨dst, .binOp .xor T x y T', ty, pos, af, gd⟩ L w (iv (uz z)) := by
 have h := nk (P := P) (w := w) (dst := dst) (T := T) (T' := T') (ty := ty) (pos := pos) (af := af) (gd := gd) (n := ((z / 2 : Nat) : Int)) (decide (z % 2 = 1)) (by omega) (by omega) hx (hy.trans (by
  congr 2
  by_cases h : z % 2 = 1
  ·rw [decide_eq_true h, h]; rfl
  ·rw [decide_eq_false h, show z % 2 = 0 from by omega]; rfl))
 refine h.as ?_
 congr 1
 unfold uz
 by_cases h : z % 2 = 1
 ·rw [decide_eq_true h, if_pos rfl, if_neg (by omega)]
 ·rw [decide_eq_false h, if_neg (by decide), if_pos (by omega)]
theorem ni {f i z : Nat} : wI f i z [] = none := by cases f <;> rfl
theorem g4 {s : By} {p : Nat} (h : p < s.length) : s.drop p = s.getD p 0 :: s.drop (p + 1) := by
 rw [List.drop_eq_getElem_cons h, List.getD_eq_getElem?_getD, List.getElem?_eq_getElem h]; rfl
theorem mB {s : By} {p i z : Nat} (hi : i < 9) (hp : p + i < s.length) (hb : 128 ≤ (s.getD (p + i) 0).toNat) :
  wI (9 - i) i z (s.drop (p + i)) = wI (9 - (i + 1)) (i + 1) (z + (s.getD (p + i) 0).toNat % 128 * 2 ^ (7 * i)) (s.drop (p + (i + 1))) := by
 rw [g4 hp, show 9 - i = (9 - (i + 1)) + 1 from by omega, wI, if_neg (by omega), p128]; rfl
theorem jw {s : By} {p i z : Nat} (hi : i < 9) (hp : p + i < s.length) (hb : (s.getD (p + i) 0).toNat < 128) (h : ((s.getD (p + i) 0).toNat = 0 ∧ 0 < i) ∨ uz (z + (s.getD (p + i) 0).toNat % 128 * 2 ^ (7 * i)) < -4611686018427387903) :
  wI (9 - i) i z (s.drop (p + i)) = none := by
 rw [g4 hp, show 9 - i = (9 - (i + 1)) + 1 from by omega, wI, if_pos hb, p128, if_pos]
 exact h.imp_left fun ⟨h1, h2⟩ => ⟨UInt8.toNat_inj.1 (by rw [h1]; rfl), h2⟩
theorem jF {s : By} {p i z : Nat} (hi : i < 9) (hp : p + i < s.length) (hb : (s.getD (p + i) 0).toNat < 128) (h : ¬ ((s.getD (p + i) 0).toNat = 0 ∧ 0 < i)) (h2 : ¬ uz (z + (s.getD (p + i) 0).toNat % 128 * 2 ^ (7 * i)) < -4611686018427387903) :
  wI (9 - i) i z (s.drop (p + i)) = some (uz (z + (s.getD (p + i) 0).toNat % 128 * 2 ^ (7 * i)), i + 1) := by
 rw [g4 hp, show 9 - i = (9 - (i + 1)) + 1 from by omega, wI, if_pos hb, p128, if_neg]
 rintro (⟨h3, h4⟩ | h3)
 ·exact h ⟨by rw [h3]; rfl, h4⟩
 ·exact h2 h3
theorem ng {z i b : Nat} (hz : z < 2 ^ (7 * i)) (hb : b < 128) : z + b * 2 ^ (7 * i) < 2 ^ (7 * (i + 1)) := by
 have e : 2 ^ (7 * (i + 1)) = 128 * 2 ^ (7 * i) := by rw [Nat.mul_add, Nat.pow_add, Nat.mul_comm]
 rw [e]
 have : (b + 1) * 2 ^ (7 * i) ≤ 128 * 2 ^ (7 * i) := Nat.mul_le_mul_right _ (by omega)
 rw [Nat.add_mul] at this
 omega
theorem z_63 {z i : Nat} (hi : i < 9) (hz : z < 2 ^ (7 * (i + 1))) : z < 9223372036854775808 := by
 have : (2 : Nat) ^ (7 * (i + 1)) ≤ 2 ^ 63 := Nat.pow_le_pow_right (by decide) (by omega)
 omega
def intV (s : By) (p : Nat) : Value := match rdI (s.drop p) with
 | some (n, r) => .tuple #[iv n, iv ((s.length - r.length : Nat) : Int), iv 0]
 | none => .tuple #[iv 0, iv 0, iv 10]
theorem dG {s : By} {p : Nat} (h : wI 9 0 0 (s.drop p) = none) : intV s p = .tuple #[iv 0, iv 0, iv 10] := by
 rw [kS] at h
 unfold intV
 cases hr : rdI (s.drop p) with
 | none => rfl
 | some x => rw [hr] at h; cases h
theorem iy {s : By} {p k : Nat} {n : Int} (hp : p ≤ s.length) (h : wI 9 0 0 (s.drop p) = some (n, k)) : intV s p = .tuple #[iv n, iv ((p + k : Nat) : Int), iv 0] := by
 rw [kS] at h
 unfold intV
 cases hr : rdI (s.drop p) with
 | none => rw [hr] at h; cases h
 | some x =>
  obtain ⟨n2, r⟩ := x
  rw [hr] at h
  simp only [Option.map_some, Option.some.injEq, Prod.mk.injEq] at h
  obtain ⟨rfl, rfl⟩ := h
  obtain ⟨_, h2⟩ := dF hr
  have h3 := congrArg List.length h2
  rw [List.length_drop, List.length_append] at h3
  have h4 := (bV n2).1
  simp only
  rw [List.length_drop, show p + (s.length - p - r.length) = s.length - r.length from by omega]
set_option maxHeartbeats 4000000 in
theorem iJ (s : By) (p : Nat) (w0 : World) (hp : p ≤ s.length) (hsl : s.length ≤ 1000000) :
  Ret Tryd.prog 57 #[sv s, iv (p : Int)] w0 fun v w => v = intV s p ∧ Ext No w0 w := by
 refine aG Tryd.func57 rfl Tryd.ntmps57 (lb rfl) fun a Z => ?_
 replace Z : Fr 67 [(0, _), (1, _)] [] a := Z
 replace Y : St No w0 [] w0 := St.init w0
 refine aa fun K1 hK1 => wla Z rfl fun a Z => wla Z rfl fun a Z => wla Z rfl fun a Z => ab (hK1 _ _ <| ac fun K2 hK2 => ?_)
 refine aa fun K3 hK3 => wlm Z rfl fun a Z => wlv Z ((v_lt rfl rfl).asb (b' := false) (by exact decide_eq_false (by omega))) fun a Z => wlm Z rfl fun a Z => wly Z (ai rfl) fun a Z => wly Z (ai rfl) fun a Z => wly Z (aJ rfl rfl (Tryd.runUnderlying9 _)) fun a Z => wly Z ((v_gt rfl rfl).asb (b' := false) (by exact decide_eq_false (by omega))) fun a Z => wlv Z (aw rfl rfl) fun a Z => ab (hK3 _ _ ?_)
 replace Z : Fr 67 [(0, _), (1, _), (4, _), (5, _), (6, _), (18, _)] [] a := Z.pick [0, 1, 4, 5, 6, 18]
 refine av Z rfl ?_
 refine ao <| hK2 _ _ <| aa fun K4 hK4 => wla Z rfl fun a Z => ab (hK4 _ _ <| ac fun K5 hK5 => ?_)
 refine aa fun K6 hK6 => wlm Z rfl fun a Z => ab (hK6 _ _ <| ap ?_)
 refine aT (fun m a w => ∃ (i : Nat) (z : Nat), m = 9 - i ∧ (i ≤ 9) ∧ (wI 9 0 0 (s.drop p) = wI (9 - i) i z (s.drop (p + i))) ∧ (z < 2 ^ (7 * i)) ∧ Fr 67 [(0, sv s), (1, iv (p : Int)), (7, .int .u64 (z : Int)), (19, iv (i : Int))] [] a ∧ St No w0 [] w) _ ⟨0, 0, rfl, (by decide), rfl, (by decide), Z.pick [0, 1, 7, 19], Y.select [] (by decide)⟩ ?_
 rintro _ a w1 ⟨i, z, rfl, hi, hw, hz, Z, Y⟩
 refine aa fun K7 hK7 => wlv Z (v_lt rfl rfl) fun a Z => ab (hK7 _ _ <| ac fun K8 hK8 => ?_)
 refine aC Z rfl (fun hc1 => ?_) (fun hc1 => ?_)
 ·rw [hc1] at Z
  try simp only [qz] at hc1
  refine ao <| hK8 _ _ <| ac fun K9 hK9 => ap <| aa fun K10 hK10 => wlm Z rfl fun a Z => wla Z rfl fun a Z => ab (hK10 _ _ ?_)
  refine ac fun K11 hK11 => aa fun K12 hK12 => wlm Z rfl fun a Z => wlm Z rfl fun a Z => wlv Z (aL rfl rfl ⟨by omega, by omega⟩) fun a Z => wlm Z rfl fun a Z => wlv Z (aJ rfl rfl (Tryd.runUnderlying9 _)) fun a Z => wlv Z (v_ge rfl rfl) fun a Z => ab (hK12 _ _ ?_)
  replace Z : Fr 67 [(0, _), (1, _), (7, _), (19, _), (8, _), (27, _)] [] a := Z.pick [0, 1, 7, 19, 8, 27]
  refine aC Z rfl (fun hc2 => ?_) (fun hc2 => ?_)
  ·rw [hc2] at Z
   try simp only [qz] at hc2
   have hwn : wI 9 0 0 (s.drop p) = none := by rw [hw, List.drop_eq_nil_of_le (by omega)]; exact ni
   refine aF <| hK5 _ _ <| aa fun K13 hK13 => wla Z rfl fun a Z => wla Z rfl fun a Z => wla Z rfl fun a Z => ab (hK13 _ _ ?_)
   replace Z : Fr 67 [(4, _), (5, _), (6, _)] [] a := Z.pick [4, 5, 6]
   refine au ?_
   refine aq Z Tryd.results57 (ae rfl (ae rfl (ae rfl ah))) ?_
   exact ⟨(dG hwn).symm, Y.ext⟩
  rw [hc2] at Z
  try simp only [qz] at hc2
  have hpi : p + i < s.length := by omega
  have hm8 : (s.getD (p + i) 0).toNat % 128 < 128 := Nat.mod_lt _ (by decide)
  have hzl := ng hz hm8
  have hz6 := z_63 (i := i) (by omega) hzl
  refine ao <| hK11 _ _ <| aa fun K14 hK14 => wlm Z rfl fun a Z => wlm Z rfl fun a Z => wlm Z rfl fun a Z => wlv Z (aL rfl rfl ⟨by omega, by omega⟩) fun a Z => wlv Z (eO (k := (p + i)) rfl rfl (Tryd.runUnderlying9 _) (by omega) (by omega)) fun a Z => wla Z rfl fun a Z => ab (hK14 _ _ ?_)
  replace Z : Fr 67 [(0, _), (1, _), (7, _), (19, _), (8, _), (9, _)] [] a := Z.pick [0, 1, 7, 19, 8, 9]
  refine aa fun K15 hK15 => wlm Z rfl fun a Z => wlm Z rfl fun a Z => wlv Z (np (a := s.getD (p + i) 0) (b := (127 : UInt8)) rfl rfl) fun a Z => wlv Z ((ka rfl (by kernel_rfl) Tryd.underlying118).asi (m' := (((s.getD (p + i) 0).toNat % 128 : Nat) : Int)) (by rw [y127])) fun a Z => wlm Z rfl fun a Z => wlv Z ((cL rfl rfl ⟨by omega, by omega⟩).asi (m' := ((7 * i : Nat) : Int)) (by omega)) fun a Z => wlv Z ((ln (m := (s.getD (p + i) 0).toNat % 128) (n := 7 * i) (by omega) rfl rfl).asi (m' := (((s.getD (p + i) 0).toNat % 128 * 2 ^ (7 * i) : Nat) : Int)) (by rw [Nat.mod_eq_of_lt (by omega)])) fun a Z => wlv Z (v_uor (m := z) (n := (s.getD (p + i) 0).toNat % 128) (k := 7 * i) hz (by omega) rfl rfl) fun a Z => wla Z rfl fun a Z => ?_
  refine ab (hK15 _ _ ?_)
  replace Z : Fr 67 [(0, _), (1, _), (19, _), (8, _), (9, _), (7, _)] [] a := Z.pick [0, 1, 19, 8, 9, 7]
  refine ac fun K16 hK16 => aa fun K17 hK17 => wlm Z rfl fun a Z => wlv Z (v_ge rfl rfl) fun a Z => ab (hK17 _ _ ?_)
  refine aC Z rfl (fun hc3 => ?_) (fun hc3 => ?_)
  ·rw [hc3] at Z
   try simp only [qz] at hc3
   refine aF <| hK9 _ _ <| am <| wlv Z (aL rfl rfl ⟨by omega, by omega⟩) fun a Z => wlm Z rfl fun a Z => ab ?_
   refine ⟨_, ?_, i + 1, (z + (s.getD (p + i) 0).toNat % 128 * 2 ^ (7 * i)), rfl, (by omega), (by rw [hw]; exact mB (by omega) hpi (by omega)), hzl, Z.pick [0, 1, 7, 19], Y.select [] (by decide)⟩
   omega
  rw [hc3] at Z
  try simp only [qz] at hc3
  refine ao <| hK16 _ _ <| aa fun K18 hK18 => wlm Z rfl fun a Z => wlv Z ((lC (m := (z + (s.getD (p + i) 0).toNat % 128 * 2 ^ (7 * i))) (n := 1) (by decide) rfl rfl).asi (m' := (((z + (s.getD (p + i) 0).toNat % 128 * 2 ^ (7 * i)) / 2 : Nat) : Int)) rfl) fun a Z => wlv Z (gg (n := (z + (s.getD (p + i) 0).toNat % 128 * 2 ^ (7 * i)) / 2) (by omega) rfl (by kernel_rfl) Tryd.underlying3) fun a Z => wlm Z rfl fun a Z => wlv Z ((lE (m := (z + (s.getD (p + i) 0).toNat % 128 * 2 ^ (7 * i))) (k := 1) (by omega) (by decide) rfl rfl).asi (m' := (((z + (s.getD (p + i) 0).toNat % 128 * 2 ^ (7 * i)) % 2 : Nat) : Int)) rfl) fun a Z => ?_
  refine wlv Z (gg (n := (z + (s.getD (p + i) 0).toNat % 128 * 2 ^ (7 * i)) % 2) (by omega) rfl (by kernel_rfl) Tryd.underlying3) fun a Z => wlv Z (hZ rfl (by omega) (by omega)) fun a Z => wlv Z (v_ixz (z := (z + (s.getD (p + i) 0).toNat % 128 * 2 ^ (7 * i))) (by omega) rfl rfl) fun a Z => wla Z rfl fun a Z => ab (hK18 _ _ ?_)
  replace Z : Fr 67 [(0, _), (1, _), (19, _), (8, _), (9, _), (7, _), (10, _)] [] a := Z.pick [0, 1, 19, 8, 9, 7, 10]
  refine ac fun K19 hK19 => aa fun K20 hK20 => wlm Z rfl fun a Z => wlv Z (v_eq rfl rfl) fun a Z => wlm Z rfl fun a Z => ?_
  rcases Bool.eq_false_or_eq_true (decide (((s.getD (p + i) 0).toNat : Int) = 0)) with hb4 | hb4
  ·rw [hb4] at Z
   try simp only [qz] at hb4
   refine wly Z (ai rfl) fun a Z => wly Z (v_gt rfl rfl) fun a Z => wlv Z (aE rfl rfl) fun a Z => wlm Z rfl fun a Z => ?_
   rcases Bool.eq_false_or_eq_true (decide (0 < (i : Int))) with hb5 | hb5
   ·rw [hb5] at Z
    try simp only [qz] at hb5
    have hwn : wI 9 0 0 (s.drop p) = none := by rw [hw]; exact jw (by omega) hpi (by omega) (.inl ⟨by omega, by omega⟩)
    refine wln Z fun a Z => wln Z fun a Z => wlv Z (aE rfl rfl) fun a Z => ab (hK20 _ _ ?_)
    replace Z : Fr 67 [(0, _), (1, _), (19, _), (8, _), (7, _), (10, _), (60, _)] [] a := Z.pick [0, 1, 19, 8, 7, 10, 60]
    refine aB Z rfl ?_
    refine aF <| hK5 _ _ <| aa fun K21 hK21 => wla Z rfl fun a Z => wla Z rfl fun a Z => wla Z rfl fun a Z => ab (hK21 _ _ ?_)
    replace Z : Fr 67 [(4, _), (5, _), (6, _)] [] a := Z.pick [4, 5, 6]
    refine au ?_
    refine aq Z Tryd.results57 (ae rfl (ae rfl (ae rfl ah))) ?_
    exact ⟨(dG hwn).symm, Y.ext⟩
   rw [hb5] at Z
   try simp only [qz] at hb5
   have hng : ¬ ((s.getD (p + i) 0).toNat = 0 ∧ 0 < i) := by omega
   refine wly Z (ai rfl) fun a Z => wly Z (v_lt rfl rfl) fun a Z => wlv Z (aw rfl rfl) fun a Z => ab (hK20 _ _ ?_)
   replace Z : Fr 67 [(0, _), (1, _), (19, _), (8, _), (7, _), (10, _), (60, _)] [] a := Z.pick [0, 1, 19, 8, 7, 10, 60]
   refine aC Z rfl (fun hc6 => ?_) (fun hc6 => ?_)
   ·rw [hc6] at Z
    try simp only [qz] at hc6
    have hwn : wI 9 0 0 (s.drop p) = none := by rw [hw]; exact jw (by omega) hpi (by omega) (.inr hc6)
    refine aF <| hK5 _ _ <| aa fun K22 hK22 => wla Z rfl fun a Z => wla Z rfl fun a Z => wla Z rfl fun a Z => ab (hK22 _ _ ?_)
    replace Z : Fr 67 [(4, _), (5, _), (6, _)] [] a := Z.pick [4, 5, 6]
    refine au ?_
    refine aq Z Tryd.results57 (ae rfl (ae rfl (ae rfl ah))) ?_
    exact ⟨(dG hwn).symm, Y.ext⟩
   rw [hc6] at Z
   try simp only [qz] at hc6
   have hwg := hw.trans (jF (by omega) hpi (by omega) (by omega) hc6)
   refine ao <| hK19 _ _ <| aa fun K23 hK23 => wlm Z rfl fun a Z => wlm Z rfl fun a Z => wlm Z rfl fun a Z => wlv Z (aL rfl rfl ⟨by omega, by omega⟩) fun a Z => wlv Z (aL rfl rfl ⟨by omega, by omega⟩) fun a Z => wla Z rfl fun a Z => wla Z rfl fun a Z => wla Z rfl fun a Z => ab (hK23 _ _ ?_)
   replace Z : Fr 67 [(0, _), (1, _), (19, _), (7, _), (4, _), (5, _), (6, _)] [] a := Z.pick [0, 1, 19, 7, 4, 5, 6]
   refine au ?_
   refine aq Z Tryd.results57 (ae rfl (ae rfl (ae rfl ah))) ?_
   exact ⟨((iy hp hwg).trans (by simp only [retv]; congr 3; all_goals omega)).symm, Y.ext⟩
  rw [hb4] at Z
  try simp only [qz] at hb4
  refine wln Z fun a Z => wln Z fun a Z => wlv Z (aw rfl rfl) fun a Z => wlm Z rfl fun a Z => wly Z (ai rfl) fun a Z => wly Z (v_lt rfl rfl) fun a Z => wlv Z (aw rfl rfl) fun a Z => ab (hK20 _ _ ?_)
  replace Z : Fr 67 [(0, _), (1, _), (19, _), (8, _), (7, _), (10, _), (60, _)] [] a := Z.pick [0, 1, 19, 8, 7, 10, 60]
  refine aC Z rfl (fun hc7 => ?_) (fun hc7 => ?_)
  ·rw [hc7] at Z
   try simp only [qz] at hc7
   have hwn : wI 9 0 0 (s.drop p) = none := by rw [hw]; exact jw (by omega) hpi (by omega) (.inr hc7)
   refine aF <| hK5 _ _ <| aa fun K24 hK24 => wla Z rfl fun a Z => wla Z rfl fun a Z => wla Z rfl fun a Z => ab (hK24 _ _ ?_)
   replace Z : Fr 67 [(4, _), (5, _), (6, _)] [] a := Z.pick [4, 5, 6]
   refine au ?_
   refine aq Z Tryd.results57 (ae rfl (ae rfl (ae rfl ah))) ?_
   exact ⟨(dG hwn).symm, Y.ext⟩
  rw [hc7] at Z
  try simp only [qz] at hc7
  have hwg := hw.trans (jF (by omega) hpi (by omega) (by omega) hc7)
  refine ao <| hK19 _ _ <| aa fun K25 hK25 => wlm Z rfl fun a Z => wlm Z rfl fun a Z => wlm Z rfl fun a Z => wlv Z (aL rfl rfl ⟨by omega, by omega⟩) fun a Z => wlv Z (aL rfl rfl ⟨by omega, by omega⟩) fun a Z => wla Z rfl fun a Z => wla Z rfl fun a Z => wla Z rfl fun a Z => ab (hK25 _ _ ?_)
  replace Z : Fr 67 [(0, _), (1, _), (19, _), (7, _), (4, _), (5, _), (6, _)] [] a := Z.pick [0, 1, 19, 7, 4, 5, 6]
  refine au ?_
  refine aq Z Tryd.results57 (ae rfl (ae rfl (ae rfl ah))) ?_
  exact ⟨((iy hp hwg).trans (by simp only [retv]; congr 3; all_goals omega)).symm, Y.ext⟩
 rw [hc1] at Z
 try simp only [qz] at hc1
 have hwn : wI 9 0 0 (s.drop p) = none := by rw [hw, show 9 - i = 0 from by omega]; rfl
 refine aF <| hK5 _ _ <| aa fun K26 hK26 => wla Z rfl fun a Z => wla Z rfl fun a Z => wla Z rfl fun a Z => ab (hK26 _ _ <| au ?_)
 refine aq Z Tryd.results57 (ae rfl (ae rfl (ae rfl ah))) ?_
 exact ⟨(dG hwn).symm, Y.ext⟩
end Go.Proofs.YtddfkkdanpmnaaaDoor
namespace Go.Proofs.YtddfkkdanpmnaaaDoor
open Go.RowKit Go.PW
set_option linter.unusedVariables false
set_option linter.unusedSimpArgs false
set_option maxRecDepth 4000
end Go.Proofs.YtddfkkdanpmnaaaDoor
namespace Go.Proofs.YtddfkkdanpmnaaaDoor
open Go.RowKit Go.PW
set_option linter.unusedVariables false
set_option linter.unusedSimpArgs false
set_option maxRecDepth 4000
theorem du {r q : By} {n : Int} (h : rdI r = some (n, q)) : q <:+ r := by
 obtain ⟨_, rfl⟩ := dF h; exact List.suffix_append _ _
theorem lj {r x q : By} (h : rdS r = some (x, q)) : ∃ n r2, rdI r = some (n, r2) ∧ 0 ≤ n ∧ n ≤ 65536 ∧ n ≤ (r2.length : Int) ∧ x = r2.take n.toNat ∧ q = r2.drop n.toNat ∧ q.length = r2.length - n.toNat := by
 unfold rdS at h
 cases hq : rdI r with
 | none => rw [hq] at h; cases h
 | some p =>
  obtain ⟨n, t⟩ := p
  rw [hq] at h
  simp only at h
  split at h
  ·rename_i hc
   cases h
   exact ⟨n, t, rfl, hc.1, hc.2.1, hc.2.2, rfl, rfl, by rw [List.length_drop]⟩
  ·cases h
theorem nr {r : By} (h : rdS r = none) : rdI r = none ∨ ∃ n r2, rdI r = some (n, r2) ∧ (n < 0 ∨ 65536 < n ∨ (r2.length : Int) < n) := by
 unfold rdS at h
 cases hq : rdI r with
 | none => exact .inl rfl
 | some p =>
  obtain ⟨n, t⟩ := p
  rw [hq] at h
  simp only at h
  split at h
  ·cases h
  ·rename_i hc
   exact .inr ⟨n, t, rfl, by omega⟩
theorem mI {r x q : By} (h : rdS r = some (x, q)) : q <:+ r := by
 obtain ⟨n, r2, hi, _, _, _, _, rfl, _⟩ := lj h
 exact (List.drop_suffix _ _).trans (du hi)
theorem mC {s r2 q x : By} {n : Int} (hs : r2 <:+ s) (hx : x = r2.take n.toNat) (h0 : 0 ≤ n) (hn : n ≤ (r2.length : Int)) (hq : q.length = r2.length - n.toNat) : x = (s.drop (s.length - r2.length)).take (s.length - q.length - (s.length - r2.length)) := by
 have := hs.length_le
 rw [← List.suffix_iff_eq_drop.1 hs, hx]
 congr 1
 omega
theorem gS (s : By) (w0 : World) (hs : s.length ≤ 65536) :
  Ret Tryd.prog 50 #[sv s] w0 fun v w => v = .tuple #[sv (putS s), iv 0] ∧ Ext No w0 w := by
 have hpl := bV (s.length : Int)
 refine aG Tryd.func50 rfl Tryd.ntmps50 (lb rfl) fun a Z => ?_
 replace Z : Fr 18 [(0, _)] [] a := Z
 replace Y : St No w0 [] w0 := St.init w0
 refine aa fun K1 hK1 => wla Z rfl fun a Z => wla Z rfl fun a Z => ab (hK1 _ _ <| ac fun K2 hK2 => ?_)
 refine aa fun K3 hK3 => wlm Z rfl fun a Z => wlv Z (aJ rfl rfl (Tryd.runUnderlying9 _)) fun a Z => wlv Z ((v_gt rfl rfl).asb (b' := false) (by exact decide_eq_false (by omega))) fun a Z => ab (hK3 _ _ <| av Z rfl ?_)
 refine ao <| hK2 _ _ <| aa fun K4 hK4 => wlm Z rfl fun a Z => wlv Z (aJ rfl rfl (Tryd.runUnderlying9 _)) fun a Z => al Z Y (by decide) Tryd.call75 rfl (ga (s.length : Int) _ (by unfold small; omega)) ?_
 clear Z Y
 intro a w1 Z Y
 refine wlm Z rfl fun a Z => wlv Z (ag rfl rfl) fun a Z => wlv Z (ag rfl rfl) fun a Z => wla Z rfl fun a Z => wla Z rfl fun a Z => ab (hK4 _ _ ?_)
 replace Z : Fr 18 [(0, _), (2, _), (3, _), (4, _)] [] a := Z.pick [0, 2, 3, 4]
 refine aa fun K5 hK5 => wlm Z rfl fun a Z => wlm Z rfl fun a Z => wlv Z (cC rfl rfl (by (try simp only [List.length_append]); omega)) fun a Z => wla Z rfl fun a Z => wla Z rfl fun a Z => ab (hK5 _ _ <| au ?_)
 refine aq Z Tryd.results50 (ae rfl (ae rfl ah)) ?_
 exact ⟨by rfl, Y.ext⟩
theorem dT {s r r2 : By} {n z : Int} {w0 : World} (hz : z = ((s.length - r.length : Nat) : Int)) (hsf : r <:+ s) (hsl : s.length ≤ 1000000) (hq : rdI r = some (n, r2)) :
  Ret Tryd.prog 57 #[sv s, iv z] w0 fun v w => v = .tuple #[iv n, iv ((s.length - r2.length : Nat) : Int), iv 0] ∧ Ext No w0 w := by
 subst hz
 have := iJ s (s.length - r.length) w0 (by omega) hsl
 unfold intV at this
 rw [← List.suffix_iff_eq_drop.1 hsf, hq] at this
 exact this
theorem dI {s r : By} {z : Int} {w0 : World} (hz : z = ((s.length - r.length : Nat) : Int)) (hsf : r <:+ s) (hsl : s.length ≤ 1000000) (hq : rdI r = none) :
  Ret Tryd.prog 57 #[sv s, iv z] w0 fun v w => v = .tuple #[iv 0, iv 0, iv 10] ∧ Ext No w0 w := by
 subst hz
 have := iJ s (s.length - r.length) w0 (by omega) hsl
 unfold intV at this
 rw [← List.suffix_iff_eq_drop.1 hsf, hq] at this
 exact this
theorem j4 (s r x q : By) (z : Int) (w0 : World) (hz : z = ((s.length - r.length : Nat) : Int)) (hsf : r <:+ s) (hsl : s.length ≤ 1000000) (hq : rdS r = some (x, q)) :
  Ret Tryd.prog 59 #[sv s, iv z] w0 fun v w => v = .tuple #[sv x, iv ((s.length - q.length : Nat) : Int), iv 0] ∧ Ext No w0 w := by
 obtain ⟨n, r2, hi, h0, h6, hl, hx, -, hql⟩ := lj hq
 have hsu := hsf.length_le
 have hsf2 := (du hi).trans hsf
 have hsu2 := hsf2.length_le
 refine aG Tryd.func59 rfl Tryd.ntmps59 (lb rfl) fun a Z => ?_
 replace Z : Fr 43 [(0, _), (1, _)] [] a := Z
 replace Y : St No w0 [] w0 := St.init w0
 refine aa fun K1 hK1 => wla Z rfl fun a Z => wla Z rfl fun a Z => wla Z rfl fun a Z => ab (hK1 _ _ <| aa fun K2 hK2 => ?_)
 refine wlm Z rfl fun a Z => wlm Z rfl fun a Z => al Z Y (by decide) Tryd.call57 rfl (dT hz hsf hsl hi) ?_
 clear Z Y
 intro a w1 Z Y
 refine wlm Z rfl fun a Z => wlv Z (ag rfl rfl) fun a Z => wlv Z (ag rfl rfl) fun a Z => wlv Z (ag rfl rfl) fun a Z => wla Z rfl fun a Z => wla Z rfl fun a Z => wla Z rfl fun a Z => ab (hK2 _ _ ?_)
 replace Z : Fr 43 [(0, _), (4, _), (5, _), (6, _), (7, _), (8, _), (9, _)] [] a := Z.pick [0, 4, 5, 6, 7, 8, 9]
 refine ac fun K3 hK3 => aa fun K4 hK4 => wlm Z rfl fun a Z => wlv Z ((v_ne rfl rfl).asb (b' := false) rfl) fun a Z => ab (hK4 _ _ <| av Z rfl ?_)
 refine ao <| hK3 _ _ <| ac fun K5 hK5 => aa fun K6 hK6 => wlm Z rfl fun a Z => wlv Z ((v_lt rfl rfl).asb (b' := false) (by exact decide_eq_false (by omega))) fun a Z => wlm Z rfl fun a Z => wly Z (ai rfl) fun a Z => wly Z ((v_gt rfl rfl).asb (b' := false) (by exact decide_eq_false (by omega))) fun a Z => wlv Z (aw rfl rfl) fun a Z => wlm Z rfl fun a Z => wly Z (ai rfl) fun a Z => wly Z (ai rfl) fun a Z => wly Z (aJ rfl rfl (Tryd.runUnderlying9 _)) fun a Z => wly Z (ai rfl) fun a Z => wly Z (bh rfl rfl ⟨by omega, by omega⟩) fun a Z => wly Z ((v_gt rfl rfl).asb (b' := false) (by exact decide_eq_false (by omega))) fun a Z => ?_
 refine wlv Z (aw rfl rfl) fun a Z => ab (hK6 _ _ ?_)
 replace Z : Fr 43 [(0, _), (4, _), (5, _), (6, _), (7, _), (8, _), (33, _)] [] a := Z.pick [0, 4, 5, 6, 7, 8, 33]
 refine av Z rfl ?_
 refine ao <| hK5 _ _ <| aa fun K7 hK7 => wlm Z rfl fun a Z => wlm Z rfl fun a Z => wlm Z rfl fun a Z => wlm Z rfl fun a Z => wlv Z ((aL rfl rfl ⟨by omega, by omega⟩).asi (m' := ((s.length - q.length : Nat) : Int)) (by omega)) fun a Z => wlv Z ((gx (xs := s) (l := s.length - r2.length) (h := s.length - q.length) rfl rfl rfl Tryd.underlying9 (.inr ⟨.i64, rfl⟩) (.inr ⟨.i64, rfl⟩) (by omega) (by omega)).as (v' := sv x) (by rw [← mC hsf2 hx h0 hl hql])) fun a Z => wlm Z rfl fun a Z => wlm Z rfl fun a Z => wlv Z ((aL rfl rfl ⟨by omega, by omega⟩).asi (m' := ((s.length - q.length : Nat) : Int)) (by omega)) fun a Z => wla Z rfl fun a Z => wla Z rfl fun a Z => wla Z rfl fun a Z => ?_
 refine ab (hK7 _ _ ?_)
 replace Z : Fr 43 [(4, _), (5, _), (6, _)] [] a := Z.pick [4, 5, 6]
 refine au ?_
 refine aq Z Tryd.results59 (ae rfl (ae rfl (ae rfl ah))) ?_
 exact ⟨by rfl, Y.ext⟩
set_option maxHeartbeats 4000000 in
theorem iD (s r r2 : By) (n z : Int) (w0 : World) (hz : z = ((s.length - r.length : Nat) : Int)) (hsf : r <:+ s) (hsl : s.length ≤ 1000000) (hi : rdI r = some (n, r2)) (hb : n < 0 ∨ 65536 < n ∨ (r2.length : Int) < n) :
  Ret Tryd.prog 59 #[sv s, iv z] w0 fun v w => v = .tuple #[sv ([] : By), iv 0, iv 10] ∧ Ext No w0 w := by
 have hsu := hsf.length_le
 have hsf2 := (du hi).trans hsf
 have hsu2 := hsf2.length_le
 refine aG Tryd.func59 rfl Tryd.ntmps59 (lb rfl) fun a Z => ?_
 replace Z : Fr 43 [(0, _), (1, _)] [] a := Z
 replace Y : St No w0 [] w0 := St.init w0
 refine aa fun K1 hK1 => wla Z rfl fun a Z => wla Z rfl fun a Z => wla Z rfl fun a Z => ab (hK1 _ _ <| aa fun K2 hK2 => ?_)
 refine wlm Z rfl fun a Z => wlm Z rfl fun a Z => al Z Y (by decide) Tryd.call57 rfl (dT hz hsf hsl hi) ?_
 clear Z Y
 intro a w1 Z Y
 refine wlm Z rfl fun a Z => wlv Z (ag rfl rfl) fun a Z => wlv Z (ag rfl rfl) fun a Z => wlv Z (ag rfl rfl) fun a Z => wla Z rfl fun a Z => wla Z rfl fun a Z => wla Z rfl fun a Z => ab (hK2 _ _ ?_)
 replace Z : Fr 43 [(0, _), (4, _), (5, _), (6, _), (7, _), (8, _), (9, _)] [] a := Z.pick [0, 4, 5, 6, 7, 8, 9]
 refine ac fun K3 hK3 => aa fun K4 hK4 => wlm Z rfl fun a Z => wlv Z ((v_ne rfl rfl).asb (b' := false) rfl) fun a Z => ab (hK4 _ _ <| av Z rfl ?_)
 refine ao <| hK3 _ _ <| ac fun K5 hK5 => aa fun K6 hK6 => wlm Z rfl fun a Z => wlv Z (v_lt rfl rfl) fun a Z => wlm Z rfl fun a Z => ?_
 rcases Bool.eq_false_or_eq_true (decide (n < 0)) with hb1 | hb1
 ·rw [hb1] at Z
  try simp only [qz] at hb1
  refine wln Z fun a Z => wln Z fun a Z => wlv Z (aE rfl rfl) fun a Z => wlm Z rfl fun a Z => wln Z fun a Z => wln Z fun a Z => wln Z fun a Z => wln Z fun a Z => ?_
  refine wln Z fun a Z => wln Z fun a Z => wlv Z (aE rfl rfl) fun a Z => ab (hK6 _ _ ?_)
  replace Z : Fr 43 [(0, _), (4, _), (5, _), (6, _), (7, _), (8, _), (33, _)] [] a := Z.pick [0, 4, 5, 6, 7, 8, 33]
  refine aB Z rfl ?_
  refine aa fun K7 hK7 => wla Z rfl fun a Z => wla Z rfl fun a Z => wla Z rfl fun a Z => ab (hK7 _ _ <| au ?_)
  refine aq Z Tryd.results59 (ae rfl (ae rfl (ae rfl ah))) ?_
  exact ⟨by rfl, Y.ext⟩
 rw [hb1] at Z
 try simp only [qz] at hb1
 refine wly Z (ai rfl) fun a Z => wly Z (v_gt rfl rfl) fun a Z => wlv Z (aw rfl rfl) fun a Z => wlm Z rfl fun a Z => ?_
 rcases Bool.eq_false_or_eq_true (decide (65536 < n)) with hb2 | hb2
 ·rw [hb2] at Z
  try simp only [qz] at hb2
  refine wln Z fun a Z => wln Z fun a Z => wln Z fun a Z => wln Z fun a Z => wln Z fun a Z => wln Z fun a Z => wlv Z (aE rfl rfl) fun a Z => ?_
  refine ab (hK6 _ _ ?_)
  replace Z : Fr 43 [(0, _), (4, _), (5, _), (6, _), (7, _), (8, _), (33, _)] [] a := Z.pick [0, 4, 5, 6, 7, 8, 33]
  refine aB Z rfl ?_
  refine aa fun K8 hK8 => wla Z rfl fun a Z => wla Z rfl fun a Z => wla Z rfl fun a Z => ab (hK8 _ _ <| au ?_)
  refine aq Z Tryd.results59 (ae rfl (ae rfl (ae rfl ah))) ?_
  exact ⟨by rfl, Y.ext⟩
 rw [hb2] at Z
 try simp only [qz] at hb2
 refine wly Z (ai rfl) fun a Z => wly Z (ai rfl) fun a Z => wly Z (aJ rfl rfl (Tryd.runUnderlying9 _)) fun a Z => wly Z (ai rfl) fun a Z => wly Z (bh rfl rfl ⟨by omega, by omega⟩) fun a Z => wly Z (v_gt rfl rfl) fun a Z => wlv Z (aw rfl rfl) fun a Z => ab (hK6 _ _ ?_)
 replace Z : Fr 43 [(0, _), (4, _), (5, _), (6, _), (7, _), (8, _), (33, _)] [] a := Z.pick [0, 4, 5, 6, 7, 8, 33]
 refine aC Z rfl (fun hc3 => ?_) (fun hc3 => ?_)
 ·rw [hc3] at Z
  try simp only [qz] at hc3
  refine aa fun K9 hK9 => wla Z rfl fun a Z => wla Z rfl fun a Z => wla Z rfl fun a Z => ab (hK9 _ _ <| au ?_)
  refine aq Z Tryd.results59 (ae rfl (ae rfl (ae rfl ah))) ?_
  exact ⟨by rfl, Y.ext⟩
 rw [hc3] at Z
 try simp only [qz] at hc3
 exfalso; omega
theorem ij (s r : By) (z : Int) (w0 : World) (hz : z = ((s.length - r.length : Nat) : Int)) (hsf : r <:+ s) (hsl : s.length ≤ 1000000) (hi : rdI r = none) :
  Ret Tryd.prog 59 #[sv s, iv z] w0 fun v w => v = .tuple #[sv ([] : By), iv 0, iv 10] ∧ Ext No w0 w := by
 refine aG Tryd.func59 rfl Tryd.ntmps59 (lb rfl) fun a Z => ?_
 replace Z : Fr 43 [(0, _), (1, _)] [] a := Z
 replace Y : St No w0 [] w0 := St.init w0
 refine aa fun K1 hK1 => wla Z rfl fun a Z => wla Z rfl fun a Z => wla Z rfl fun a Z => ab (hK1 _ _ <| aa fun K2 hK2 => ?_)
 refine wlm Z rfl fun a Z => wlm Z rfl fun a Z => al Z Y (by decide) Tryd.call57 rfl (dI hz hsf hsl hi) ?_
 clear Z Y
 intro a w1 Z Y
 refine wlm Z rfl fun a Z => wlv Z (ag rfl rfl) fun a Z => wlv Z (ag rfl rfl) fun a Z => wlv Z (ag rfl rfl) fun a Z => wla Z rfl fun a Z => wla Z rfl fun a Z => wla Z rfl fun a Z => ab (hK2 _ _ ?_)
 replace Z : Fr 43 [(0, _), (4, _), (5, _), (6, _), (7, _), (8, _), (9, _)] [] a := Z.pick [0, 4, 5, 6, 7, 8, 9]
 refine ac fun K3 hK3 => aa fun K4 hK4 => wlm Z rfl fun a Z => wlv Z ((v_ne rfl rfl).asb (b' := true) rfl) fun a Z => ab (hK4 _ _ <| aB Z rfl ?_)
 refine aa fun K5 hK5 => wlm Z rfl fun a Z => wla Z rfl fun a Z => wla Z rfl fun a Z => wla Z rfl fun a Z => ab (hK5 _ _ <| au ?_)
 refine aq Z Tryd.results59 (ae rfl (ae rfl (ae rfl ah))) ?_
 exact ⟨by rfl, Y.ext⟩
theorem jA {s r : By} {z : Int} {w0 : World} (hz : z = ((s.length - r.length : Nat) : Int)) (hsf : r <:+ s) (hsl : s.length ≤ 1000000) (hq : rdS r = none) :
  Ret Tryd.prog 59 #[sv s, iv z] w0 fun v w => v = .tuple #[sv ([] : By), iv 0, iv 10] ∧ Ext No w0 w := by
 rcases nr hq with hi | ⟨n, r2, hi, hb⟩
 ·exact ij s r z w0 hz hsf hsl hi
 ·exact iD s r r2 n z w0 hz hsf hsl hi hb
end Go.Proofs.YtddfkkdanpmnaaaDoor
namespace Go.Proofs.YtddfkkdanpmnaaaDoor
open Go.RowKit Go.PW
set_option linter.unusedVariables false
set_option linter.unusedSimpArgs false
set_option maxRecDepth 4000
def smalls (l : List Int) : Prop := ∀ n ∈ l, small n
def i64 (n : Int) : Prop := -9223372036854775808 ≤ n ∧ n ≤ 9223372036854775807
def Rec.cells (x : Rec) : List Value := [iv x.t, iv x.kind, iv x.a, iv x.b, sv x.text]
theorem ey {l : List (List Value)} (h : ∀ e ∈ l, ∃ p : Rec, e = p.cells) : ∀ e ∈ l, ∀ u ∈ e, u.oneCell' = true := by
 intro e he u hu
 obtain ⟨p, rfl⟩ := h e he
 simp only [Rec.cells, List.mem_cons, List.not_mem_nil, or_false] at hu
 rcases hu with rfl | rfl | rfl | rfl | rfl <;> rfl
def Rin.cells (y : Rin) : List Value := [iv y.x0, iv y.x1, iv y.x2, iv y.x3, iv y.x4]
def Rin.z : Rin := ⟨0, 0, 0, 0, 0⟩
def prevT (l : List Rec) : Nat → Int
 | 0 => 0
 | k + 1 => (l.getD k Rec.z).t
theorem Rec.t0 {x : Rec} (h : x.ok = true) : 0 ≤ x.t := by
 simp only [Rec.ok, inB, Bool.and_eq_true, decide_eq_true_eq] at h; omega
theorem eF {l : List Rec} {k : Nat} (h : k < l.length) : l.drop k = l.getD k Rec.z :: l.drop (k + 1) := by
 rw [List.drop_eq_getElem_cons h, List.getD_eq_getElem?_getD, List.getElem?_eq_getElem h]; rfl
section
variable {l : List Rec} {k : Nat} {t : Int}
theorem sr_go (hk : k < l.length) (ho : (l.getD k Rec.z).ok = true) (ht : t ≤ (l.getD k Rec.z).t) : bI t (l.drop k) = bI (prevT l (k + 1)) (l.drop (k + 1)) := by
 rw [eF hk, bI, ho, decide_eq_true ht]; rfl
theorem sr_no (hk : k < l.length) (ho : (l.getD k Rec.z).ok = false) : bI t (l.drop k) = false := by rw [eF hk, bI, ho]; rfl
theorem sr_lt (hk : k < l.length) (ht : (l.getD k Rec.z).t < t) : bI t (l.drop k) = false := by rw [eF hk, bI, decide_eq_false (by omega), Bool.and_false]; rfl
end
def eB (x : Rec) : By := if x.ok = true then x.enc else []
def eE (x : Rec) : Int := if x.ok = true then 0 else 110
theorem mb (x : Rec) : (eB x).length ≤ 300 := by
 unfold eB
 split
 ·rename_i h
  have h1 := x.enc_len
  have h2 := Rec.len h
  omega
 ·simp
def decR (acc : List Int) (m : Nat) (r : By) : Option Rec := match intsR m r with
 | none => none
 | some (l, t) => tailR (acc ++ l) t
def decX (s : By) : Rec := (decRec s).getD Rec.z
def decE (s : By) : Int := if (decRec s).isSome = true then 0 else 110
section
variable {acc : List Int} {m : Nat} {r q x s : By} {n : Int}
theorem lW : decRec s = decR [] 4 s := by
 unfold decRec decR
 cases intsR 4 s <;> rfl
theorem e9 (h : rdI r = some (n, q)) : decR acc (m + 1) r = decR (acc ++ [n]) m q := by
 unfold decR
 rw [ic h]
 cases intsR m q with
 | none => rfl
 | some p => simp
theorem ex (h : rdI r = none) : decR acc (m + 1) r = none := by unfold decR; rw [ke h]
theorem kY : decR acc 0 r = tailR acc r := by unfold decR; simp [intsR]
theorem kF (h : rdS r = none) : tailR acc r = none := by unfold tailR; rw [h]
theorem lR (h : rdS r = some (x, q)) : tailR acc r = shutR acc x q := by unfold tailR; rw [h]
theorem ko (h1 : q = []) (h2 : (recN acc x).ok = true) : shutR acc x q = some (recN acc x) := if_pos ⟨h1, h2⟩
theorem kp (h : q ≠ []) : shutR acc x q = none := if_neg fun hh => h hh.1
theorem kg (h : (recN acc x).ok = false) : shutR acc x q = none := if_neg fun hh => by rw [h] at hh; cases hh.2
end
def codesB (l : List Rec) : List By := l.map eB
theorem dO {l : List Rec} (h : ∀ x ∈ l, x.ok = true) : codesB l = codesR l := List.map_congr_left fun x hx => if_pos (h x hx)
theorem fI (l : List Rec) : ∀ s ∈ codesB l, s.length ≤ 300 := by
 intro s hs
 obtain ⟨x, _, rfl⟩ := List.mem_map.1 hs
 exact mb x
theorem fq (l : List Rec) : (codesB l).length = l.length := List.length_map ..
def addOk (o : Int) (l : List Rec) (x : Rec) : Bool := logOk o l && logOk o (l ++ [x])
theorem dC {P : Program} {w : World} {d : Nat} {xs ys : Array Value} {f : Field} {fs : List Field} {a b : Value} {r r' : Bool} (hn : f.name ≠ "_") (h1 : (part f.type xs f.offset).run P w = .ok a w) (h2 : (part f.type ys f.offset).run P w = .ok b w)
  (h3 : (Op.equalIn d f.type a b).run P w = .ok r w) (h4 : (Op.eqFields d xs ys fs).run P w = .ok r' w) : (Op.eqFields d xs ys (f :: fs)).run P w = .ok (r && r') w := by
 simp only [Op.eqFields, hn, ne_eq, not_false_eq_true, if_true, Sem.run_bind, h1, h2, h3, Result.andThen_ok]
 cases r
 ·simp
 ·simpa using h4
theorem m0 {P : Program} {w : World} {d : Nat} {xs ys : Array Value} : (Op.eqFields d xs ys []).run P w = .ok true w := by simp [Op.eqFields]
theorem eqI {w : World} (d : Nat) (a b : Int) : (Op.equalIn (d + 1) 3 (iv a) (iv b)).run Tryd.prog w = .ok (decide (a = b)) w := by
 rw [run_equalIn_int w d 3 .i64 .i64 a b Tryd.underlying3]; congr 1
theorem eqS {w : World} (d : Nat) (a b : By) : (Op.equalIn (d + 1) 9 (sv a) (sv b)).run Tryd.prog w = .ok (decide (a = b)) w := by
 unfold sv
 rw [run_equalIn_string w d 9 _ _ Tryd.underlying9, ByteArray.toList_mk, ByteArray.toList_mk]; congr 1
 rw [Bool.eq_iff_iff]; simp
theorem eqRec (a0 a1 a2 a3 : Int) (a4 : By) (c0 c1 c2 c3 : Int) (c4 : By) (w : World) : (Op.equal 27 (.agg #[iv a0, iv a1, iv a2, iv a3, sv a4]) (.agg #[iv c0, iv c1, iv c2, iv c3, sv c4])).run Tryd.prog w = .ok (decide (Rec.mk a0 a1 a2 a3 a4 = Rec.mk c0 c1 c2 c3 c4)) w := by
 have e : decide (Rec.mk a0 a1 a2 a3 a4 = Rec.mk c0 c1 c2 c3 c4) = (decide (a0 = c0) && (decide (a1 = c1) && (decide (a2 = c2) && (decide (a3 = c3) && (decide (a4 = c4) && true))))) := by
  rw [Bool.eq_iff_iff]; simp [and_assoc]
 rw [e]
 unfold Op.equal Op.maxDepth
 obtain ⟨dd, hd⟩ : ∃ dd, 10000 = dd + 1 + 1 + 1 := ⟨9997, rfl⟩
 rw [hd, run_equalIn_struct w (dd + 1 + 1) 27 _ _ (by kernel_rfl) (by kernel_rfl)]
 simp only [Program.fieldsOf, Tryd.underlying27]
 refine dC (a := iv a0) (b := iv c0) (r := decide (a0 = c0)) (by decide) (by simp [part, Tryd.isAgg3, sv]) (by simp [part, Tryd.isAgg3, sv]) (eqI _ _ _) ?_
 refine dC (a := iv a1) (b := iv c1) (r := decide (a1 = c1)) (by decide) (by simp [part, Tryd.isAgg3, sv]) (by simp [part, Tryd.isAgg3, sv]) (eqI _ _ _) ?_
 refine dC (a := iv a2) (b := iv c2) (r := decide (a2 = c2)) (by decide) (by simp [part, Tryd.isAgg3, sv]) (by simp [part, Tryd.isAgg3, sv]) (eqI _ _ _) ?_
 refine dC (a := iv a3) (b := iv c3) (r := decide (a3 = c3)) (by decide) (by simp [part, Tryd.isAgg3, sv]) (by simp [part, Tryd.isAgg3, sv]) (eqI _ _ _) ?_
 refine dC (a := sv a4) (b := sv c4) (r := decide (a4 = c4)) (by decide) (by simp [part, Tryd.isAgg9, sv]) (by simp [part, Tryd.isAgg9, sv]) (eqS _ _ _) ?_
 exact m0
theorem cE (n m : Int) (w0 : World) (hn : -9223372036854775808 ≤ n ∧ n ≤ 9223372036854775807) (hm : 0 < m ∧ m ≤ 9223372036854775807) :
  Ret Tryd.prog 44 #[iv n, iv m] w0 fun v w => v = iv (pickI n m) ∧ Ext No w0 w := by
 refine aG Tryd.func44 rfl Tryd.ntmps44 (lb rfl) fun a Z => ?_
 replace Z : Fr 13 [(0, _), (1, _)] [] a := Z
 replace Y : St No w0 [] w0 := St.init w0
 refine aa fun K1 hK1 => wla Z rfl fun a Z => ab (hK1 _ _ <| ac fun K2 hK2 => ?_)
 refine aa fun K3 hK3 => wlm Z rfl fun a Z => wlv Z (v_lt rfl rfl) fun a Z => ab (hK3 _ _ ?_)
 refine aC Z rfl (fun hc1 => ?_) (fun hc1 => ?_)
 ·rw [hc1] at Z
  try simp only [qz] at hc1
  refine am <| wlm Z rfl fun a Z => wlv Z (aL rfl rfl ⟨by omega, by omega⟩) fun a Z => wlv Z (hZ rfl (by omega) (by omega)) fun a Z => wla Z rfl fun a Z => ab <| hK2 _ _ <| aa fun K4 hK4 => ?_
  refine wlm Z rfl fun a Z => wlm Z rfl fun a Z => wlv Z (gn rfl rfl (by omega) (by omega)) fun a Z => wla Z rfl fun a Z => ab (hK4 _ _ ?_)
  replace Z : Fr 13 [(4, _)] [] a := Z.pick [4]
  refine au ?_
  refine aq Z Tryd.results44 (ae rfl ah) ?_
  exact ⟨by simp only [retv, pickI]; simp [hc1], Y.ext⟩
 rw [hc1] at Z
 try simp only [qz] at hc1
 refine ao <| hK2 _ _ <| aa fun K5 hK5 => wlm Z rfl fun a Z => wlm Z rfl fun a Z => wlv Z (gn rfl rfl (by omega) (by omega)) fun a Z => wla Z rfl fun a Z => ab (hK5 _ _ ?_)
 replace Z : Fr 13 [(4, _)] [] a := Z.pick [4]
 refine au ?_
 refine aq Z Tryd.results44 (ae rfl ah) ?_
 exact ⟨by simp only [retv, pickI]; simp [hc1], Y.ext⟩
theorem dD (n m : Int) (w0 : World) (hn : -9223372036854775808 ≤ n ∧ n ≤ 9223372036854775807) (hm : 0 < m ∧ m ≤ 9223372036854775807) :
  Ret Tryd.prog 19 #[iv n, iv m] w0 fun v w => v = iv (pickI n m) ∧ Ext No w0 w := by
 refine aG Tryd.func19 rfl Tryd.ntmps19 (lb rfl) fun a Z => ?_
 replace Z : Fr 13 [(0, _), (1, _)] [] a := Z
 replace Y : St No w0 [] w0 := St.init w0
 refine aa fun K1 hK1 => wla Z rfl fun a Z => ab (hK1 _ _ <| ac fun K2 hK2 => ?_)
 refine aa fun K3 hK3 => wlm Z rfl fun a Z => wlv Z (v_lt rfl rfl) fun a Z => ab (hK3 _ _ ?_)
 refine aC Z rfl (fun hc1 => ?_) (fun hc1 => ?_)
 ·rw [hc1] at Z
  try simp only [qz] at hc1
  refine am <| wlm Z rfl fun a Z => wlv Z (aL rfl rfl ⟨by omega, by omega⟩) fun a Z => wlv Z (hZ rfl (by omega) (by omega)) fun a Z => wla Z rfl fun a Z => ab <| hK2 _ _ <| aa fun K4 hK4 => ?_
  refine wlm Z rfl fun a Z => wlm Z rfl fun a Z => wlv Z (gn rfl rfl (by omega) (by omega)) fun a Z => wla Z rfl fun a Z => ab (hK4 _ _ ?_)
  replace Z : Fr 13 [(4, _)] [] a := Z.pick [4]
  refine au ?_
  refine aq Z Tryd.results19 (ae rfl ah) ?_
  exact ⟨by simp only [retv, pickI]; simp [hc1], Y.ext⟩
 rw [hc1] at Z
 try simp only [qz] at hc1
 refine ao <| hK2 _ _ <| aa fun K5 hK5 => wlm Z rfl fun a Z => wlm Z rfl fun a Z => wlv Z (gn rfl rfl (by omega) (by omega)) fun a Z => wla Z rfl fun a Z => ab (hK5 _ _ ?_)
 replace Z : Fr 13 [(4, _)] [] a := Z.pick [4]
 refine au ?_
 refine aq Z Tryd.results19 (ae rfl ah) ?_
 exact ⟨by simp only [retv, pickI]; simp [hc1], Y.ext⟩
end Go.Proofs.YtddfkkdanpmnaaaDoor
namespace Go.Proofs.YtddfkkdanpmnaaaDoor
open Go.RowKit Go.PW
set_option linter.unusedVariables false
set_option linter.unusedSimpArgs false
set_option maxRecDepth 4000
theorem ge {o : Int} {l : List Rec} {x : Rec} (h : addOk o l x = true) : logOk o l = true ∧ logOk o (l ++ [x]) = true := by
 unfold addOk at h; simpa using h
end Go.Proofs.YtddfkkdanpmnaaaDoor
namespace Go.Proofs.YtddfkkdanpmnaaaDoor
open Go.RowKit Go.PW
set_option linter.unusedVariables false
set_option linter.unusedSimpArgs false
set_option maxRecDepth 4000
theorem mO {a b : Int} (ha : i64 a) (hb : 1 ≤ b) : -9223372036854775808 ≤ a.tdiv b ∧ a.tdiv b ≤ 9223372036854775807 := by
 have h : (a.tdiv b).natAbs ≤ a.natAbs := by rw [Int.natAbs_tdiv]; exact Nat.div_le_self _ _
 unfold i64 at ha
 by_cases h0 : 0 ≤ a
 ·have := Int.tdiv_nonneg h0 (by omega : 0 ≤ b); omega
 ·have h1 : a.tdiv b = -((-a).tdiv b) := by rw [Int.neg_tdiv, Int.neg_neg]
  have := Int.tdiv_nonneg (by omega : 0 ≤ -a) (by omega : 0 ≤ b); omega
def keyR (n : Int) : By := sha (putI (pickI n 1099511627776))
def exR : List Rec := [⟨10, 1, 7, -1, [110, 101, 119, 115]⟩, ⟨20, 2, 0, 5, []⟩, ⟨20, 1, 8, -1, []⟩]
theorem kM {P : Program} {w : World} {L : List (Nat × Value)} {dst : Option Tmp} {T T' ty : TypeId} {pos : String} {af : Array Edge} {gd : Option (Nat × Bool)} {x : Operand} {n : Int} (hx : ev L x = some (iv n)) (hs : (P.underlying T).isSome = true) (hd : P.underlying T' = some (.int .u8)) : OpV P ⟨dst, .convert T T' x, ty, pos, af, gd⟩ L w (yv (UInt8.ofNat (n % 256).toNat)) :=
 (cY hx hs hd).as (by
  have h1 : 0 ≤ n % 256 := Int.emod_nonneg _ (by decide)
  have h2 : n % 256 < 256 := Int.emod_lt_of_pos _ (by decide)
  have e : ((UInt8.ofNat (n % 256).toNat).toNat : Int) = n % 256 := by rw [bu (by omega)]; omega
  unfold yv
  rw [e]
  simp [IntKind.wrap, IntKind.signed, IntKind.bits])
theorem kP (t x0 x1 x2 x3 : Int) (w0 : World) (ht : i64 t) (h0 : i64 x0) (h1 : i64 x1) (h2 : i64 x2) (h3 : i64 x3) :
  Ret Tryd.prog 15 #[iv t, .agg #[iv x0, iv x1, iv x2, iv x3]] w0 fun v w => v = .agg #[iv ((entR t x0 x1 x2 x3).t), iv ((entR t x0 x1 x2 x3).kind), iv ((entR t x0 x1 x2 x3).a), iv ((entR t x0 x1 x2 x3).b), sv ((entR t x0 x1 x2 x3).text)] ∧ Ext No w0 w := by
 have hp4 := bK x3 (n := 4) (by decide)
 have hpa := bK x0 (n := 3) (by decide)
 have hpb := bK x1 (n := 200) (by decide)
 have hpc := bK x2 (n := 200) (by decide)
 refine aG Tryd.func15 rfl Tryd.ntmps15 (lb rfl) fun a Z => ?_
 replace Z : Fr 43 [(0, _), (1, _)] [] a := Z
 replace Y : St No w0 [] w0 := St.init w0
 refine aa fun K1 hK1 => bn Z Y (by decide) rfl (cs := [iv x0, iv x1, iv x2, iv x3]) rfl ?_
 clear Z Y
 intro a w1 Z Y
 refine aD Z Y (by decide) (Tryd.zeroValue27 _) (cs := [iv 0, iv 0, iv 0, iv 0, .string (⟨#[]⟩)]) rfl ?_
 clear Z Y
 intro a w2 Z Y
 refine ab (hK1 _ _ <| ac fun K2 hK2 => ?_)
 refine aN (by kernel_rfl) (aQ (by kernel_rfl) fun w3 hxz => ?_)
 replace Y := Y.grow hxz
 refine bp (k := 0) 16 [14, 15] Z (by kernel_rfl) (by kernel_rfl) (by kernel_rfl) (by rfl) ?_
 replace Z : Fr 43 [(0, _), (1, _), (3, _), (4, _)] [] a := Z.pick [0, 1, 3, 4]
 refine aI [15] (fun i => match i with | 15 => pm (fun b : Nat => pt b) (fun b => [blk b [iv 0, iv 0, iv 0, iv 0, .string (⟨#[]⟩)] 27]) (fun _ => True) | _ => fun _ _ => False) 16 [[], [0], [], [2], [3], [4], [], [6], [7], [8], [], [10], [11], [12], [1, 5, 9, 13], []] [iv t, iv (pickI t 10000001), pt w0.heap.size, iv x0, iv (pickI x0 3), iv (1 + (pickI x0 3)), .pointer (some ⟨w0.heap.size, 1, none⟩), iv x1, iv (pickI x1 200), iv ((pickI x1 200) - 1), .pointer (some ⟨w0.heap.size, 2, none⟩), iv x2, iv (pickI x2 200), iv ((pickI x2 200) - 1), .agg #[iv (pickI t 10000001), iv (1 + (pickI x0 3)), iv ((pickI x1 200) - 1), iv ((pickI x2 200) - 1), .string (⟨#[]⟩)], undef] Z Y (by kernel_rfl) (by kernel_rfl) (by kernel_rfl) ?_ ?_ ?_
 ·intro i hi hiq
  match i, hi, hiq with
  | 0, _, _ =>
   intro w Y
   exact OpV.g (ai rfl)
  | 1, _, _ =>
   intro w Y
   exact br Tryd.call44 rfl (cE t 10000001 _ (by first | assumption | (unfold i64 at *; omega) | omega) (by omega))
  | 2, _, _ =>
   intro w Y
   exact OpV.g (aS (v := pt w0.heap.size) rfl rfl (by kernel_rfl))
  | 3, _, _ =>
   intro w Y
   exact OpV.g (aj (Y.get (k := 1) rfl) rfl (Tryd.isAgg3 _) rfl)
  | 4, _, _ =>
   intro w Y
   exact br Tryd.call44 rfl (cE x0 3 _ (by first | assumption | (unfold i64 at *; omega) | omega) (by omega))
  | 5, _, _ =>
   intro w Y
   exact OpV.g (aL rfl rfl ⟨by omega, by omega⟩)
  | 6, _, _ =>
   intro w Y
   exact OpV.g (aS (v := .pointer (some ⟨w0.heap.size, 1, none⟩)) rfl rfl (by kernel_rfl))
  | 7, _, _ =>
   intro w Y
   exact OpV.g (aj (Y.get (k := 1) rfl) rfl (Tryd.isAgg3 _) rfl)
  | 8, _, _ =>
   intro w Y
   exact br Tryd.call44 rfl (cE x1 200 _ (by first | assumption | (unfold i64 at *; omega) | omega) (by omega))
  | 9, _, _ =>
   intro w Y
   exact OpV.g (bh rfl rfl ⟨by omega, by omega⟩)
  | 10, _, _ =>
   intro w Y
   exact OpV.g (aS (v := .pointer (some ⟨w0.heap.size, 2, none⟩)) rfl rfl (by kernel_rfl))
  | 11, _, _ =>
   intro w Y
   exact OpV.g (aj (Y.get (k := 1) rfl) rfl (Tryd.isAgg3 _) rfl)
  | 12, _, _ =>
   intro w Y
   exact br Tryd.call44 rfl (cE x2 200 _ (by first | assumption | (unfold i64 at *; omega) | omega) (by omega))
  | 13, _, _ =>
   intro w Y
   exact OpV.g (bh rfl rfl ⟨by omega, by omega⟩)
  | 14, _, _ =>
   intro w Y
   exact OpV.g (bt (v := .agg #[iv (pickI t 10000001), iv (1 + (pickI x0 3)), iv ((pickI x1 200) - 1), iv ((pickI x2 200) - 1), .string (⟨#[]⟩)]) rfl (by kernel_rfl))
  | 15, _, h => exact absurd (by simp) h
  | i + 16, h, _ => exact absurd h (by omega)
 ·intro i hi
  simp only [List.mem_cons, List.not_mem_nil, or_false] at hi
  subst hi
  ·intro w Y
   exact gZ (Tryd.zeroValue27 _) (cs := [iv 0, iv 0, iv 0, iv 0, .string (⟨#[]⟩)]) rfl
 clear Z Y
 rintro _ _ ⟨b1, rfl, -, rfl⟩ a w4 Z Y
 replace Z : Fr 43 [(7, iv t), (8, iv (pickI t 10000001)), (9, pt w0.heap.size), (10, iv x0), (11, iv (pickI x0 3)), (12, iv (1 + (pickI x0 3))), (13, .pointer (some ⟨w0.heap.size, 1, none⟩)), (14, iv x1), (15, iv (pickI x1 200)), (16, iv ((pickI x1 200) - 1)), (17, .pointer (some ⟨w0.heap.size, 2, none⟩)), (18, iv x2), (19, iv (pickI x2 200)), (20, iv ((pickI x2 200) - 1)), (21, .agg #[iv (pickI t 10000001), iv (1 + (pickI x0 3)), iv ((pickI x1 200) - 1), iv ((pickI x2 200) - 1), .string (⟨#[]⟩)]), (5, _), (0, _), (1, _), (3, _), (4, _)] [] a := Z
 replace Y : St No w0 [_, _, _] w4 := Y
 refine ab <| bd (k := 16) 17 [16] (by kernel_rfl) (by kernel_rfl) (by kernel_rfl) ?_
 refine az 0 Z Y rfl rfl rfl (Tryd.sizeOf27 _) rfl (lb rfl) (ds := [iv (pickI t 10000001), iv (1 + (pickI x0 3)), iv ((pickI x1 200) - 1), iv ((pickI x2 200) - 1), .string (⟨#[]⟩)]) rfl rfl ?_
 clear Z Y
 intro a w5 Z Y
 refine ab <| bl (by kernel_rfl) ?_
 refine hK2 _ _ ?_
 replace Z : Fr 43 [(3, _), (4, _), (5, _)] [] a := Z.pick [3, 4, 5]
 refine ac fun K3 hK3 => aa fun K4 hK4 => wla Z rfl fun a Z => ab (hK4 _ _ <| ap ?_)
 refine aT (fun m a w => ∃ (k : Nat), m = (pickI x3 4).toNat - k ∧ ((k : Int) ≤ pickI x3 4) ∧ Fr 43 [(3, pt w0.heap.size), (4, pt w1.heap.size), (5, pt b1), (6, iv (k : Int))] [] a ∧ St No w0 [blk b1 [iv (pickI t 10000001), iv (1 + (pickI x0 3)), iv ((pickI x1 200) - 1), iv ((pickI x2 200) - 1), sv (textR x3 k)] 27, blk w1.heap.size [iv 0, iv 0, iv 0, iv 0, .string (⟨#[]⟩)] 27, blk w0.heap.size [iv x0, iv x1, iv x2, iv x3] 37] w) _ ⟨0, rfl, hp4.1, Z.pick [3, 4, 5, 6], Y.select [0, 1, 2] (by decide)⟩ ?_
 rintro _ a w6 ⟨k, rfl, hk, Z, Y⟩
 refine ac fun K5 hK5 => aa fun K6 hK6 => wlm Z rfl fun a Z => wlv Z (aS (v := .pointer (some ⟨w0.heap.size, 3, none⟩)) rfl rfl (by kernel_rfl)) fun a Z => wlv Z (aj (Y.get (k := 2) rfl) rfl (Tryd.isAgg3 _) rfl) fun a Z => al Z Y (by decide) Tryd.call44 rfl (cE x3 4 _ (by first | assumption | (unfold i64 at *; omega) | omega) (by omega)) ?_
 clear Z Y
 intro a w7 Z Y
 refine wlv Z (v_lt rfl rfl) fun a Z => ab (hK6 _ _ ?_)
 refine aC Z rfl (fun hc2 => ?_) (fun hc2 => ?_)
 ·rw [hc2] at Z
  try simp only [qz] at hc2
  have hk4 : k < 4 := by omega
  have htl := eL x3 k
  have htl2 := bK (x3.tdiv (4 + (k : Int))) (n := 256) (by decide)
  have htd := mO h3 (b := 4 + (k : Int)) (by omega)
  refine ao <| hK5 _ _ <| ac fun K7 hK7 => ap <| aN (by kernel_rfl) (aQ (by kernel_rfl) fun w8 hxz => ?_)
  replace Y := Y.grow hxz
  refine bp (k := 0) 11 [1, 10] Z (by kernel_rfl) (by kernel_rfl) (by kernel_rfl) (by rfl) ?_
  replace Z : Fr 43 [(3, _), (4, _), (5, _), (6, _), (22, _), (23, _), (24, _), (25, _), (26, _)] [] a := Z.pick [3, 4, 5, 6, 22, 23, 24, 25, 26]
  refine aI [9] (fun i => match i with | 9 => pm (fun b : Nat => .slice (some ⟨b, 0, none⟩) 1 1) (fun b => [own (.slice (some ⟨b, 0, none⟩) 1 1) 5 1 [[yv (UInt8.ofNat (pickI (x3.tdiv (4 + (k : Int))) 256).toNat)]]]) (fun _ => True) | _ => fun _ _ => False) 11 [[], [0], [], [2], [], [4], [3, 5], [6], [7], [8], [9]] [.pointer (some ⟨b1, 4, none⟩), sv (textR x3 k), .pointer (some ⟨w0.heap.size, 3, none⟩), iv x3, iv (k : Int), iv (4 + (k : Int)), iv (x3.tdiv (4 + (k : Int))), iv (pickI (x3.tdiv (4 + (k : Int))) 256), yv (UInt8.ofNat (pickI (x3.tdiv (4 + (k : Int))) 256).toNat), undef, sv ([(UInt8.ofNat (pickI (x3.tdiv (4 + (k : Int))) 256).toNat)])] Z Y (by kernel_rfl) (by kernel_rfl) (by kernel_rfl) ?_ ?_ ?_
  ·intro i hi hiq
   match i, hi, hiq with
   | 0, _, _ =>
    intro w Y
    exact OpV.g (ay (v := .pointer (some ⟨b1, 4, none⟩)) rfl (by kernel_rfl))
   | 1, _, _ =>
    intro w Y
    exact OpV.g (aj (Y.get (k := 0) rfl) rfl (Tryd.isAgg9 _) rfl)
   | 2, _, _ =>
    intro w Y
    exact OpV.g (aS (v := .pointer (some ⟨w0.heap.size, 3, none⟩)) rfl rfl (by kernel_rfl))
   | 3, _, _ =>
    intro w Y
    exact OpV.g (aj (Y.get (k := 2) rfl) rfl (Tryd.isAgg3 _) rfl)
   | 4, _, _ =>
    intro w Y
    exact OpV.g (ai rfl)
   | 5, _, _ =>
    intro w Y
    exact OpV.g (aL rfl rfl ⟨by omega, by omega⟩)
   | 6, _, _ =>
    intro w Y
    exact OpV.g (nE rfl rfl (by omega) h3)
   | 7, _, _ =>
    intro w Y
    exact br Tryd.call44 rfl (cE (x3.tdiv (4 + (k : Int))) 256 _ (by first | assumption | (unfold i64 at *; omega) | omega) (by omega))
   | 8, _, _ =>
    intro w Y
    exact OpV.g ((kM (n := pickI (x3.tdiv (4 + (k : Int))) 256) rfl (by kernel_rfl) Tryd.underlying5).as (v' := yv (UInt8.ofNat (pickI (x3.tdiv (4 + (k : Int))) 256).toNat)) (by have hp := bK (x3.tdiv (4 + (k : Int))) (n := 256) (by decide); rw [Int.emod_eq_of_lt hp.1 hp.2]))
   | 9, _, h => exact absurd (by simp) h
   | 10, _, _ =>
    rintro _ _ ⟨b3, rfl, -, rfl⟩
    intro w Y
    exact OpV.g (bS (xs := [(UInt8.ofNat (pickI (x3.tdiv (4 + (k : Int))) 256).toNat)]) (Y.ownAt (i := 0) rfl) rfl Tryd.underlying71 Tryd.underlying5 Tryd.underlying9)
  ·intro i hi
   simp only [List.mem_cons, List.not_mem_nil, or_false] at hi
   subst hi
   ·intro w Y
    exact aK (E := 5) (sz := 1) rfl [[yv (UInt8.ofNat (pickI (x3.tdiv (4 + (k : Int))) 256).toNat)]] (fun _ => by kernel_rfl) (by simp) rfl (by decide)
  clear Z Y
  rintro _ _ ⟨b3, rfl, -, rfl⟩ a w9 Z Y
  replace Z : Fr 43 [(29, .pointer (some ⟨b1, 4, none⟩)), (30, sv (textR x3 k)), (31, .pointer (some ⟨w0.heap.size, 3, none⟩)), (32, iv x3), (33, iv (k : Int)), (34, iv (4 + (k : Int))), (35, iv (x3.tdiv (4 + (k : Int)))), (36, iv (pickI (x3.tdiv (4 + (k : Int))) 256)), (37, yv (UInt8.ofNat (pickI (x3.tdiv (4 + (k : Int))) 256).toNat)), (38, _), (39, sv ([(UInt8.ofNat (pickI (x3.tdiv (4 + (k : Int))) 256).toNat)])), (3, _), (4, _), (5, _), (6, _), (22, _), (23, _), (24, _), (25, _), (26, _)] [] a := Z
  replace Y : St No w0 [_, _, _, _] w9 := Y
  refine ab <| bd (k := 11) 14 [13] (by kernel_rfl) (by kernel_rfl) (by kernel_rfl) ?_
  refine wlv Z (cC rfl rfl (by simp only [List.length_cons, List.length_nil]; omega)) fun a Z => wlv Z (ay (v := .pointer (some ⟨b1, 4, none⟩)) rfl (by kernel_rfl)) fun a Z => az 1 Z Y rfl rfl rfl (Tryd.sizeOf9 _) rfl (lb rfl) (ds := [iv (pickI t 10000001), iv (1 + (pickI x0 3)), iv ((pickI x1 200) - 1), iv ((pickI x2 200) - 1), sv ((textR x3 k) ++ ([(UInt8.ofNat (pickI (x3.tdiv (4 + (k : Int))) 256).toNat)]))]) rfl rfl ?_
  clear Z Y
  intro a w10 Z Y
  refine ab <| bl (by kernel_rfl) ?_
  refine hK7 _ _ ?_
  replace Z : Fr 43 [(3, _), (4, _), (5, _), (6, _)] [] a := Z.pick [3, 4, 5, 6]
  replace Y : St No w0 [_, _, _] w10 := Y.mask [false, true, true, true]
  refine am <| wlm Z rfl fun a Z => wlv Z (aL rfl rfl ⟨by omega, by omega⟩) fun a Z => wla Z rfl fun a Z => ab ?_
  refine ⟨_, ?_, k + 1, rfl, (by omega), Z.pick [3, 4, 5, 6], Y.select [0, 1, 2] (by decide)⟩
  omega
 rw [hc2] at Z
 try simp only [qz] at hc2
 refine aF <| hK3 _ _ <| aa fun K8 hK8 => wlv Z (ar (Y.get (k := 0) rfl) rfl (Tryd.isAgg27 _) (Tryd.sizeOf27 _)) fun a Z => az 1 Z Y rfl rfl rfl (Tryd.sizeOf27 _) rfl (lb rfl) (ds := [iv (pickI t 10000001), iv (1 + (pickI x0 3)), iv ((pickI x1 200) - 1), iv ((pickI x2 200) - 1), sv (textR x3 k)]) rfl rfl ?_
 clear Z Y
 intro a w11 Z Y
 refine ab (hK8 _ _ ?_)
 replace Z : Fr 43 [(4, _)] [] a := Z.pick [4]
 replace Y : St No w0 [_] w11 := Y.mask [false, true, false]
 refine au ?_
 refine aq Z Tryd.results15 (aO rfl (bW (Y.get (k := 0) rfl) (Tryd.isAgg27 _) (Tryd.sizeOf27 _)) ah) ?_
 have hke : k = (pickI x3 4).toNat := by omega
 exact ⟨by simp only [retv]; unfold entR; rw [← hke], Y.ext⟩
theorem mU (n : Int) (w0 : World) (hn : i64 n) :
  Ret Tryd.prog 35 #[iv n] w0 fun v w => v = sv (keyR n) ∧ Ext No w0 w := by
 have hp := bK n (n := 1099511627776) (by decide)
 have hq := bV (pickI n 1099511627776)
 refine aG Tryd.func35 rfl Tryd.ntmps35 (lb rfl) fun a Z => ?_
 replace Z : Fr 13 [(0, _)] [] a := Z
 replace Y : St No w0 [] w0 := St.init w0
 refine aa fun K1 hK1 => wla Z rfl fun a Z => ab (hK1 _ _ <| aa fun K2 hK2 => ?_)
 refine wlm Z rfl fun a Z => al Z Y (by decide) Tryd.call44 rfl (cE n 1099511627776 _ (by first | assumption | (unfold i64 at *; omega) | omega) (by omega)) ?_
 clear Z Y
 intro a w1 Z Y
 refine al Z Y (by decide) Tryd.call53 rfl (i9 (pickI n 1099511627776) _ (by unfold small; omega)) ?_
 clear Z Y
 intro a w2 Z Y
 refine wlm Z rfl fun a Z => wlv Z (ag rfl rfl) fun a Z => wlv Z (ag rfl rfl) fun a Z => wla Z rfl fun a Z => wla Z rfl fun a Z => ab (hK2 _ _ ?_)
 replace Z : Fr 13 [(2, _), (3, _)] [] a := Z.pick [2, 3]
 refine aa fun K3 hK3 => wlm Z rfl fun a Z => al Z Y (by decide) Tryd.call70 rfl (mt (putI (pickI n 1099511627776)) _ (by omega)) ?_
 clear Z Y
 intro a w3 Z Y
 refine wla Z rfl fun a Z => ab (hK3 _ _ <| au ?_)
 refine aq Z Tryd.results35 (ae rfl ah) ?_
 exact ⟨by rfl, Y.ext⟩
end Go.Proofs.YtddfkkdanpmnaaaDoor
namespace Go.Proofs.YtddfkkdanpmnaaaDoor
open Go.RowKit Go.PW
set_option linter.unusedVariables false
set_option linter.unusedSimpArgs false
set_option maxRecDepth 4000
end Go.Proofs.YtddfkkdanpmnaaaDoor
namespace Go.Proofs.YtddfkkdanpmnaaaDoor
open Go.RowKit Go.PW
set_option linter.unusedVariables false
set_option linter.unusedSimpArgs false
set_option maxRecDepth 4000
def headB (o : Int) (l : List Rec) : By := if logOk o l = true then rootH sha (codesR l) else []
def headE (o : Int) (l : List Rec) : Int := if logOk o l = true then 0 else 110
theorem eo {o : Int} {l : List Rec} : headE o l = 0 ↔ logOk o l = true := by
 unfold headE; split <;> simp_all
theorem ew {o : Int} {l : List Rec} (h : logOk o l = true) : headB o l = rootH sha (codesR l) := if_pos h
def signOk (key : By) (o : Int) (l : List Rec) : Bool := logOk o l && decide (key.length = 32)
def signB (key : By) (o : Int) (l : List Rec) : By := if signOk key o l = true then tagR sha key o (l.length : Int) (rootH sha (codesR l)) else []
def signE (key : By) (o : Int) (l : List Rec) : Int := if signOk key o l = true then 0 else 110
def checkB (root : By) (n i : Int) (x : Rec) (p : List By) : Bool := x.ok && cr sha root n i x.enc p
theorem fd {l : List Rec} (h : ∀ x ∈ l, x.ok = true) : ∀ s ∈ codesR l, s.length ≤ 300 := by rw [← dO h]; exact fI l
theorem jy (w0 : World) :
  Ret Tryd.prog 41 #[] w0 (MemR w0 (fun v : Value => .agg #[iv 4, v]) (fun v => [own v 27 5 (exR.map Rec.cells)]) (fun _ => True)) := by
 refine aG Tryd.func41 rfl Tryd.ntmps41 (lb rfl) fun a Z => ?_
 replace Z : Fr 6 [] [] a := Z
 replace Y : St No w0 [] w0 := St.init w0
 refine aa fun K1 hK1 => aD Z Y (by decide) (Tryd.zeroValue25 _) (cs := [iv 0, .slice none 0 0]) rfl ?_
 clear Z Y
 intro a w1 Z Y
 refine ab (hK1 _ _ <| aa fun K2 hK2 => ?_)
 refine wlv Z (bt (v := .agg #[iv 10, iv 1, iv 7, iv (-1), sv ([110, 101, 119, 115])]) rfl (by kernel_rfl)) fun a Z => wlv Z (bt (v := .agg #[iv 20, iv 2, iv 0, iv 5, sv ([] : By)]) rfl (by kernel_rfl)) fun a Z => wlv Z (bt (v := .agg #[iv 20, iv 1, iv 8, iv (-1), sv ([] : By)]) rfl (by kernel_rfl)) fun a Z => aH (E := 27) (sz := 5) rfl [[iv 10, iv 1, iv 7, iv (-1), sv ([110, 101, 119, 115])], [iv 20, iv 2, iv 0, iv 5, sv ([] : By)], [iv 20, iv 1, iv 8, iv (-1), sv ([] : By)]] (by kernel_rfl) (by simp) rfl (by decide) (by decide) Z Y ?_
 clear Z Y
 intro a w2 Z Y
 refine wlv Z (bt (v := .agg #[iv 4, (.slice (some ⟨w1.heap.size, 0, none⟩) 3 3)]) rfl (by kernel_rfl)) fun a Z => az 1 Z Y rfl rfl rfl (Tryd.sizeOf25 _) rfl (lb rfl) (ds := [iv 4, (.slice (some ⟨w1.heap.size, 0, none⟩) 3 3)]) rfl rfl ?_
 clear Z Y
 intro a w3 Z Y
 refine ab (hK2 _ _ <| au ?_)
 refine aq Z Tryd.results41 (aO rfl (bW (Y.get (k := 1) rfl) (Tryd.isAgg25 _) (Tryd.sizeOf25 _)) ah) ?_
 exact ⟨(.slice (some ⟨w1.heap.size, 0, none⟩) 3 3), rfl, trivial, Y.ext, St.out (E := [own (.slice (some ⟨w1.heap.size, 0, none⟩) 3 3) 27 5 (exR.map Rec.cells)]) (H := []) (Y.select [0] (by decide))⟩
end Go.Proofs.YtddfkkdanpmnaaaDoor
namespace Go.Proofs.YtddfkkdanpmnaaaDoor
open Go.RowKit Go.PW
set_option linter.unusedVariables false
set_option linter.unusedSimpArgs false
set_option maxRecDepth 4000
theorem fJ {M : Nat → Prop} {w0 : World} (T : TypeId) (b : Nat) (ad v : Value) (bs s : By) (ws : World) (hlie : liesAt Tryd.prog Tryd.prog.depth T (2 / Tryd.prog.cellsOf T) 0 83 1 = true) (had : ad = .pointer none ∨ ad = pt b) (hne : s ≠ []) (hbn : bs.length + s.length ≤ 1000000000) (Y : St M w0 [bld T b ad v bs] ws) :
  Ret Tryd.prog 51 #[pt b, sv s] ws fun u w => u = .tuple #[iv (s.length : Int), .nilIface] ∧ ∃ v2, St M w0 [bld T b (pt b) v2 (bs ++ s)] w := by
 rcases had with rfl | rfl
 ·exact ji T b v bs s ws hlie hne hbn Y
 ·exact kL T b v bs s ws hlie hne hbn Y
theorem jO (n : Int) : putI n ≠ [] := fun h => by have := (bV n).1; rw [h] at this; simp at this
theorem jN (s : By) : putS s ≠ [] := fun h => jO _ (List.append_eq_nil_iff.1 h).1
theorem mf {a b : By} (h : b ≠ []) : a ++ b ≠ [] := fun e => h (List.append_eq_nil_iff.1 e).2
theorem jH {s : By} (h : s.length = 32) : s ≠ [] := fun e => by rw [e] at h; cases h
def encRb (l : List Rec) (k : Nat) : List Value := [iv (k : Int), .agg (l.getD k Rec.z).cells.toArray]
theorem dx (n lo hi : Int) (w0 : World) :
  Ret Tryd.prog 46 #[iv n, iv lo, iv hi] w0 fun v w => v = .bool (inB n lo hi) ∧ Ext No w0 w := by
 refine aG Tryd.func46 rfl Tryd.ntmps46 (lb rfl) fun a Z => ?_
 replace Z : Fr 15 [(0, _), (1, _), (2, _)] [] a := Z
 replace Y : St No w0 [] w0 := St.init w0
 refine aa fun K1 hK1 => wla Z rfl fun a Z => ab (hK1 _ _ <| aa fun K2 hK2 => ?_)
 refine wlm Z rfl fun a Z => wlm Z rfl fun a Z => wlv Z (v_le rfl rfl) fun a Z => wlm Z rfl fun a Z => ?_
 refine jR (N := 15) (df := []) 4 [(14, .bool ((decide (lo ≤ n)) && (decide (n ≤ hi)))), (0, iv n), (1, iv lo), (2, iv hi), (6, .bool false)] ?_ (fun hj => ?_)
 rotate_left
 ·rcases Bool.eq_false_or_eq_true (decide (lo ≤ n)) with hb1 | hb1
  ·rw [hb1] at Z
   have hb1b := hb1
   try simp only [qz, Bool.and_eq_true, Bool.or_eq_true, Bool.and_eq_false_iff, Bool.or_eq_false_iff] at hb1
   refine wly Z (ai rfl) fun a Z => wly Z (ai rfl) fun a Z => wly Z (v_le rfl rfl) fun a Z => wlv Z (aE rfl rfl) fun a Z => ?_
   refine hj _ ?_
   try rw [hb1b]
   exact Z.pick [14, 0, 1, 2, 6]
  rw [hb1] at Z
  have hb1b := hb1
  try simp only [qz, Bool.and_eq_true, Bool.or_eq_true, Bool.and_eq_false_iff, Bool.or_eq_false_iff] at hb1
  refine wln Z fun a Z => wln Z fun a Z => wln Z fun a Z => wlv Z (aw rfl rfl) fun a Z => ?_
  refine hj _ ?_
  try rw [hb1b]
  exact Z.pick [14, 0, 1, 2, 6]
 intro a Z
 refine wla Z rfl fun a Z => ab (hK2 _ _ <| au ?_)
 refine aq Z Tryd.results46 (ae rfl ah) ?_
 exact ⟨by rfl, Y.ext⟩
set_option maxHeartbeats 4000000 in
theorem es (x : Rec) (w0 : World) :
  Ret Tryd.prog 45 #[.agg #[iv x.t, iv x.kind, iv x.a, iv x.b, sv x.text]] w0 fun v w => v = .bool x.ok ∧ Ext No w0 w := by
 refine aG Tryd.func45 rfl Tryd.ntmps45 (lb rfl) fun a Z => ?_
 replace Z : Fr 27 [(0, _)] [] a := Z
 replace Y : St No w0 [] w0 := St.init w0
 refine aa fun K1 hK1 => bn Z Y (by decide) rfl (cs := [iv x.t, iv x.kind, iv x.a, iv x.b, sv x.text]) rfl ?_
 clear Z Y
 intro a w1 Z Y
 refine wla Z rfl fun a Z => ab (hK1 _ _ <| aa fun K2 hK2 => ?_)
 refine wlv Z (ay (v := pt w0.heap.size) rfl (by kernel_rfl)) fun a Z => wlv Z (aj (Y.get (k := 0) rfl) rfl (Tryd.isAgg3 _) rfl) fun a Z => al Z Y (by decide) Tryd.call46 rfl (dx x.t 0 10000000 _) ?_
 clear Z Y
 intro a w2 Z Y
 refine wlm Z rfl fun a Z => ?_
 rcases Bool.eq_false_or_eq_true (inB x.t 0 10000000) with hb1 | hb1
 ·rw [hb1] at Z
  try simp only [qz] at hb1
  refine wly Z (ay (v := .pointer (some ⟨w0.heap.size, 1, none⟩)) rfl (by kernel_rfl)) fun a Z => wly Z (aj (Y.get (k := 0) rfl) rfl (Tryd.isAgg3 _) rfl) fun a Z => aW Z Y (by decide) rfl (by decide) rfl Tryd.call46 rfl (dx x.kind 1 20 _) ?_
  clear Z Y
  intro a w3 Z Y
  refine wlv Z (aE rfl rfl) fun a Z => wlm Z rfl fun a Z => ?_
  rcases Bool.eq_false_or_eq_true (inB x.kind 1 20) with hb2 | hb2
  ·rw [hb2] at Z
   try simp only [qz] at hb2
   refine wly Z (ay (v := .pointer (some ⟨w0.heap.size, 2, none⟩)) rfl (by kernel_rfl)) fun a Z => wly Z (aj (Y.get (k := 0) rfl) rfl (Tryd.isAgg3 _) rfl) fun a Z => aW Z Y (by decide) rfl (by decide) rfl Tryd.call46 rfl (dx x.a (-1) 99999999 _) ?_
   clear Z Y
   intro a w4 Z Y
   refine wlv Z (aE rfl rfl) fun a Z => wlm Z rfl fun a Z => ?_
   rcases Bool.eq_false_or_eq_true (inB x.a (-1) 99999999) with hb3 | hb3
   ·rw [hb3] at Z
    try simp only [qz] at hb3
    refine wly Z (ay (v := .pointer (some ⟨w0.heap.size, 3, none⟩)) rfl (by kernel_rfl)) fun a Z => wly Z (aj (Y.get (k := 0) rfl) rfl (Tryd.isAgg3 _) rfl) fun a Z => aW Z Y (by decide) rfl (by decide) rfl Tryd.call46 rfl (dx x.b (-1) 99999999 _) ?_
    clear Z Y
    intro a w5 Z Y
    refine wlv Z (aE rfl rfl) fun a Z => wlm Z rfl fun a Z => ?_
    rcases Bool.eq_false_or_eq_true (inB x.b (-1) 99999999) with hb4 | hb4
    ·rw [hb4] at Z
     try simp only [qz] at hb4
     refine wly Z (ay (v := .pointer (some ⟨w0.heap.size, 4, none⟩)) rfl (by kernel_rfl)) fun a Z => wly Z (aj (Y.get (k := 0) rfl) rfl (Tryd.isAgg9 _) rfl) fun a Z => wly Z (aJ rfl rfl (Tryd.runUnderlying9 _)) fun a Z => wly Z (v_le rfl rfl) fun a Z => wlv Z (aE rfl rfl) fun a Z => wla Z rfl fun a Z => ab (hK2 _ _ ?_)
     replace Z : Fr 27 [(2, _)] [] a := Z.pick [2]
     replace Y : St No w0 [] w5 := Y.mask [false]
     refine au ?_
     refine aq Z Tryd.results45 (ae rfl ah) ?_
     refine ⟨?_, Y.ext⟩
     simp only [retv]
     refine congrArg Value.bool ?_
     unfold Rec.ok
     simp only [hb1, hb2, hb3, hb4, Bool.true_and]
     exact decide_eq_decide.2 (by omega)
    rw [hb4] at Z
    try simp only [qz] at hb4
    refine wln Z fun a Z => wln Z fun a Z => wln Z fun a Z => wln Z fun a Z => wlv Z (aw rfl rfl) fun a Z => wla Z rfl fun a Z => ab (hK2 _ _ ?_)
    replace Z : Fr 27 [(2, _)] [] a := Z.pick [2]
    replace Y : St No w0 [] w5 := Y.mask [false]
    refine au ?_
    refine aq Z Tryd.results45 (ae rfl ah) ?_
    refine ⟨?_, Y.ext⟩
    simp only [retv]
    refine congrArg Value.bool ?_
    unfold Rec.ok
    simp only [hb1, hb2, hb3, hb4, Bool.true_and, Bool.false_and]
   rw [hb3] at Z
   try simp only [qz] at hb3
   refine wln Z fun a Z => wln Z fun a Z => wln Z fun a Z => wlv Z (aw rfl rfl) fun a Z => wlm Z rfl fun a Z => wln Z fun a Z => wln Z fun a Z => wln Z fun a Z => ?_
   refine wln Z fun a Z => wlv Z (aw rfl rfl) fun a Z => wla Z rfl fun a Z => ab (hK2 _ _ ?_)
   replace Z : Fr 27 [(2, _)] [] a := Z.pick [2]
   replace Y : St No w0 [] w4 := Y.mask [false]
   refine au ?_
   refine aq Z Tryd.results45 (ae rfl ah) ?_
   refine ⟨?_, Y.ext⟩
   simp only [retv]
   refine congrArg Value.bool ?_
   unfold Rec.ok
   simp only [hb1, hb2, hb3, Bool.true_and, Bool.false_and]
  rw [hb2] at Z
  try simp only [qz] at hb2
  refine wln Z fun a Z => wln Z fun a Z => wln Z fun a Z => wlv Z (aw rfl rfl) fun a Z => wlm Z rfl fun a Z => wln Z fun a Z => wln Z fun a Z => wln Z fun a Z => ?_
  refine wlv Z (aw rfl rfl) fun a Z => wlm Z rfl fun a Z => wln Z fun a Z => wln Z fun a Z => wln Z fun a Z => wln Z fun a Z => wlv Z (aw rfl rfl) fun a Z => wla Z rfl fun a Z => ab (hK2 _ _ ?_)
  replace Z : Fr 27 [(2, _)] [] a := Z.pick [2]
  replace Y : St No w0 [] w3 := Y.mask [false]
  refine au ?_
  refine aq Z Tryd.results45 (ae rfl ah) ?_
  refine ⟨?_, Y.ext⟩
  simp only [retv]
  refine congrArg Value.bool ?_
  unfold Rec.ok
  simp only [hb1, hb2, Bool.true_and, Bool.false_and]
 rw [hb1] at Z
 try simp only [qz] at hb1
 refine wln Z fun a Z => wln Z fun a Z => wln Z fun a Z => wlv Z (aw rfl rfl) fun a Z => wlm Z rfl fun a Z => wln Z fun a Z => wln Z fun a Z => wln Z fun a Z => ?_
 refine wlv Z (aw rfl rfl) fun a Z => wlm Z rfl fun a Z => wln Z fun a Z => wln Z fun a Z => wln Z fun a Z => wlv Z (aw rfl rfl) fun a Z => wlm Z rfl fun a Z => wln Z fun a Z => wln Z fun a Z => ?_
 refine wln Z fun a Z => wln Z fun a Z => wlv Z (aw rfl rfl) fun a Z => wla Z rfl fun a Z => ab (hK2 _ _ ?_)
 replace Z : Fr 27 [(2, _)] [] a := Z.pick [2]
 replace Y : St No w0 [] w2 := Y.mask [false]
 refine au ?_
 refine aq Z Tryd.results45 (ae rfl ah) ?_
 refine ⟨?_, Y.ext⟩
 simp only [retv]
 refine congrArg Value.bool ?_
 unfold Rec.ok
 simp only [hb1, Bool.true_and, Bool.false_and]
set_option maxHeartbeats 4000000 in
theorem dw (o : Int) (lv : Value) (l : List Rec) (w0 : World) (hlv : SlAt w0 lv 5 (l.map Rec.cells)) :
  Ret Tryd.prog 16 #[.agg #[iv o, lv]] w0 fun v w => v = .bool (logOk o l) ∧ Ext No w0 w := by
 have hxb := hlv.2.1
 simp only [List.length_map, big] at hxb
 refine aG Tryd.func16 rfl Tryd.ntmps16 (lb rfl) fun a Z => ?_
 replace Z : Fr 34 [(0, _)] [] a := Z
 replace Y : St No w0 [] w0 := St.init w0
 refine aa fun K1 hK1 => bn Z Y (by decide) rfl (cs := [iv o, lv]) rfl ?_
 clear Z Y
 intro a w1 Z Y
 refine wla Z rfl fun a Z => ab (hK1 _ _ <| aa fun K2 hK2 => ?_)
 refine wla Z rfl fun a Z => ab (hK2 _ _ <| ac fun K3 hK3 => ?_)
 refine aa fun K4 hK4 => wlv Z (ay (v := .pointer (some ⟨w0.heap.size, 1, none⟩)) rfl (by kernel_rfl)) fun a Z => wlv Z (aj (Y.get (k := 0) rfl) rfl (Tryd.isAgg23 _) rfl) fun a Z => wlv Z ((aM (sT := 23) (Y.arg hlv) rfl rfl (Tryd.runUnderlying23 _)).asi (m' := (l.length : Int)) (by rw [List.length_map])) fun a Z => wlm Z rfl fun a Z => ab (hK4 _ _ <| ap ?_)
 refine aT (fun m a w => ∃ (k : Nat), m = l.length - k ∧ (k ≤ l.length) ∧ (bI 0 l = bI (prevT l k) (l.drop k)) ∧ Fr 34 [(1, pt w0.heap.size), (7, lv), (8, iv (l.length : Int)), (3, iv (prevT l k)), (9, iv (k : Int))] [] a ∧ St No w0 [blk w0.heap.size [iv o, lv] 25] w) _ ⟨0, rfl, Nat.zero_le _, rfl, Z.pick [1, 7, 8, 3, 9], Y.select [0] (by decide)⟩ ?_
 rintro _ a w2 ⟨k, rfl, hk, hs, Z, Y⟩
 refine aa fun K5 hK5 => wlv Z (v_lt rfl rfl) fun a Z => ab (hK5 _ _ <| ac fun K6 hK6 => ?_)
 refine aC Z rfl (fun hc1 => ?_) (fun hc1 => ?_)
 ·rw [hc1] at Z
  try simp only [qz] at hc1
  have hkx : k < l.length := by omega
  refine ao <| hK6 _ _ <| ac fun K7 hK7 => ap <| aa fun K8 hK8 => wlv Z ((ak (i := (k : Int)) (sT := 23) (Y.arg hlv) rfl rfl (Tryd.runUnderlying23 _) (Tryd.sizeOf27 _) (by omega) (by rw [List.length_map]; omega)).as (v' := slAddr lv (k * 5)) rfl) fun a Z => wlv Z ((cA (Y.arg hlv) (i := k) (by rw [List.length_map]; omega) rfl (Tryd.isAgg27 _) (Tryd.sizeOf27 _)).as (v' := .agg #[iv ((l.getD k Rec.z).t), iv ((l.getD k Rec.z).kind), iv ((l.getD k Rec.z).a), iv ((l.getD k Rec.z).b), sv ((l.getD k Rec.z).text)]) (by rw [bE Rec.z]; rfl)) fun a Z => ?_
  refine aD Z Y (by decide) (Tryd.zeroValue27 _) (cs := [iv 0, iv 0, iv 0, iv 0, .string (⟨#[]⟩)]) rfl ?_
  clear Z Y
  intro a w3 Z Y
  refine az 0 Z Y rfl rfl rfl (Tryd.sizeOf27 _) rfl (lb rfl) (ds := [iv ((l.getD k Rec.z).t), iv ((l.getD k Rec.z).kind), iv ((l.getD k Rec.z).a), iv ((l.getD k Rec.z).b), sv ((l.getD k Rec.z).text)]) rfl rfl ?_
  clear Z Y
  intro a w4 Z Y
  refine ab (hK8 _ _ <| ac fun K9 hK9 => ?_)
  refine aa fun K10 hK10 => wlv Z (ar (Y.get (k := 0) rfl) rfl (Tryd.isAgg27 _) (Tryd.sizeOf27 _)) fun a Z => al Z Y (by decide) Tryd.call45 rfl (es (l.getD k Rec.z) _) ?_
  clear Z Y
  intro a w5 Z Y
  refine wlv Z (bq rfl) fun a Z => wlm Z rfl fun a Z => ?_
  rcases Bool.eq_false_or_eq_true (!((l.getD k Rec.z).ok)) with hb2 | hb2
  ·rw [hb2] at Z
   try simp only [qz] at hb2
   have hbad : bI 0 l = false := by rw [hs]; exact sr_no hkx (by simpa using hb2)
   refine wln Z fun a Z => wln Z fun a Z => wln Z fun a Z => wln Z fun a Z => wlv Z (aE rfl rfl) fun a Z => ab (hK10 _ _ ?_)
   replace Z : Fr 34 [(1, _), (7, _), (8, _), (9, _), (5, _), (21, _)] [] a := Z.pick [1, 7, 8, 9, 5, 21]
   refine aB Z rfl ?_
   refine aa fun K11 hK11 => wla Z rfl fun a Z => ab (hK11 _ _ <| au ?_)
   refine aq Z Tryd.results16 (ae rfl ah) ?_
   refine ⟨?_, Y.ext⟩
   simp only [retv]
   refine congrArg Value.bool ?_
   unfold logOk; rw [hbad]; rfl
  rw [hb2] at Z
  try simp only [qz] at hb2
  have hok : (l.getD k Rec.z).ok = true := by simpa using hb2
  refine wly Z (ay (v := pt w2.heap.size) rfl (by kernel_rfl)) fun a Z => wly Z (aj (Y.get (k := 0) rfl) rfl (Tryd.isAgg3 _) rfl) fun a Z => wly Z (ai rfl) fun a Z => wly Z (v_lt rfl rfl) fun a Z => wlv Z (aw rfl rfl) fun a Z => ab (hK10 _ _ ?_)
  replace Z : Fr 34 [(1, _), (7, _), (8, _), (9, _), (5, _), (21, _)] [] a := Z.pick [1, 7, 8, 9, 5, 21]
  refine aC Z rfl (fun hc3 => ?_) (fun hc3 => ?_)
  ·rw [hc3] at Z
   try simp only [qz] at hc3
   have hbad : bI 0 l = false := by rw [hs]; exact sr_lt hkx hc3
   refine aa fun K12 hK12 => wla Z rfl fun a Z => ab (hK12 _ _ <| au ?_)
   refine aq Z Tryd.results16 (ae rfl ah) ?_
   refine ⟨?_, Y.ext⟩
   simp only [retv]
   refine congrArg Value.bool ?_
   unfold logOk; rw [hbad]; rfl
  rw [hc3] at Z
  try simp only [qz] at hc3
  have hgo : prevT l k ≤ (l.getD k Rec.z).t := by omega
  refine ao <| hK9 _ _ <| am <| wlv Z (ay (v := pt w2.heap.size) rfl (by kernel_rfl)) fun a Z => wlv Z (aj (Y.get (k := 0) rfl) rfl (Tryd.isAgg3 _) rfl) fun a Z => wla Z rfl fun a Z => ab <| hK7 _ _ ?_
  refine am <| wlv Z (aL rfl rfl ⟨by omega, by omega⟩) fun a Z => wlm Z rfl fun a Z => ab ?_
  refine ⟨_, ?_, k + 1, rfl, (by omega), (by rw [hs]; exact sr_go hkx hok hgo), Z.pick [1, 7, 8, 3, 9], Y.select [1] (by decide)⟩
  omega
 rw [hc1] at Z
 try simp only [qz] at hc1
 have hall : bI 0 l = true := by rw [hs, show k = l.length by omega, List.drop_length]; rfl
 refine aF <| hK3 _ _ <| aa fun K13 hK13 => wlv Z (ay (v := pt w0.heap.size) rfl (by kernel_rfl)) fun a Z => wlv Z (aj (Y.get (k := 0) rfl) rfl (Tryd.isAgg3 _) rfl) fun a Z => al Z Y (by decide) Tryd.call46 rfl (dx o 0 99 _) ?_
 clear Z Y
 intro a w6 Z Y
 refine wlm Z rfl fun a Z => ?_
 rcases Bool.eq_false_or_eq_true (inB o 0 99) with hb4 | hb4
 ·rw [hb4] at Z
  try simp only [qz] at hb4
  refine wly Z (ay (v := .pointer (some ⟨w0.heap.size, 1, none⟩)) rfl (by kernel_rfl)) fun a Z => wly Z (aj (Y.get (k := 0) rfl) rfl (Tryd.isAgg23 _) rfl) fun a Z => wly Z ((aM (sT := 23) (Y.arg hlv) rfl rfl (Tryd.runUnderlying23 _)).asi (m' := (l.length : Int)) (by rw [List.length_map])) fun a Z => wly Z (v_le rfl rfl) fun a Z => wlv Z (aE rfl rfl) fun a Z => wla Z rfl fun a Z => ab (hK13 _ _ ?_)
  replace Z : Fr 34 [(2, _)] [] a := Z.pick [2]
  replace Y : St No w0 [] w6 := Y.mask [false]
  refine au ?_
  refine aq Z Tryd.results16 (ae rfl ah) ?_
  refine ⟨?_, Y.ext⟩
  simp only [retv]
  refine congrArg Value.bool ?_
  unfold logOk; rw [hall, hb4]; simp only [Bool.true_and]; exact decide_eq_decide.2 (by omega)
 rw [hb4] at Z
 try simp only [qz] at hb4
 refine wln Z fun a Z => wln Z fun a Z => wln Z fun a Z => wln Z fun a Z => wlv Z (aw rfl rfl) fun a Z => wla Z rfl fun a Z => ab (hK13 _ _ ?_)
 replace Z : Fr 34 [(2, _)] [] a := Z.pick [2]
 replace Y : St No w0 [] w6 := Y.mask [false]
 refine au ?_
 refine aq Z Tryd.results16 (ae rfl ah) ?_
 refine ⟨?_, Y.ext⟩
 simp only [retv]
 refine congrArg Value.bool ?_
 unfold logOk; rw [hall, hb4]; rfl
theorem fG {M : Nat → Prop} {w0 : World} (T : TypeId) (b : Nat) (ad v lv : Value) (bs : By) (ns : List Int) (ws : World) (hlie : liesAt Tryd.prog Tryd.prog.depth T (2 / Tryd.prog.cellsOf T) 0 83 1 = true) (had : ad = .pointer none ∨ ad = pt b) (hns : smalls ns) (hnn : ns ≠ []) (hbn : bs.length + 9 * ns.length ≤ 1000000000) (Y : St M w0 [bld T b (ad) v bs, own lv 3 1 ((ns).map fun n => [iv n])] ws) :
  Ret Tryd.prog 49 #[pt b, lv] ws fun u w => u = .tuple #[] ∧ ∃ v2, St M w0 [bld T b (pt b) v2 (bs ++ puts ns)] w := by
 refine aG Tryd.func49 rfl Tryd.ntmps49 (lb rfl) fun a Z => ?_
 replace Z : Fr 25 [(0, _), (1, _)] [] a := Z
 skip
 refine aa fun K1 hK1 => wlm Z rfl fun a Z => wlv Z ((aM (sT := 41) (Y.ownAt (i := 1) rfl) rfl rfl (Tryd.runUnderlying41 _)).asi (m' := (ns.length : Int)) (by rw [List.length_map])) fun a Z => wlm Z rfl fun a Z => ab (hK1 _ _ <| ap ?_)
 replace Y : St M w0 [bld T b ad v (bs ++ puts (ns.take 0)), own lv 3 1 ((ns).map fun n => [iv n])] ws := by rw [show bs ++ puts (ns.take 0) = bs from by simp [puts]]; exact Y
 refine aT (fun m a w => ∃ (k : Nat) (ad : Value) (v : Value), m = ns.length - k ∧ (k ≤ ns.length) ∧ (ad = .pointer none ∨ ad = pt b) ∧ (0 < k → ad = pt b) ∧ Fr 25 [(0, pt b), (8, lv), (9, iv (ns.length : Int)), (10, iv (k : Int))] [] a ∧ St M w0 [bld T b (ad) v (bs ++ puts (ns.take k)), own lv 3 1 ((ns).map fun n => [iv n])] w) _ ⟨0, ad, v, rfl, Nat.zero_le _, had, (fun h => absurd h (Nat.lt_irrefl 0)), Z.pick [0, 8, 9, 10], Y⟩ ?_
 rintro _ a w1 ⟨k, ad, v, rfl, hk, had, hak, Z, Y⟩
 refine aa fun K2 hK2 => wlv Z (v_lt rfl rfl) fun a Z => ab (hK2 _ _ <| ac fun K3 hK3 => ?_)
 refine aC Z rfl (fun hc1 => ?_) (fun hc1 => ?_)
 ·rw [hc1] at Z
  try simp only [qz] at hc1
  refine ao <| hK3 _ _ <| ac fun K4 hK4 => ap <| aa fun K5 hK5 => wlv Z ((ak (i := (k : Int)) (sT := 41) (Y.ownAt (i := 1) rfl) rfl rfl (Tryd.runUnderlying41 _) (Tryd.sizeOf3 _) (by omega) (by rw [List.length_map]; omega)).as (v' := slAddr lv (k * 1)) rfl) fun a Z => wlv Z (ax (u := iv (ns.getD k 0)) (i := k) (j := 0) (Y.ownAt (i := 1) rfl) (by rw [List.length_map]; omega) rfl (Tryd.isAgg3 _) (by rw [bE (0 : Int)]; rfl)) fun a Z => wla Z rfl fun a Z => ?_
  refine ab (hK5 _ _ <| aa fun K6 hK6 => ?_)
  refine wlm Z rfl fun a Z => al Z Y (by decide) Tryd.call75 rfl (ga (ns.getD k 0) _ (hns _ (bx (by omega)))) ?_
  clear Z Y
  intro a w2 Z Y
  refine wlm Z rfl fun a Z => wlv Z (ag rfl rfl) fun a Z => wlv Z (ag rfl rfl) fun a Z => wla Z rfl fun a Z => wla Z rfl fun a Z => ab (hK6 _ _ ?_)
  replace Z : Fr 25 [(0, _), (8, _), (9, _), (10, _), (6, _)] [] a := Z.pick [0, 8, 9, 10, 6]
  refine am <| wlm Z rfl fun a Z => wlv Z (aY rfl) fun a Z => wlv Z (ay (v := pt b) rfl (by kernel_rfl)) fun a Z => wlm Z rfl fun a Z => cX (R := fun u e' => u = .tuple #[iv ((putI (ns.getD k 0)).length : Int), .nilIface] ∧ ∃ v2, e' = bld T b (pt b) v2 ((bs ++ puts (ns.take k)) ++ (putI (ns.getD k 0)))) 0 Z Y rfl (by decide) Tryd.call51 rfl (fun h => (fJ T b _ _ _ _ _ hlie (had) (jO _) (by have h1 := fN (ns.take k); have h2 := (bV (ns.getD k 0)).2; rw [List.length_take] at h1; rw [List.length_append]; omega) h).mono fun u w ⟨h1, v2, h2⟩ => ⟨_, ⟨h1, v2, rfl⟩, h2⟩) ?_
  clear Z Y
  rintro a w3 _ _ ⟨rfl, v2, rfl⟩ Z Y
  replace Y : St M w0 [bld T b (pt b) v2 ((bs ++ puts (ns.take k)) ++ (putI (ns.getD k 0))), own lv 3 1 ((ns).map fun n => [iv n])] w3 := Y
  refine ab <| hK4 _ _ ?_
  replace Z : Fr 25 [(0, _), (8, _), (9, _), (10, _)] [] a := Z.pick [0, 8, 9, 10]
  refine am <| wlv Z (aL rfl rfl ⟨by omega, by omega⟩) fun a Z => wlm Z rfl fun a Z => ab ?_
  replace Y : St M w0 [bld T b (pt b) v2 (bs ++ puts (ns.take (k + 1))), own lv 3 1 ((ns).map fun n => [iv n])] w3 := by rw [show bs ++ puts (ns.take (k + 1)) = (bs ++ puts (ns.take k)) ++ (putI (ns.getD k 0)) from by rw [cy 0 (by omega), j9, List.append_assoc]]; exact Y
  refine ⟨_, ?_, k + 1, pt b, v2, rfl, (by omega), (.inr rfl), (fun _ => rfl), Z.pick [0, 8, 9, 10], Y⟩
  omega
 rw [hc1] at Z
 try simp only [qz] at hc1
 obtain rfl : k = ns.length := by omega
 rw [List.take_length] at Y
 obtain rfl := hak (List.length_pos_iff.2 hnn)
 refine aF ?_
 refine c7 Z Tryd.results49 ah ?_
 exact ⟨rfl, _, Y.select [0] (by decide)⟩
theorem nh (x : Rec) (w0 : World) (hok : x.ok = true) :
  Ret Tryd.prog 22 #[.agg #[iv x.t, iv x.kind, iv x.a, iv x.b, sv x.text]] w0 fun v w => v = .tuple #[sv x.enc, iv 0] ∧ Ext No w0 w := by
 have hle := Rec.len hok
 have hpl := fN [x.t, x.kind, x.a, x.b]
 have hq4 := bV (x.text.length : Int)
 have hq5 : (putS x.text).length ≤ 300 := by unfold putS; rw [List.length_append]; omega
 simp only [List.length_cons, List.length_nil] at hpl
 refine aG Tryd.func22 rfl Tryd.ntmps22 (lb rfl) fun a Z => ?_
 replace Z : Fr 31 [(0, _)] [] a := Z
 replace Y : St No w0 [] w0 := St.init w0
 refine aa fun K1 hK1 => bn Z Y (by decide) rfl (cs := [iv x.t, iv x.kind, iv x.a, iv x.b, sv x.text]) rfl ?_
 clear Z Y
 intro a w1 Z Y
 refine wla Z rfl fun a Z => wla Z rfl fun a Z => ab (hK1 _ _ <| ac fun K2 hK2 => ?_)
 refine aa fun K3 hK3 => wlv Z (ar (Y.get (k := 0) rfl) rfl (Tryd.isAgg27 _) (Tryd.sizeOf27 _)) fun a Z => al Z Y (by decide) Tryd.call45 rfl (es x _) ?_
 clear Z Y
 intro a w2 Z Y
 refine wlv Z (bq rfl) fun a Z => ab (hK3 _ _ ?_)
 refine aC Z rfl (fun hc1 => ?_) (fun hc1 => ?_)
 ·rw [hc1] at Z
  try simp only [qz] at hc1
  simp [hok] at hc1
 rw [hc1] at Z
 try simp only [qz] at hc1
 refine ao <| hK2 _ _ <| aa fun K4 hK4 => aD Z Y (by decide) (Tryd.zeroValue85 _) (cs := [.pointer none, .slice none 0 0]) rfl ?_
 clear Z Y
 intro a w3 Z Y
 refine ab (hK4 _ _ ?_)
 replace Y : St No w0 (own (.slice none 0 0) 5 1 [] :: [blk w2.heap.size [.pointer none, .slice none 0 0] 85, blk w0.heap.size [iv x.t, iv x.kind, iv x.a, iv x.b, sv x.text] 27]) w3 := Y.nil_own
 replace Y : St No w0 [blk w2.heap.size [.pointer none, .slice none 0 0] 85, own (.slice none 0 0) 5 1 ([]), blk w0.heap.size [iv x.t, iv x.kind, iv x.a, iv x.b, sv x.text] 27] w3 := Y.select [1, 0, 2] (by decide)
 replace Y : St No w0 [bld 85 w2.heap.size (.pointer none) (.slice none 0 0) ([] : By), blk w0.heap.size [iv x.t, iv x.kind, iv x.a, iv x.b, sv x.text] 27] w3 := St.join [blk w2.heap.size [.pointer none, .slice none 0 0] 85, own (.slice none 0 0) 5 1 ([])] [blk w0.heap.size [iv x.t, iv x.kind, iv x.a, iv x.b, sv x.text] 27] Y
 refine aa fun K5 hK5 => wlv Z (ay (v := pt w0.heap.size) rfl (by kernel_rfl)) fun a Z => wlv Z (aj (Y.get (k := 1) rfl) rfl (Tryd.isAgg3 _) rfl) fun a Z => wlv Z (ay (v := .pointer (some ⟨w0.heap.size, 1, none⟩)) rfl (by kernel_rfl)) fun a Z => wlv Z (aj (Y.get (k := 1) rfl) rfl (Tryd.isAgg3 _) rfl) fun a Z => wlv Z (ay (v := .pointer (some ⟨w0.heap.size, 2, none⟩)) rfl (by kernel_rfl)) fun a Z => wlv Z (aj (Y.get (k := 1) rfl) rfl (Tryd.isAgg3 _) rfl) fun a Z => ?_
 refine wlv Z (ay (v := .pointer (some ⟨w0.heap.size, 3, none⟩)) rfl (by kernel_rfl)) fun a Z => wlv Z (aj (Y.get (k := 1) rfl) rfl (Tryd.isAgg3 _) rfl) fun a Z => aH (E := 3) (sz := 1) rfl [[iv x.t], [iv x.kind], [iv x.a], [iv x.b]] (by kernel_rfl) (by simp) rfl (by decide) (by decide) Z Y ?_
 clear Z Y
 intro a w4 Z Y
 replace Y : St No w0 [bld 85 w2.heap.size (.pointer none) (.slice none 0 0) ([] : By), own (.slice (some ⟨w3.heap.size, 0, none⟩) 4 4) 3 1 ([[iv x.t], [iv x.kind], [iv x.a], [iv x.b]]), blk w0.heap.size [iv x.t, iv x.kind, iv x.a, iv x.b, sv x.text] 27] w4 := Y.select [1, 0, 2] (by decide)
 replace Y := St.join [bld 85 w2.heap.size (.pointer none) (.slice none 0 0) ([] : By), own (.slice (some ⟨w3.heap.size, 0, none⟩) 4 4) 3 1 ([[iv x.t], [iv x.kind], [iv x.a], [iv x.b]])] [blk w0.heap.size [iv x.t, iv x.kind, iv x.a, iv x.b, sv x.text] 27] Y
 refine cX (R := fun u e' => u = .tuple #[] ∧ ∃ v2, e' = bld 85 w2.heap.size (pt w2.heap.size) v2 (([] : By) ++ puts [x.t, x.kind, x.a, x.b])) 0 Z Y rfl (by decide) Tryd.call49 rfl (fun h => (fG 85 w2.heap.size _ _ _ _ [x.t, x.kind, x.a, x.b] _ (by kernel_rfl) (.inl rfl) (Rec.smalls hok) (by simp) (by simp) (St.unjoin [bld 85 w2.heap.size (.pointer none) (.slice none 0 0) ([] : By), own (.slice (some ⟨w3.heap.size, 0, none⟩) 4 4) 3 1 ([[iv x.t], [iv x.kind], [iv x.a], [iv x.b]])] [] h)).mono fun u w ⟨h1, v2, h2⟩ => ⟨_, ⟨h1, v2, rfl⟩, h2⟩) ?_
 clear Z Y
 rintro a w5 _ _ ⟨rfl, v2, rfl⟩ Z Y
 replace Y : St No w0 [bld 85 w2.heap.size (pt w2.heap.size) v2 (([] : By) ++ puts [x.t, x.kind, x.a, x.b]), blk w0.heap.size [iv x.t, iv x.kind, iv x.a, iv x.b, sv x.text] 27] w5 := Y
 refine ab (hK5 _ _ ?_)
 replace Z : Fr 31 [(1, _), (2, _), (3, _), (4, _)] [] a := Z.pick [1, 2, 3, 4]
 refine aa fun K6 hK6 => wlv Z (ay (v := .pointer (some ⟨w0.heap.size, 4, none⟩)) rfl (by kernel_rfl)) fun a Z => wlv Z (aj (Y.get (k := 1) rfl) rfl (Tryd.isAgg9 _) rfl) fun a Z => al Z Y (by decide) Tryd.call50 rfl (gS x.text _ (by omega)) ?_
 clear Z Y
 intro a w6 Z Y
 refine wlm Z rfl fun a Z => wlv Z (ag rfl rfl) fun a Z => wlv Z (ag rfl rfl) fun a Z => wla Z rfl fun a Z => wla Z rfl fun a Z => ab (hK6 _ _ ?_)
 replace Z : Fr 31 [(2, _), (3, _), (4, _), (5, _)] [] a := Z.pick [2, 3, 4, 5]
 replace Y : St No w0 [_] w6 := Y.mask [true, false]
 refine aa fun K7 hK7 => wlv Z (ay (v := pt w2.heap.size) rfl (by kernel_rfl)) fun a Z => wlm Z rfl fun a Z => cX (R := fun u e' => u = .tuple #[iv ((putS x.text).length : Int), .nilIface] ∧ ∃ v2, e' = bld 85 w2.heap.size (pt w2.heap.size) v2 ((([] : By) ++ puts [x.t, x.kind, x.a, x.b]) ++ (putS x.text))) 0 Z Y rfl (by decide) Tryd.call51 rfl (fun h => (fJ 85 w2.heap.size _ _ _ _ _ (by kernel_rfl) (.inr rfl) (jN _) (by rw [List.length_append, List.length_nil]; omega) h).mono fun u w ⟨h1, v2, h2⟩ => ⟨_, ⟨h1, v2, rfl⟩, h2⟩) ?_
 clear Z Y
 rintro a w7 _ _ ⟨rfl, v3, rfl⟩ Z Y
 replace Y : St No w0 [bld 85 w2.heap.size (pt w2.heap.size) v3 ((([] : By) ++ puts [x.t, x.kind, x.a, x.b]) ++ (putS x.text))] w7 := Y
 refine ab (hK7 _ _ <| aa fun K8 hK8 => ?_)
 refine wlv Z (ay (v := pt w2.heap.size) rfl (by kernel_rfl)) fun a Z => cX (R := fun u e' => u = sv ((([] : By) ++ puts [x.t, x.kind, x.a, x.b]) ++ (putS x.text)) ∧ e' = blk w2.heap.size [pt w2.heap.size, v3] 85) 0 Z Y rfl (by decide) Tryd.call52 rfl (fun h => (fC 85 w2.heap.size _ _ _ (mf (jN _)) h).mono fun u w ⟨h1, h2⟩ => ⟨_, ⟨h1, rfl⟩, h2⟩) ?_
 clear Z Y
 rintro a w8 _ _ ⟨rfl, rfl⟩ Z Y
 replace Y : St No w0 [blk w2.heap.size [pt w2.heap.size, v3] 85] w8 := Y
 refine wla Z rfl fun a Z => wla Z rfl fun a Z => ab (hK8 _ _ ?_)
 replace Z : Fr 31 [(2, _), (3, _)] [] a := Z.pick [2, 3]
 refine au ?_
 refine aq Z Tryd.results22 (ae rfl (ae rfl ah)) ?_
 exact ⟨by simp only [retv]; simp [Rec.enc], Y.ext⟩
theorem mW (x : Rec) (w0 : World) (hok : x.ok = false) :
  Ret Tryd.prog 22 #[.agg #[iv x.t, iv x.kind, iv x.a, iv x.b, sv x.text]] w0 fun v w => v = .tuple #[sv ([] : By), iv 110] ∧ Ext No w0 w := by
 refine aG Tryd.func22 rfl Tryd.ntmps22 (lb rfl) fun a Z => ?_
 replace Z : Fr 31 [(0, _)] [] a := Z
 replace Y : St No w0 [] w0 := St.init w0
 refine aa fun K1 hK1 => bn Z Y (by decide) rfl (cs := [iv x.t, iv x.kind, iv x.a, iv x.b, sv x.text]) rfl ?_
 clear Z Y
 intro a w1 Z Y
 refine wla Z rfl fun a Z => wla Z rfl fun a Z => ab (hK1 _ _ <| ac fun K2 hK2 => ?_)
 refine aa fun K3 hK3 => wlv Z (ar (Y.get (k := 0) rfl) rfl (Tryd.isAgg27 _) (Tryd.sizeOf27 _)) fun a Z => al Z Y (by decide) Tryd.call45 rfl (es x _) ?_
 clear Z Y
 intro a w2 Z Y
 refine wlv Z (bq rfl) fun a Z => ab (hK3 _ _ ?_)
 refine aC Z rfl (fun hc1 => ?_) (fun hc1 => ?_)
 ·rw [hc1] at Z
  try simp only [qz] at hc1
  refine aa fun K4 hK4 => wla Z rfl fun a Z => wla Z rfl fun a Z => ab (hK4 _ _ <| au ?_)
  refine aq Z Tryd.results22 (ae rfl (ae rfl ah)) ?_
  exact ⟨by rfl, Y.ext⟩
 rw [hc1] at Z
 try simp only [qz] at hc1
 simp [hok] at hc1
theorem fa (x : Rec) (w0 : World) : Ret Tryd.prog 22 #[.agg #[iv x.t, iv x.kind, iv x.a, iv x.b, sv x.text]] w0 fun v w => v = .tuple #[sv (eB x), iv (eE x)] ∧ Ext No w0 w := by
 unfold eB eE
 cases h : x.ok with
 | true => rw [if_pos rfl, if_pos rfl]; exact nh x w0 h
 | false => rw [if_neg (by simp), if_neg (by simp)]; exact mW x w0 h
theorem lK (key : By) (o n : Int) (root : By) (w0 : World) (ho : small o) (hn : small n) (hr : root.length = 32) (hk : key.length ≤ 1000) (hk0 : (blk 0 (kOf.map wv) 161).ok w0) :
  Ret Tryd.prog 71 #[sv key, iv o, iv n, sv root] w0 fun v w => v = sv (tagR sha key o n root) ∧ Ext No w0 w := by
 have hpl := fN [o, n]
 simp only [List.length_cons, List.length_nil] at hpl
 have hsm : smalls [o, n] := by intro z hz; simp only [List.mem_cons, List.not_mem_nil, or_false] at hz; rcases hz with rfl | rfl; exact ho; exact hn
 have hxl : (([] : By) ++ puts [o, n] ++ root).length ≤ 60 := by simp only [List.length_append, List.length_nil]; omega
 refine aG Tryd.func71 rfl Tryd.ntmps71 (lb rfl) fun a Z => ?_
 replace Z : Fr 22 [(0, _), (1, _), (2, _), (3, _)] [] a := Z
 replace Y : St No w0 [] w0 := St.init w0
 refine aa fun K1 hK1 => wla Z rfl fun a Z => ab (hK1 _ _ <| aa fun K2 hK2 => ?_)
 refine aD Z Y (by decide) (Tryd.zeroValue85 _) (cs := [.pointer none, .slice none 0 0]) rfl ?_
 clear Z Y
 intro a w1 Z Y
 refine ab (hK2 _ _ ?_)
 replace Y : St No w0 (own (.slice none 0 0) 5 1 [] :: [blk w0.heap.size [.pointer none, .slice none 0 0] 85]) w1 := Y.nil_own
 replace Y : St No w0 [blk w0.heap.size [.pointer none, .slice none 0 0] 85, own (.slice none 0 0) 5 1 ([])] w1 := Y.select [1, 0] (by decide)
 replace Y : St No w0 [bld 85 w0.heap.size (.pointer none) (.slice none 0 0) ([] : By)] w1 := St.join [blk w0.heap.size [.pointer none, .slice none 0 0] 85, own (.slice none 0 0) 5 1 ([])] [] Y
 refine aa fun K3 hK3 => wlm Z rfl fun a Z => wlm Z rfl fun a Z => aH (E := 3) (sz := 1) rfl [[iv o], [iv n]] (by kernel_rfl) (by simp) rfl (by decide) (by decide) Z Y ?_
 clear Z Y
 intro a w2 Z Y
 replace Y : St No w0 [bld 85 w0.heap.size (.pointer none) (.slice none 0 0) ([] : By), own (.slice (some ⟨w1.heap.size, 0, none⟩) 2 2) 3 1 ([[iv o], [iv n]])] w2 := Y.select [1, 0] (by decide)
 replace Y := St.join [bld 85 w0.heap.size (.pointer none) (.slice none 0 0) ([] : By), own (.slice (some ⟨w1.heap.size, 0, none⟩) 2 2) 3 1 ([[iv o], [iv n]])] [] Y
 refine cX (R := fun u e' => u = .tuple #[] ∧ ∃ v2, e' = bld 85 w0.heap.size (pt w0.heap.size) v2 (([] : By) ++ puts [o, n])) 0 Z Y rfl (by decide) Tryd.call49 rfl (fun h => (fG 85 w0.heap.size _ _ _ _ [o, n] _ (by kernel_rfl) (.inl rfl) (hsm) (by simp) (by simp) (St.unjoin [bld 85 w0.heap.size (.pointer none) (.slice none 0 0) ([] : By), own (.slice (some ⟨w1.heap.size, 0, none⟩) 2 2) 3 1 ([[iv o], [iv n]])] [] h)).mono fun u w ⟨h1, v2, h2⟩ => ⟨_, ⟨h1, v2, rfl⟩, h2⟩) ?_
 clear Z Y
 rintro a w3 _ _ ⟨rfl, v1, rfl⟩ Z Y
 replace Y : St No w0 [bld 85 w0.heap.size (pt w0.heap.size) v1 (([] : By) ++ puts [o, n])] w3 := Y
 refine ab (hK3 _ _ ?_)
 replace Z : Fr 22 [(0, _), (3, _), (8, _), (9, _)] [] a := Z.pick [0, 3, 8, 9]
 refine aa fun K4 hK4 => wlv Z (ay (v := pt w0.heap.size) rfl (by kernel_rfl)) fun a Z => wlm Z rfl fun a Z => cX (R := fun u e' => u = .tuple #[iv (root.length : Int), .nilIface] ∧ ∃ v2, e' = bld 85 w0.heap.size (pt w0.heap.size) v2 ((([] : By) ++ puts [o, n]) ++ root)) 0 Z Y rfl (by decide) Tryd.call51 rfl (fun h => (fJ 85 w0.heap.size _ _ _ _ _ (by kernel_rfl) (.inr rfl) (jH hr) (by rw [List.length_append, List.length_nil]; omega) h).mono fun u w ⟨h1, v2, h2⟩ => ⟨_, ⟨h1, v2, rfl⟩, h2⟩) ?_
 clear Z Y
 rintro a w4 _ _ ⟨rfl, v2, rfl⟩ Z Y
 replace Y : St No w0 [bld 85 w0.heap.size (pt w0.heap.size) v2 ((([] : By) ++ puts [o, n]) ++ root)] w4 := Y
 refine ab (hK4 _ _ <| aa fun K5 hK5 => ?_)
 refine wlm Z rfl fun a Z => wlv Z (ay (v := pt w0.heap.size) rfl (by kernel_rfl)) fun a Z => cX (R := fun u e' => u = sv ((([] : By) ++ puts [o, n]) ++ root) ∧ e' = blk w0.heap.size [pt w0.heap.size, v2] 85) 0 Z Y rfl (by decide) Tryd.call52 rfl (fun h => (fC 85 w0.heap.size _ _ _ (mf (jH hr)) h).mono fun u w ⟨h1, h2⟩ => ⟨_, ⟨h1, rfl⟩, h2⟩) ?_
 clear Z Y
 rintro a w5 _ _ ⟨rfl, rfl⟩ Z Y
 replace Y : St No w0 [blk w0.heap.size [pt w0.heap.size, v2] 85] w5 := Y
 refine al Z Y (by decide) Tryd.call78 rfl (gO ((([] : By) ++ puts [o, n]) ++ root) _ (by omega) (Y.keepb hk0)) ?_
 clear Z Y
 intro a w6 Z Y
 refine al Z Y (by decide) Tryd.call79 rfl (et key (leafH sha ((([] : By) ++ puts [o, n]) ++ root)) _ (by omega) (by first | omega | (rw [g6 bP]; decide)) (Y.keepb hk0)) ?_
 clear Z Y
 intro a w7 Z Y
 refine wla Z rfl fun a Z => ab (hK5 _ _ ?_)
 replace Z : Fr 22 [(8, _)] [] a := Z.pick [8]
 refine au ?_
 refine aq Z Tryd.results71 (ae rfl ah) ?_
 exact ⟨by simp only [retv]; simp [tagR, iA, nodeH], Y.ext⟩
theorem kK {M : Nat → Prop} {w0 : World} (o : Int) (lv : Value) (l : List Rec) (lp b1 : Nat) (J Jx : List Nat → Ent → Prop) (hY : Rounds Tryd.prog M w0 lp (encRb l) (NxB l.length) J Jx) (e0 : Ent) (ws : World) (hn : l.length ≤ 1000000) (hlv : ∀ (H : List Ent) (w : World), St M w0 H w → SlAt w lv 5 (l.map Rec.cells)) (hJ : J [] e0) (Y : St M w0 [e0, blk b1 [iv o, lv] 25] ws) :
  Ret Tryd.prog 74 #[.func (.yield lp) #[] #[], pt b1] ws fun _ w => ∃ e1 Hi1, St M w0 (e1 :: Hi1) w ∧ ((∃ ys, (ys = backs l.length l.length ∧ Hi1 = [blk b1 [iv o, lv] 25]) ∧ J ys e1) ∨ (∃ pre, Hi1 = [blk b1 [iv o, lv] 25] ∧ Jx pre e1)) := by
 refine aG Tryd.func74 rfl Tryd.ntmps74 (lb rfl) fun a Z => ?_
 replace Z : Fr 21 [(0, _), (1, _)] [] a := Z
 skip
 refine aa fun K1 hK1 => wlv Z (ay (v := .pointer (some ⟨b1, 1, none⟩)) rfl (by kernel_rfl)) fun a Z => wlv Z (aj (Y.get (k := 1) rfl) rfl (Tryd.isAgg23 _) rfl) fun a Z => wlv Z ((aM (sT := 23) (hlv _ _ Y) rfl rfl (Tryd.runUnderlying23 _)).asi (m' := (l.length : Int)) (by rw [List.length_map])) fun a Z => wlv Z (bh rfl rfl ⟨by omega, by omega⟩) fun a Z => wla Z rfl fun a Z => ab (hK1 _ _ <| ap ?_)
 rw [show (l.length : Int) - 1 = (l.length : Int) - 1 - ((0 : Nat) : Int) from by omega] at Z
 refine aT (fun m a w => ∃ (j : Nat) (e : Ent), m = l.length - j ∧ (j ≤ l.length) ∧ (J (backs l.length j) e) ∧ Fr 21 [(0, .func (.yield lp) #[] #[]), (1, pt b1), (3, iv ((l.length : Int) - 1 - (j : Int)))] [] a ∧ St M w0 [e, blk b1 [iv o, lv] 25] w) _ ⟨0, e0, rfl, Nat.zero_le _, hJ, Z.pick [0, 1, 3], Y⟩ ?_
 rintro _ a w1 ⟨j, e, rfl, hj, hJ, Z, Y⟩
 refine ac fun K2 hK2 => aa fun K3 hK3 => wlm Z rfl fun a Z => wlv Z (v_ge rfl rfl) fun a Z => ab (hK3 _ _ ?_)
 refine aC Z rfl (fun hc1 => ?_) (fun hc1 => ?_)
 ·rw [hc1] at Z
  try simp only [qz] at hc1
  have hjl : j < l.length := by omega
  refine ao <| hK2 _ _ <| ac fun K4 hK4 => ap ?_
  have hidx : (l.length : Int) - 1 - (j : Int) = ((l.length - 1 - j : Nat) : Int) := by omega
  refine aa fun K5 hK5 => wlm Z rfl fun a Z => wlm Z rfl fun a Z => wlv Z (ay (v := .pointer (some ⟨b1, 1, none⟩)) rfl (by kernel_rfl)) fun a Z => wlv Z (aj (Y.get (k := 1) rfl) rfl (Tryd.isAgg23 _) rfl) fun a Z => wlm Z rfl fun a Z => wlv Z ((ak (i := (l.length : Int) - 1 - (j : Int)) (sT := 23) (hlv _ _ Y) rfl rfl (Tryd.runUnderlying23 _) (Tryd.sizeOf27 _) (by omega) (by rw [List.length_map]; omega)).as (v' := slAddr lv ((l.length - 1 - j) * 5)) (by rw [show ((l.length : Int) - 1 - (j : Int)).toNat = (l.length - 1 - j) from by omega])) fun a Z => wlv Z ((cA (hlv _ _ Y) (i := (l.length - 1 - j)) (by rw [List.length_map]; omega) rfl (Tryd.isAgg27 _) (Tryd.sizeOf27 _)).as (v' := .agg #[iv ((l.getD (l.length - 1 - j) Rec.z).t), iv ((l.getD (l.length - 1 - j) Rec.z).kind), iv ((l.getD (l.length - 1 - j) Rec.z).a), iv ((l.getD (l.length - 1 - j) Rec.z).b), sv ((l.getD (l.length - 1 - j) Rec.z).text)]) (by rw [bE Rec.z]; rfl)) fun a Z => ?_
  rw [hidx] at Z
  refine wl_r (eq rfl rfl (hY.yield (pre := backs l.length j) (x := l.length - 1 - j) (by show l.length - 1 - j + 1 + (backs l.length j).length = l.length; rw [dp]; omega) hJ (Y.only (i := 0) rfl))) rfl rfl Z ?_
  clear Z
  intro a v w2 hR Z
  obtain ⟨y2, e3, rfl, hx, hok, hft, hJt, hJf⟩ := hR
  replace Y := Y.exchange (k := 0) rfl hx hok hft
  replace Y : St M w0 [e3, blk b1 [iv o, lv] 25] w2 := Y
  clear hx hok hft
  refine wlv Z (bq rfl) fun a Z => ab (hK5 _ _ ?_)
  replace Z : Fr 21 [(0, _), (1, _), (3, _), (20, _)] [] a := Z.pick [0, 1, 3, 20]
  refine aC Z rfl (fun hc4 => ?_) (fun hc4 => ?_)
  ·rw [hc4] at Z
   try simp only [qz] at hc4
   have hJ := hJf hc4
   refine au ?_
   refine aq Z Tryd.results74 ah ?_
   exact ⟨_, _, Y, .inr ⟨_, rfl, hJ⟩⟩
  rw [hc4] at Z
  try simp only [qz] at hc4
  have hJ := hJt hc4
  refine ao <| hK4 _ _ <| am <| wlm Z rfl fun a Z => wlv Z (bh rfl rfl ⟨by omega, by omega⟩) fun a Z => wla Z rfl fun a Z => ab ?_
  rw [show ((l.length - 1 - j : Nat) : Int) - 1 = (l.length : Int) - 1 - ((j + 1 : Nat) : Int) from by omega] at Z
  refine ⟨_, ?_, j + 1, e3, rfl, (by omega), hJ, Z.pick [0, 1, 3], Y⟩
  omega
 rw [hc1] at Z
 try simp only [qz] at hc1
 obtain rfl : j = l.length := by omega
 refine aF ?_
 refine c7 Z Tryd.results74 ah ?_
 exact ⟨_, _, Y, .inl ⟨_, ⟨rfl, rfl⟩, hJ⟩⟩
theorem fD {M : Nat → Prop} {w0 : World} (o : Int) (lv : Value) (l : List Rec) (b1 : Nat) (hn : l.length ≤ 1000000) (hlv : ∀ (H : List Ent) (w : World), St M w0 H w → SlAt w lv 5 (l.map Rec.cells)) :
  Iter Tryd.prog 74 [pt b1] (encRb l) (NxB l.length) (fun ys Hi => ys = backs l.length l.length ∧ Hi = [blk b1 [iv o, lv] 25]) (fun pre Hi => Hi = [blk b1 [iv o, lv] 25]) M w0 [blk b1 [iv o, lv] 25] :=
 fun lp J Jx w e hY hJ Y => kK o lv l lp b1 J Jx hY e w hn hlv hJ Y
theorem iF (o : Int) (lv : Value) (w0 : World) (l : List Rec) (hlv : SlAt w0 lv 5 (l.map Rec.cells)) :
  Ret Tryd.prog 48 #[.agg #[iv o, lv]] w0 (MemR w0 (fun z : Nat => .func (.func 74) #[] #[pt z]) (fun z => [blk z [iv o, lv] 25]) (fun _ => True)) := by
 refine aG Tryd.func48 rfl Tryd.ntmps48 (lb rfl) fun a Z => ?_
 replace Z : Fr 4 [(0, _)] [] a := Z
 replace Y : St No w0 [] w0 := St.init w0
 refine aa fun K1 hK1 => bn Z Y (by decide) rfl (cs := [iv o, lv]) rfl ?_
 clear Z Y
 intro a w1 Z Y
 refine wla Z rfl fun a Z => ab (hK1 _ _ <| aa fun K2 hK2 => ?_)
 refine wlv Z (cj rfl rfl) fun a Z => wla Z rfl fun a Z => ab (hK2 _ _ <| au ?_)
 refine aq Z Tryd.results48 (ae rfl ah) ?_
 exact ⟨w0.heap.size, rfl, trivial, Y.ext, St.out (H := []) Y⟩
end Go.Proofs.YtddfkkdanpmnaaaDoor
namespace Go.Proofs.YtddfkkdanpmnaaaDoor
open Go.RowKit Go.PW
set_option linter.unusedVariables false
set_option linter.unusedSimpArgs false
set_option maxRecDepth 4000
section
variable {f : Rec → Bool} {l : List Rec} {pre : List Nat} {x : Nat}
theorem nA (hnx : NxB l.length pre x) (h : findF f l l.length = findF f l (l.length - pre.length)) (hf : f (l.getD x Rec.z) = false) : findF f l l.length = findF f l (l.length - (pre ++ [x]).length) := by
 unfold NxB at hnx
 rw [h, show l.length - pre.length = x + 1 from by omega, findF, if_neg (by rw [hf]; decide), List.length_append, List.length_singleton, show l.length - (pre.length + 1) = x from by omega]
theorem mz (hnx : NxB l.length pre x) (h : findF f l l.length = findF f l (l.length - pre.length)) (hf : f (l.getD x Rec.z) = true) : findF f l l.length = (x : Int) := by
 unfold NxB at hnx
 rw [h, show l.length - pre.length = x + 1 from by omega, findF, if_pos hf]
theorem mq (h : findF f l l.length = findF f l (l.length - (backs l.length l.length).length)) : findF f l l.length = -1 := by
 rw [h, dp, Nat.sub_self]; rfl
end
def outR (l : List Rec) (n : Nat) : List By := List.replicate (l.length - n) [] ++ codesB (l.drop (l.length - n))
theorem im (l : List Rec) (n : Nat) (h : n ≤ l.length) : (outR l n).length = l.length := by
 rw [outR, List.length_append, List.length_replicate, fq, List.length_drop]; omega
theorem nc (l : List Rec) : outR l 0 = List.replicate l.length [] := by
 rw [outR, Nat.sub_zero, List.drop_length]; simp [codesB]
theorem lV (l : List Rec) : outR l (backs l.length l.length).length = codesB l := by
 rw [dp, outR, Nat.sub_self]; simp
theorem lO {l : List Rec} {pre : List Nat} {x : Nat} (hnx : NxB l.length pre x) : (outR l pre.length).set x (eB (l.getD x Rec.z)) = outR l (pre ++ [x]).length := by
 unfold NxB at hnx
 have e1 : l.length - pre.length = x + 1 := by omega
 have e2 : l.length - (pre ++ [x]).length = x := by rw [List.length_append, List.length_singleton]; omega
 unfold outR
 rw [e1, e2, List.replicate_succ', List.append_assoc, List.set_append_right _ _ (by rw [List.length_replicate]; exact Nat.le_refl _), List.length_replicate, Nat.sub_self, eF (show x < l.length by omega)]
 rfl
theorem lh {l : List Rec} {pre : List Nat} {x : Nat} (hnx : NxB l.length pre x) : ((outR l pre.length).map fun s => [sv s]).set x [sv (eB (l.getD x Rec.z))] = (outR l (pre ++ [x]).length).map fun s => [sv s] := by
 rw [← lO hnx, List.map_set]
theorem lA {l : List Rec} {pre : List Nat} {x : Nat} (hnx : NxB l.length pre x) (hk : x < ((outR l pre.length).map fun s => [sv s]).length) : ((outR l pre.length).map fun s => [sv s]).set x (splice ((outR l pre.length).map fun s => [sv s])[x] 0 [sv (eB (l.getD x Rec.z))]) = (outR l (pre ++ [x]).length).map fun s => [sv s] := by
 rw [← lh hnx]; congr 1; rw [List.getElem_map]; rfl
theorem eH (x : Int) (n : Int) (w0 : World) :
  Ret Tryd.prog 56 #[iv x, iv n, iv 0] w0 fun v w => v = .tuple #[iv x, iv n] ∧ Ext No w0 w := by
 refine aG Tryd.func56 rfl Tryd.ntmps56 (lb rfl) fun a Z => ?_
 replace Z : Fr 14 [(0, _), (1, _), (2, _)] [] a := Z
 replace Y : St No w0 [] w0 := St.init w0
 refine aa fun K1 hK1 => wla Z rfl fun a Z => wla Z rfl fun a Z => ab (hK1 _ _ <| ac fun K2 hK2 => ?_)
 refine aa fun K3 hK3 => wlm Z rfl fun a Z => wlv Z ((v_ne rfl rfl).asb (b' := false) rfl) fun a Z => ab (hK3 _ _ <| av Z rfl ?_)
 refine ao <| hK2 _ _ <| aa fun K4 hK4 => wlm Z rfl fun a Z => wlm Z rfl fun a Z => wla Z rfl fun a Z => wla Z rfl fun a Z => ab (hK4 _ _ ?_)
 replace Z : Fr 14 [(6, _), (7, _)] [] a := Z.pick [6, 7]
 refine au ?_
 refine aq Z Tryd.results56 (ae rfl (ae rfl ah)) ?_
 exact ⟨by rfl, Y.ext⟩
theorem dN (x : Int) (n : Int) (w0 : World) :
  Pan Tryd.prog 56 #[iv x, iv n, iv 10] w0 fun c w => c = [{ v := .iface 95 (.agg #[]), recovered := false }] ∧ Ext No w0 w := by
 refine mi Tryd.func56 rfl Tryd.ntmps56 (lb rfl) fun a Z => ?_
 replace Z : Fr 14 [(0, _), (1, _), (2, _)] [] a := Z
 replace Y : St No w0 [] w0 := St.init w0
 refine aa fun K1 hK1 => wla Z rfl fun a Z => wla Z rfl fun a Z => ab (hK1 _ _ <| ac fun K2 hK2 => ?_)
 refine aa fun K3 hK3 => wlm Z rfl fun a Z => wlv Z ((v_ne rfl rfl).asb (b' := true) rfl) fun a Z => ab (hK3 _ _ <| aB Z rfl ?_)
 refine bO ?_
 refine bG 2 ?_
 refine wlv Z (bt (v := .agg #[]) rfl (by kernel_rfl)) fun a Z => wlv Z (c8 rfl Tryd.underlying95) fun a Z => ab <| eu Z rfl ?_
 exact fw (X := fun c w => c = [{ v := .iface 95 (.agg #[]), recovered := false }] ∧ Ext No w0 w) Z ⟨rfl, Y.ext⟩
theorem kX (x : By) (n : Int) (w0 : World) :
  Ret Tryd.prog 58 #[sv x, iv n, iv 0] w0 fun v w => v = .tuple #[sv x, iv n] ∧ Ext No w0 w := by
 refine aG Tryd.func58 rfl Tryd.ntmps58 (lb rfl) fun a Z => ?_
 replace Z : Fr 14 [(0, _), (1, _), (2, _)] [] a := Z
 replace Y : St No w0 [] w0 := St.init w0
 refine aa fun K1 hK1 => wla Z rfl fun a Z => wla Z rfl fun a Z => ab (hK1 _ _ <| ac fun K2 hK2 => ?_)
 refine aa fun K3 hK3 => wlm Z rfl fun a Z => wlv Z ((v_ne rfl rfl).asb (b' := false) rfl) fun a Z => ab (hK3 _ _ <| av Z rfl ?_)
 refine ao <| hK2 _ _ <| aa fun K4 hK4 => wlm Z rfl fun a Z => wlm Z rfl fun a Z => wla Z rfl fun a Z => wla Z rfl fun a Z => ab (hK4 _ _ ?_)
 replace Z : Fr 14 [(6, _), (7, _)] [] a := Z.pick [6, 7]
 refine au ?_
 refine aq Z Tryd.results58 (ae rfl (ae rfl ah)) ?_
 exact ⟨by rfl, Y.ext⟩
theorem kx (x : By) (n : Int) (w0 : World) :
  Pan Tryd.prog 58 #[sv x, iv n, iv 10] w0 fun c w => c = [{ v := .iface 95 (.agg #[]), recovered := false }] ∧ Ext No w0 w := by
 refine mi Tryd.func58 rfl Tryd.ntmps58 (lb rfl) fun a Z => ?_
 replace Z : Fr 14 [(0, _), (1, _), (2, _)] [] a := Z
 replace Y : St No w0 [] w0 := St.init w0
 refine aa fun K1 hK1 => wla Z rfl fun a Z => wla Z rfl fun a Z => ab (hK1 _ _ <| ac fun K2 hK2 => ?_)
 refine aa fun K3 hK3 => wlm Z rfl fun a Z => wlv Z ((v_ne rfl rfl).asb (b' := true) rfl) fun a Z => ab (hK3 _ _ <| aB Z rfl ?_)
 refine bO ?_
 refine bG 2 ?_
 refine wlv Z (bt (v := .agg #[]) rfl (by kernel_rfl)) fun a Z => wlv Z (c8 rfl Tryd.underlying95) fun a Z => ab <| eu Z rfl ?_
 exact fw (X := fun c w => c = [{ v := .iface 95 (.agg #[]), recovered := false }] ∧ Ext No w0 w) Z ⟨rfl, Y.ext⟩
theorem kl {P : Program} {w : World} {L : List (Nat × Value)} {dst : Option Tmp} {T T' ty : TypeId} {pos : String} {af : Array Edge} {x y : Operand} (hx : ev L x = some .nilIface) (hy : ev L y = some .nilIface) (hr : (binOp .eql T .nilIface .nilIface).run P w = .ok (.bool true) w) (hg : (eqGuard .eql T x y .nilIface .nilIface).run P w = .ok () w) : OpV P ⟨dst, .binOp .eql T x y T', ty, pos, af, none⟩ L w (.bool true) :=
 ⟨rfl, fun N df a h => by
  simp only [execOp, h.eval hx, h.eval hy, Sem.run_bind, hg, hr, Result.andThen_ok]; rfl⟩
theorem cU {M : Nat → Prop} {w0 : World} (b2 b3 : Nat) (c0 c1 c2 c3 c4 c5 : Value) (ws : World) (Y : St M w0 [blk b2 [c0, c1, c2, c3, c4] 27, blk b3 [c5] 33] ws) :
  CallsDIn Fence.wide 0 Tryd.prog 55 #[pt b2, pt b3] (.panicking [{ v := .iface 95 (.agg #[]), recovered := false }]) ws fun e u' w => u' = (.panicking [{ v := .iface 95 (.agg #[]), recovered := true }]) ∧ ∃ x, e = .returned x ∧ St M w0 [blk b2 [iv 0, iv 0, iv 0, iv 0, sv ([] : By)] 27, blk b3 [iv 110] 33] w  := by
 refine ml (args := [pt b2, pt b3]) Tryd.func55 rfl Tryd.ntmps55 (lb rfl) rfl rfl (by decide) (fun _ _ => rfl) (.inr ⟨rfl, rfl⟩) fun a Z => ?_
 replace Z : Fr 12 [(5, _), (0, _), (1, _)] [] a := Z
 skip
 refine ap <| aa fun K1 hK1 => wlv Z (i5 rfl rfl (by kernel_rfl) (by kernel_rfl)) fun a Z => ab (hK1 _ _ <| av Z rfl ?_)
 refine aa fun K2 hK2 => wlv Z (gN rfl Tryd.underlying95) fun a Z => wlv Z (ag rfl rfl) fun a Z => wlv Z (ag rfl rfl) fun a Z => ab (hK2 _ _ <| aB Z rfl ?_)
 refine aa fun K3 hK3 => aD Z Y (by decide) (Tryd.zeroValue95 _) (cs := []) rfl ?_
 clear Z Y
 intro a w1 Z Y
 refine az 0 Z Y rfl rfl rfl (Tryd.sizeOf95 _) rfl (lb rfl) (ds := []) rfl rfl ?_
 clear Z Y
 intro a w2 Z Y
 refine ab (hK3 _ _ ?_)
 replace Z : Fr 12 [(0, _), (1, _)] [] a := Z.pick [0, 1]
 replace Y : St M w0 [_, _] w2 := Y.mask [false, true, true]
 refine am <| wlv Z (bt (v := .agg #[iv 0, iv 0, iv 0, iv 0, .string (⟨#[]⟩)]) rfl (by kernel_rfl)) fun a Z => az 0 Z Y rfl rfl rfl (Tryd.sizeOf27 _) rfl (lb rfl) (ds := [iv 0, iv 0, iv 0, iv 0, .string (⟨#[]⟩)]) rfl rfl ?_
 clear Z Y
 intro a w3 Z Y
 refine az 1 Z Y rfl rfl rfl (Tryd.sizeOf33 _) rfl (lb rfl) (ds := [iv 110]) rfl rfl ?_
 clear Z Y
 intro a w4 Z Y
 refine ab ?_
 refine ir Z Tryd.results55 ah ?_
 exact Y.select [0, 1] (by decide)
theorem lB (b2 b3 : Nat) (ws : World) :
  CallsDIn Fence.wide 0 Tryd.prog 55 #[pt b2, pt b3] .returning ws fun e u' w => u' = .returning ∧ ∃ x, e = .returned x ∧ Ext No ws w  := by
 refine ml (args := [pt b2, pt b3]) Tryd.func55 rfl Tryd.ntmps55 (lb rfl) rfl rfl (by decide) (fun _ _ => rfl) (.inl ⟨rfl, rfl, rfl⟩) fun a Z => ?_
 replace Z : Fr 12 [(5, _), (0, _), (1, _)] [] a := Z
 replace Y : St No ws [] ws := St.init ws
 refine ap <| aa fun K1 hK1 => wlv Z (kl rfl rfl (by kernel_rfl) (by kernel_rfl)) fun a Z => ab (hK1 _ _ <| aB Z rfl ?_)
 refine am <| wla Z rfl fun a Z => ab ?_
 refine ir Z Tryd.results55 ah ?_
 exact Y.ext
set_option maxHeartbeats 4000000 in
theorem ju (s : By) (w0 : World) (hsl : s.length ≤ 1000000) :
  Ret Tryd.prog 24 #[sv s] w0 fun v w => v = .tuple #[.agg (decX s).cells.toArray, iv (decE s)] ∧ Ext No w0 w := by
 refine my Tryd.func24 rfl Tryd.ntmps24 (lb rfl) fun a Z => ?_
 replace Z : Fr 52 [(0, _)] [] a := Z
 replace Y : St No w0 [] w0 := St.init w0
 refine aa fun K1 hK1 => aD Z Y (by decide) (Tryd.zeroValue27 _) (cs := [iv 0, iv 0, iv 0, iv 0, .string (⟨#[]⟩)]) rfl ?_
 clear Z Y
 intro a w1 Z Y
 refine aD Z Y (by decide) (Tryd.zeroValue33 _) (cs := [iv 0]) rfl ?_
 clear Z Y
 intro a w2 Z Y
 refine ab (hK1 _ _ <| aa fun K2 hK2 => ?_)
 refine wlv Z (cj rfl rfl) fun a Z => kU Z rfl fun a Z => ab (hK2 _ _ <| aa fun K3 hK3 => ?_)
 refine wla Z rfl fun a Z => ab (hK3 _ _ <| ac fun K4 hK4 => ?_)
 refine aa fun K5 hK5 => wlv Z (ay (v := pt w0.heap.size) rfl (by kernel_rfl)) fun a Z => wlv Z (ay (v := .pointer (some ⟨w0.heap.size, 1, none⟩)) rfl (by kernel_rfl)) fun a Z => wlv Z (ay (v := .pointer (some ⟨w0.heap.size, 2, none⟩)) rfl (by kernel_rfl)) fun a Z => wlv Z (ay (v := .pointer (some ⟨w0.heap.size, 3, none⟩)) rfl (by kernel_rfl)) fun a Z => wlv Z (bt (v := .agg #[pt w0.heap.size, .pointer (some ⟨w0.heap.size, 1, none⟩), .pointer (some ⟨w0.heap.size, 2, none⟩), .pointer (some ⟨w0.heap.size, 3, none⟩)]) rfl (by kernel_rfl)) fun a Z => wlm Z rfl fun a Z => ab (hK5 _ _ ?_)
 refine ap <| cS 6 ?_
 refine aP ?_
 refine aa fun K6 hK6 => wlv Z ((v_lt rfl rfl).asb (b' := true) rfl) fun a Z => ab (hK6 _ _ <| ac fun K7 hK7 => ?_)
 refine aB Z rfl ?_
 refine ao <| hK7 _ _ <| ac fun K8 hK8 => ap <| aa fun K9 hK9 => wlv Z (dS (v := pt w0.heap.size) rfl rfl (by kernel_rfl)) fun a Z => wla Z rfl fun a Z => ab (hK9 _ _ ?_)
 replace Z : Fr 52 [(0, _), (2, _), (3, _), (4, _), (12, _), (13, _), (6, _)] [{ target := .fn (.func 55) #[pt w0.heap.size, pt w1.heap.size], args := #[] }] a := Z.pick [0, 2, 3, 4, 12, 13, 6]
 refine bO ?_
 refine bG 7 ?_
 refine wlm Z rfl fun a Z => wlm Z rfl fun a Z => wlm Z rfl fun a Z => ?_
 rcases Bool.eq_false_or_eq_true ((rdI s).isSome) with hb1 | hb1
 ·try simp only [qz] at hb1
  obtain ⟨⟨n1, r1⟩, hq1⟩ := Option.isSome_iff_exists.1 hb1
  have hd1 := lW.trans (e9 hq1)
  have hsf1 := (du hq1).trans (List.suffix_refl s)
  refine al Z Y (by decide) Tryd.call57 rfl (dT (by simp) (List.suffix_refl s) hsl hq1) ?_
  clear Z Y
  intro a w3 Z Y
  refine wlv Z (ag rfl rfl) fun a Z => wlv Z (ag rfl rfl) fun a Z => wlv Z (ag rfl rfl) fun a Z => ab <| bG 1 ?_
  refine al Z Y (by decide) Tryd.call56 rfl (eH n1 ((s.length - r1.length : Nat) : Int) _) ?_
  clear Z Y
  intro a w4 Z Y
  refine ab <| ie ?_
  refine wlm Z rfl fun a Z => wlv Z (ag rfl rfl) fun a Z => wlv Z (ag rfl rfl) fun a Z => wlv Z (aY rfl) fun a Z => az 1 Z Y rfl rfl rfl (Tryd.sizeOf3 _) rfl (lb rfl) (ds := [iv n1, iv 0, iv 0, iv 0, .string (⟨#[]⟩)]) rfl rfl ?_
  clear Z Y
  intro a w5 Z Y
  refine wla Z rfl fun a Z => ab <| hK8 _ _ ?_
  replace Z : Fr 52 [(0, _), (2, _), (3, _), (12, _), (13, _), (4, _)] [{ target := .fn (.func 55) #[pt w0.heap.size, pt w1.heap.size], args := #[] }] a := Z.pick [0, 2, 3, 12, 13, 4]
  refine am <| wlv Z ((aL rfl rfl (by decide)).asi (m' := 1) rfl) fun a Z => wlm Z rfl fun a Z => ab <| aP ?_
  refine aa fun K10 hK10 => wlv Z ((v_lt rfl rfl).asb (b' := true) rfl) fun a Z => ab (hK10 _ _ <| ac fun K11 hK11 => ?_)
  refine aB Z rfl ?_
  refine ao <| hK11 _ _ <| ac fun K12 hK12 => ap <| aa fun K13 hK13 => wlv Z (dS (v := .pointer (some ⟨w0.heap.size, 1, none⟩)) rfl rfl (by kernel_rfl)) fun a Z => wla Z rfl fun a Z => ab (hK13 _ _ ?_)
  refine bO ?_
  refine bG 7 ?_
  refine wlm Z rfl fun a Z => wlm Z rfl fun a Z => wlm Z rfl fun a Z => ?_
  rcases Bool.eq_false_or_eq_true ((rdI r1).isSome) with hb2 | hb2
  ·try simp only [qz] at hb2
   obtain ⟨⟨n2, r2⟩, hq2⟩ := Option.isSome_iff_exists.1 hb2
   have hd2 := hd1.trans (e9 hq2)
   have hsf2 := (du hq2).trans hsf1
   refine al Z Y (by decide) Tryd.call57 rfl (dT rfl hsf1 hsl hq2) ?_
   clear Z Y
   intro a w6 Z Y
   refine wlv Z (ag rfl rfl) fun a Z => wlv Z (ag rfl rfl) fun a Z => wlv Z (ag rfl rfl) fun a Z => ab <| bG 1 ?_
   refine al Z Y (by decide) Tryd.call56 rfl (eH n2 ((s.length - r2.length : Nat) : Int) _) ?_
   clear Z Y
   intro a w7 Z Y
   refine ab <| ie ?_
   refine wlm Z rfl fun a Z => wlv Z (ag rfl rfl) fun a Z => wlv Z (ag rfl rfl) fun a Z => wlv Z (aY rfl) fun a Z => az 1 Z Y rfl rfl rfl (Tryd.sizeOf3 _) rfl (lb rfl) (ds := [iv n1, iv n2, iv 0, iv 0, .string (⟨#[]⟩)]) rfl rfl ?_
   clear Z Y
   intro a w8 Z Y
   refine wla Z rfl fun a Z => ab <| hK12 _ _ ?_
   replace Z : Fr 52 [(0, _), (2, _), (3, _), (12, _), (13, _), (4, _)] [{ target := .fn (.func 55) #[pt w0.heap.size, pt w1.heap.size], args := #[] }] a := Z.pick [0, 2, 3, 12, 13, 4]
   refine am <| wlv Z ((aL rfl rfl (by decide)).asi (m' := 2) rfl) fun a Z => wlm Z rfl fun a Z => ab <| aP ?_
   refine aa fun K14 hK14 => wlv Z ((v_lt rfl rfl).asb (b' := true) rfl) fun a Z => ab (hK14 _ _ <| ac fun K15 hK15 => ?_)
   refine aB Z rfl ?_
   refine ao <| hK15 _ _ <| ac fun K16 hK16 => ap <| aa fun K17 hK17 => wlv Z (dS (v := .pointer (some ⟨w0.heap.size, 2, none⟩)) rfl rfl (by kernel_rfl)) fun a Z => wla Z rfl fun a Z => ab (hK17 _ _ ?_)
   refine bO ?_
   refine bG 7 ?_
   refine wlm Z rfl fun a Z => wlm Z rfl fun a Z => wlm Z rfl fun a Z => ?_
   rcases Bool.eq_false_or_eq_true ((rdI r2).isSome) with hb3 | hb3
   ·try simp only [qz] at hb3
    obtain ⟨⟨n3, r3⟩, hq3⟩ := Option.isSome_iff_exists.1 hb3
    have hd3 := hd2.trans (e9 hq3)
    have hsf3 := (du hq3).trans hsf2
    refine al Z Y (by decide) Tryd.call57 rfl (dT rfl hsf2 hsl hq3) ?_
    clear Z Y
    intro a w9 Z Y
    refine wlv Z (ag rfl rfl) fun a Z => wlv Z (ag rfl rfl) fun a Z => wlv Z (ag rfl rfl) fun a Z => ab <| bG 1 ?_
    refine al Z Y (by decide) Tryd.call56 rfl (eH n3 ((s.length - r3.length : Nat) : Int) _) ?_
    clear Z Y
    intro a w10 Z Y
    refine ab <| ie ?_
    refine wlm Z rfl fun a Z => wlv Z (ag rfl rfl) fun a Z => wlv Z (ag rfl rfl) fun a Z => wlv Z (aY rfl) fun a Z => az 1 Z Y rfl rfl rfl (Tryd.sizeOf3 _) rfl (lb rfl) (ds := [iv n1, iv n2, iv n3, iv 0, .string (⟨#[]⟩)]) rfl rfl ?_
    clear Z Y
    intro a w11 Z Y
    refine wla Z rfl fun a Z => ab <| hK16 _ _ ?_
    replace Z : Fr 52 [(0, _), (2, _), (3, _), (12, _), (13, _), (4, _)] [{ target := .fn (.func 55) #[pt w0.heap.size, pt w1.heap.size], args := #[] }] a := Z.pick [0, 2, 3, 12, 13, 4]
    refine am <| wlv Z ((aL rfl rfl (by decide)).asi (m' := 3) rfl) fun a Z => wlm Z rfl fun a Z => ab <| aP ?_
    refine aa fun K18 hK18 => wlv Z ((v_lt rfl rfl).asb (b' := true) rfl) fun a Z => ab (hK18 _ _ <| ac fun K19 hK19 => ?_)
    refine aB Z rfl ?_
    refine ao <| hK19 _ _ <| ac fun K20 hK20 => ap <| aa fun K21 hK21 => wlv Z (dS (v := .pointer (some ⟨w0.heap.size, 3, none⟩)) rfl rfl (by kernel_rfl)) fun a Z => wla Z rfl fun a Z => ab (hK21 _ _ ?_)
    refine bO ?_
    refine bG 7 ?_
    refine wlm Z rfl fun a Z => wlm Z rfl fun a Z => wlm Z rfl fun a Z => ?_
    rcases Bool.eq_false_or_eq_true ((rdI r3).isSome) with hb4 | hb4
    ·try simp only [qz] at hb4
     obtain ⟨⟨n4, r4⟩, hq4⟩ := Option.isSome_iff_exists.1 hb4
     have hd4 := hd3.trans (e9 hq4)
     have hsf4 := (du hq4).trans hsf3
     refine al Z Y (by decide) Tryd.call57 rfl (dT rfl hsf3 hsl hq4) ?_
     clear Z Y
     intro a w12 Z Y
     refine wlv Z (ag rfl rfl) fun a Z => wlv Z (ag rfl rfl) fun a Z => wlv Z (ag rfl rfl) fun a Z => ab <| bG 1 ?_
     refine al Z Y (by decide) Tryd.call56 rfl (eH n4 ((s.length - r4.length : Nat) : Int) _) ?_
     clear Z Y
     intro a w13 Z Y
     refine ab <| ie ?_
     refine wlm Z rfl fun a Z => wlv Z (ag rfl rfl) fun a Z => wlv Z (ag rfl rfl) fun a Z => wlv Z (aY rfl) fun a Z => az 1 Z Y rfl rfl rfl (Tryd.sizeOf3 _) rfl (lb rfl) (ds := [iv n1, iv n2, iv n3, iv n4, .string (⟨#[]⟩)]) rfl rfl ?_
     clear Z Y
     intro a w14 Z Y
     refine wla Z rfl fun a Z => ab <| hK20 _ _ ?_
     replace Z : Fr 52 [(0, _), (2, _), (3, _), (12, _), (13, _), (4, _)] [{ target := .fn (.func 55) #[pt w0.heap.size, pt w1.heap.size], args := #[] }] a := Z.pick [0, 2, 3, 12, 13, 4]
     refine am <| wlv Z ((aL rfl rfl (by decide)).asi (m' := 4) rfl) fun a Z => wlm Z rfl fun a Z => ab <| aP ?_
     refine aa fun K22 hK22 => wlv Z ((v_lt rfl rfl).asb (b' := false) rfl) fun a Z => ab (hK22 _ _ <| ac fun K23 hK23 => ?_)
     refine av Z rfl ?_
     refine aF <| hK4 _ _ <| fc fun K24 hK24 hP24 => bG 6 ?_
     refine wlm Z rfl fun a Z => wlm Z rfl fun a Z => ?_
     rcases Bool.eq_false_or_eq_true ((rdS r4).isSome) with hb5 | hb5
     ·try simp only [qz] at hb5
      obtain ⟨⟨x9, r5⟩, hq5⟩ := Option.isSome_iff_exists.1 hb5
      have hd5 := hd4.trans (kY.trans (lR hq5))
      have hsf5 := (mI hq5).trans hsf4
      refine al Z Y (by decide) Tryd.call59 rfl (j4 s r4 x9 r5 _ _ rfl hsf4 hsl hq5) ?_
      clear Z Y
      intro a w15 Z Y
      refine wlv Z (ag rfl rfl) fun a Z => wlv Z (ag rfl rfl) fun a Z => wlv Z (ag rfl rfl) fun a Z => ab <| bG 1 ?_
      refine al Z Y (by decide) Tryd.call58 rfl (kX x9 ((s.length - r5.length : Nat) : Int) _) ?_
      clear Z Y
      intro a w16 Z Y
      refine ab <| ie ?_
      refine wlm Z rfl fun a Z => wlv Z (ag rfl rfl) fun a Z => wlv Z (ag rfl rfl) fun a Z => wlv Z (ay (v := .pointer (some ⟨w0.heap.size, 4, none⟩)) rfl (by kernel_rfl)) fun a Z => az 1 Z Y rfl rfl rfl (Tryd.sizeOf9 _) rfl (lb rfl) (ds := [iv n1, iv n2, iv n3, iv n4, sv x9]) rfl rfl ?_
      clear Z Y
      intro a w17 Z Y
      refine wla Z rfl fun a Z => ab (hK24 _ _ ?_)
      replace Z : Fr 52 [(0, _), (2, _), (3, _), (4, _)] [{ target := .fn (.func 55) #[pt w0.heap.size, pt w1.heap.size], args := #[] }] a := Z.pick [0, 2, 3, 4]
      refine ac fun K25 hK25 => aa fun K26 hK26 => wlm Z rfl fun a Z => wlm Z rfl fun a Z => wlv Z (aJ rfl rfl (Tryd.runUnderlying9 _)) fun a Z => wlv Z (v_lt rfl rfl) fun a Z => wlm Z rfl fun a Z => ?_
      rcases Bool.eq_false_or_eq_true (decide (((s.length - r5.length : Nat) : Int) < (s.length : Int))) with hb6 | hb6
      ·rw [hb6] at Z
       try simp only [qz] at hb6
       have hdn := hd5.trans (kp (by intro h0; have h1 := congrArg List.length h0; rw [List.length_nil] at h1; omega))
       refine wln Z fun a Z => wln Z fun a Z => wln Z fun a Z => wlv Z (aE rfl rfl) fun a Z => ab (hK26 _ _ ?_)
       replace Z : Fr 52 [(2, _), (3, _), (48, _)] [{ target := .fn (.func 55) #[pt w0.heap.size, pt w1.heap.size], args := #[] }] a := Z.pick [2, 3, 48]
       refine aB Z rfl ?_
       refine bO ?_
       refine bG 2 ?_
       refine wlv Z (bt (v := .agg #[]) rfl (by kernel_rfl)) fun a Z => wlv Z (c8 rfl Tryd.underlying95) fun a Z => ab <| eu Z rfl ?_
       replace Y : St No w0 [blk w0.heap.size [iv n1, iv n2, iv n3, iv n4, sv x9] 27, blk w1.heap.size [iv 0] 33] w17 := Y.select [1, 0] (by decide)
       exact cg Z Tryd.call55 (cU _ _ _ _ _ _ _ _ _ Y) Tryd.results24 (fun w9 Y => ⟨(aO rfl (bW (Y.get (k := 0) rfl) (Tryd.isAgg27 _) (Tryd.sizeOf27 _)) (aO rfl (cx (Y.get (k := 1) rfl) (Tryd.isAgg33 _)) ah)), by simp only [retv]; unfold decX decE; rw [hdn]; rfl, Y.ext⟩)
      rw [hb6] at Z
      try simp only [qz] at hb6
      have hqn : r5 = [] := List.eq_nil_of_length_eq_zero (by have := hsf5.length_le; omega)
      refine wly Z (ar (Y.get (k := 1) rfl) rfl (Tryd.isAgg27 _) (Tryd.sizeOf27 _)) fun a Z => aW Z Y (by decide) rfl (by decide) rfl Tryd.call45 rfl (es (⟨n1, n2, n3, n4, x9⟩ : Rec) _) ?_
      clear Z Y
      intro a w18 Z Y
      refine wly Z (bq rfl) fun a Z => wlv Z (aw rfl rfl) fun a Z => ab (hK26 _ _ ?_)
      replace Z : Fr 52 [(2, _), (3, _), (48, _)] [{ target := .fn (.func 55) #[pt w0.heap.size, pt w1.heap.size], args := #[] }] a := Z.pick [2, 3, 48]
      refine aC Z rfl (fun hc7 => ?_) (fun hc7 => ?_)
      ·rw [hc7] at Z
       try simp only [qz] at hc7
       have hdn := hd5.trans (kg (by exact hc7))
       refine bO ?_
       refine bG 2 ?_
       refine wlv Z (bt (v := .agg #[]) rfl (by kernel_rfl)) fun a Z => wlv Z (c8 rfl Tryd.underlying95) fun a Z => ab <| eu Z rfl ?_
       replace Y : St No w0 [blk w0.heap.size [iv n1, iv n2, iv n3, iv n4, sv x9] 27, blk w1.heap.size [iv 0] 33] w18 := Y.select [1, 0] (by decide)
       exact cg Z Tryd.call55 (cU _ _ _ _ _ _ _ _ _ Y) Tryd.results24 (fun w9 Y => ⟨(aO rfl (bW (Y.get (k := 0) rfl) (Tryd.isAgg27 _) (Tryd.sizeOf27 _)) (aO rfl (cx (Y.get (k := 1) rfl) (Tryd.isAgg33 _)) ah)), by simp only [retv]; unfold decX decE; rw [hdn]; rfl, Y.ext⟩)
      rw [hc7] at Z
      try simp only [qz] at hc7
      have hds := hd5.trans (ko hqn (by exact hc7))
      refine ao <| hK25 _ _ <| aa fun K27 hK27 => wlv Z (ar (Y.get (k := 1) rfl) rfl (Tryd.isAgg27 _) (Tryd.sizeOf27 _)) fun a Z => az 1 Z Y rfl rfl rfl (Tryd.sizeOf27 _) rfl (lb rfl) (ds := [iv n1, iv n2, iv n3, iv n4, sv x9]) rfl rfl ?_
      clear Z Y
      intro a w19 Z Y
      refine az 0 Z Y rfl rfl rfl (Tryd.sizeOf33 _) rfl (lb rfl) (ds := [iv 0]) rfl rfl ?_
      clear Z Y
      intro a w20 Z Y
      refine ab (hK27 _ _ <| au ?_)
      refine lH (vs := [.agg #[iv n1, iv n2, iv n3, iv n4, sv x9], iv 0]) Z Tryd.call55 (lB _ _ _) Tryd.results24 (fun w9 hx => ?_)
      have Y := Y.grow hx
      exact ⟨(aO rfl (bW (Y.get (k := 1) rfl) (Tryd.isAgg27 _) (Tryd.sizeOf27 _)) (aO rfl (cx (Y.get (k := 0) rfl) (Tryd.isAgg33 _)) ah)), by simp only [retv]; unfold decX decE; rw [hds]; rfl, Y.ext⟩
     try simp only [qz] at hb5
     have hq5 : rdS r4 = none := by
      cases h : rdS r4 with
      | none => rfl
      | some z => rw [h] at hb5; cases hb5
     have hdn := hd4.trans (kY.trans (kF hq5))
     refine al Z Y (by decide) Tryd.call59 rfl (jA rfl hsf4 hsl hq5) ?_
     clear Z Y
     intro a w21 Z Y
     refine wlv Z (ag rfl rfl) fun a Z => wlv Z (ag rfl rfl) fun a Z => wlv Z (ag rfl rfl) fun a Z => ab <| fM (X := fun c w2 => c = [{ v := .iface 95 (.agg #[]), recovered := false }] ∧ Ext No w21 w2) Z Tryd.call58 rfl (kx ([]) 0 _) ?_
     rintro _ w22 ⟨rfl, hx⟩
     have Y := Y.grow hx
     refine hP24 _ _ _ ?_
     replace Y : St No w0 [blk w0.heap.size [iv n1, iv n2, iv n3, iv n4, .string (⟨#[]⟩)] 27, blk w1.heap.size [iv 0] 33] w22 := Y.select [1, 0] (by decide)
     exact cg Z Tryd.call55 (cU _ _ _ _ _ _ _ _ _ Y) Tryd.results24 (fun w9 Y => ⟨(aO rfl (bW (Y.get (k := 0) rfl) (Tryd.isAgg27 _) (Tryd.sizeOf27 _)) (aO rfl (cx (Y.get (k := 1) rfl) (Tryd.isAgg33 _)) ah)), by simp only [retv]; unfold decX decE; rw [hdn]; rfl, Y.ext⟩)
    try simp only [qz] at hb4
    have hq4 : rdI r3 = none := by
     cases h : rdI r3 with
     | none => rfl
     | some z => rw [h] at hb4; cases hb4
    have hdn := hd3.trans (ex hq4)
    refine al Z Y (by decide) Tryd.call57 rfl (dI rfl hsf3 hsl hq4) ?_
    clear Z Y
    intro a w23 Z Y
    refine wlv Z (ag rfl rfl) fun a Z => wlv Z (ag rfl rfl) fun a Z => wlv Z (ag rfl rfl) fun a Z => ab <| fM (X := fun c w2 => c = [{ v := .iface 95 (.agg #[]), recovered := false }] ∧ Ext No w23 w2) Z Tryd.call56 rfl (dN 0 0 _) ?_
    rintro _ w24 ⟨rfl, hx⟩
    have Y := Y.grow hx
    replace Y : St No w0 [blk w0.heap.size [iv n1, iv n2, iv n3, iv 0, .string (⟨#[]⟩)] 27, blk w1.heap.size [iv 0] 33] w24 := Y.select [1, 0] (by decide)
    exact cg Z Tryd.call55 (cU _ _ _ _ _ _ _ _ _ Y) Tryd.results24 (fun w9 Y => ⟨(aO rfl (bW (Y.get (k := 0) rfl) (Tryd.isAgg27 _) (Tryd.sizeOf27 _)) (aO rfl (cx (Y.get (k := 1) rfl) (Tryd.isAgg33 _)) ah)), by simp only [retv]; unfold decX decE; rw [hdn]; rfl, Y.ext⟩)
   try simp only [qz] at hb3
   have hq3 : rdI r2 = none := by
    cases h : rdI r2 with
    | none => rfl
    | some z => rw [h] at hb3; cases hb3
   have hdn := hd2.trans (ex hq3)
   refine al Z Y (by decide) Tryd.call57 rfl (dI rfl hsf2 hsl hq3) ?_
   clear Z Y
   intro a w25 Z Y
   refine wlv Z (ag rfl rfl) fun a Z => wlv Z (ag rfl rfl) fun a Z => wlv Z (ag rfl rfl) fun a Z => ab <| fM (X := fun c w2 => c = [{ v := .iface 95 (.agg #[]), recovered := false }] ∧ Ext No w25 w2) Z Tryd.call56 rfl (dN 0 0 _) ?_
   rintro _ w26 ⟨rfl, hx⟩
   have Y := Y.grow hx
   replace Y : St No w0 [blk w0.heap.size [iv n1, iv n2, iv 0, iv 0, .string (⟨#[]⟩)] 27, blk w1.heap.size [iv 0] 33] w26 := Y.select [1, 0] (by decide)
   exact cg Z Tryd.call55 (cU _ _ _ _ _ _ _ _ _ Y) Tryd.results24 (fun w9 Y => ⟨(aO rfl (bW (Y.get (k := 0) rfl) (Tryd.isAgg27 _) (Tryd.sizeOf27 _)) (aO rfl (cx (Y.get (k := 1) rfl) (Tryd.isAgg33 _)) ah)), by simp only [retv]; unfold decX decE; rw [hdn]; rfl, Y.ext⟩)
  try simp only [qz] at hb2
  have hq2 : rdI r1 = none := by
   cases h : rdI r1 with
   | none => rfl
   | some z => rw [h] at hb2; cases hb2
  have hdn := hd1.trans (ex hq2)
  refine al Z Y (by decide) Tryd.call57 rfl (dI rfl hsf1 hsl hq2) ?_
  clear Z Y
  intro a w27 Z Y
  refine wlv Z (ag rfl rfl) fun a Z => wlv Z (ag rfl rfl) fun a Z => wlv Z (ag rfl rfl) fun a Z => ab <| fM (X := fun c w2 => c = [{ v := .iface 95 (.agg #[]), recovered := false }] ∧ Ext No w27 w2) Z Tryd.call56 rfl (dN 0 0 _) ?_
  rintro _ w28 ⟨rfl, hx⟩
  have Y := Y.grow hx
  replace Y : St No w0 [blk w0.heap.size [iv n1, iv 0, iv 0, iv 0, .string (⟨#[]⟩)] 27, blk w1.heap.size [iv 0] 33] w28 := Y.select [1, 0] (by decide)
  exact cg Z Tryd.call55 (cU _ _ _ _ _ _ _ _ _ Y) Tryd.results24 (fun w9 Y => ⟨(aO rfl (bW (Y.get (k := 0) rfl) (Tryd.isAgg27 _) (Tryd.sizeOf27 _)) (aO rfl (cx (Y.get (k := 1) rfl) (Tryd.isAgg33 _)) ah)), by simp only [retv]; unfold decX decE; rw [hdn]; rfl, Y.ext⟩)
 try simp only [qz] at hb1
 have hq1 : rdI s = none := by
  cases h : rdI s with
  | none => rfl
  | some z => rw [h] at hb1; cases hb1
 have hdn := lW.trans (ex hq1)
 refine al Z Y (by decide) Tryd.call57 rfl (dI (by simp) (List.suffix_refl s) hsl hq1) ?_
 clear Z Y
 intro a w29 Z Y
 refine wlv Z (ag rfl rfl) fun a Z => wlv Z (ag rfl rfl) fun a Z => wlv Z (ag rfl rfl) fun a Z => ab <| fM (X := fun c w2 => c = [{ v := .iface 95 (.agg #[]), recovered := false }] ∧ Ext No w29 w2) Z Tryd.call56 rfl (dN 0 0 _) ?_
 rintro _ w30 ⟨rfl, hx⟩
 have Y := Y.grow hx
 replace Y : St No w0 [blk w0.heap.size [iv 0, iv 0, iv 0, iv 0, .string (⟨#[]⟩)] 27, blk w1.heap.size [iv 0] 33] w30 := Y.select [1, 0] (by decide)
 exact cg Z Tryd.call55 (cU _ _ _ _ _ _ _ _ _ Y) Tryd.results24 (fun w9 Y => ⟨(aO rfl (bW (Y.get (k := 0) rfl) (Tryd.isAgg27 _) (Tryd.sizeOf27 _)) (aO rfl (cx (Y.get (k := 1) rfl) (Tryd.isAgg33 _)) ah)), by simp only [retv]; unfold decX decE; rw [hdn]; rfl, Y.ext⟩)
theorem lg (o : Int) (lv : Value) (l : List Rec) (x : Rec) (w0 : World) (hlv : SlAt w0 lv 5 (l.map Rec.cells)) (hll : l.length ≤ 1000) (hok : addOk o l x = true) :
  Ret Tryd.prog 13 #[.agg #[iv o, lv], .agg #[iv x.t, iv x.kind, iv x.a, iv x.b, sv x.text]] w0 (MemR w0 (fun v : Value => .tuple #[.agg #[iv o, v], iv 0]) (fun v => [own v 27 5 ((l ++ [x]).map Rec.cells)]) (fun _ => True)) := by
 refine aG Tryd.func13 rfl Tryd.ntmps13 (lb rfl) fun a Z => ?_
 replace Z : Fr 27 [(0, _), (1, _)] [] a := Z
 replace Y : St No w0 [] w0 := St.init w0
 refine aa fun K1 hK1 => bn Z Y (by decide) rfl (cs := [iv o, lv]) rfl ?_
 clear Z Y
 intro a w1 Z Y
 refine bn Z Y (by decide) rfl (cs := [iv x.t, iv x.kind, iv x.a, iv x.b, sv x.text]) rfl ?_
 clear Z Y
 intro a w2 Z Y
 refine aD Z Y (by decide) (Tryd.zeroValue25 _) (cs := [iv 0, .slice none 0 0]) rfl ?_
 clear Z Y
 intro a w3 Z Y
 refine wla Z rfl fun a Z => ab (hK1 _ _ <| ac fun K2 hK2 => ?_)
 refine aN (by kernel_rfl) (aQ (by kernel_rfl) fun w4 hxz => ?_)
 replace Y := Y.grow hxz
 refine bp (k := 0) 11 [9, 10] Z (by kernel_rfl) (by kernel_rfl) (by kernel_rfl) (by rfl) ?_
 replace Z : Fr 27 [(0, _), (1, _), (2, _), (3, _), (4, _), (5, _)] [] a := Z.pick [0, 1, 2, 3, 4, 5]
 refine dm 2 5 8 9 (fun v => own v 27 5 ([])) (fun v => own v 27 5 (([]) ++ ((l).map Rec.cells))) (fun v => own v 27 5 ((([]) ++ ((l).map Rec.cells)) ++ ([[iv x.t, iv x.kind, iv x.a, iv x.b, sv x.text]]))) (fun u => .agg #[iv o, u]) 11 [[], [0], [], [], [3], [2, 4], [], [6], [5, 7], [1, 8], []] (fun i => match i with | 0 => pv (pt w0.heap.size) | 1 => pv (iv o) | 2 => fun v E => E = [] | 3 => pv (.pointer (some ⟨w0.heap.size, 1, none⟩)) | 4 => pv (lv) | 5 => fun v E => E = [] | 6 => pv (.agg #[iv x.t, iv x.kind, iv x.a, iv x.b, sv x.text]) | 7 => pm (fun b : Nat => .slice (some ⟨b, 0, none⟩) 1 1) (fun b => [own (.slice (some ⟨b, 0, none⟩) 1 1) 27 5 [[iv x.t, iv x.kind, iv x.a, iv x.b, sv x.text]]]) (fun _ => True) | 8 => fun v E => E = [] | 9 => fun v E => E = [] | 10 => pm (fun b : Nat => pt b) (fun b => [blk b [iv 0, .slice none 0 0] 25]) (fun _ => True) | _ => fun _ _ => False) Z Y (by kernel_rfl) (by kernel_rfl) (by kernel_rfl) (by decide) (by decide) (by decide) (by decide) (by decide) ?_ ?_ ?_ ?_ ?_ ?_ ?_
 ·intro i v E h
  match i, h with
  | 0, _ => exact by decide
  | 1, _ => exact by decide
  | 2, _ => exact by decide
  | 3, _ => exact by decide
  | 4, _ => exact by decide
  | 5, _ => exact by decide
  | 6, _ => exact by decide
  | 7, _ => exact by decide
  | 8, _ => exact by decide
  | 9, _ => exact by decide
  | 10, _ => exact by decide
  | i + 11, h => exact h.elim
 ·intro i hi h0 h1 h2 h3 e
  match i, hi, h0, h1, h2, h3 with
  | 0, _, _, _, _, _ =>
   intro w Y
   exact OpV.g (ay (v := pt w0.heap.size) rfl (by kernel_rfl))
  | 1, _, _, _, _, _ =>
   rintro _ _ ⟨rfl, rfl⟩
   intro w Y
   exact OpV.g (aj (Y.get (k := 3) rfl) rfl (Tryd.isAgg3 _) rfl)
  | 2, _, h, _, _, _ => exact absurd rfl h
  | 3, _, _, _, _, _ =>
   intro w Y
   exact OpV.g (ay (v := .pointer (some ⟨w0.heap.size, 1, none⟩)) rfl (by kernel_rfl))
  | 4, _, _, _, _, _ =>
   rintro _ _ ⟨rfl, rfl⟩
   intro w Y
   exact OpV.g (aj (Y.get (k := 3) rfl) rfl (Tryd.isAgg23 _) rfl)
  | 5, _, _, h, _, _ => exact absurd rfl h
  | 6, _, _, _, _, _ =>
   intro w Y
   exact OpV.g (ar (Y.get (k := 2) rfl) rfl (Tryd.isAgg27 _) (Tryd.sizeOf27 _))
  | 7, _, _, _, _, _ =>
   rintro _ _ ⟨rfl, rfl⟩
   intro w Y
   exact aK (E := 27) (sz := 5) rfl [[iv x.t, iv x.kind, iv x.a, iv x.b, sv x.text]] (fun _ => by kernel_rfl) (by simp) rfl (by decide)
  | 8, _, _, _, h, _ => exact absurd rfl h
  | 9, _, _, _, _, h => exact absurd rfl h
  | 10, _, _, _, _, _ =>
   intro w Y
   exact gZ (Tryd.zeroValue25 _) (cs := [iv 0, .slice none 0 0]) rfl
 ·intro w Y
  exact OpR.to_own (f := fun b : Nat => .slice (some ⟨b, 0, none⟩) 0 0) (e := fun v => own v 27 5 []) (aK (E := 27) (sz := 5) rfl [] (fun _ => by kernel_rfl) (by simp) rfl (by decide)) (fun v => rfl)
 ·rintro s1 _ rfl _ _ ⟨rfl, rfl⟩
  intro w Y
  replace Y : St No w0 (own s1 27 5 ([]) :: _) w := Y
  exact (cw (Y.get (k := 0) rfl) rfl rfl (Y.arg hlv) Tryd.underlying23 (inf := Tryd.t27) (z := .agg #[iv 0, iv 0, iv 0, iv 0, .string (⟨#[]⟩)]) rfl rfl rfl rfl (by decide) (by first | (simp [Value.oneCell', yv, wv, sv]; done) | exact ey (by intro e he; obtain ⟨p, _, rfl⟩ := List.mem_map.1 he; exact ⟨p, rfl⟩)) (by have hby : Tryd.t27.bytes = 48 := rfl; simp only [big, hby, List.length_append, List.length_map, List.length_cons, List.length_nil]; omega) (by have hby : Tryd.t27.bytes = 48 := rfl; simp only [big, hby, List.length_append, List.length_map, List.length_cons, List.length_nil]; omega)).mono fun v w' ⟨h1, h2, h3⟩ => ⟨h1, h2, h3, rfl⟩
 ·rintro s2 _ rfl _ _ ⟨b3, rfl, -, rfl⟩
  intro w Y
  replace Y : St No w0 (own s2 27 5 (([]) ++ ((l).map Rec.cells)) :: _) w := Y
  exact (cw (Y.get (k := 0) rfl) rfl rfl (Y.ownAt (i := 1) rfl) Tryd.underlying23 (inf := Tryd.t27) (z := .agg #[iv 0, iv 0, iv 0, iv 0, .string (⟨#[]⟩)]) rfl rfl rfl rfl (by decide) (by first | (simp [Value.oneCell', yv, wv, sv]; done) | exact ey (by intro e he; obtain ⟨p, _, rfl⟩ := List.mem_map.1 he; exact ⟨p, rfl⟩)) (by have hby : Tryd.t27.bytes = 48 := rfl; simp only [big, hby, List.length_append, List.length_map, List.length_cons, List.length_nil]; omega) (by have hby : Tryd.t27.bytes = 48 := rfl; simp only [big, hby, List.length_append, List.length_map, List.length_cons, List.length_nil]; omega)).mono fun v w' ⟨h1, h2, h3⟩ => ⟨h1, h2, h3, rfl⟩
 ·rintro _ _ ⟨rfl, rfl⟩ s4 _ rfl
  intro w Y
  have Y : St No w0 (own s4 27 5 ((([]) ++ ((l).map Rec.cells)) ++ ([[iv x.t, iv x.kind, iv x.a, iv x.b, sv x.text]])) :: _) w := Y
  obtain ⟨_, _, _, esl⟩ := jS (Y.ownAt (i := 0) rfl)
  exact OpV.hopv (OpV.g (bt (v := .agg #[iv o, s4]) rfl (by rw [esl]; kernel_rfl))) rfl
 clear Z Y
 rintro vq _ _ ⟨⟨rfl, rfl⟩, -⟩ _ _ ⟨⟨rfl, rfl⟩, -⟩ s1 _ ⟨rfl, -, -⟩ _ _ ⟨⟨rfl, rfl⟩, -⟩ _ _ ⟨⟨rfl, rfl⟩, -⟩ s2 _ ⟨rfl, -, -⟩ _ _ ⟨⟨rfl, rfl⟩, -⟩ _ _ ⟨⟨b3, rfl, -, rfl⟩, -⟩ s4 _ ⟨rfl, hvq, -⟩ _ _ ⟨rfl, -, hv3⟩ _ _ ⟨⟨b5, rfl, -, rfl⟩, -⟩ a w5 Z Y
 obtain rfl := hvq rfl
 obtain rfl := hv3 rfl
 replace Z : Fr 27 [(7, _), (8, _), (9, _), (10, _), (11, _), (12, _), (13, _), (14, _), (15, _), (16, _), (6, _), (0, _), (1, _), (2, _), (3, _), (4, _), (5, _)] [] a := Z
 replace Y : St No w0 [own (.slice (some ⟨b3, 0, none⟩) 1 1) 27 5 ([[iv x.t, iv x.kind, iv x.a, iv x.b, sv x.text]]), blk b5 [iv 0, .slice none 0 0] 25, own s4 27 5 ((([]) ++ ((l).map Rec.cells)) ++ ([[iv x.t, iv x.kind, iv x.a, iv x.b, sv x.text]])), blk w2.heap.size [iv 0, .slice none 0 0] 25, blk w1.heap.size [iv x.t, iv x.kind, iv x.a, iv x.b, sv x.text] 27, blk w0.heap.size [iv o, lv] 25] w5 := Y
 replace Y : St No w0 [own (.slice (some ⟨b3, 0, none⟩) 1 1) 27 5 ([[iv x.t, iv x.kind, iv x.a, iv x.b, sv x.text]]), blk b5 [iv 0, .slice none 0 0] 25, own s4 27 5 ((l ++ [x]).map Rec.cells), blk w2.heap.size [iv 0, .slice none 0 0] 25, blk w1.heap.size [iv x.t, iv x.kind, iv x.a, iv x.b, sv x.text] 27, blk w0.heap.size [iv o, lv] 25] w5 := by rw [List.map_append]; exact Y
 refine ab <| bd (k := 11) 12 [11] (by kernel_rfl) (by kernel_rfl) (by kernel_rfl) ?_
 refine bT (us := [iv o, s4]) 1 Z Y rfl rfl rfl (Tryd.sizeOf25 _) (by intro z hz; simp only [List.mem_cons, List.not_mem_nil, or_false] at hz; rcases hz with rfl | rfl <;> first | rfl | exact SlAt.one (Y.ownAt (i := 2) rfl)) (lb rfl) (ds := [iv o, s4]) rfl rfl ?_
 clear Z Y
 intro a w6 Z Y
 refine ab <| bl (by kernel_rfl) ?_
 refine hK2 _ _ ?_
 replace Z : Fr 27 [(2, _), (4, _), (5, _), (6, _)] [] a := Z.pick [2, 4, 5, 6]
 replace Y : St No w0 [_, _, _, _] w6 := Y.mask [false, true, true, true, false, true]
 refine ac fun K3 hK3 => aa fun K4 hK4 => wlv Z (ar (Y.get (k := 3) rfl) rfl (Tryd.isAgg25 _) (Tryd.sizeOf25 _)) fun a Z => al Z Y (by decide) Tryd.call16 rfl (dw o lv l _ (Y.arg hlv)) ?_
 clear Z Y
 intro a w7 Z Y
 refine wlv Z (bq rfl) fun a Z => wlm Z rfl fun a Z => ?_
 rcases Bool.eq_false_or_eq_true (!(logOk o l)) with hb6 | hb6
 ·rw [hb6] at Z
  try simp only [qz] at hb6
  exfalso; obtain ⟨h1, h2⟩ := ge hok; simp [h1, h2] at hb6
 rw [hb6] at Z
 try simp only [qz] at hb6
 refine wly Z (ar (Y.get (k := 0) rfl) rfl (Tryd.isAgg25 _) (Tryd.sizeOf25 _)) fun a Z => aW Z Y (by decide) rfl (by decide) rfl Tryd.call16 rfl (dw o s4 (l ++ [x]) _ (Y.ownAt (i := 1) rfl)) ?_
 clear Z Y
 intro a w8 Z Y
 refine wly Z (bq rfl) fun a Z => wlv Z (aw rfl rfl) fun a Z => ab (hK4 _ _ ?_)
 replace Z : Fr 27 [(4, _), (5, _), (6, _), (24, _)] [] a := Z.pick [4, 5, 6, 24]
 replace Y : St No w0 [_, _, _] w8 := Y.mask [true, true, true, false]
 refine aC Z rfl (fun hc7 => ?_) (fun hc7 => ?_)
 ·rw [hc7] at Z
  try simp only [qz] at hc7
  exfalso; obtain ⟨h1, h2⟩ := ge hok; simp [h1, h2] at hc7
 rw [hc7] at Z
 try simp only [qz] at hc7
 refine ao <| hK3 _ _ <| aa fun K5 hK5 => wlv Z (ar (Y.get (k := 0) rfl) rfl (Tryd.isAgg25 _) (Tryd.sizeOf25 _)) fun a Z => bT (us := [iv o, s4]) 2 Z Y rfl rfl rfl (Tryd.sizeOf25 _) (by intro z hz; simp only [List.mem_cons, List.not_mem_nil, or_false] at hz; rcases hz with rfl | rfl <;> first | rfl | exact SlAt.one (Y.ownAt (i := 1) rfl)) (lb rfl) (ds := [iv o, s4]) rfl rfl ?_
 clear Z Y
 intro a w9 Z Y
 refine wla Z rfl fun a Z => ab (hK5 _ _ <| au ?_)
 refine aq Z Tryd.results13 (aO rfl (bW (Y.get (k := 2) rfl) (Tryd.isAgg25 _) (Tryd.sizeOf25 _)) (ae rfl ah)) ?_
 exact ⟨_, rfl, trivial, Y.ext, St.out (E := [own _ 27 5 ((l ++ [x]).map Rec.cells)]) (H := []) (Y.select [1] (by decide))⟩
theorem mR (o : Int) (lv : Value) (l : List Rec) (x : Rec) (w0 : World) (hlv : SlAt w0 lv 5 (l.map Rec.cells)) (hll : l.length ≤ 1000) (hok : addOk o l x = false) :
  Ret Tryd.prog 13 #[.agg #[iv o, lv], .agg #[iv x.t, iv x.kind, iv x.a, iv x.b, sv x.text]] w0 (MemR w0 (fun v : Value => .tuple #[.agg #[iv 0, v], iv 110]) (fun v => [own v 27 5 (([] : List Rec).map Rec.cells)]) (fun _ => True)) := by
 refine aG Tryd.func13 rfl Tryd.ntmps13 (lb rfl) fun a Z => ?_
 replace Z : Fr 27 [(0, _), (1, _)] [] a := Z
 replace Y : St No w0 [] w0 := St.init w0
 refine aa fun K1 hK1 => bn Z Y (by decide) rfl (cs := [iv o, lv]) rfl ?_
 clear Z Y
 intro a w1 Z Y
 refine bn Z Y (by decide) rfl (cs := [iv x.t, iv x.kind, iv x.a, iv x.b, sv x.text]) rfl ?_
 clear Z Y
 intro a w2 Z Y
 refine aD Z Y (by decide) (Tryd.zeroValue25 _) (cs := [iv 0, .slice none 0 0]) rfl ?_
 clear Z Y
 intro a w3 Z Y
 refine wla Z rfl fun a Z => ab (hK1 _ _ <| ac fun K2 hK2 => ?_)
 refine aN (by kernel_rfl) (aQ (by kernel_rfl) fun w4 hxz => ?_)
 replace Y := Y.grow hxz
 refine bp (k := 0) 11 [9, 10] Z (by kernel_rfl) (by kernel_rfl) (by kernel_rfl) (by rfl) ?_
 replace Z : Fr 27 [(0, _), (1, _), (2, _), (3, _), (4, _), (5, _)] [] a := Z.pick [0, 1, 2, 3, 4, 5]
 refine dm 2 5 8 9 (fun v => own v 27 5 ([])) (fun v => own v 27 5 (([]) ++ ((l).map Rec.cells))) (fun v => own v 27 5 ((([]) ++ ((l).map Rec.cells)) ++ ([[iv x.t, iv x.kind, iv x.a, iv x.b, sv x.text]]))) (fun u => .agg #[iv o, u]) 11 [[], [0], [], [], [3], [2, 4], [], [6], [5, 7], [1, 8], []] (fun i => match i with | 0 => pv (pt w0.heap.size) | 1 => pv (iv o) | 2 => fun v E => E = [] | 3 => pv (.pointer (some ⟨w0.heap.size, 1, none⟩)) | 4 => pv (lv) | 5 => fun v E => E = [] | 6 => pv (.agg #[iv x.t, iv x.kind, iv x.a, iv x.b, sv x.text]) | 7 => pm (fun b : Nat => .slice (some ⟨b, 0, none⟩) 1 1) (fun b => [own (.slice (some ⟨b, 0, none⟩) 1 1) 27 5 [[iv x.t, iv x.kind, iv x.a, iv x.b, sv x.text]]]) (fun _ => True) | 8 => fun v E => E = [] | 9 => fun v E => E = [] | 10 => pm (fun b : Nat => pt b) (fun b => [blk b [iv 0, .slice none 0 0] 25]) (fun _ => True) | _ => fun _ _ => False) Z Y (by kernel_rfl) (by kernel_rfl) (by kernel_rfl) (by decide) (by decide) (by decide) (by decide) (by decide) ?_ ?_ ?_ ?_ ?_ ?_ ?_
 ·intro i v E h
  match i, h with
  | 0, _ => exact by decide
  | 1, _ => exact by decide
  | 2, _ => exact by decide
  | 3, _ => exact by decide
  | 4, _ => exact by decide
  | 5, _ => exact by decide
  | 6, _ => exact by decide
  | 7, _ => exact by decide
  | 8, _ => exact by decide
  | 9, _ => exact by decide
  | 10, _ => exact by decide
  | i + 11, h => exact h.elim
 ·intro i hi h0 h1 h2 h3 e
  match i, hi, h0, h1, h2, h3 with
  | 0, _, _, _, _, _ =>
   intro w Y
   exact OpV.g (ay (v := pt w0.heap.size) rfl (by kernel_rfl))
  | 1, _, _, _, _, _ =>
   rintro _ _ ⟨rfl, rfl⟩
   intro w Y
   exact OpV.g (aj (Y.get (k := 3) rfl) rfl (Tryd.isAgg3 _) rfl)
  | 2, _, h, _, _, _ => exact absurd rfl h
  | 3, _, _, _, _, _ =>
   intro w Y
   exact OpV.g (ay (v := .pointer (some ⟨w0.heap.size, 1, none⟩)) rfl (by kernel_rfl))
  | 4, _, _, _, _, _ =>
   rintro _ _ ⟨rfl, rfl⟩
   intro w Y
   exact OpV.g (aj (Y.get (k := 3) rfl) rfl (Tryd.isAgg23 _) rfl)
  | 5, _, _, h, _, _ => exact absurd rfl h
  | 6, _, _, _, _, _ =>
   intro w Y
   exact OpV.g (ar (Y.get (k := 2) rfl) rfl (Tryd.isAgg27 _) (Tryd.sizeOf27 _))
  | 7, _, _, _, _, _ =>
   rintro _ _ ⟨rfl, rfl⟩
   intro w Y
   exact aK (E := 27) (sz := 5) rfl [[iv x.t, iv x.kind, iv x.a, iv x.b, sv x.text]] (fun _ => by kernel_rfl) (by simp) rfl (by decide)
  | 8, _, _, _, h, _ => exact absurd rfl h
  | 9, _, _, _, _, h => exact absurd rfl h
  | 10, _, _, _, _, _ =>
   intro w Y
   exact gZ (Tryd.zeroValue25 _) (cs := [iv 0, .slice none 0 0]) rfl
 ·intro w Y
  exact OpR.to_own (f := fun b : Nat => .slice (some ⟨b, 0, none⟩) 0 0) (e := fun v => own v 27 5 []) (aK (E := 27) (sz := 5) rfl [] (fun _ => by kernel_rfl) (by simp) rfl (by decide)) (fun v => rfl)
 ·rintro s1 _ rfl _ _ ⟨rfl, rfl⟩
  intro w Y
  replace Y : St No w0 (own s1 27 5 ([]) :: _) w := Y
  exact (cw (Y.get (k := 0) rfl) rfl rfl (Y.arg hlv) Tryd.underlying23 (inf := Tryd.t27) (z := .agg #[iv 0, iv 0, iv 0, iv 0, .string (⟨#[]⟩)]) rfl rfl rfl rfl (by decide) (by first | (simp [Value.oneCell', yv, wv, sv]; done) | exact ey (by intro e he; obtain ⟨p, _, rfl⟩ := List.mem_map.1 he; exact ⟨p, rfl⟩)) (by have hby : Tryd.t27.bytes = 48 := rfl; simp only [big, hby, List.length_append, List.length_map, List.length_cons, List.length_nil]; omega) (by have hby : Tryd.t27.bytes = 48 := rfl; simp only [big, hby, List.length_append, List.length_map, List.length_cons, List.length_nil]; omega)).mono fun v w' ⟨h1, h2, h3⟩ => ⟨h1, h2, h3, rfl⟩
 ·rintro s2 _ rfl _ _ ⟨b3, rfl, -, rfl⟩
  intro w Y
  replace Y : St No w0 (own s2 27 5 (([]) ++ ((l).map Rec.cells)) :: _) w := Y
  exact (cw (Y.get (k := 0) rfl) rfl rfl (Y.ownAt (i := 1) rfl) Tryd.underlying23 (inf := Tryd.t27) (z := .agg #[iv 0, iv 0, iv 0, iv 0, .string (⟨#[]⟩)]) rfl rfl rfl rfl (by decide) (by first | (simp [Value.oneCell', yv, wv, sv]; done) | exact ey (by intro e he; obtain ⟨p, _, rfl⟩ := List.mem_map.1 he; exact ⟨p, rfl⟩)) (by have hby : Tryd.t27.bytes = 48 := rfl; simp only [big, hby, List.length_append, List.length_map, List.length_cons, List.length_nil]; omega) (by have hby : Tryd.t27.bytes = 48 := rfl; simp only [big, hby, List.length_append, List.length_map, List.length_cons, List.length_nil]; omega)).mono fun v w' ⟨h1, h2, h3⟩ => ⟨h1, h2, h3, rfl⟩
 ·rintro _ _ ⟨rfl, rfl⟩ s4 _ rfl
  intro w Y
  have Y : St No w0 (own s4 27 5 ((([]) ++ ((l).map Rec.cells)) ++ ([[iv x.t, iv x.kind, iv x.a, iv x.b, sv x.text]])) :: _) w := Y
  obtain ⟨_, _, _, esl⟩ := jS (Y.ownAt (i := 0) rfl)
  exact OpV.hopv (OpV.g (bt (v := .agg #[iv o, s4]) rfl (by rw [esl]; kernel_rfl))) rfl
 clear Z Y
 rintro vq _ _ ⟨⟨rfl, rfl⟩, -⟩ _ _ ⟨⟨rfl, rfl⟩, -⟩ s1 _ ⟨rfl, -, -⟩ _ _ ⟨⟨rfl, rfl⟩, -⟩ _ _ ⟨⟨rfl, rfl⟩, -⟩ s2 _ ⟨rfl, -, -⟩ _ _ ⟨⟨rfl, rfl⟩, -⟩ _ _ ⟨⟨b3, rfl, -, rfl⟩, -⟩ s4 _ ⟨rfl, hvq, -⟩ _ _ ⟨rfl, -, hv3⟩ _ _ ⟨⟨b5, rfl, -, rfl⟩, -⟩ a w5 Z Y
 obtain rfl := hvq rfl
 obtain rfl := hv3 rfl
 replace Z : Fr 27 [(7, _), (8, _), (9, _), (10, _), (11, _), (12, _), (13, _), (14, _), (15, _), (16, _), (6, _), (0, _), (1, _), (2, _), (3, _), (4, _), (5, _)] [] a := Z
 replace Y : St No w0 [own (.slice (some ⟨b3, 0, none⟩) 1 1) 27 5 ([[iv x.t, iv x.kind, iv x.a, iv x.b, sv x.text]]), blk b5 [iv 0, .slice none 0 0] 25, own s4 27 5 ((([]) ++ ((l).map Rec.cells)) ++ ([[iv x.t, iv x.kind, iv x.a, iv x.b, sv x.text]])), blk w2.heap.size [iv 0, .slice none 0 0] 25, blk w1.heap.size [iv x.t, iv x.kind, iv x.a, iv x.b, sv x.text] 27, blk w0.heap.size [iv o, lv] 25] w5 := Y
 replace Y : St No w0 [own (.slice (some ⟨b3, 0, none⟩) 1 1) 27 5 ([[iv x.t, iv x.kind, iv x.a, iv x.b, sv x.text]]), blk b5 [iv 0, .slice none 0 0] 25, own s4 27 5 ((l ++ [x]).map Rec.cells), blk w2.heap.size [iv 0, .slice none 0 0] 25, blk w1.heap.size [iv x.t, iv x.kind, iv x.a, iv x.b, sv x.text] 27, blk w0.heap.size [iv o, lv] 25] w5 := by rw [List.map_append]; exact Y
 refine ab <| bd (k := 11) 12 [11] (by kernel_rfl) (by kernel_rfl) (by kernel_rfl) ?_
 refine bT (us := [iv o, s4]) 1 Z Y rfl rfl rfl (Tryd.sizeOf25 _) (by intro z hz; simp only [List.mem_cons, List.not_mem_nil, or_false] at hz; rcases hz with rfl | rfl <;> first | rfl | exact SlAt.one (Y.ownAt (i := 2) rfl)) (lb rfl) (ds := [iv o, s4]) rfl rfl ?_
 clear Z Y
 intro a w6 Z Y
 refine ab <| bl (by kernel_rfl) ?_
 refine hK2 _ _ ?_
 replace Z : Fr 27 [(2, _), (4, _), (5, _), (6, _)] [] a := Z.pick [2, 4, 5, 6]
 replace Y : St No w0 [_, _, _, _] w6 := Y.mask [false, true, true, true, false, true]
 refine ac fun K3 hK3 => aa fun K4 hK4 => wlv Z (ar (Y.get (k := 3) rfl) rfl (Tryd.isAgg25 _) (Tryd.sizeOf25 _)) fun a Z => al Z Y (by decide) Tryd.call16 rfl (dw o lv l _ (Y.arg hlv)) ?_
 clear Z Y
 intro a w7 Z Y
 refine wlv Z (bq rfl) fun a Z => wlm Z rfl fun a Z => ?_
 rcases Bool.eq_false_or_eq_true (!(logOk o l)) with hb6 | hb6
 ·rw [hb6] at Z
  try simp only [qz] at hb6
  refine wln Z fun a Z => wln Z fun a Z => wln Z fun a Z => wlv Z (aE rfl rfl) fun a Z => ab (hK4 _ _ ?_)
  replace Z : Fr 27 [(4, _), (5, _), (6, _), (24, _)] [] a := Z.pick [4, 5, 6, 24]
  replace Y : St No w0 [_, _, _] w7 := Y.mask [true, true, true, false]
  refine aB Z rfl ?_
  refine aa fun K5 hK5 => wlv Z (bt (v := .agg #[iv 0, .slice none 0 0]) rfl (by kernel_rfl)) fun a Z => az 2 Z Y rfl rfl rfl (Tryd.sizeOf25 _) rfl (lb rfl) (ds := [iv 0, .slice none 0 0]) rfl rfl ?_
  clear Z Y
  intro a w8 Z Y
  refine wla Z rfl fun a Z => ab (hK5 _ _ <| au ?_)
  refine aq Z Tryd.results13 (aO rfl (bW (Y.get (k := 2) rfl) (Tryd.isAgg25 _) (Tryd.sizeOf25 _)) (ae rfl ah)) ?_
  replace Y : St No w0 [own (.slice none 0 0) 27 5 ((([] : List Rec)).map Rec.cells), blk b5 [iv o, s4] 25, own s4 27 5 ((l ++ [x]).map Rec.cells), blk w2.heap.size [iv 0, .slice none 0 0] 25] w8 := Y.nil_own
  exact ⟨.slice none 0 0, rfl, trivial, Y.ext, St.out (E := [own (.slice none 0 0) 27 5 ((([] : List Rec)).map Rec.cells)]) (H := []) (Y.select [0] (by decide))⟩
 rw [hb6] at Z
 try simp only [qz] at hb6
 refine wly Z (ar (Y.get (k := 0) rfl) rfl (Tryd.isAgg25 _) (Tryd.sizeOf25 _)) fun a Z => aW Z Y (by decide) rfl (by decide) rfl Tryd.call16 rfl (dw o s4 (l ++ [x]) _ (Y.ownAt (i := 1) rfl)) ?_
 clear Z Y
 intro a w9 Z Y
 refine wly Z (bq rfl) fun a Z => wlv Z (aw rfl rfl) fun a Z => ab (hK4 _ _ ?_)
 replace Z : Fr 27 [(4, _), (5, _), (6, _), (24, _)] [] a := Z.pick [4, 5, 6, 24]
 replace Y : St No w0 [_, _, _] w9 := Y.mask [true, true, true, false]
 refine aC Z rfl (fun hc7 => ?_) (fun hc7 => ?_)
 ·rw [hc7] at Z
  try simp only [qz] at hc7
  refine aa fun K6 hK6 => wlv Z (bt (v := .agg #[iv 0, .slice none 0 0]) rfl (by kernel_rfl)) fun a Z => az 2 Z Y rfl rfl rfl (Tryd.sizeOf25 _) rfl (lb rfl) (ds := [iv 0, .slice none 0 0]) rfl rfl ?_
  clear Z Y
  intro a w10 Z Y
  refine wla Z rfl fun a Z => ab (hK6 _ _ <| au ?_)
  refine aq Z Tryd.results13 (aO rfl (bW (Y.get (k := 2) rfl) (Tryd.isAgg25 _) (Tryd.sizeOf25 _)) (ae rfl ah)) ?_
  replace Y : St No w0 [own (.slice none 0 0) 27 5 ((([] : List Rec)).map Rec.cells), blk b5 [iv o, s4] 25, own s4 27 5 ((l ++ [x]).map Rec.cells), blk w2.heap.size [iv 0, .slice none 0 0] 25] w10 := Y.nil_own
  exact ⟨.slice none 0 0, rfl, trivial, Y.ext, St.out (E := [own (.slice none 0 0) 27 5 ((([] : List Rec)).map Rec.cells)]) (H := []) (Y.select [0] (by decide))⟩
 rw [hc7] at Z
 try simp only [qz] at hc7
 exfalso; unfold addOk at hok; simp only [hb6, hc7] at hok; simp at hok
theorem gT (o : Int) (lv : Value) (l : List Rec) (kind at_ : Int) (w0 : World) (hlv : SlAt w0 lv 5 (l.map Rec.cells)) :
  Ret Tryd.prog 20 #[.agg #[iv o, lv], iv kind, iv at_] w0 fun v w => v = iv (findH o l kind at_) ∧ Ext No w0 w := by
 have hxb := hlv.2.1
 simp only [List.length_map, big] at hxb
 refine aG Tryd.func20 rfl Tryd.ntmps20 (lb rfl) fun a Z => ?_
 replace Z : Fr 27 [(0, _), (1, _), (2, _)] [] a := Z
 replace Y : St No w0 [] w0 := St.init w0
 refine aa fun K1 hK1 => bn Z Y (by decide) rfl (cs := [iv o, lv]) rfl ?_
 clear Z Y
 intro a w1 Z Y
 refine bn Z Y (by decide) rfl (cs := [iv kind]) rfl ?_
 clear Z Y
 intro a w2 Z Y
 refine bn Z Y (by decide) rfl (cs := [iv at_]) rfl ?_
 clear Z Y
 intro a w3 Z Y
 refine aD Z Y (by decide) (Tryd.zeroValue3 _) (cs := [iv 0]) rfl ?_
 clear Z Y
 intro a w4 Z Y
 refine ab (hK1 _ _ <| ac fun K2 hK2 => ?_)
 refine aa fun K3 hK3 => wlv Z (ar (Y.get (k := 3) rfl) rfl (Tryd.isAgg25 _) (Tryd.sizeOf25 _)) fun a Z => al Z Y (by decide) Tryd.call16 rfl (dw o lv l _ (Y.arg hlv)) ?_
 clear Z Y
 intro a w5 Z Y
 refine wlv Z (bq rfl) fun a Z => ab (hK3 _ _ ?_)
 refine aC Z rfl (fun hc1 => ?_) (fun hc1 => ?_)
 ·rw [hc1] at Z
  try simp only [qz, Bool.and_eq_true, Bool.or_eq_true, Bool.and_eq_false_iff, Bool.or_eq_false_iff] at hc1
  have hlo : logOk o l = false := by simpa using hc1
  refine aa fun K4 hK4 => az 0 Z Y rfl rfl rfl (Tryd.sizeOf3 _) rfl (lb rfl) (ds := [iv (-1)]) rfl rfl ?_
  clear Z Y
  intro a w6 Z Y
  refine ab (hK4 _ _ ?_)
  replace Z : Fr 27 [(3, _), (4, _), (5, _), (6, _)] [] a := Z.pick [3, 4, 5, 6]
  refine au ?_
  refine aq Z Tryd.results20 (aO rfl (cx (Y.get (k := 0) rfl) (Tryd.isAgg3 _)) ah) ?_
  exact ⟨by simp only [retv]; rw [findH, if_neg (by rw [hlo]; decide)]; try rfl, Y.ext⟩
 rw [hc1] at Z
 try simp only [qz, Bool.and_eq_true, Bool.or_eq_true, Bool.and_eq_false_iff, Bool.or_eq_false_iff] at hc1
 have hlo : logOk o l = true := by simpa using hc1
 refine ao <| hK2 _ _ <| ac fun K5 hK5 => aa fun K6 hK6 => wlv Z (ar (Y.get (k := 3) rfl) rfl (Tryd.isAgg25 _) (Tryd.sizeOf25 _)) fun a Z => aZ Z Y (by decide) Tryd.call48 rfl (iF o lv _ l (Y.arg hlv)) ?_
 clear Z Y
 intro a w7 x2 hp Z Y
 revert x2 hp Z Y; rintro z1 hp Z Y
 clear hp
 replace Y : St No w0 [blk z1 [iv o, lv] 25, blk w3.heap.size [iv 0] 3, blk w2.heap.size [iv at_] 3, blk w1.heap.size [iv kind] 3, blk w0.heap.size [iv o, lv] 25] w7 := Y
 refine ab (hK6 _ _ ?_)
 replace Z : Fr 27 [(4, _), (5, _), (6, _), (13, _)] [] a := Z.pick [4, 5, 6, 13]
 replace Y : St No w0 [_, _, _, _] w7 := Y.mask [true, true, true, true, false]
 refine ap ?_
 replace Y : St No w0 [blk w1.heap.size [iv kind] 3, blk w2.heap.size [iv at_] 3, blk w3.heap.size [iv 0] 3, blk z1 [iv o, lv] 25] w7 := Y.select [3, 2, 1, 0] (by decide)
 replace Z : Fr 27 [(4, pt w1.heap.size), (5, pt w2.heap.size), (6, pt w3.heap.size), (13, .func (.func 74) #[] #[pt z1])] [] a := Z.pick [4, 5, 6, 13]
 refine cG (M := No) (w0 := w0) (encs := (encRb l)) (Hi := [blk z1 [iv o, lv] 25]) (Hc := [blk w1.heap.size [iv kind] 3, blk w2.heap.size [iv at_] 3, blk w3.heap.size [iv 0] 3]) (fun pre H => (findF (hitR kind at_) l l.length = findF (hitR kind at_) l (l.length - (pre : List Nat).length)) ∧ H = [blk w1.heap.size [iv kind] 3, blk w2.heap.size [iv at_] 3, blk w3.heap.size [iv 0] 3]) (fun c pre H => c = .ret ∧ ∃ (i : Nat), (findF (hitR kind at_) l l.length = (i : Int)) ∧ H = [blk w1.heap.size [iv kind] 3, blk w2.heap.size [iv at_] 3, blk w3.heap.size [iv (i : Int)] 3]) (fun pre xs H a => ∃ (bA0 : Nat), Fr 27 [(4, pt w1.heap.size), (5, pt w2.heap.size), (6, pt w3.heap.size), (13, .func (.func 74) #[] #[pt z1]), (7, iv (xs : Int)), (8, pt bA0)] [] a ∧ (findF (hitR kind at_) l l.length = findF (hitR kind at_) l (l.length - (pre : List Nat).length)) ∧ H = [blk bA0 [iv ((l.getD xs Rec.z).t), iv ((l.getD xs Rec.z).kind), iv ((l.getD xs Rec.z).a), iv ((l.getD xs Rec.z).b), sv ((l.getD xs Rec.z).text)] 27, blk w1.heap.size [iv kind] 3, blk w2.heap.size [iv at_] 3, blk w3.heap.size [iv 0] 3]) rfl Tryd.call74 Z Y (fD o lv l z1 (by have := ce hlo; omega) (fun H w h => h.arg hlv)) (by decide) (fun _ => rfl) ⟨(by simp), rfl⟩ ?_ ?_ ?_ ?_
 ·clear Z Y
  rintro lp pre xs _ a w8 hnx ⟨hfi, rfl⟩ Z Y
  generalize (join [blk w1.heap.size [iv kind] 3, blk w2.heap.size [iv at_] 3, blk w3.heap.size [iv 0] 3]).foot = M1 at Y ⊢
  replace Z : Fr 27 [(15, .agg #[iv ((l.getD xs Rec.z).t), iv ((l.getD xs Rec.z).kind), iv ((l.getD xs Rec.z).a), iv ((l.getD xs Rec.z).b), sv ((l.getD xs Rec.z).text)]), (14, iv (xs : Int)), (4, pt w1.heap.size), (5, pt w2.heap.size), (6, pt w3.heap.size), (13, .func (.func 74) #[] #[pt z1])] [] a := Z
  refine aa fun K7 hK7 => wla Z rfl fun a Z => ab (hK7 _ _ <| am ?_)
  refine aD Z Y (by decide) (Tryd.zeroValue27 _) (cs := [iv 0, iv 0, iv 0, iv 0, .string (⟨#[]⟩)]) rfl ?_
  clear Z Y
  intro a w9 Z Y
  refine az 0 Z Y rfl rfl rfl (Tryd.sizeOf27 _) rfl (lb rfl) (ds := [iv ((l.getD xs Rec.z).t), iv ((l.getD xs Rec.z).kind), iv ((l.getD xs Rec.z).a), iv ((l.getD xs Rec.z).b), sv ((l.getD xs Rec.z).text)]) rfl rfl ?_
  clear Z Y
  intro a w10 Z Y
  refine ab ?_
  exact ⟨_, ⟨w8.heap.size, Z.pick [4, 5, 6, 13, 7, 8], hfi, rfl⟩, Y⟩
 ·rintro lp pre xs _ a w11 hnx ⟨bA0, Z, hfi, rfl⟩ hout hrec hnl Y
  clear hrec hnl
  generalize (join [blk bA0 [iv ((l.getD xs Rec.z).t), iv ((l.getD xs Rec.z).kind), iv ((l.getD xs Rec.z).a), iv ((l.getD xs Rec.z).b), sv ((l.getD xs Rec.z).text)] 27, blk w1.heap.size [iv kind] 3, blk w2.heap.size [iv at_] 3, blk w3.heap.size [iv 0] 3]).foot = M1 at Y hout ⊢
  refine ap <| aa fun K8 hK8 => wlv Z (ay (v := .pointer (some ⟨bA0, 1, none⟩)) rfl (by kernel_rfl)) fun a Z => wlv Z (aj (Y.get (k := 0) rfl) rfl (Tryd.isAgg3 _) rfl) fun a Z => wlv Z (aj (Y.get (k := 1) rfl) rfl (Tryd.isAgg3 _) rfl) fun a Z => wlv Z (v_eq rfl rfl) fun a Z => wlm Z rfl fun a Z => ?_
  refine jR (N := 27) (df := []) 5 [(25, .bool ((decide ((l.getD xs Rec.z).kind = kind)) && (decide ((l.getD xs Rec.z).t ≤ at_)))), (4, pt w1.heap.size), (5, pt w2.heap.size), (6, pt w3.heap.size), (13, .func (.func 74) #[] #[pt z1]), (7, iv (xs : Int)), (8, pt bA0)] ?_ (fun hj => ?_)
  rotate_left
  ·rcases Bool.eq_false_or_eq_true (decide ((l.getD xs Rec.z).kind = kind)) with hb3 | hb3
   ·rw [hb3] at Z
    have hb3b := hb3
    try simp only [qz, Bool.and_eq_true, Bool.or_eq_true, Bool.and_eq_false_iff, Bool.or_eq_false_iff] at hb3
    refine wly Z (ay (v := pt bA0) rfl (by kernel_rfl)) fun a Z => wly Z (aj (Y.get (k := 0) rfl) rfl (Tryd.isAgg3 _) rfl) fun a Z => wly Z (aj (Y.get (k := 2) rfl) rfl (Tryd.isAgg3 _) rfl) fun a Z => wly Z (v_le rfl rfl) fun a Z => wlv Z (aE rfl rfl) fun a Z => ?_
    refine hj _ ?_
    try rw [hb3b]
    exact Z.pick [25, 4, 5, 6, 13, 7, 8]
   rw [hb3] at Z
   have hb3b := hb3
   try simp only [qz, Bool.and_eq_true, Bool.or_eq_true, Bool.and_eq_false_iff, Bool.or_eq_false_iff] at hb3
   refine wln Z fun a Z => wln Z fun a Z => wln Z fun a Z => wln Z fun a Z => wlv Z (aw rfl rfl) fun a Z => ?_
   refine hj _ ?_
   try rw [hb3b]
   exact Z.pick [25, 4, 5, 6, 13, 7, 8]
  intro a Z
  refine ab (hK8 _ _ ?_)
  refine aC Z rfl (fun hc4 => ?_) (fun hc4 => ?_)
  ·rw [hc4] at Z
   try simp only [qz, Bool.and_eq_true, Bool.or_eq_true, Bool.and_eq_false_iff, Bool.or_eq_false_iff] at hc4
   refine aa fun K9 hK9 => wlm Z rfl fun a Z => az 3 Z Y rfl rfl rfl (Tryd.sizeOf3 _) rfl (lb rfl) (ds := [iv (xs : Int)]) rfl rfl ?_
   clear Z Y
   intro a w12 Z Y
   refine ab (hK9 _ _ ?_)
   replace Z : Fr 27 [(6, _)] [] a := Z.pick [6]
   replace Y : St M1 w11 [_, _, _] w12 := Y.mask [false, true, true, true]
   refine au ?_
   exact ⟨_, ⟨rfl, xs, mz hnx hfi (by unfold hitR; simp only [Bool.and_eq_true, decide_eq_true_eq]; omega), rfl⟩, Y.select [0, 1, 2] (by decide)⟩
  rw [hc4] at Z
  try simp only [qz, Bool.and_eq_true, Bool.or_eq_true, Bool.and_eq_false_iff, Bool.or_eq_false_iff] at hc4
  refine ao ?_
  exact ⟨_, ⟨nA hnx hfi (by unfold hitR; simp only [Bool.and_eq_false_iff, decide_eq_false_iff_not]; omega), rfl⟩, Y.select [1, 2, 3] (by decide)⟩
 ·rintro D pre _ _ a w13 ⟨rfl, rfl⟩ ⟨hfi, rfl⟩ Y Z
  replace Z : Fr 27 [(4, pt w1.heap.size), (5, pt w2.heap.size), (6, pt w3.heap.size), (13, .func (.func 74) #[] #[pt z1])] [{ target := .collected D, args := #[] }] a := Z
  replace Y : St No w0 [obj D (.deferred (some [])), blk w1.heap.size [iv kind] 3, blk w2.heap.size [iv at_] 3, blk w3.heap.size [iv 0] 3, blk z1 [iv o, lv] 25] w13 := Y
  refine hK5 _ _ <| aa fun K10 hK10 => az 3 Z Y rfl rfl rfl (Tryd.sizeOf3 _) rfl (lb rfl) (ds := [iv (-1)]) rfl rfl ?_
  clear Z Y
  intro a w14 Z Y
  refine ab (hK10 _ _ <| au ?_)
  have hD := Y.get (k := 0) rfl
  replace Y := Y.unmark (i := 0) (o' := .deferred none) rfl
  replace Y : St No w0 [blk w1.heap.size [iv kind] 3, blk w2.heap.size [iv at_] 3, blk w3.heap.size [iv (-1)] 3, blk z1 [iv o, lv] 25] _ := Y
  refine bL Z hD Tryd.results20 (aO rfl (cx (Y.get (k := 2) rfl) (Tryd.isAgg3 _)) ah) ?_
  exact ⟨by simp only [retv]; rw [findH, if_pos hlo, mq hfi]; try rfl, Y.ext⟩
 ·rintro D _ pre _ _ a w15 rfl ⟨rfl, i, hfh, rfl⟩ Y Z
  replace Z : Fr 27 [(4, pt w1.heap.size), (5, pt w2.heap.size), (6, pt w3.heap.size), (13, .func (.func 74) #[] #[pt z1])] [{ target := .collected D, args := #[] }] a := Z
  replace Y : St No w0 [obj D (.deferred (some [])), blk w1.heap.size [iv kind] 3, blk w2.heap.size [iv at_] 3, blk w3.heap.size [iv (i : Int)] 3, blk z1 [iv o, lv] 25] w15 := Y
  refine au ?_
  have hD := Y.get (k := 0) rfl
  replace Y := Y.unmark (i := 0) (o' := .deferred none) rfl
  replace Y : St No w0 [blk w1.heap.size [iv kind] 3, blk w2.heap.size [iv at_] 3, blk w3.heap.size [iv (i : Int)] 3, blk z1 [iv o, lv] 25] _ := Y
  refine bL Z hD Tryd.results20 (aO rfl (cx (Y.get (k := 2) rfl) (Tryd.isAgg3 _)) ah) ?_
  exact ⟨by simp only [retv]; rw [findH, if_pos hlo, hfh]; try rfl, Y.ext⟩
theorem eI (o : Int) (lv : Value) (l : List Rec) (w0 : World) (hlv : SlAt w0 lv 5 (l.map Rec.cells)) (hlo : logOk o l = true) :
  Ret Tryd.prog 62 #[.agg #[iv o, lv]] w0 (MemR w0 (fun v : Value => .tuple #[v, .bool true]) (fun v => [own v 9 1 ((codesB l).map fun s => [sv s])]) (fun _ => True)) := by
 have hxb := hlv.2.1
 simp only [List.length_map, big] at hxb
 have hl60 := ce hlo
 refine aG Tryd.func62 rfl Tryd.ntmps62 (lb rfl) fun a Z => ?_
 replace Z : Fr 27 [(0, _)] [] a := Z
 replace Y : St No w0 [] w0 := St.init w0
 refine aa fun K1 hK1 => bn Z Y (by decide) rfl (cs := [iv o, lv]) rfl ?_
 clear Z Y
 intro a w1 Z Y
 refine wla Z rfl fun a Z => wla Z rfl fun a Z => ab (hK1 _ _ <| ac fun K2 hK2 => ?_)
 refine aa fun K3 hK3 => wlv Z (ar (Y.get (k := 0) rfl) rfl (Tryd.isAgg25 _) (Tryd.sizeOf25 _)) fun a Z => al Z Y (by decide) Tryd.call16 rfl (dw o lv l _ (Y.arg hlv)) ?_
 clear Z Y
 intro a w2 Z Y
 refine wlv Z (bq rfl) fun a Z => ab (hK3 _ _ ?_)
 refine aC Z rfl (fun hc1 => ?_) (fun hc1 => ?_)
 ·rw [hc1] at Z
  try simp only [qz] at hc1
  exfalso; simp [hlo] at hc1
 rw [hc1] at Z
 try simp only [qz] at hc1
 refine ao <| hK2 _ _ <| aa fun K4 hK4 => wlv Z (ay (v := .pointer (some ⟨w0.heap.size, 1, none⟩)) rfl (by kernel_rfl)) fun a Z => wlv Z (aj (Y.get (k := 0) rfl) rfl (Tryd.isAgg23 _) rfl) fun a Z => wlv Z ((aM (sT := 23) (Y.arg hlv) rfl rfl (Tryd.runUnderlying23 _)).asi (m' := (l.length : Int)) (by rw [List.length_map])) fun a Z => gL (n := l.length) (E := 9) (sz := 1) rfl rfl ((List.replicate l.length ([] : By)).map fun s => [sv s]) (j8 Tryd.underlying45 (inf := Tryd.t9) rfl rfl rfl rfl (by decide) l.length (by rw [List.map_replicate]; rfl) (by omega) _) (by intro e he; obtain ⟨_, _, rfl⟩ := List.mem_map.1 he; rfl) (by simp) (by simp only [big]; omega) (by decide) Z Y ?_
 clear Z Y
 intro a w3 Z Y
 refine aD Z Y (by decide) (Tryd.zeroValue45 _) (cs := [.slice none 0 0]) rfl ?_
 clear Z Y
 intro a w4 Z Y
 refine az 0 Z Y rfl rfl rfl (Tryd.sizeOf45 _) rfl (lb rfl) (ds := [(.slice (some ⟨w2.heap.size, 0, none⟩) l.length l.length)]) rfl rfl ?_
 clear Z Y
 intro a w5 Z Y
 refine ab (hK4 _ _ ?_)
 replace Z : Fr 27 [(1, _), (2, _), (3, _), (4, _)] [] a := Z.pick [1, 2, 3, 4]
 refine ac fun K5 hK5 => aa fun K6 hK6 => wlv Z (ar (Y.get (k := 2) rfl) rfl (Tryd.isAgg25 _) (Tryd.sizeOf25 _)) fun a Z => aZ Z Y (by decide) Tryd.call48 rfl (iF o lv _ l (Y.arg hlv)) ?_
 clear Z Y
 intro a w6 x2 hp Z Y
 revert x2 hp Z Y; rintro z1 hp Z Y
 clear hp
 replace Y : St No w0 [blk z1 [iv o, lv] 25, blk w3.heap.size [(.slice (some ⟨w2.heap.size, 0, none⟩) l.length l.length)] 45, own (.slice (some ⟨w2.heap.size, 0, none⟩) l.length l.length) 9 1 ((List.replicate l.length ([] : By)).map fun s => [sv s]), blk w0.heap.size [iv o, lv] 25] w6 := Y
 refine ab (hK6 _ _ <| ap ?_)
 replace Y : St No w0 [blk z1 [iv o, lv] 25, blk w3.heap.size [(.slice (some ⟨w2.heap.size, 0, none⟩) l.length l.length)] 45, own (.slice (some ⟨w2.heap.size, 0, none⟩) l.length l.length) 9 1 ((outR l ([] : List Nat).length).map fun s => [sv s]), blk w0.heap.size [iv o, lv] 25] w6 := by rw [show outR l ([] : List Nat).length = _ from nc l]; exact Y
 replace Y : St No w0 [blk w3.heap.size [(.slice (some ⟨w2.heap.size, 0, none⟩) l.length l.length)] 45, own (.slice (some ⟨w2.heap.size, 0, none⟩) l.length l.length) 9 1 ((outR l ([] : List Nat).length).map fun s => [sv s]), blk z1 [iv o, lv] 25] w6 := Y.select [1, 2, 0] (by decide)
 replace Z : Fr 27 [(1, pt w0.heap.size), (2, .slice none 0 0), (3, .bool false), (4, pt w3.heap.size), (14, .agg #[iv o, lv]), (15, .func (.func 74) #[] #[pt z1])] [] a := Z.pick [1, 2, 3, 4, 14, 15]
 refine cG (M := No) (w0 := w0) (encs := (encRb l)) (Hi := [blk z1 [iv o, lv] 25]) (Hc := [blk w3.heap.size [(.slice (some ⟨w2.heap.size, 0, none⟩) l.length l.length)] 45, own (.slice (some ⟨w2.heap.size, 0, none⟩) l.length l.length) 9 1 ((outR l ([] : List Nat).length).map fun s => [sv s])]) (fun pre H => (True) ∧ H = [blk w3.heap.size [(.slice (some ⟨w2.heap.size, 0, none⟩) l.length l.length)] 45, own (.slice (some ⟨w2.heap.size, 0, none⟩) l.length l.length) 9 1 ((outR l (pre : List Nat).length).map fun s => [sv s])]) (fun _ _ _ => False) (fun pre xs H a => ∃ (bA0 : Nat), Fr 27 [(1, pt w0.heap.size), (2, .slice none 0 0), (3, .bool false), (4, pt w3.heap.size), (14, .agg #[iv o, lv]), (15, .func (.func 74) #[] #[pt z1]), (5, iv (xs : Int)), (6, pt bA0)] [] a ∧ (True) ∧ H = [blk bA0 [iv ((l.getD xs Rec.z).t), iv ((l.getD xs Rec.z).kind), iv ((l.getD xs Rec.z).a), iv ((l.getD xs Rec.z).b), sv ((l.getD xs Rec.z).text)] 27, blk w3.heap.size [(.slice (some ⟨w2.heap.size, 0, none⟩) l.length l.length)] 45, own (.slice (some ⟨w2.heap.size, 0, none⟩) l.length l.length) 9 1 ((outR l (pre : List Nat).length).map fun s => [sv s])]) rfl Tryd.call74 Z Y (fD o lv l z1 (by have := ce hlo; omega) (fun H w h => h.arg hlv)) (by decide) (fun _ => rfl) ⟨trivial, rfl⟩ ?_ ?_ ?_ ?_
 ·clear Z Y
  rintro lp pre xs _ a w7 hnx ⟨htr, rfl⟩ Z Y
  generalize (join [blk w3.heap.size [(.slice (some ⟨w2.heap.size, 0, none⟩) l.length l.length)] 45, own (.slice (some ⟨w2.heap.size, 0, none⟩) l.length l.length) 9 1 ((outR l (pre : List Nat).length).map fun s => [sv s])]).foot = M1 at Y ⊢
  replace Z : Fr 27 [(17, .agg #[iv ((l.getD xs Rec.z).t), iv ((l.getD xs Rec.z).kind), iv ((l.getD xs Rec.z).a), iv ((l.getD xs Rec.z).b), sv ((l.getD xs Rec.z).text)]), (16, iv (xs : Int)), (1, pt w0.heap.size), (2, .slice none 0 0), (3, .bool false), (4, pt w3.heap.size), (14, .agg #[iv o, lv]), (15, .func (.func 74) #[] #[pt z1])] [] a := Z
  refine aa fun K7 hK7 => wla Z rfl fun a Z => ab (hK7 _ _ <| am ?_)
  refine aD Z Y (by decide) (Tryd.zeroValue27 _) (cs := [iv 0, iv 0, iv 0, iv 0, .string (⟨#[]⟩)]) rfl ?_
  clear Z Y
  intro a w8 Z Y
  refine az 0 Z Y rfl rfl rfl (Tryd.sizeOf27 _) rfl (lb rfl) (ds := [iv ((l.getD xs Rec.z).t), iv ((l.getD xs Rec.z).kind), iv ((l.getD xs Rec.z).a), iv ((l.getD xs Rec.z).b), sv ((l.getD xs Rec.z).text)]) rfl rfl ?_
  clear Z Y
  intro a w9 Z Y
  refine ab ?_
  exact ⟨_, ⟨w7.heap.size, Z.pick [1, 2, 3, 4, 14, 15, 5, 6], htr, rfl⟩, Y⟩
 ·rintro lp pre xs _ a w10 hnx ⟨bA0, Z, htr, rfl⟩ hout hrec hnl Y
  clear hrec hnl
  generalize (join [blk bA0 [iv ((l.getD xs Rec.z).t), iv ((l.getD xs Rec.z).kind), iv ((l.getD xs Rec.z).a), iv ((l.getD xs Rec.z).b), sv ((l.getD xs Rec.z).text)] 27, blk w3.heap.size [(.slice (some ⟨w2.heap.size, 0, none⟩) l.length l.length)] 45, own (.slice (some ⟨w2.heap.size, 0, none⟩) l.length l.length) 9 1 ((outR l (pre : List Nat).length).map fun s => [sv s])]).foot = M1 at Y hout ⊢
  refine ap <| aN (by kernel_rfl) ?_
  replace Z : Fr 27 [(1, _), (2, _), (3, _), (4, _), (14, _), (15, _), (5, _), (6, _)] [] a := Z.pick [1, 2, 3, 4, 14, 15, 5, 6]
  replace Y : St M1 w10 [own (.slice (some ⟨w2.heap.size, 0, none⟩) l.length l.length) 9 1 ((outR l (pre : List Nat).length).map fun s => [sv s]), blk bA0 [iv ((l.getD xs Rec.z).t), iv ((l.getD xs Rec.z).kind), iv ((l.getD xs Rec.z).a), iv ((l.getD xs Rec.z).b), sv ((l.getD xs Rec.z).text)] 27, blk w3.heap.size [(.slice (some ⟨w2.heap.size, 0, none⟩) l.length l.length)] 45] w10 := Y.select [2, 0, 1] (by decide)
  have hso3 := Y.ownAt (i := 0) rfl
  refine eb [8] (fun q => if q = 8 then own (.slice (some ⟨w2.heap.size, 0, none⟩) l.length l.length) 9 1 ((outR l (pre : List Nat).length).map fun s => [sv s]) else join []) (fun q => if q = 8 then own (.slice (some ⟨w2.heap.size, 0, none⟩) l.length l.length) 9 1 ((outR l ((pre ++ [xs]) : List Nat).length).map fun s => [sv s]) else join []) 9 [[], [], [], [2], [3], [4], [4], [0, 1], [5, 7]] (fun i => match i with | 0 => pv ((.slice (some ⟨w2.heap.size, 0, none⟩) l.length l.length)) | 1 => pv (iv (xs : Int)) | 2 => pv (.agg #[iv ((l.getD xs Rec.z).t), iv ((l.getD xs Rec.z).kind), iv ((l.getD xs Rec.z).a), iv ((l.getD xs Rec.z).b), sv ((l.getD xs Rec.z).text)]) | 3 => pv (.tuple #[sv (eB (l.getD xs Rec.z)), iv (eE (l.getD xs Rec.z))]) | 4 => pv (.tuple #[sv (eB (l.getD xs Rec.z)), iv (eE (l.getD xs Rec.z))]) | 5 => pv (sv (eB (l.getD xs Rec.z))) | 6 => pv (iv (eE (l.getD xs Rec.z))) | 7 => pv (slAddr (.slice (some ⟨w2.heap.size, 0, none⟩) l.length l.length) (xs * 1)) | 8 => fun v E => v = undef ∧ E = [] | _ => fun _ _ => False) (by intro q; by_cases h8 : q = 8; (subst h8; rfl); simp only [h8, if_false]) Z (H := [blk bA0 [iv ((l.getD xs Rec.z).t), iv ((l.getD xs Rec.z).kind), iv ((l.getD xs Rec.z).a), iv ((l.getD xs Rec.z).b), sv ((l.getD xs Rec.z).text)] 27, blk w3.heap.size [(.slice (some ⟨w2.heap.size, 0, none⟩) l.length l.length)] 45]) Y (by kernel_rfl) (by kernel_rfl) (by kernel_rfl) (by kernel_rfl) (by decide) (by decide) ?_ ?_ ?_ ?_ ?_ ?_
  ·intro i v E h
   match i, h with
   | 0, _ => exact by decide
   | 1, _ => exact by decide
   | 2, _ => exact by decide
   | 3, _ => exact by decide
   | 4, _ => exact by decide
   | 5, _ => exact by decide
   | 6, _ => exact by decide
   | 7, _ => exact by decide
   | 8, _ => exact by decide
   | i + 9, h => exact h.elim
  ·intro q v E hq h
   simp only [List.mem_cons, List.not_mem_nil, or_false] at hq
   rcases hq with rfl <;> exact h
  ·intro q hq
   simp only [List.mem_cons, List.not_mem_nil, or_false] at hq
   rcases hq with rfl <;> exact ⟨rfl, rfl⟩
  ·intro i hi hiq e
   match i, hi, hiq with
   | 0, _, _ =>
    intro w Y
    exact OpV.g (aj (Y.get (k := 2) rfl) rfl (Tryd.isAgg45 _) rfl)
   | 1, _, _ =>
    intro w Y
    exact OpV.g (ai rfl)
   | 2, _, _ =>
    intro w Y
    exact OpV.g (ar (Y.get (k := 1) rfl) rfl (Tryd.isAgg27 _) (Tryd.sizeOf27 _))
   | 3, _, _ =>
    rintro _ _ ⟨rfl, rfl⟩
    intro w Y
    exact br Tryd.call22 rfl (fa (l.getD xs Rec.z) _)
   | 4, _, _ =>
    rintro _ _ ⟨rfl, rfl⟩
    intro w Y
    exact OpV.g (ai rfl)
   | 5, _, _ =>
    rintro _ _ ⟨rfl, rfl⟩
    intro w Y
    exact OpV.g (ag rfl rfl)
   | 6, _, _ =>
    rintro _ _ ⟨rfl, rfl⟩
    intro w Y
    exact OpV.g (ag rfl rfl)
   | 7, _, _ =>
    rintro _ _ ⟨rfl, rfl⟩ _ _ ⟨rfl, rfl⟩
    intro w Y
    exact OpV.g ((eW (i := (xs : Int)) hso3 rfl rfl (Tryd.runUnderlying45 _) (Tryd.sizeOf9 _) (by omega) (by have h9 : xs + 1 + pre.length = l.length := hnx; rw [List.length_map, im _ _ (by omega)]; omega)).as (v' := slAddr (.slice (some ⟨w2.heap.size, 0, none⟩) l.length l.length) (xs * 1)) rfl)
   | 8, _, h => exact absurd (by decide) h
  ·intro q hq
   simp only [List.mem_cons, List.not_mem_nil, or_false] at hq
   rcases hq with rfl
   ·rintro _ _ ⟨rfl, rfl⟩ _ _ ⟨rfl, rfl⟩
    intro w h
    exact iZ (k := xs) (j := 0) rfl rfl h (by have h9 : xs + 1 + pre.length = l.length := hnx; rw [List.length_map, im _ _ (by omega)]; omega) (by omega) (Tryd.sizeOf9 _) (by simp [Value.oneCell', yv, wv, sv, Value.cells]) (lb rfl) (els' := ((outR l ((pre ++ [xs]) : List Nat).length).map fun s => [sv s])) (lA hnx _)
  clear Z Y
  rintro _ _ ⟨rfl, rfl⟩ _ _ ⟨rfl, rfl⟩ _ _ ⟨rfl, rfl⟩ _ _ ⟨rfl, rfl⟩ _ _ ⟨rfl, rfl⟩ _ _ ⟨rfl, rfl⟩ _ _ ⟨rfl, rfl⟩ _ _ ⟨rfl, rfl⟩ a w11 Z Y
  replace Z : Fr 27 [(19, _), (20, _), (21, _), (22, _), (18, _), (23, _), (24, _), (25, _), (1, _), (2, _), (3, _), (4, _), (14, _), (15, _), (5, _), (6, _)] [] a := Z
  replace Y : St M1 w10 [own (.slice (some ⟨w2.heap.size, 0, none⟩) l.length l.length) 9 1 ((outR l ((pre ++ [xs]) : List Nat).length).map fun s => [sv s]), blk bA0 [iv ((l.getD xs Rec.z).t), iv ((l.getD xs Rec.z).kind), iv ((l.getD xs Rec.z).a), iv ((l.getD xs Rec.z).b), sv ((l.getD xs Rec.z).text)] 27, blk w3.heap.size [(.slice (some ⟨w2.heap.size, 0, none⟩) l.length l.length)] 45] w11 := Y
  refine ab ?_
  exact ⟨_, ⟨trivial, rfl⟩, Y.select [2, 0] (by decide)⟩
 ·rintro D pre _ _ a w12 ⟨rfl, rfl⟩ ⟨htr, rfl⟩ Y Z
  replace Z : Fr 27 [(1, pt w0.heap.size), (2, .slice none 0 0), (3, .bool false), (4, pt w3.heap.size), (14, .agg #[iv o, lv]), (15, .func (.func 74) #[] #[pt z1])] [{ target := .collected D, args := #[] }] a := Z
  replace Y : St No w0 [obj D (.deferred (some [])), blk w3.heap.size [(.slice (some ⟨w2.heap.size, 0, none⟩) l.length l.length)] 45, own (.slice (some ⟨w2.heap.size, 0, none⟩) l.length l.length) 9 1 ((outR l ((backs l.length l.length) : List Nat).length).map fun s => [sv s]), blk z1 [iv o, lv] 25] w12 := Y
  refine hK5 _ _ <| aa fun K8 hK8 => wlv Z (aj (Y.get (k := 1) rfl) rfl (Tryd.isAgg45 _) rfl) fun a Z => wla Z rfl fun a Z => wla Z rfl fun a Z => ab (hK8 _ _ <| au ?_)
  have hD := Y.get (k := 0) rfl
  replace Y := Y.unmark (i := 0) (o' := .deferred none) rfl
  replace Y : St No w0 [blk w3.heap.size [(.slice (some ⟨w2.heap.size, 0, none⟩) l.length l.length)] 45, own (.slice (some ⟨w2.heap.size, 0, none⟩) l.length l.length) 9 1 ((outR l ((backs l.length l.length) : List Nat).length).map fun s => [sv s]), blk z1 [iv o, lv] 25] _ := Y
  refine bL Z hD Tryd.results62 (ae rfl (ae rfl ah)) ?_
  rw [lV] at Y
  exact ⟨(.slice (some ⟨w2.heap.size, 0, none⟩) l.length l.length), rfl, trivial, Y.ext, St.out (E := [own (.slice (some ⟨w2.heap.size, 0, none⟩) l.length l.length) 9 1 ((codesB l).map fun s => [sv s])]) (H := []) (Y.select [1] (by decide))⟩
 ·rintro D c pre _ _ a w13 _ h
  exact h.elim
theorem lD (o : Int) (lv : Value) (l : List Rec) (w0 : World) (hlv : SlAt w0 lv 5 (l.map Rec.cells)) (hlo : logOk o l = false) :
  Ret Tryd.prog 62 #[.agg #[iv o, lv]] w0 fun v w => v = .tuple #[.slice none 0 0, .bool false] ∧ Ext No w0 w := by
 refine aG Tryd.func62 rfl Tryd.ntmps62 (lb rfl) fun a Z => ?_
 replace Z : Fr 27 [(0, _)] [] a := Z
 replace Y : St No w0 [] w0 := St.init w0
 refine aa fun K1 hK1 => bn Z Y (by decide) rfl (cs := [iv o, lv]) rfl ?_
 clear Z Y
 intro a w1 Z Y
 refine wla Z rfl fun a Z => wla Z rfl fun a Z => ab (hK1 _ _ <| ac fun K2 hK2 => ?_)
 refine aa fun K3 hK3 => wlv Z (ar (Y.get (k := 0) rfl) rfl (Tryd.isAgg25 _) (Tryd.sizeOf25 _)) fun a Z => al Z Y (by decide) Tryd.call16 rfl (dw o lv l _ (Y.arg hlv)) ?_
 clear Z Y
 intro a w2 Z Y
 refine wlv Z (bq rfl) fun a Z => ab (hK3 _ _ ?_)
 refine aC Z rfl (fun hc1 => ?_) (fun hc1 => ?_)
 ·rw [hc1] at Z
  try simp only [qz] at hc1
  refine aa fun K4 hK4 => wla Z rfl fun a Z => wla Z rfl fun a Z => ab (hK4 _ _ <| au ?_)
  refine aq Z Tryd.results62 (ae rfl (ae rfl ah)) ?_
  exact ⟨by rfl, Y.ext⟩
 rw [hc1] at Z
 try simp only [qz] at hc1
 exfalso; simp [hlo] at hc1
end Go.Proofs.YtddfkkdanpmnaaaDoor
