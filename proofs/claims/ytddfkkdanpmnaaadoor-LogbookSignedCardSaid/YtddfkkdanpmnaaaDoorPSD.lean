/- Texts joined: RefC, RefD, RefE, WirA, BldA, WshN, RefI, LgA, LgB, LgC, LgD, LgE, LgF, LgG. -/
import Derived.Test.YtddfkkdanpmnaaaDoorPSC
import Derived.Test.YtddfkkdanpmnaaaDoorPSB
import Derived.Test.YtddfkkdanpmnaaaDoorPSA
import Derived.Laws.StructEq
namespace Go.Proofs.YtddfkkdanpmnaaaDoor
open Go.RowKit Go.PW
set_option linter.unusedVariables false
set_option linter.unusedSimpArgs false
set_option maxRecDepth 4000
theorem lx (v : W8) {q : Nat} (h : q < 8) : v.out.take (4 * (q + 1)) = v.out.take (4 * q) ++ [UInt8.ofNat (v.l.getD q 0#32 >>> 24).toNat, UInt8.ofNat (v.l.getD q 0#32 >>> 16).toNat, UInt8.ofNat (v.l.getD q 0#32 >>> 8).toNat, UInt8.ofNat (v.l.getD q 0#32).toNat] := by
 have : q = 0 ∨ q = 1 ∨ q = 2 ∨ q = 3 ∨ q = 4 ∨ q = 5 ∨ q = 6 ∨ q = 7 := by omega
 rcases this with rfl | rfl | rfl | rfl | rfl | rfl | rfl | rfl <;> simp [W8.out, W8.l, j3]
set_option maxHeartbeats 4000000 in
theorem fg (s : By) (w0 : World) (hs : s.length ≤ 100000000) :
  Ret Tryd.prog 70 #[sv s] w0 fun v w => v = sv (sha s) ∧ Ext No w0 w := by
 have hpb := eC s
 refine aE Tryd.func70 rfl Tryd.ntmps70 (lb rfl) fun a Z => ?_
 replace Z : Fr 56 [(0, _)] [] a := Z
 replace Y : St No w0 [] w0 := St.init w0
 refine aa fun K1 hK1 => wla Z rfl fun a Z => ab (hK1 _ _ <| aa fun K2 hK2 => ?_)
 refine az (E := 133) (sz := 1) rfl [[wv (1779033703#32)], [wv (3144134277#32)], [wv (1013904242#32)], [wv (2773480762#32)], [wv (1359893119#32)], [wv (2600822924#32)], [wv (528734635#32)], [wv (1541459225#32)]] (by kernel_rfl) (by simp) rfl (by decide) (by decide) Z Y ?_
 clear Z Y
 intro a w1 Z Y
 refine wla Z rfl fun a Z => ab (hK2 _ _ <| aa fun K3 hK3 => ?_)
 refine wlm Z rfl fun a Z => ba Z Y (by decide) Tryd.call88 rfl (iN s _ hs) ?_
 clear Z Y
 intro a w2 x1 hp Z Y
 revert x1 hp Z Y; rintro bz hp Z Y
 clear hp
 replace Y : St No w0 [own bz 5 1 ((padded s).map fun b => [yv b]), own (.slice (some ⟨w0.heap.size, 0, none⟩) 8 8) 133 1 ([[wv (1779033703#32)], [wv (3144134277#32)], [wv (1013904242#32)], [wv (2773480762#32)], [wv (1359893119#32)], [wv (2600822924#32)], [wv (528734635#32)], [wv (1541459225#32)]])] w2 := Y
 refine wla Z rfl fun a Z => ab (hK3 _ _ <| ae fun K4 hK4 => ?_)
 refine aa fun K5 hK5 => wla Z rfl fun a Z => ab (hK5 _ _ <| ao ?_)
 replace Y : St No w0 [own bz 5 1 ((padded s).map fun b => [yv b]), own (.slice (some ⟨w0.heap.size, 0, none⟩) 8 8) 133 1 (((blocks h0 (padded s) 0).l).map fun x => [wv x])] w2 := Y
 refine aN (fun m a w => ∃ (q : Nat) (hz : Value), m = (padded s).length / 64 - q ∧ (q ≤ (padded s).length / 64) ∧ Fr 56 [(2, sv ([])), (4, bz), (3, hz), (5, iv ((64 * q : Nat) : Int))] [] a ∧ St No w0 [own hz 133 1 (((blocks h0 (padded s) q).l).map fun x => [wv x]), own bz 5 1 ((padded s).map fun b => [yv b])] w) _ ⟨0, (.slice (some ⟨w0.heap.size, 0, none⟩) 8 8), rfl, Nat.zero_le _, Z.pick [2, 4, 3, 5], Y.select [1, 0] (by decide)⟩ ?_
 rintro _ a w3 ⟨q, hz, rfl, hq, Z, Y⟩
 refine ae fun K6 hK6 => aa fun K7 hK7 => wlm Z rfl fun a Z => wlm Z rfl fun a Z => wlv Z ((aH (sT := 71) (Y.ownAt (i := 1) rfl) rfl rfl (Tryd.runUnderlying71 _)).asi (m' := ((padded s).length : Int)) (by rw [List.length_map])) fun a Z => wlv Z (v_lt rfl rfl) fun a Z => ab (hK7 _ _ ?_)
 refine ay Z rfl (fun hc2 => ?_) (fun hc2 => ?_)
 ·rw [hc2] at Z
  try simp only [qz] at hc2
  have hpl := ef s
  refine ar <| hK6 _ _ <| ae fun K8 hK8 => ao <| am <| wlm Z rfl fun a Z => wlm Z rfl fun a Z => wlm Z rfl fun a Z => wlm Z rfl fun a Z => wlv Z (aU rfl rfl ⟨by omega, by omega⟩) fun a Z => ?_
  refine wlv Z (bP (l := (64 * q)) (h := (64 * q + 64)) (Y.ownAt (i := 1) rfl) rfl rfl rfl Tryd.underlying71 (by kernel_rfl) (.inr (by first | rfl | (rw [show (((64 * q : Nat) : Int) : Int) = (((64 * q) : Nat) : Int) from by omega] <;> rfl))) (.inr (by first | rfl | (rw [show (((64 * q : Nat) : Int) + 64 : Int) = (((64 * q + 64) : Nat) : Int) from by omega] <;> rfl))) (by omega) (by first | (rw [List.length_map]; omega) | (simp <;> omega))) fun a Z => ba Z Y (by decide) Tryd.call89 rfl (kO hz (cut bz 1 (64 * q) (64 * q + 64) (slCap bz)) (blocks h0 (padded s) q) (((padded s).drop (64 * q)).take 64) _ (Y.ownAt (i := 0) rfl) (by have h := ((Y.ownAt (i := 1) rfl).cutm (l := (64 * q)) (h := (64 * q + 64)) (by omega) (by first | omega | (simp; omega))); rwa [show 64 * q + 64 - 64 * q = 64 from by omega] at h) (by simp; omega)) ?_
  clear Z Y
  intro a w4 x4 hp Z Y
  revert x4 hp Z Y; rintro v3 hp Z Y
  clear hp
  replace Y : St No w0 [own v3 133 1 (((block (blocks h0 (padded s) q) (((padded s).drop (64 * q)).take 64)).l).map fun x => [wv x]), own hz 133 1 (((blocks h0 (padded s) q).l).map fun x => [wv x]), own bz 5 1 ((padded s).map fun b => [yv b])] w4 := Y
  refine wla Z rfl fun a Z => ab <| hK8 _ _ ?_
  replace Z : Fr 56 [(2, _), (4, _), (5, _), (3, _)] [] a := Z.pick [2, 4, 5, 3]
  refine am <| wlm Z rfl fun a Z => wlv Z (aU rfl rfl ⟨by omega, by omega⟩) fun a Z => wla Z rfl fun a Z => ab ?_
  replace Y : St No w0 [own v3 133 1 (((blocks h0 (padded s) (q + 1)).l).map fun x => [wv x]), own hz 133 1 (((blocks h0 (padded s) q).l).map fun x => [wv x]), own bz 5 1 ((padded s).map fun b => [yv b])] w4 := Y
  rw [show ((64 * q : Nat) : Int) + 64 = ((64 * (q + 1) : Nat) : Int) from by omega] at Z
  refine ⟨_, ?_, q + 1, v3, rfl, (by omega), Z.pick [2, 4, 3, 5], Y.select [0, 2] (by decide)⟩
  omega
 rw [hc2] at Z
 try simp only [qz] at hc2
 have hpl := ef s
 obtain rfl : q = (padded s).length / 64 := by omega
 refine aI <| hK4 _ _ <| aa fun K9 hK9 => wla Z rfl fun a Z => ab (hK9 _ _ ?_)
 replace Z : Fr 56 [(2, _), (3, _), (6, _)] [] a := Z.pick [2, 3, 6]
 refine ae fun K10 hK10 => aa fun K11 hK11 => wla Z rfl fun a Z => ab (hK11 _ _ <| ao ?_)
 replace Y : St No w0 [own (.slice none 0 0) 5 1 (((blocks h0 (padded s) ((padded s).length / 64)).out.take (4 * 0)).map fun b => [yv b]), own hz 133 1 (((blocks h0 (padded s) ((padded s).length / 64)).l).map fun x => [wv x]), own bz 5 1 ((padded s).map fun b => [yv b])] w3 := Y.nil_own
 refine aN (fun m a w => ∃ (r : Nat) (oz : Value), m = 8 - r ∧ (r ≤ 8) ∧ Fr 56 [(2, sv ([])), (3, hz), (6, oz), (7, iv (r : Int))] [] a ∧ St No w0 [own oz 5 1 (((blocks h0 (padded s) ((padded s).length / 64)).out.take (4 * r)).map fun b => [yv b]), own hz 133 1 (((blocks h0 (padded s) ((padded s).length / 64)).l).map fun x => [wv x])] w) _ ⟨0, .slice none 0 0, rfl, Nat.zero_le _, Z.pick [2, 3, 6, 7], Y.select [0, 1] (by decide)⟩ ?_
 rintro _ a w5 ⟨r, oz, rfl, hr, Z, Y⟩
 refine ae fun K12 hK12 => aa fun K13 hK13 => wlm Z rfl fun a Z => wlv Z (v_lt rfl rfl) fun a Z => ab (hK13 _ _ ?_)
 refine ay Z rfl (fun hc5 => ?_) (fun hc5 => ?_)
 ·rw [hc5] at Z
  try simp only [qz] at hc5
  refine ar <| hK12 _ _ <| ae fun K14 hK14 => ao <| aM (by kernel_rfl) (aR (by kernel_rfl) fun w6 hxz => ?_)
  replace Y := Y.grow hxz
  refine bj (k := 0) 25 [0, 24] Z (by kernel_rfl) (by kernel_rfl) (by kernel_rfl) (by rfl) ?_
  replace Z : Fr 56 [(2, _), (3, _), (6, _), (7, _), (24, _), (25, _)] [] a := Z.pick [2, 3, 6, 7, 24, 25]
  refine aF [24] (fun i => match i with | 24 => pm (fun b : Nat => .slice (some ⟨b, 0, none⟩) 4 4) (fun b => [own (.slice (some ⟨b, 0, none⟩) 4 4) 5 1 [[yv (UInt8.ofNat (((blocks h0 (padded s) ((padded s).length / 64)).l.getD r 0#32) >>> 24).toNat)], [yv (UInt8.ofNat (((blocks h0 (padded s) ((padded s).length / 64)).l.getD r 0#32) >>> 16).toNat)], [yv (UInt8.ofNat (((blocks h0 (padded s) ((padded s).length / 64)).l.getD r 0#32) >>> 8).toNat)], [yv (UInt8.ofNat ((blocks h0 (padded s) ((padded s).length / 64)).l.getD r 0#32).toNat)]]]) (fun _ => True) | _ => fun _ _ => False) 25 [[], [], [], [1, 2], [3], [4], [5], [], [], [7, 8], [9], [10], [11], [], [], [13, 14], [15], [16], [17], [], [], [19, 20], [21], [22], [6, 12, 18, 23]] [oz, hz, iv (r : Int), slAddr hz (r * 1), wv ((blocks h0 (padded s) ((padded s).length / 64)).l.getD r 0#32), wv (((blocks h0 (padded s) ((padded s).length / 64)).l.getD r 0#32) >>> 24), yv (UInt8.ofNat (((blocks h0 (padded s) ((padded s).length / 64)).l.getD r 0#32) >>> 24).toNat), hz, iv (r : Int), slAddr hz (r * 1), wv ((blocks h0 (padded s) ((padded s).length / 64)).l.getD r 0#32), wv (((blocks h0 (padded s) ((padded s).length / 64)).l.getD r 0#32) >>> 16), yv (UInt8.ofNat (((blocks h0 (padded s) ((padded s).length / 64)).l.getD r 0#32) >>> 16).toNat), hz, iv (r : Int), slAddr hz (r * 1), wv ((blocks h0 (padded s) ((padded s).length / 64)).l.getD r 0#32), wv (((blocks h0 (padded s) ((padded s).length / 64)).l.getD r 0#32) >>> 8), yv (UInt8.ofNat (((blocks h0 (padded s) ((padded s).length / 64)).l.getD r 0#32) >>> 8).toNat), hz, iv (r : Int), slAddr hz (r * 1), wv ((blocks h0 (padded s) ((padded s).length / 64)).l.getD r 0#32), yv (UInt8.ofNat ((blocks h0 (padded s) ((padded s).length / 64)).l.getD r 0#32).toNat), undef] Z Y (by kernel_rfl) (by kernel_rfl) (by kernel_rfl) ?_ ?_ ?_
  ·intro i hi hiq
   match i, hi, hiq with
   | 0, _, _ =>
    intro w Y
    exact OpV.g (ah rfl)
   | 1, _, _ =>
    intro w Y
    exact OpV.g (ah rfl)
   | 2, _, _ =>
    intro w Y
    exact OpV.g (ah rfl)
   | 3, _, _ =>
    intro w Y
    exact OpV.g ((aj (i := (r : Int)) (sT := 134) (Y.ownAt (i := 1) rfl) rfl rfl (Tryd.runUnderlying134 _) (Tryd.sizeOf133 _) (by omega) (by rw [List.length_map]; first | omega | (rw [W8.l_len]; omega))).as (v' := slAddr hz (r * 1)) rfl)
   | 4, _, _ =>
    intro w Y
    exact OpV.g (aw (u := wv ((blocks h0 (padded s) ((padded s).length / 64)).l.getD r 0#32)) (i := r) (j := 0) (Y.ownAt (i := 1) rfl) (by rw [List.length_map]; first | omega | (rw [W8.l_len]; omega)) rfl (Tryd.isAgg133 _) (by rw [bq 0#32]; rfl))
   | 5, _, _ =>
    intro w Y
    exact OpV.g (dc (n := 24) rfl rfl)
   | 6, _, _ =>
    intro w Y
    exact OpV.g (de rfl (by kernel_rfl) Tryd.underlying5)
   | 7, _, _ =>
    intro w Y
    exact OpV.g (ah rfl)
   | 8, _, _ =>
    intro w Y
    exact OpV.g (ah rfl)
   | 9, _, _ =>
    intro w Y
    exact OpV.g ((aj (i := (r : Int)) (sT := 134) (Y.ownAt (i := 1) rfl) rfl rfl (Tryd.runUnderlying134 _) (Tryd.sizeOf133 _) (by omega) (by rw [List.length_map]; first | omega | (rw [W8.l_len]; omega))).as (v' := slAddr hz (r * 1)) rfl)
   | 10, _, _ =>
    intro w Y
    exact OpV.g (aw (u := wv ((blocks h0 (padded s) ((padded s).length / 64)).l.getD r 0#32)) (i := r) (j := 0) (Y.ownAt (i := 1) rfl) (by rw [List.length_map]; first | omega | (rw [W8.l_len]; omega)) rfl (Tryd.isAgg133 _) (by rw [bq 0#32]; rfl))
   | 11, _, _ =>
    intro w Y
    exact OpV.g (dc (n := 16) rfl rfl)
   | 12, _, _ =>
    intro w Y
    exact OpV.g (de rfl (by kernel_rfl) Tryd.underlying5)
   | 13, _, _ =>
    intro w Y
    exact OpV.g (ah rfl)
   | 14, _, _ =>
    intro w Y
    exact OpV.g (ah rfl)
   | 15, _, _ =>
    intro w Y
    exact OpV.g ((aj (i := (r : Int)) (sT := 134) (Y.ownAt (i := 1) rfl) rfl rfl (Tryd.runUnderlying134 _) (Tryd.sizeOf133 _) (by omega) (by rw [List.length_map]; first | omega | (rw [W8.l_len]; omega))).as (v' := slAddr hz (r * 1)) rfl)
   | 16, _, _ =>
    intro w Y
    exact OpV.g (aw (u := wv ((blocks h0 (padded s) ((padded s).length / 64)).l.getD r 0#32)) (i := r) (j := 0) (Y.ownAt (i := 1) rfl) (by rw [List.length_map]; first | omega | (rw [W8.l_len]; omega)) rfl (Tryd.isAgg133 _) (by rw [bq 0#32]; rfl))
   | 17, _, _ =>
    intro w Y
    exact OpV.g (dc (n := 8) rfl rfl)
   | 18, _, _ =>
    intro w Y
    exact OpV.g (de rfl (by kernel_rfl) Tryd.underlying5)
   | 19, _, _ =>
    intro w Y
    exact OpV.g (ah rfl)
   | 20, _, _ =>
    intro w Y
    exact OpV.g (ah rfl)
   | 21, _, _ =>
    intro w Y
    exact OpV.g ((aj (i := (r : Int)) (sT := 134) (Y.ownAt (i := 1) rfl) rfl rfl (Tryd.runUnderlying134 _) (Tryd.sizeOf133 _) (by omega) (by rw [List.length_map]; first | omega | (rw [W8.l_len]; omega))).as (v' := slAddr hz (r * 1)) rfl)
   | 22, _, _ =>
    intro w Y
    exact OpV.g (aw (u := wv ((blocks h0 (padded s) ((padded s).length / 64)).l.getD r 0#32)) (i := r) (j := 0) (Y.ownAt (i := 1) rfl) (by rw [List.length_map]; first | omega | (rw [W8.l_len]; omega)) rfl (Tryd.isAgg133 _) (by rw [bq 0#32]; rfl))
   | 23, _, _ =>
    intro w Y
    exact OpV.g (de rfl (by kernel_rfl) Tryd.underlying5)
   | 24, _, h => exact absurd (by simp) h
   | i + 25, h, _ => exact absurd h (by omega)
  ·intro i hi
   simp only [List.mem_cons, List.not_mem_nil, or_false] at hi
   subst hi
   ·intro w Y
    exact aW (E := 5) (sz := 1) rfl [[yv (UInt8.ofNat (((blocks h0 (padded s) ((padded s).length / 64)).l.getD r 0#32) >>> 24).toNat)], [yv (UInt8.ofNat (((blocks h0 (padded s) ((padded s).length / 64)).l.getD r 0#32) >>> 16).toNat)], [yv (UInt8.ofNat (((blocks h0 (padded s) ((padded s).length / 64)).l.getD r 0#32) >>> 8).toNat)], [yv (UInt8.ofNat ((blocks h0 (padded s) ((padded s).length / 64)).l.getD r 0#32).toNat)]] (fun _ => by kernel_rfl) (by simp) rfl (by decide)
  clear Z Y
  rintro _ _ ⟨b6, rfl, -, rfl⟩ a w7 Z Y
  replace Z : Fr 56 [(28, oz), (29, hz), (30, iv (r : Int)), (31, slAddr hz (r * 1)), (32, wv ((blocks h0 (padded s) ((padded s).length / 64)).l.getD r 0#32)), (33, wv (((blocks h0 (padded s) ((padded s).length / 64)).l.getD r 0#32) >>> 24)), (34, yv (UInt8.ofNat (((blocks h0 (padded s) ((padded s).length / 64)).l.getD r 0#32) >>> 24).toNat)), (35, hz), (36, iv (r : Int)), (37, slAddr hz (r * 1)), (38, wv ((blocks h0 (padded s) ((padded s).length / 64)).l.getD r 0#32)), (39, wv (((blocks h0 (padded s) ((padded s).length / 64)).l.getD r 0#32) >>> 16)), (40, yv (UInt8.ofNat (((blocks h0 (padded s) ((padded s).length / 64)).l.getD r 0#32) >>> 16).toNat)), (41, hz), (42, iv (r : Int)), (43, slAddr hz (r * 1)), (44, wv ((blocks h0 (padded s) ((padded s).length / 64)).l.getD r 0#32)), (45, wv (((blocks h0 (padded s) ((padded s).length / 64)).l.getD r 0#32) >>> 8)), (46, yv (UInt8.ofNat (((blocks h0 (padded s) ((padded s).length / 64)).l.getD r 0#32) >>> 8).toNat)), (47, hz), (48, iv (r : Int)), (49, slAddr hz (r * 1)), (50, wv ((blocks h0 (padded s) ((padded s).length / 64)).l.getD r 0#32)), (51, yv (UInt8.ofNat ((blocks h0 (padded s) ((padded s).length / 64)).l.getD r 0#32).toNat)), (52, _), (2, _), (3, _), (6, _), (7, _), (24, _), (25, _)] [] a := Z
  replace Y : St No w0 [_, _, _] w7 := Y
  refine ab <| aY (k := 25) 27 [26] (by kernel_rfl) (by kernel_rfl) (by kernel_rfl) ?_
  refine aS (i := 1) (sT := 71) (inf := Tryd.t5) (z := yv (0 : UInt8)) (b := 0) (off := 0) (m := 0) (c := 0) rfl rfl rfl (Y.ownAt (i := 0) rfl) (by simp) Tryd.underlying71 rfl rfl rfl rfl (by decide) (by simp [Value.oneCell', yv, wv, sv]) (by have hby : Tryd.t5.bytes = 1 := rfl; simp only [big, hby, List.length_append, List.length_map, List.length_take, e8, List.length_cons, List.length_nil]; omega) (by have hby : Tryd.t5.bytes = 1 := rfl; simp only [big, hby, List.length_append, List.length_map, List.length_take, e8, List.length_cons, List.length_nil]; omega) (by decide) Z Y fun a w8 s7 Z Y _ => wla Z rfl fun a Z => ab <| bf (by kernel_rfl) ?_
  refine hK14 _ _ ?_
  replace Z : Fr 56 [(2, _), (3, _), (7, _), (6, _)] [] a := Z.pick [2, 3, 7, 6]
  replace Y : St No w0 [_, _] w8 := Y.mask [false, true, true]
  refine am <| wlm Z rfl fun a Z => wlv Z (aU rfl rfl ⟨by omega, by omega⟩) fun a Z => wla Z rfl fun a Z => ab ?_
  rw [show (((blocks h0 (padded s) ((padded s).length / 64)).out.take (4 * r)).map fun b => [yv b]) ++ ([[yv (UInt8.ofNat (((blocks h0 (padded s) ((padded s).length / 64)).l.getD r 0#32) >>> 24).toNat)], [yv (UInt8.ofNat (((blocks h0 (padded s) ((padded s).length / 64)).l.getD r 0#32) >>> 16).toNat)], [yv (UInt8.ofNat (((blocks h0 (padded s) ((padded s).length / 64)).l.getD r 0#32) >>> 8).toNat)], [yv (UInt8.ofNat ((blocks h0 (padded s) ((padded s).length / 64)).l.getD r 0#32).toNat)]]) = (((blocks h0 (padded s) ((padded s).length / 64)).out.take (4 * (r + 1))).map fun b => [yv b]) from by rw [lx _ (by omega)]; simp] at Y
  refine ⟨_, ?_, r + 1, s7, rfl, (by omega), Z.pick [2, 3, 6, 7], Y.select [0, 1] (by decide)⟩
  omega
 rw [hc5] at Z
 try simp only [qz] at hc5
 obtain rfl : r = 8 := by omega
 rw [show 4 * 8 = 32 from rfl, List.take_of_length_le (by rw [e8]; decide)] at Y
 refine aI <| hK10 _ _ <| aa fun K15 hK15 => wlm Z rfl fun a Z => wlv Z (dq (Y.ownAt (i := 0) rfl) rfl Tryd.underlying71 Tryd.underlying5 Tryd.underlying9) fun a Z => wla Z rfl fun a Z => ab (hK15 _ _ ?_)
 replace Z : Fr 56 [(2, _)] [] a := Z.pick [2]
 refine au ?_
 refine ap Z Tryd.results70 (ac rfl ag) ?_
 exact ⟨by rfl, Y.ext⟩
theorem cC (s : By) (w0 : World) (hs : s.length ≤ 40000000) :
  Ret Tryd.prog 39 #[sv s] w0 fun v w => v = sv (leafH sha s) ∧ Ext No w0 w := by
 refine aE Tryd.func39 rfl Tryd.ntmps39 (lb rfl) fun a Z => ?_
 replace Z : Fr 6 [(0, _)] [] a := Z
 replace Y : St No w0 [] w0 := St.init w0
 refine aa fun K1 hK1 => wla Z rfl fun a Z => ab (hK1 _ _ <| aa fun K2 hK2 => ?_)
 refine wlm Z rfl fun a Z => wlv Z (bw rfl rfl (by (simp only [List.length_append, List.length_cons, List.length_nil]); omega)) fun a Z => al Z Y (by decide) Tryd.call70 rfl (fg (([0]) ++ s) _ (by simp only [List.length_append, List.length_cons, List.length_nil]; omega)) ?_
 clear Z Y
 intro a w1 Z Y
 refine wla Z rfl fun a Z => ab (hK2 _ _ <| au ?_)
 refine ap Z Tryd.results39 (ac rfl ag) ?_
 exact ⟨by rfl, Y.ext⟩
end Go.Proofs.YtddfkkdanpmnaaaDoor
namespace Go.Proofs.YtddfkkdanpmnaaaDoor
open Go.RowKit Go.PW
set_option linter.unusedVariables false
set_option linter.unusedSimpArgs false
set_option maxRecDepth 4000
end Go.Proofs.YtddfkkdanpmnaaaDoor
namespace Go.Proofs.YtddfkkdanpmnaaaDoor
open Go.RowKit Go.PW
set_option linter.unusedVariables false
set_option linter.unusedSimpArgs false
set_option maxRecDepth 4000
end Go.Proofs.YtddfkkdanpmnaaaDoor
namespace Go.Proofs.YtddfkkdanpmnaaaDoor
open Go.RowKit Go.PW
set_option linter.unusedVariables false
set_option linter.unusedSimpArgs false
set_option maxRecDepth 4000
theorem lO {f z : Nat} (h : z < 128 ^ (f + 1)) (hz : 128 ≤ z) : ∃ g, f = g + 1 := by
 cases f with
 | zero => exfalso; simp at h; omega
 | succ g => exact ⟨g, rfl⟩
theorem gL {f z : Nat} (h : z < 128 ^ (f + 1 + 1)) : z / 128 < 128 ^ (f + 1) := by
 rw [Nat.pow_succ] at h
 exact Nat.div_lt_of_lt_mul (by rw [Nat.mul_comm]; exact h)
theorem mU {f z : Nat} (h : 128 ≤ z) : vb (f + 1) z = UInt8.ofNat (z % 128 + 128) :: vb f (z / 128) := by rw [vb, if_neg (by omega)]
theorem mI {f z : Nat} (h : z < 128) : vb f z = [UInt8.ofNat z] := by cases f <;> simp [vb, h]
theorem jm {n : Int} (h : small n) : zz n < 128 ^ (8 + 1) := by
 have := jM h.1 h.2
 have e : (128 : Nat) ^ (8 + 1) = 9223372036854775808 := by decide
 rw [e]; exact this
theorem mj {n : Int} (h : small n) : zz n < 18446744073709551616 := by have := jM h.1 h.2; omega
def gs : Nat → Nat → List (UInt8 × Bool)
 | 0, z => [(UInt8.ofNat (z % 128), true)]
 | f + 1, z => if z < 128 then [(UInt8.ofNat (z % 128), true)] else (UInt8.ofNat (z % 128), false) :: gs f (z / 128)
def enc1 (x : UInt8 × Bool) : UInt8 := if x.2 then x.1 else x.1 ||| 128
def encG (x : UInt8 × Bool) : List Value := [yv x.1, .bool x.2]
def NxG (pre : List (UInt8 × Bool)) (x : UInt8 × Bool) : Prop := pre.length < 9
theorem mB {f z : Nat} (h : ¬ z < 128) : gs (f + 1) z = (UInt8.ofNat (z % 128), false) :: gs f (z / 128) := by rw [gs, if_neg h]
theorem m6 {f z : Nat} (h : z < 128) : gs f z = [(UInt8.ofNat (z % 128), true)] := by cases f <;> simp [gs, h]
theorem or128 : ∀ k, k < 128 → UInt8.ofNat k ||| 128 = UInt8.ofNat (k + 128) := by decide
theorem ng : ∀ (f z : Nat), z < 128 ^ (f + 1) → (gs f z).map enc1 = vb f z
 | 0, z, h => by simp [gs, vb, enc1] at h ⊢; rw [Nat.mod_eq_of_lt h]
 | f + 1, z, h => by
  unfold gs vb
  split
  ·rename_i h1
   simp [enc1, Nat.mod_eq_of_lt h1]
  ·rw [List.map_cons, ng f _ (gL h), enc1]
   simp only [Bool.false_eq_true, if_false]
   rw [or128 _ (Nat.mod_lt _ (by decide))]
def cu (n : Int) : Nat := (n % 18446744073709551616).toNat
theorem v_zz {P : Program} {w : World} {L : List (Nat × Value)} {dst : Option Tmp} {T T' ty : TypeId} {pos : String} {af : Array Edge} {gd : Option (Nat × Bool)} {x y : Operand} {n : Int} (hs : small n)
  (hx : ev L x = some (.int .u64 ((cu n * 2 % 18446744073709551616 : Nat) : Int))) (hy : ev L y = some (.int .u64 ((cu (if n < 0 then -1 else 0) : Nat) : Int))) : OpV P ⟨dst, .binOp .xor T x y T', ty, pos, af, gd⟩ L w (.int .u64 ((zz n : Nat) : Int)) := by
 have h1 := hs.1
 have h2 := hs.2
 by_cases hn : n < 0
 ·rw [if_pos hn] at hy
  have e : zz n = 18446744073709551615 - cu n * 2 % 18446744073709551616 := by unfold zz cu; rw [if_pos hn]; omega
  rw [e]
  exact m8 (Nat.mod_lt _ (by decide)) hx (by rw [hy]; rfl)
 ·rw [if_neg hn] at hy
  have e : zz n = cu n * 2 % 18446744073709551616 := by unfold zz cu; rw [if_neg hn]; omega
  rw [e]
  exact m4 (Nat.mod_lt _ (by decide)) hx (by rw [hy]; rfl)
theorem kG (n : Int) (w0 : World) (hs : small n) :
  Ret Tryd.prog 77 #[iv n] w0 fun v w => v = .int .u64 ((zz n : Nat) : Int) ∧ Ext No w0 w := by
 have hs1 := hs.1
 have hs2 := hs.2
 refine aE Tryd.func77 rfl Tryd.ntmps77 (lb rfl) fun a Z => ?_
 replace Z : Fr 13 [(0, _)] [] a := Z
 replace Y : St No w0 [] w0 := St.init w0
 refine aa fun K1 hK1 => wla Z rfl fun a Z => ab (hK1 _ _ <| ae fun K2 hK2 => ?_)
 refine aa fun K3 hK3 => wlm Z rfl fun a Z => wlv Z (v_lt rfl rfl) fun a Z => ab (hK3 _ _ ?_)
 refine ay Z rfl (fun hc1 => ?_) (fun hc1 => ?_)
 ·rw [hc1] at Z
  try simp only [qz] at hc1
  refine aa fun K4 hK4 => wlm Z rfl fun a Z => wlv Z (iW rfl (by omega) (by omega)) fun a Z => wlv Z ((cO rfl (by kernel_rfl) Tryd.underlying118).asi (m' := (((-n).toNat : Nat) : Int)) (by omega)) fun a Z => wlv Z (lq (m := (-n).toNat) (n := 2) (by omega) rfl rfl) fun a Z => wlv Z (lI (m := ((-n).toNat * 2)) (n := 1) (by omega) (by omega) rfl rfl) fun a Z => wla Z rfl fun a Z => ab (hK4 _ _ ?_)
  replace Z : Fr 13 [(0, _), (2, _)] [] a := Z.pick [0, 2]
  refine au ?_
  refine ap Z Tryd.results77 (ac rfl ag) ?_
  refine ⟨congrArg (Value.int .u64) ?_, Y.ext⟩
  unfold zz
  split <;> omega
 rw [hc1] at Z
 try simp only [qz] at hc1
 refine ar <| hK2 _ _ <| aa fun K5 hK5 => wlm Z rfl fun a Z => wlv Z ((cO rfl (by kernel_rfl) Tryd.underlying118).asi (m' := (((n).toNat : Nat) : Int)) (by omega)) fun a Z => wlv Z (lq (m := (n).toNat) (n := 2) (by omega) rfl rfl) fun a Z => wla Z rfl fun a Z => ab (hK5 _ _ ?_)
 replace Z : Fr 13 [(2, _)] [] a := Z.pick [2]
 refine au ?_
 refine ap Z Tryd.results77 (ac rfl ag) ?_
 refine ⟨congrArg (Value.int .u64) ?_, Y.ext⟩
 unfold zz
 split <;> omega
theorem eh (n : Int) (w0 : World) (hs : small n) :
  Ret Tryd.prog 53 #[iv n] w0 fun v w => v = .tuple #[sv (putI n), iv 0] ∧ Ext No w0 w := by
 refine aE Tryd.func53 rfl Tryd.ntmps53 (lb rfl) fun a Z => ?_
 replace Z : Fr 31 [(0, _)] [] a := Z
 replace Y : St No w0 [] w0 := St.init w0
 refine aa fun K1 hK1 => wla Z rfl fun a Z => wla Z rfl fun a Z => ab (hK1 _ _ <| ae fun K2 hK2 => ?_)
 refine aa fun K3 hK3 => wlm Z rfl fun a Z => wlv Z ((v_lt rfl rfl).asb (b' := false) (by rw [decide_eq_false_iff_not]; have := hs.1; omega)) fun a Z => wlm Z rfl fun a Z => wly Z (ah rfl) fun a Z => wly Z ((v_gt rfl rfl).asb (b' := false) (by rw [decide_eq_false_iff_not]; have := hs.2; omega)) fun a Z => wlv Z (ax rfl rfl) fun a Z => ab (hK3 _ _ <| aL Z rfl ?_)
 refine ar <| hK2 _ _ <| aa fun K4 hK4 => wlm Z rfl fun a Z => al Z Y (by decide) Tryd.call77 rfl (kG n _ hs) ?_
 clear Z Y
 intro a w1 Z Y
 refine wla Z rfl fun a Z => ab (hK4 _ _ ?_)
 replace Z : Fr 31 [(2, _), (3, _), (4, _)] [] a := Z.pick [2, 3, 4]
 refine aa fun K5 hK5 => wla Z rfl fun a Z => ab (hK5 _ _ <| ae fun K6 hK6 => ?_)
 refine ao ?_
 replace Y : St No w0 [own (.slice none 0 0) 5 1 ((([] : By)).map fun b => [yv b])] w1 := Y.nil_own
 refine aN (fun m a w => ∃ (f : Nat) (z : Nat) (bs : By) (v : Value), m = f ∧ (bs ++ vb f z = putI n) ∧ (z < 128 ^ (f + 1)) ∧ (bs.length + f = 8) ∧ (z < 18446744073709551616) ∧ Fr 31 [(2, sv ([])), (3, iv 0), (4, .int .u64 (z : Int)), (5, v)] [] a ∧ St No w0 [own v 5 1 ((bs).map fun b => [yv b])] w) _ ⟨8, zz n, [], .slice none 0 0, rfl, rfl, jm hs, rfl, mj hs, Z.pick [2, 3, 4, 5], Y⟩ ?_
 rintro _ a w2 ⟨f, z, bs, v, rfl, hb, hz, hl, hz6, Z, Y⟩
 refine ae fun K7 hK7 => aa fun K8 hK8 => wlm Z rfl fun a Z => wlv Z (v_ge rfl rfl) fun a Z => ab (hK8 _ _ ?_)
 refine ay Z rfl (fun hc1 => ?_) (fun hc1 => ?_)
 ·rw [hc1] at Z
  try simp only [qz] at hc1
  obtain ⟨g, rfl⟩ := lO hz (by omega)
  rw [mU (by omega)] at hb
  refine ar <| hK7 _ _ <| ao <| aa fun K9 hK9 => wlm Z rfl fun a Z => wlm Z rfl fun a Z => wlv Z (nN (m := z) (n := 128) (by omega) rfl rfl) fun a Z => wlv Z (nr (m := (z % 128)) (n := 128) (by omega) rfl rfl) fun a Z => ?_
  refine wlv Z (eN (n := ((z % 128) + 128)) rfl (by kernel_rfl) Tryd.underlying5) fun a Z => az (E := 5) (sz := 1) rfl [[yv (UInt8.ofNat ((z % 128) + 128))]] (by kernel_rfl) (by simp) rfl (by decide) (by decide) Z Y ?_
  clear Z Y
  intro a w3 Z Y
  refine aS (i := 1) (sT := 71) (inf := Tryd.t5) (z := yv (0 : UInt8)) (b := 0) (off := 0) (m := 0) (c := 0) rfl rfl rfl (Y.ownAt (i := 0) rfl) (by simp) Tryd.underlying71 rfl rfl rfl rfl (by decide) (by simp [Value.oneCell', yv, wv, sv]) (by have hby : Tryd.t5.bytes = 1 := rfl; simp [big, hby] <;> omega) (by have hby : Tryd.t5.bytes = 1 := rfl; simp [big, hby] <;> omega) (by decide) Z Y fun a w4 s2 Z Y _ => ?_
  rw [show ((bs).map fun b => [yv b]) ++ ([[yv (UInt8.ofNat ((z % 128) + 128))]]) = ((bs ++ [(UInt8.ofNat ((z % 128) + 128))]).map fun b => [yv b]) from by simp] at Y
  refine wla Z rfl fun a Z => ab (hK9 _ _ ?_)
  replace Z : Fr 31 [(2, _), (3, _), (4, _), (5, _)] [] a := Z.pick [2, 3, 4, 5]
  replace Y : St No w0 [_] w4 := Y.mask [false, true]
  refine am <| wlm Z rfl fun a Z => wlv Z (nO (m := z) (n := 128) (by omega) (by omega) rfl rfl) fun a Z => wla Z rfl fun a Z => ab ?_
  refine ⟨_, ?_, g, z / 128, bs ++ [UInt8.ofNat (z % 128 + 128)], s2, rfl, (by rw [List.append_assoc]; exact hb), (gL hz), (by rw [List.length_append]; simp; omega), (by omega), Z.pick [2, 3, 4, 5], Y⟩
  omega
 rw [hc1] at Z
 try simp only [qz] at hc1
 rw [mI (by omega)] at hb
 refine aI <| hK6 _ _ <| aa fun K10 hK10 => wlm Z rfl fun a Z => wlm Z rfl fun a Z => wlv Z (eN (n := z) rfl (by kernel_rfl) Tryd.underlying5) fun a Z => az (E := 5) (sz := 1) rfl [[yv (UInt8.ofNat z)]] (by kernel_rfl) (by simp) rfl (by decide) (by decide) Z Y ?_
 clear Z Y
 intro a w5 Z Y
 refine aS (i := 1) (sT := 71) (inf := Tryd.t5) (z := yv (0 : UInt8)) (b := 0) (off := 0) (m := 0) (c := 0) rfl rfl rfl (Y.ownAt (i := 0) rfl) (by simp) Tryd.underlying71 rfl rfl rfl rfl (by decide) (by simp [Value.oneCell', yv, wv, sv]) (by have hby : Tryd.t5.bytes = 1 := rfl; simp [big, hby] <;> omega) (by have hby : Tryd.t5.bytes = 1 := rfl; simp [big, hby] <;> omega) (by decide) Z Y fun a w6 s3 Z Y _ => ?_
 rw [show ((bs).map fun b => [yv b]) ++ ([[yv (UInt8.ofNat z)]]) = ((bs ++ [(UInt8.ofNat z)]).map fun b => [yv b]) from by simp] at Y
 refine wlv Z (dq (Y.ownAt (i := 1) rfl) rfl Tryd.underlying71 Tryd.underlying5 Tryd.underlying9) fun a Z => wla Z rfl fun a Z => wla Z rfl fun a Z => ab (hK10 _ _ ?_)
 replace Z : Fr 31 [(2, _), (3, _)] [] a := Z.pick [2, 3]
 replace Y : St No w0 [] w6 := Y.mask [false, false]
 refine au ?_
 refine ap Z Tryd.results53 (ac rfl (ac rfl ag)) ?_
 exact ⟨by rw [← hb]; rfl, Y.ext⟩
theorem kj (z : Nat) (w0 : World) :
  Ret Tryd.prog 91 #[.int .u64 (z : Int)] w0 (MemR w0 (fun b : Nat => .func (.func 104) #[] #[pt b]) (fun b => [blk b [.int .u64 (z : Int)] 118]) (fun _ => True)) := by
 refine aE Tryd.func91 rfl Tryd.ntmps91 (lb rfl) fun a Z => ?_
 replace Z : Fr 4 [(0, _)] [] a := Z
 replace Y : St No w0 [] w0 := St.init w0
 refine aa fun K1 hK1 => bx Z Y (by decide) rfl (cs := [.int .u64 (z : Int)]) rfl ?_
 clear Z Y
 intro a w1 Z Y
 refine wla Z rfl fun a Z => ab (hK1 _ _ <| aa fun K2 hK2 => ?_)
 refine wlv Z (cf rfl rfl) fun a Z => wla Z rfl fun a Z => ab (hK2 _ _ <| au ?_)
 refine ap Z Tryd.results91 (ac rfl ag) ?_
 exact ⟨w0.heap.size, rfl, trivial, Y.ext, St.out (H := []) Y⟩
theorem jh {M : Nat → Prop} {w0 : World} (z0 lp bg : Nat) (J Jx : List (UInt8 × Bool) → Ent → Prop) (hY : Rounds Tryd.prog M w0 lp encG NxG J Jx) (e0 : Ent) (ws : World) (hz0 : z0 < 128 ^ (8 + 1)) (hz06 : z0 < 18446744073709551616) (hJ : J [] e0) (Y : St M w0 [e0, blk bg [.int .u64 (z0 : Int)] 118] ws) :
  Ret Tryd.prog 104 #[.func (.yield lp) #[] #[], pt bg] ws fun _ w => ∃ e1 Hi1, St M w0 (e1 :: Hi1) w ∧ ((∃ xs, (xs = gs 8 z0 ∧ ∃ z1 : Nat, Hi1 = [blk bg [.int .u64 (z1 : Int)] 118]) ∧ J xs e1) ∨ (∃ pre, (∃ z1 : Nat, Hi1 = [blk bg [.int .u64 (z1 : Int)] 118]) ∧ Jx pre e1)) := by
 refine aE Tryd.func104 rfl Tryd.ntmps104 (lb rfl) fun a Z => ?_
 replace Z : Fr 18 [(0, _), (1, _)] [] a := Z
 skip
 refine ao <| aN (fun m a w => ∃ (f : Nat) (z : Nat) (e : Ent) (dn : List (UInt8 × Bool)), m = f ∧ (dn ++ gs f z = gs 8 z0) ∧ (z < 128 ^ (f + 1)) ∧ (dn.length + f = 8) ∧ (z < 18446744073709551616) ∧ (J dn e) ∧ Fr 18 [(0, .func (.yield lp) #[] #[]), (1, pt bg)] [] a ∧ St M w0 [e, blk bg [.int .u64 (z : Int)] 118] w) _ ⟨8, z0, e0, [], rfl, rfl, hz0, rfl, hz06, hJ, Z.pick [0, 1], Y⟩ ?_
 rintro _ a w1 ⟨f, z, e, dn, rfl, hg, hz, hl, hz6, hJ, Z, Y⟩
 refine ao <| aa fun K1 hK1 => wlv Z (ai (Y.get (k := 1) rfl) rfl (Tryd.isAgg118 _) rfl) fun a Z => wlv Z (v_lt rfl rfl) fun a Z => wla Z rfl fun a Z => ab (hK1 _ _ <| ae fun K2 hK2 => ?_)
 refine aa fun K3 hK3 => wlm Z rfl fun a Z => wlv Z (ai (Y.get (k := 1) rfl) rfl (Tryd.isAgg118 _) rfl) fun a Z => wlv Z ((lM (m := z) (k := 7) (by omega) (by omega) rfl rfl).asi (m' := ((z % 128 : Nat) : Int)) rfl) fun a Z => wlv Z (eN (n := (z % 128)) rfl (by kernel_rfl) Tryd.underlying5) fun a Z => wlm Z rfl fun a Z => wl_r (eq rfl rfl (hY.yield (pre := dn) (x := (UInt8.ofNat (z % 128), decide ((z : Int) < 128))) (by show dn.length < 9; omega) hJ (Y.only (i := 0) rfl))) rfl rfl Z ?_
 clear Z
 intro a v w2 hR Z
 obtain ⟨y1, e2, rfl, hx, hok, hft, hJt, hJf⟩ := hR
 replace Y := Y.exchange (k := 0) rfl hx hok hft
 replace Y : St M w0 [e2, blk bg [.int .u64 (z : Int)] 118] w2 := Y
 clear hx hok hft
 refine wlv Z (bh rfl) fun a Z => wlm Z rfl fun a Z => ?_
 rcases Bool.eq_false_or_eq_true (!y1) with hb3 | hb3
 ·rw [hb3] at Z
  try simp only [qz] at hb3
  have hJ := hJf hb3
  refine wln Z fun a Z => wlv Z (aC rfl rfl) fun a Z => ab (hK3 _ _ ?_)
  replace Z : Fr 18 [(0, _), (1, _), (15, _)] [] a := Z.pick [0, 1, 15]
  refine aQ Z rfl ?_
  refine au ?_
  refine ap Z Tryd.results104 ag ?_
  first | exact ⟨_, _, Y, .inl ⟨_, ⟨rfl, _, rfl⟩, hJ⟩⟩ | exact ⟨_, _, Y, .inr ⟨_, ⟨_, rfl⟩, hJ⟩⟩
 rw [hb3] at Z
 try simp only [qz] at hb3
 have hJ := hJt hb3
 refine wly Z (ah rfl) fun a Z => wlv Z (ax rfl rfl) fun a Z => ab (hK3 _ _ ?_)
 replace Z : Fr 18 [(0, _), (1, _), (15, _)] [] a := Z.pick [0, 1, 15]
 refine ay Z rfl (fun hc4 => ?_) (fun hc4 => ?_)
 ·rw [hc4] at Z
  try simp only [qz] at hc4
  rw [decide_eq_true hc4] at hJ
  rw [m6 (by omega)] at hg
  rw [hg] at hJ
  refine au ?_
  refine ap Z Tryd.results104 ag ?_
  first | exact ⟨_, _, Y, .inl ⟨_, ⟨rfl, _, rfl⟩, hJ⟩⟩ | exact ⟨_, _, Y, .inr ⟨_, ⟨_, rfl⟩, hJ⟩⟩
 rw [hc4] at Z
 try simp only [qz] at hc4
 rw [decide_eq_false hc4] at hJ
 obtain ⟨g, rfl⟩ := lO hz (by omega)
 rw [mB (by omega)] at hg
 refine ar <| hK2 _ _ <| am <| wlv Z (ai (Y.get (k := 1) rfl) rfl (Tryd.isAgg118 _) rfl) fun a Z => wlv Z ((mt (m := z) (n := 7) (by omega) rfl rfl).asi (m' := ((z / 128 : Nat) : Int)) rfl) fun a Z => aG 1 Z Y rfl rfl rfl (Tryd.sizeOf118 _) rfl (lb rfl) (ds := [.int .u64 ((z / 128 : Nat) : Int)]) rfl rfl ?_
 clear Z Y
 intro a w3 Z Y
 refine ab ?_
 refine ⟨_, ?_, g, z / 128, e2, dn ++ [(UInt8.ofNat (z % 128), false)], rfl, (by rw [List.append_assoc]; exact hg), (gL hz), (by rw [List.length_append]; simp; omega), (by omega), hJ, Z.pick [0, 1], Y⟩
 omega
theorem iF {M : Nat → Prop} {w0 : World} (z0 bg : Nat) (hz0 : z0 < 128 ^ (8 + 1)) (hz06 : z0 < 18446744073709551616) :
  Iter Tryd.prog 104 [pt bg] encG NxG (fun xs Hi1 => xs = gs 8 z0 ∧ ∃ z1 : Nat, Hi1 = [blk bg [.int .u64 (z1 : Int)] 118]) (fun pre Hi1 => ∃ z1 : Nat, Hi1 = [blk bg [.int .u64 (z1 : Int)] 118]) M w0 [blk bg [.int .u64 (z0 : Int)] 118] :=
 fun lp J Jx w e hY hJ Y => jh z0 lp bg J Jx hY e w hz0 hz06 hJ Y
theorem gA (n : Int) (w0 : World) (hs : small n) :
  Ret Tryd.prog 75 #[iv n] w0 fun v w => v = .tuple #[sv (putI n), iv 0] ∧ Ext No w0 w := by
 have hs1 := hs.1
 have hs2 := hs.2
 refine aE Tryd.func75 rfl Tryd.ntmps75 (lb rfl) fun a Z => ?_
 replace Z : Fr 33 [(0, _)] [] a := Z
 replace Y : St No w0 [] w0 := St.init w0
 refine aa fun K1 hK1 => wla Z rfl fun a Z => wla Z rfl fun a Z => ab (hK1 _ _ <| ae fun K2 hK2 => ?_)
 refine aa fun K3 hK3 => wlm Z rfl fun a Z => wlv Z ((v_lt rfl rfl).asb (b' := false) (by rw [decide_eq_false_iff_not]; have := hs.1; omega)) fun a Z => wlm Z rfl fun a Z => wly Z (ah rfl) fun a Z => wly Z ((v_gt rfl rfl).asb (b' := false) (by rw [decide_eq_false_iff_not]; have := hs.2; omega)) fun a Z => wlv Z (ax rfl rfl) fun a Z => ab (hK3 _ _ <| aL Z rfl ?_)
 refine ar <| hK2 _ _ <| aa fun K4 hK4 => aO Z Y (by decide) (Tryd.zeroValue71 _) (cs := [.slice none 0 0]) rfl ?_
 clear Z Y
 intro a w1 Z Y
 refine ab (hK4 _ _ ?_)
 replace Z : Fr 33 [(0, _), (2, _), (3, _), (4, _)] [] a := Z.pick [0, 2, 3, 4]
 refine ae fun K5 hK5 => aa fun K6 hK6 => wlm Z rfl fun a Z => wlv Z ((cO rfl (by kernel_rfl) Tryd.underlying118).asi (m' := ((cu (n) : Nat) : Int)) rfl) fun a Z => wlv Z (lF (m := cu n) (n := 1) (by omega) rfl rfl) fun a Z => wlm Z rfl fun a Z => wlv Z (nc (by omega) (by omega) rfl rfl) fun a Z => wlv Z ((cO rfl (by kernel_rfl) Tryd.underlying118).asi (m' := ((cu (if n < 0 then -1 else 0) : Nat) : Int)) rfl) fun a Z => ?_
 refine wlv Z (v_zz hs rfl rfl) fun a Z => ba Z Y (by decide) Tryd.call91 rfl (kj (zz n) _) ?_
 clear Z Y
 intro a w2 x1 hp Z Y
 revert x1 hp Z Y; rintro bg hp Z Y
 clear hp
 replace Y : St No w0 [blk bg [.int .u64 (zz n : Int)] 118, blk w0.heap.size [.slice none 0 0] 71] w2 := Y
 refine ab (hK6 _ _ ?_)
 replace Z : Fr 33 [(2, _), (3, _), (4, _), (20, _)] [] a := Z.pick [2, 3, 4, 20]
 refine ao ?_
 replace Y : St No w0 [own (.slice none 0 0) 5 1 ((([] : List (UInt8 × Bool)).map enc1).map fun b => [yv b]), blk bg [.int .u64 (zz n : Int)] 118, blk w0.heap.size [.slice none 0 0] 71] w2 := Y.nil_own
 replace Y : St No w0 [blk w0.heap.size [.slice none 0 0] 71, own (.slice none 0 0) 5 1 ((([] : List (UInt8 × Bool)).map enc1).map fun b => [yv b]), blk bg [.int .u64 (zz n : Int)] 118] w2 := Y.select [2, 0, 1] (by decide)
 replace Z : Fr 33 [(2, sv ([])), (3, iv 0), (4, pt w0.heap.size), (20, .func (.func 104) #[] #[pt bg])] [] a := Z.pick [2, 3, 4, 20]
 refine cB (M := No) (w0 := w0) (encs := encG) (Hi := [blk bg [.int .u64 (zz n : Int)] 118]) (Hc := [blk w0.heap.size [.slice none 0 0] 71, own (.slice none 0 0) 5 1 ((([] : List (UInt8 × Bool)).map enc1).map fun b => [yv b])]) (fun pre H => ∃ (v : Value), H = [blk w0.heap.size [v] 71, own v 5 1 ((pre.map enc1).map fun b => [yv b])]) (fun _ _ _ => False) (fun pre xs H a => Fr 33 [(2, sv ([])), (3, iv 0), (4, pt w0.heap.size), (20, .func (.func 104) #[] #[pt bg]), (5, yv xs.1), (6, .bool xs.2)] [] a ∧ ∃ (v : Value), H = [blk w0.heap.size [v] 71, own v 5 1 ((pre.map enc1).map fun b => [yv b])]) rfl Tryd.call104 Z Y (iF (zz n) bg (jm hs) (mj hs)) (by decide) (fun _ => rfl) ⟨.slice none 0 0, rfl⟩ ?_ ?_ ?_ ?_
 ·clear Z Y
  rintro lp pre xs _ a w3 hnx ⟨v, rfl⟩ Z Y
  generalize (join [blk w0.heap.size [v] 71, own v 5 1 ((pre.map enc1).map fun b => [yv b])]).foot = M1 at Y ⊢
  replace Z : Fr 33 [(22, .bool xs.2), (21, yv xs.1), (2, sv ([])), (3, iv 0), (4, pt w0.heap.size), (20, .func (.func 104) #[] #[pt bg])] [] a := Z
  refine aa fun K7 hK7 => wla Z rfl fun a Z => ab (hK7 _ _ <| am ?_)
  refine wla Z rfl fun a Z => ab ?_
  exact ⟨_, ⟨Z.pick [2, 3, 4, 20, 5, 6], v, rfl⟩, Y⟩
 ·rintro lp pre xs _ a w4 hnx ⟨Z, v, rfl⟩ hout hrec hnl Y
  clear hrec hnl
  generalize (join [blk w0.heap.size [v] 71, own v 5 1 ((pre.map enc1).map fun b => [yv b])]).foot = M1 at Y hout ⊢
  refine ao <| ae fun K8 hK8 => aa fun K9 hK9 => wlm Z rfl fun a Z => wlv Z (bh rfl) fun a Z => ab (hK9 _ _ ?_)
  refine ay Z rfl (fun hc2 => ?_) (fun hc2 => ?_)
  ·rw [hc2] at Z
   try simp only [qz] at hc2
   refine am <| wlm Z rfl fun a Z => wlv Z (v_yor (a := xs.1) (b := (128 : UInt8)) rfl rfl) fun a Z => wla Z rfl fun a Z => ab <| hK8 _ _ ?_
   replace Z : Fr 33 [(2, _), (3, _), (4, _), (5, _)] [] a := Z.pick [2, 3, 4, 5]
   refine am <| wlv Z (ai (Y.get (k := 0) rfl) rfl (Tryd.isAgg71 _) rfl) fun a Z => wlm Z rfl fun a Z => az (E := 5) (sz := 1) rfl [[yv (xs.1 ||| (128 : UInt8))]] (by kernel_rfl) (by simp) rfl (by decide) (by decide) Z Y ?_
   clear Z Y
   intro a w5 Z Y
   refine aS (i := 2) (sT := 71) (inf := Tryd.t5) (z := yv (0 : UInt8)) (b := 0) (off := 0) (m := 0) (c := 0) rfl rfl rfl (Y.ownAt (i := 0) rfl) (by simp) Tryd.underlying71 rfl rfl rfl rfl (by decide) (by simp [Value.oneCell', yv, wv, sv]) (by have hby : Tryd.t5.bytes = 1 := rfl; have : pre.length < 9 := hnx; simp [big, hby] <;> omega) (by have hby : Tryd.t5.bytes = 1 := rfl; have : pre.length < 9 := hnx; simp [big, hby] <;> omega) (by decide) Z Y fun a w6 s3 Z Y _ => ?_
   rw [show ((pre.map enc1).map fun b => [yv b]) ++ ([[yv (xs.1 ||| (128 : UInt8))]]) = (((pre ++ [xs]).map enc1).map fun b => [yv b]) from by simp [enc1, hc2]] at Y
   refine cF 1 Z Y (Y.ownAt (i := 2) rfl) rfl rfl rfl (Tryd.sizeOf71 _) (lb rfl) (ds := [s3]) rfl rfl ?_
   clear Z Y
   intro a w7 Z Y
   refine ab ?_
   exact ⟨_, ⟨s3, rfl⟩, Y.select [1, 2] (by decide)⟩
  rw [hc2] at Z
  try simp only [qz] at hc2
  refine ar <| hK8 _ _ <| am <| wlv Z (ai (Y.get (k := 0) rfl) rfl (Tryd.isAgg71 _) rfl) fun a Z => wlm Z rfl fun a Z => az (E := 5) (sz := 1) rfl [[yv xs.1]] (by kernel_rfl) (by simp) rfl (by decide) (by decide) Z Y ?_
  clear Z Y
  intro a w8 Z Y
  refine aS (i := 2) (sT := 71) (inf := Tryd.t5) (z := yv (0 : UInt8)) (b := 0) (off := 0) (m := 0) (c := 0) rfl rfl rfl (Y.ownAt (i := 0) rfl) (by simp) Tryd.underlying71 rfl rfl rfl rfl (by decide) (by simp [Value.oneCell', yv, wv, sv]) (by have hby : Tryd.t5.bytes = 1 := rfl; have : pre.length < 9 := hnx; simp [big, hby] <;> omega) (by have hby : Tryd.t5.bytes = 1 := rfl; have : pre.length < 9 := hnx; simp [big, hby] <;> omega) (by decide) Z Y fun a w9 s4 Z Y _ => ?_
  rw [show ((pre.map enc1).map fun b => [yv b]) ++ ([[yv xs.1]]) = (((pre ++ [xs]).map enc1).map fun b => [yv b]) from by simp [enc1, hc2]] at Y
  refine cF 1 Z Y (Y.ownAt (i := 2) rfl) rfl rfl rfl (Tryd.sizeOf71 _) (lb rfl) (ds := [s4]) rfl rfl ?_
  clear Z Y
  intro a w10 Z Y
  refine ab ?_
  exact ⟨_, ⟨s4, rfl⟩, Y.select [1, 2] (by decide)⟩
 ·rintro D pre _ _ a w11 ⟨rfl, z1, rfl⟩ ⟨v, rfl⟩ Y Z
  replace Z : Fr 33 [(2, sv ([])), (3, iv 0), (4, pt w0.heap.size), (20, .func (.func 104) #[] #[pt bg])] [{ target := .collected D, args := #[] }] a := Z
  replace Y : St No w0 [obj D (.deferred (some [])), blk w0.heap.size [v] 71, own v 5 1 (((gs 8 (zz n)).map enc1).map fun b => [yv b]), blk bg [.int .u64 (z1 : Int)] 118] w11 := Y
  refine hK5 _ _ <| aa fun K10 hK10 => wlv Z (ai (Y.get (k := 1) rfl) rfl (Tryd.isAgg71 _) rfl) fun a Z => wlv Z (dq (Y.ownAt (i := 2) rfl) rfl Tryd.underlying71 Tryd.underlying5 Tryd.underlying9) fun a Z => wla Z rfl fun a Z => wla Z rfl fun a Z => ab (hK10 _ _ <| au ?_)
  have hD := Y.get (k := 0) rfl
  replace Y := Y.unmark (i := 0) (o' := .deferred none) rfl
  replace Y : St No w0 [blk w0.heap.size [v] 71, own v 5 1 (((gs 8 (zz n)).map enc1).map fun b => [yv b]), blk bg [.int .u64 (z1 : Int)] 118] _ := Y
  refine bN Z hD Tryd.results75 (ac rfl (ac rfl ag)) ?_
  exact ⟨by rw [ng 8 _ (jm hs)]; rfl, Y.ext⟩
 ·rintro D c pre _ _ a w12 _ h
  exact h.elim
end Go.Proofs.YtddfkkdanpmnaaaDoor
namespace Go.Proofs.YtddfkkdanpmnaaaDoor
open Go.RowKit Go.PW
set_option linter.unusedVariables false
set_option linter.unusedSimpArgs false
set_option maxRecDepth 4000
def bld (T : TypeId) (b : Nat) (ad v : Value) (bs : By) : Ent := join [blk b [ad, v] T, own v 5 1 ((bs).map fun b => [yv b])]
theorem fP {M : Nat → Prop} {w0 w : World} {T : TypeId} {b : Nat} {ad v : Value} {bs : By} {H : List Ent} (h : St M w0 (bld T b ad v bs :: H) w) : St M w0 ([blk b [ad, v] T, own v 5 1 ((bs).map fun b => [yv b])] ++ H) w := St.unjoin _ _ h
theorem iJ (T : TypeId) (b : Nat) (v : Value) (w0 : World) (hlie : liesAt Tryd.prog Tryd.prog.depth T (2 / Tryd.prog.cellsOf T) 0 83 1 = true) (hb : (blk b [.pointer none, v] T).ok w0) :
  Ret Tryd.prog 76 #[pt b] w0 fun u w => u = .tuple #[] ∧ Ext (· = b) w0 w ∧ (blk b [pt b, v] T).ok w := by
 refine aE Tryd.func76 rfl Tryd.ntmps76 (lb rfl) fun a Z => ?_
 replace Z : Fr 20 [(0, _)] [] a := Z
 replace Y : St (· = b) w0 [blk b [.pointer none, v] T] w0 := St.one hb
 refine aa fun K1 hK1 => wlm Z rfl fun a Z => wlv Z (bc rfl) fun a Z => wlv Z (aq (v := pt b) rfl (by kernel_rfl)) fun a Z => wlv Z (ai (Y.get (k := 0) rfl) rfl (Tryd.isAgg81 _) rfl) fun a Z => wlv Z (nM rfl rfl Tryd.underlying81) fun a Z => ab (hK1 _ _ ?_)
 refine aQ Z rfl ?_
 refine am <| wlm Z rfl fun a Z => wlm Z rfl fun a Z => wlv Z (jC (j := Tryd.t83) (Y.get (k := 0) rfl) rfl Tryd.underlying81 Tryd.underlying141 rfl rfl (by simp)) fun a Z => wlv Z (jl Tryd.func92 (by kernel_rfl) (by kernel_rfl) (by kernel_rfl) (by kernel_rfl) rfl) fun a Z => wlv Z (gF (j := Tryd.t83) (Y.get (k := 0) rfl) rfl Tryd.underlying141 Tryd.underlying81 rfl hlie) fun a Z => wlv Z (bc rfl) fun a Z => wlv Z (aq (v := pt b) rfl (by kernel_rfl)) fun a Z => ?_
 refine aG 0 Z Y rfl rfl rfl (Tryd.sizeOf81 _) rfl (lb rfl) (ds := [pt b, v]) rfl rfl ?_
 clear Z Y
 intro a w2 Z Y
 refine ab ?_
 refine c7 Z Tryd.results76 ag ?_
 exact ⟨rfl, Y.ext, Y.get (k := 0) rfl⟩
theorem jp (T : TypeId) (b : Nat) (v : Value) (w0 : World) (hlie : liesAt Tryd.prog Tryd.prog.depth T (2 / Tryd.prog.cellsOf T) 0 83 1 = true) (hb : (blk b [pt b, v] T).ok w0) :
  Ret Tryd.prog 76 #[pt b] w0 fun u w => u = .tuple #[] ∧ Ext (· = b) w0 w ∧ (blk b [pt b, v] T).ok w := by
 refine aE Tryd.func76 rfl Tryd.ntmps76 (lb rfl) fun a Z => ?_
 replace Z : Fr 20 [(0, _)] [] a := Z
 replace Y : St (· = b) w0 [blk b [pt b, v] T] w0 := St.one hb
 refine aa fun K1 hK1 => wlm Z rfl fun a Z => wlv Z (bc rfl) fun a Z => wlv Z (aq (v := pt b) rfl (by kernel_rfl)) fun a Z => wlv Z (ai (Y.get (k := 0) rfl) rfl (Tryd.isAgg81 _) rfl) fun a Z => wlv Z (lm rfl rfl Tryd.underlying81) fun a Z => ab (hK1 _ _ ?_)
 refine aL Z rfl ?_
 refine aa fun K2 hK2 => wlm Z rfl fun a Z => wlv Z (bc rfl) fun a Z => wlv Z (aq (v := pt b) rfl (by kernel_rfl)) fun a Z => wlv Z (ai (Y.get (k := 0) rfl) rfl (Tryd.isAgg81 _) rfl) fun a Z => wlm Z rfl fun a Z => wlv Z (mz (j := Tryd.t83) rfl rfl Tryd.underlying81 rfl) fun a Z => ab (hK2 _ _ ?_)
 replace Z : Fr 20 [(19, _)] [] a := Z.pick [19]
 refine aL Z rfl ?_
 refine ar ?_
 refine c7 Z Tryd.results76 ag ?_
 exact ⟨rfl, Y.ext, Y.get (k := 0) rfl⟩
theorem jf {M : Nat → Prop} {w0 : World} (T : TypeId) (b : Nat) (v : Value) (bs : By) (s : By) (ws : World) (hlie : liesAt Tryd.prog Tryd.prog.depth T (2 / Tryd.prog.cellsOf T) 0 83 1 = true) (hne : s ≠ []) (hbn : bs.length + s.length ≤ 1000000000) (Y : St M w0 [bld T b (.pointer none) v bs] ws) :
  Ret Tryd.prog 51 #[pt b, sv s] ws fun u w => u = .tuple #[iv (s.length : Int), .nilIface] ∧ ∃ v2, St M w0 [bld T b (pt b) v2 (bs ++ s)] w := by
 refine aE Tryd.func51 rfl Tryd.ntmps51 (lb rfl) fun a Z => ?_
 replace Z : Fr 19 [(0, _), (1, _)] [] a := Z
 replace Y : St M w0 [blk b [.pointer none, v] T, own v 5 1 ((bs).map fun b => [yv b])] ws := fP Y
 refine aa fun K1 hK1 => wla Z rfl fun a Z => wla Z rfl fun a Z => ab (hK1 _ _ <| aa fun K2 hK2 => ?_)
 refine wlm Z rfl fun a Z => fX 0 Z Y (by decide) Tryd.call76 rfl rfl (iJ T b _ _ hlie (Y.get (k := 0) rfl)) rfl ?_
 clear Z Y
 intro a w1 Z Y
 refine ab (hK2 _ _ <| aa fun K3 hK3 => ?_)
 refine wlm Z rfl fun a Z => wlm Z rfl fun a Z => wlv Z (bc rfl) fun a Z => wlv Z (aq (v := .pointer (some ⟨b, 1, none⟩)) rfl (by kernel_rfl)) fun a Z => wlv Z (ai (Y.get (k := 0) rfl) rfl (Tryd.isAgg71 _) rfl) fun a Z => wlm Z rfl fun a Z => dY (i := 1) (sT := 71) (uT := 9) (inf := Tryd.t5) (bs := bs) (s := s) rfl rfl rfl hne Tryd.underlying71 Tryd.underlying9 rfl rfl rfl rfl (by omega) (by decide) Z Y ?_
 clear Z Y
 intro a w2 s1 Z Y
 refine wlv Z (bc rfl) fun a Z => wlv Z (aq (v := .pointer (some ⟨b, 1, none⟩)) rfl (by kernel_rfl)) fun a Z => cF 0 Z Y (Y.ownAt (i := 1) rfl) rfl rfl rfl (Tryd.sizeOf71 _) (lb rfl) (ds := [pt b, s1]) rfl rfl ?_
 clear Z Y
 intro a w3 Z Y
 refine ab (hK3 _ _ ?_)
 replace Z : Fr 19 [(1, _), (4, _), (5, _)] [] a := Z.pick [1, 4, 5]
 refine aa fun K4 hK4 => wlm Z rfl fun a Z => wlv Z (bt rfl rfl (Tryd.runUnderlying9 _)) fun a Z => wla Z rfl fun a Z => wla Z rfl fun a Z => ab (hK4 _ _ <| au ?_)
 refine ap Z Tryd.results51 (ac rfl (ac rfl ag)) ?_
 replace Y : St M w0 [blk b [pt b, s1] T, own s1 5 1 ((bs ++ s).map fun b => [yv b])] _ := Y.select [0, 1] (by decide)
 exact ⟨rfl, s1, St.join [blk b [pt b, s1] T, own s1 5 1 ((bs ++ s).map fun b => [yv b])] [] Y⟩
theorem ku {M : Nat → Prop} {w0 : World} (T : TypeId) (b : Nat) (v : Value) (bs : By) (s : By) (ws : World) (hlie : liesAt Tryd.prog Tryd.prog.depth T (2 / Tryd.prog.cellsOf T) 0 83 1 = true) (hne : s ≠ []) (hbn : bs.length + s.length ≤ 1000000000) (Y : St M w0 [bld T b (pt b) v bs] ws) :
  Ret Tryd.prog 51 #[pt b, sv s] ws fun u w => u = .tuple #[iv (s.length : Int), .nilIface] ∧ ∃ v2, St M w0 [bld T b (pt b) v2 (bs ++ s)] w := by
 refine aE Tryd.func51 rfl Tryd.ntmps51 (lb rfl) fun a Z => ?_
 replace Z : Fr 19 [(0, _), (1, _)] [] a := Z
 replace Y : St M w0 [blk b [pt b, v] T, own v 5 1 ((bs).map fun b => [yv b])] ws := fP Y
 refine aa fun K1 hK1 => wla Z rfl fun a Z => wla Z rfl fun a Z => ab (hK1 _ _ <| aa fun K2 hK2 => ?_)
 refine wlm Z rfl fun a Z => fX 0 Z Y (by decide) Tryd.call76 rfl rfl (jp T b _ _ hlie (Y.get (k := 0) rfl)) rfl ?_
 clear Z Y
 intro a w1 Z Y
 refine ab (hK2 _ _ <| aa fun K3 hK3 => ?_)
 refine wlm Z rfl fun a Z => wlm Z rfl fun a Z => wlv Z (bc rfl) fun a Z => wlv Z (aq (v := .pointer (some ⟨b, 1, none⟩)) rfl (by kernel_rfl)) fun a Z => wlv Z (ai (Y.get (k := 0) rfl) rfl (Tryd.isAgg71 _) rfl) fun a Z => wlm Z rfl fun a Z => dY (i := 1) (sT := 71) (uT := 9) (inf := Tryd.t5) (bs := bs) (s := s) rfl rfl rfl hne Tryd.underlying71 Tryd.underlying9 rfl rfl rfl rfl (by omega) (by decide) Z Y ?_
 clear Z Y
 intro a w2 s1 Z Y
 refine wlv Z (bc rfl) fun a Z => wlv Z (aq (v := .pointer (some ⟨b, 1, none⟩)) rfl (by kernel_rfl)) fun a Z => cF 0 Z Y (Y.ownAt (i := 1) rfl) rfl rfl rfl (Tryd.sizeOf71 _) (lb rfl) (ds := [pt b, s1]) rfl rfl ?_
 clear Z Y
 intro a w3 Z Y
 refine ab (hK3 _ _ ?_)
 replace Z : Fr 19 [(1, _), (4, _), (5, _)] [] a := Z.pick [1, 4, 5]
 refine aa fun K4 hK4 => wlm Z rfl fun a Z => wlv Z (bt rfl rfl (Tryd.runUnderlying9 _)) fun a Z => wla Z rfl fun a Z => wla Z rfl fun a Z => ab (hK4 _ _ <| au ?_)
 refine ap Z Tryd.results51 (ac rfl (ac rfl ag)) ?_
 replace Y : St M w0 [blk b [pt b, s1] T, own s1 5 1 ((bs ++ s).map fun b => [yv b])] _ := Y.select [0, 1] (by decide)
 exact ⟨rfl, s1, St.join [blk b [pt b, s1] T, own s1 5 1 ((bs ++ s).map fun b => [yv b])] [] Y⟩
theorem m1 {w : World} {E : TypeId} {v : Value} {bs : By} (h : (own v E 1 ((bs).map fun b => [yv b])).ok w) (hne : bs ≠ []) : ∃ g cap, v = .slice (some ⟨g, 0, none⟩) bs.length cap ∧ cap ≠ 0 := by
 obtain ⟨h1, h2, h3, h4⟩ := h
 have hn : bs.length ≠ 0 := by simpa using hne
 rcases h4 with ⟨_, h0⟩ | ⟨g, cap, cur, fz, hv, _, _, hnc, _⟩
 ·rw [List.length_map] at h0; exact absurd h0 hn
 ·rw [List.length_map] at hv hnc; exact ⟨g, cap, hv, by omega⟩
theorem iu {M : Nat → Prop} {w0 : World} (T : TypeId) (b g cap : Nat) (bs : By) (ws : World) (hne : bs ≠ []) (hcap : cap ≠ 0) (Y : St M w0 [blk b [pt b, .slice (some ⟨g, 0, none⟩) bs.length cap] T, own (.slice (some ⟨g, 0, none⟩) bs.length cap) 5 1 ((bs).map fun b => [yv b])] ws) :
  Ret Tryd.prog 52 #[pt b] ws fun u w => u = sv bs ∧ St M w0 [blk b [pt b, .slice (some ⟨g, 0, none⟩) bs.length cap] T] w := by
 refine aE Tryd.func52 rfl Tryd.ntmps52 (lb rfl) fun a Z => ?_
 replace Z : Fr 14 [(0, _)] [] a := Z
 skip
 refine aa fun K1 hK1 => wla Z rfl fun a Z => ab (hK1 _ _ <| ae fun K2 hK2 => ?_)
 refine aM (by kernel_rfl) ?_
 replace Z : Fr 14 [(0, _), (2, _)] [] a := Z.pick [0, 2]
 replace Y : St M w0 (own (.slice (some ⟨g, 0, none⟩) bs.length cap) 5 1 ((bs).map fun b => [yv b]) :: [blk b [pt b, .slice (some ⟨g, 0, none⟩) bs.length cap] T]) ws := Y.front (i := 1) rfl
 refine gb 10 (own (.slice (some ⟨g, 0, none⟩) bs.length cap) 5 1 ((bs).map fun b => [yv b])) (fun _ => sl (.slice (some ⟨g, 0, none⟩) bs.length cap) 1 ((bs).map fun b => [yv b])) 11 [[], [0], [1], [2], [3], [], [5], [6], [7], [8], [4, 9]] (fun i => match i with | 0 => pv (pt b) | 1 => pv (pt b) | 2 => pv (.pointer (some ⟨b, 1, none⟩)) | 3 => pv (.slice (some ⟨g, 0, none⟩) bs.length cap) | 4 => pv (pt g) | 5 => pv (pt b) | 6 => pv (pt b) | 7 => pv (.pointer (some ⟨b, 1, none⟩)) | 8 => pv (.slice (some ⟨g, 0, none⟩) bs.length cap) | 9 => pv (iv (bs.length : Int)) | 10 => fun v E => v = sv bs ∧ E = [] | _ => fun _ _ => False) Z Y (by kernel_rfl) (by kernel_rfl) (by kernel_rfl) (by decide) ?_ ?_ ?_ ?_
 ·intro i v E h
  match i, h with
  | 0, _ => exact by decide
  | 1, _ => exact by decide
  | 2, _ => exact by decide
  | 3, _ => exact by decide
  | 4, _ => exact by decide
  | 5, _ => exact by decide
  | 6, _ => exact by decide
  | 7, _ => exact by decide
  | 8, _ => exact by decide
  | 9, _ => exact by decide
  | 10, _ => exact by decide
  | i + 11, h => exact h.elim
 ·intro i hi hiq e
  match i, hi, hiq with
  | 0, _, _ =>
   intro w Y
   exact OpV.g (ah rfl)
  | 1, _, _ =>
   rintro _ _ ⟨rfl, rfl⟩
   intro w Y
   exact OpV.g (bc rfl)
  | 2, _, _ =>
   rintro _ _ ⟨rfl, rfl⟩
   intro w Y
   exact OpV.g (aq (v := .pointer (some ⟨b, 1, none⟩)) rfl (by kernel_rfl))
  | 3, _, _ =>
   rintro _ _ ⟨rfl, rfl⟩
   intro w Y
   exact OpV.g (ai (Y.get (k := 1) rfl) rfl (Tryd.isAgg71 _) rfl)
  | 4, _, _ =>
   rintro _ _ ⟨rfl, rfl⟩
   intro w Y
   exact OpV.g (iz rfl hcap)
  | 5, _, _ =>
   intro w Y
   exact OpV.g (ah rfl)
  | 6, _, _ =>
   rintro _ _ ⟨rfl, rfl⟩
   intro w Y
   exact OpV.g (bc rfl)
  | 7, _, _ =>
   rintro _ _ ⟨rfl, rfl⟩
   intro w Y
   exact OpV.g (aq (v := .pointer (some ⟨b, 1, none⟩)) rfl (by kernel_rfl))
  | 8, _, _ =>
   rintro _ _ ⟨rfl, rfl⟩
   intro w Y
   exact OpV.g (ai (Y.get (k := 1) rfl) rfl (Tryd.isAgg71 _) rfl)
  | 9, _, _ =>
   rintro _ _ ⟨rfl, rfl⟩
   intro w Y
   exact OpV.g ((cw (v := iv (bs.length : Int)) (vs := [.slice (some ⟨g, 0, none⟩) bs.length cap]) (by simp [evs]; rfl) (by simp [builtin, Builtin.len_, Tryd.runUnderlying71]; rfl)).as rfl)
  | 10, _, h => exact absurd rfl h
 ·rintro _ _ ⟨rfl, rfl⟩ _ _ ⟨rfl, rfl⟩
  intro w Y
  exact (fJ (Y.get (k := 0) rfl) hne rfl rfl Tryd.underlying117 (by kernel_rfl)).mono fun v w' ⟨h1, h2, h3, h4⟩ => ⟨h2, h3, h4, ⟨h1, rfl⟩⟩
 clear Z Y
 rintro vq _ _ ⟨⟨rfl, rfl⟩, -⟩ _ _ ⟨⟨rfl, rfl⟩, -⟩ _ _ ⟨⟨rfl, rfl⟩, -⟩ _ _ ⟨⟨rfl, rfl⟩, -⟩ _ _ ⟨⟨rfl, rfl⟩, -⟩ _ _ ⟨⟨rfl, rfl⟩, -⟩ _ _ ⟨⟨rfl, rfl⟩, -⟩ _ _ ⟨⟨rfl, rfl⟩, -⟩ _ _ ⟨⟨rfl, rfl⟩, -⟩ _ _ ⟨⟨rfl, rfl⟩, -⟩ _ _ ⟨⟨rfl, rfl⟩, -⟩ a w1 Z Y
 replace Z : Fr 14 [(3, _), (4, _), (5, _), (6, _), (7, _), (8, _), (9, _), (10, _), (11, _), (12, _), (13, _), (0, _), (2, _)] [] a := Z
 replace Y : St M w0 [(fun _ => sl (.slice (some ⟨g, 0, none⟩) bs.length cap) 1 ((bs).map fun b => [yv b])) vq, blk b [pt b, .slice (some ⟨g, 0, none⟩) bs.length cap] T] w1 := Y
 refine wla Z rfl fun a Z => ab <| hK2 _ _ ?_
 replace Z : Fr 14 [(2, _)] [] a := Z.pick [2]
 refine au ?_
 refine ap Z Tryd.results52 (ac rfl ag) ?_
 exact ⟨rfl, Y.select [1] (by decide)⟩
theorem f4 {M : Nat → Prop} {w0 : World} (T : TypeId) (b : Nat) (v : Value) (bs : By) (ws : World) (hne : bs ≠ []) (Y : St M w0 [bld T b (pt b) v bs] ws) :
  Ret Tryd.prog 52 #[pt b] ws fun u w => u = sv bs ∧ St M w0 [blk b [pt b, v] T] w := by
 have Y : St M w0 [blk b [pt b, v] T, own v 5 1 ((bs).map fun b => [yv b])] ws := fP Y
 obtain ⟨g, cap, rfl, hcap⟩ := m1 (Y.get (k := 1) rfl) hne
 exact iu T b g cap bs ws hne hcap Y
end Go.Proofs.YtddfkkdanpmnaaaDoor
namespace Go.Proofs.YtddfkkdanpmnaaaDoor
open Go.RowKit Go.PW
set_option linter.unusedVariables false
set_option linter.unusedSimpArgs false
set_option maxRecDepth 4000
theorem p128 (i : Nat) : (128 : Nat) ^ i = 2 ^ (7 * i) := by rw [Nat.pow_mul]
theorem v_ixz {P : Program} {w : World} {L : List (Nat × Value)} {dst : Option Tmp} {T T' ty : TypeId} {pos : String} {af : Array Edge} {gd : Option (Nat × Bool)} {x y : Operand} {z : Nat} (hz : z < 9223372036854775808)
  (hx : ev L x = some (iv ((z / 2 : Nat) : Int))) (hy : ev L y = some (iv (-((z % 2 : Nat) : Int)))) : OpV P ⟨dst, .binOp .xor T x y T', ty, pos, af, gd⟩ L w (iv (uz z)) := by
 have h := np (P := P) (w := w) (dst := dst) (T := T) (T' := T') (ty := ty) (pos := pos) (af := af) (gd := gd) (n := ((z / 2 : Nat) : Int)) (decide (z % 2 = 1)) (by omega) (by omega) hx (hy.trans (by
  congr 2
  by_cases h : z % 2 = 1
  ·rw [decide_eq_true h, h]; rfl
  ·rw [decide_eq_false h, show z % 2 = 0 from by omega]; rfl))
 refine h.as ?_
 congr 1
 unfold uz
 by_cases h : z % 2 = 1
 ·rw [decide_eq_true h, if_pos rfl, if_neg (by omega)]
 ·rw [decide_eq_false h, if_neg (by decide), if_pos (by omega)]
theorem nk {f i z : Nat} : wI f i z [] = none := by cases f <;> rfl
theorem gK {s : By} {p : Nat} (h : p < s.length) : s.drop p = s.getD p 0 :: s.drop (p + 1) := by
 rw [List.drop_eq_getElem_cons h, List.getD_eq_getElem?_getD, List.getElem?_eq_getElem h]; rfl
theorem m2 {s : By} {p i z : Nat} (hi : i < 9) (hp : p + i < s.length) (hb : 128 ≤ (s.getD (p + i) 0).toNat) :
  wI (9 - i) i z (s.drop (p + i)) = wI (9 - (i + 1)) (i + 1) (z + (s.getD (p + i) 0).toNat % 128 * 2 ^ (7 * i)) (s.drop (p + (i + 1))) := by
 rw [gK hp, show 9 - i = (9 - (i + 1)) + 1 from by omega, wI, if_neg (by omega), p128]; rfl
theorem jg {s : By} {p i z : Nat} (hi : i < 9) (hp : p + i < s.length) (hb : (s.getD (p + i) 0).toNat < 128) (h : ((s.getD (p + i) 0).toNat = 0 ∧ 0 < i) ∨ uz (z + (s.getD (p + i) 0).toNat % 128 * 2 ^ (7 * i)) < -4611686018427387903) :
  wI (9 - i) i z (s.drop (p + i)) = none := by
 rw [gK hp, show 9 - i = (9 - (i + 1)) + 1 from by omega, wI, if_pos hb, p128, if_pos]
 exact h.imp_left fun ⟨h1, h2⟩ => ⟨UInt8.toNat_inj.1 (by rw [h1]; rfl), h2⟩
theorem jR {s : By} {p i z : Nat} (hi : i < 9) (hp : p + i < s.length) (hb : (s.getD (p + i) 0).toNat < 128) (h : ¬ ((s.getD (p + i) 0).toNat = 0 ∧ 0 < i)) (h2 : ¬ uz (z + (s.getD (p + i) 0).toNat % 128 * 2 ^ (7 * i)) < -4611686018427387903) :
  wI (9 - i) i z (s.drop (p + i)) = some (uz (z + (s.getD (p + i) 0).toNat % 128 * 2 ^ (7 * i)), i + 1) := by
 rw [gK hp, show 9 - i = (9 - (i + 1)) + 1 from by omega, wI, if_pos hb, p128, if_neg]
 rintro (⟨h3, h4⟩ | h3)
 ·exact h ⟨by rw [h3]; rfl, h4⟩
 ·exact h2 h3
theorem nC {z i b : Nat} (hz : z < 2 ^ (7 * i)) (hb : b < 128) : z + b * 2 ^ (7 * i) < 2 ^ (7 * (i + 1)) := by
 have e : 2 ^ (7 * (i + 1)) = 128 * 2 ^ (7 * i) := by rw [Nat.mul_add, Nat.pow_add, Nat.mul_comm]
 rw [e]
 have : (b + 1) * 2 ^ (7 * i) ≤ 128 * 2 ^ (7 * i) := Nat.mul_le_mul_right _ (by omega)
 rw [Nat.add_mul] at this
 omega
theorem z_63 {z i : Nat} (hi : i < 9) (hz : z < 2 ^ (7 * (i + 1))) : z < 9223372036854775808 := by
 have : (2 : Nat) ^ (7 * (i + 1)) ≤ 2 ^ 63 := Nat.pow_le_pow_right (by decide) (by omega)
 omega
def intV (s : By) (p : Nat) : Value := match rdI (s.drop p) with
 | some (n, r) => .tuple #[iv n, iv ((s.length - r.length : Nat) : Int), iv 0]
 | none => .tuple #[iv 0, iv 0, iv 10]
theorem dI {s : By} {p : Nat} (h : wI 9 0 0 (s.drop p) = none) : intV s p = .tuple #[iv 0, iv 0, iv 10] := by
 rw [lV] at h
 unfold intV
 cases hr : rdI (s.drop p) with
 | none => rfl
 | some x => rw [hr] at h; cases h
theorem im {s : By} {p k : Nat} {n : Int} (hp : p ≤ s.length) (h : wI 9 0 0 (s.drop p) = some (n, k)) : intV s p = .tuple #[iv n, iv ((p + k : Nat) : Int), iv 0] := by
 rw [lV] at h
 unfold intV
 cases hr : rdI (s.drop p) with
 | none => rw [hr] at h; cases h
 | some x =>
  obtain ⟨n2, r⟩ := x
  rw [hr] at h
  simp only [Option.map_some, Option.some.injEq, Prod.mk.injEq] at h
  obtain ⟨rfl, rfl⟩ := h
  obtain ⟨_, h2⟩ := iE hr
  have h3 := congrArg List.length h2
  rw [List.length_drop, List.length_append] at h3
  have h4 := (bF n2).1
  simp only
  rw [List.length_drop, show p + (s.length - p - r.length) = s.length - r.length from by omega]
set_option maxHeartbeats 4000000 in
theorem il (s : By) (p : Nat) (w0 : World) (hp : p ≤ s.length) (hsl : s.length ≤ 1000000) :
  Ret Tryd.prog 57 #[sv s, iv (p : Int)] w0 fun v w => v = intV s p ∧ Ext No w0 w := by
 refine aE Tryd.func57 rfl Tryd.ntmps57 (lb rfl) fun a Z => ?_
 replace Z : Fr 67 [(0, _), (1, _)] [] a := Z
 replace Y : St No w0 [] w0 := St.init w0
 refine aa fun K1 hK1 => wla Z rfl fun a Z => wla Z rfl fun a Z => wla Z rfl fun a Z => ab (hK1 _ _ <| ae fun K2 hK2 => ?_)
 refine aa fun K3 hK3 => wlm Z rfl fun a Z => wlv Z ((v_lt rfl rfl).asb (b' := false) (by exact decide_eq_false (by omega))) fun a Z => wlm Z rfl fun a Z => wly Z (ah rfl) fun a Z => wly Z (ah rfl) fun a Z => wly Z (bt rfl rfl (Tryd.runUnderlying9 _)) fun a Z => wly Z ((v_gt rfl rfl).asb (b' := false) (by exact decide_eq_false (by omega))) fun a Z => wlv Z (ax rfl rfl) fun a Z => ab (hK3 _ _ ?_)
 replace Z : Fr 67 [(0, _), (1, _), (4, _), (5, _), (6, _), (18, _)] [] a := Z.pick [0, 1, 4, 5, 6, 18]
 refine aL Z rfl ?_
 refine ar <| hK2 _ _ <| aa fun K4 hK4 => wla Z rfl fun a Z => ab (hK4 _ _ <| ae fun K5 hK5 => ?_)
 refine aa fun K6 hK6 => wlm Z rfl fun a Z => ab (hK6 _ _ <| ao ?_)
 refine aN (fun m a w => ∃ (i : Nat) (z : Nat), m = 9 - i ∧ (i ≤ 9) ∧ (wI 9 0 0 (s.drop p) = wI (9 - i) i z (s.drop (p + i))) ∧ (z < 2 ^ (7 * i)) ∧ Fr 67 [(0, sv s), (1, iv (p : Int)), (7, .int .u64 (z : Int)), (19, iv (i : Int))] [] a ∧ St No w0 [] w) _ ⟨0, 0, rfl, (by decide), rfl, (by decide), Z.pick [0, 1, 7, 19], Y.select [] (by decide)⟩ ?_
 rintro _ a w1 ⟨i, z, rfl, hi, hw, hz, Z, Y⟩
 refine aa fun K7 hK7 => wlv Z (v_lt rfl rfl) fun a Z => ab (hK7 _ _ <| ae fun K8 hK8 => ?_)
 refine ay Z rfl (fun hc1 => ?_) (fun hc1 => ?_)
 ·rw [hc1] at Z
  try simp only [qz] at hc1
  refine ar <| hK8 _ _ <| ae fun K9 hK9 => ao <| aa fun K10 hK10 => wlm Z rfl fun a Z => wla Z rfl fun a Z => ab (hK10 _ _ ?_)
  refine ae fun K11 hK11 => aa fun K12 hK12 => wlm Z rfl fun a Z => wlm Z rfl fun a Z => wlv Z (aU rfl rfl ⟨by omega, by omega⟩) fun a Z => wlm Z rfl fun a Z => wlv Z (bt rfl rfl (Tryd.runUnderlying9 _)) fun a Z => wlv Z (v_ge rfl rfl) fun a Z => ab (hK12 _ _ ?_)
  replace Z : Fr 67 [(0, _), (1, _), (7, _), (19, _), (8, _), (27, _)] [] a := Z.pick [0, 1, 7, 19, 8, 27]
  refine ay Z rfl (fun hc2 => ?_) (fun hc2 => ?_)
  ·rw [hc2] at Z
   try simp only [qz] at hc2
   have hwn : wI 9 0 0 (s.drop p) = none := by rw [hw, List.drop_eq_nil_of_le (by omega)]; exact nk
   refine aI <| hK5 _ _ <| aa fun K13 hK13 => wla Z rfl fun a Z => wla Z rfl fun a Z => wla Z rfl fun a Z => ab (hK13 _ _ ?_)
   replace Z : Fr 67 [(4, _), (5, _), (6, _)] [] a := Z.pick [4, 5, 6]
   refine au ?_
   refine ap Z Tryd.results57 (ac rfl (ac rfl (ac rfl ag))) ?_
   exact ⟨(dI hwn).symm, Y.ext⟩
  rw [hc2] at Z
  try simp only [qz] at hc2
  have hpi : p + i < s.length := by omega
  have hm8 : (s.getD (p + i) 0).toNat % 128 < 128 := Nat.mod_lt _ (by decide)
  have hzl := nC hz hm8
  have hz6 := z_63 (i := i) (by omega) hzl
  refine ar <| hK11 _ _ <| aa fun K14 hK14 => wlm Z rfl fun a Z => wlm Z rfl fun a Z => wlm Z rfl fun a Z => wlv Z (aU rfl rfl ⟨by omega, by omega⟩) fun a Z => wlv Z (eR (k := (p + i)) rfl rfl (Tryd.runUnderlying9 _) (by omega) (by omega)) fun a Z => wla Z rfl fun a Z => ab (hK14 _ _ ?_)
  replace Z : Fr 67 [(0, _), (1, _), (7, _), (19, _), (8, _), (9, _)] [] a := Z.pick [0, 1, 7, 19, 8, 9]
  refine aa fun K15 hK15 => wlm Z rfl fun a Z => wlm Z rfl fun a Z => wlv Z (nB (a := s.getD (p + i) 0) (b := (127 : UInt8)) rfl rfl) fun a Z => wlv Z ((j9 rfl (by kernel_rfl) Tryd.underlying118).asi (m' := (((s.getD (p + i) 0).toNat % 128 : Nat) : Int)) (by rw [y127])) fun a Z => wlm Z rfl fun a Z => wlv Z ((cJ rfl rfl ⟨by omega, by omega⟩).asi (m' := ((7 * i : Nat) : Int)) (by omega)) fun a Z => wlv Z ((lF (m := (s.getD (p + i) 0).toNat % 128) (n := 7 * i) (by omega) rfl rfl).asi (m' := (((s.getD (p + i) 0).toNat % 128 * 2 ^ (7 * i) : Nat) : Int)) (by rw [Nat.mod_eq_of_lt (by omega)])) fun a Z => wlv Z (v_uor (m := z) (n := (s.getD (p + i) 0).toNat % 128) (k := 7 * i) hz (by omega) rfl rfl) fun a Z => wla Z rfl fun a Z => ?_
  refine ab (hK15 _ _ ?_)
  replace Z : Fr 67 [(0, _), (1, _), (19, _), (8, _), (9, _), (7, _)] [] a := Z.pick [0, 1, 19, 8, 9, 7]
  refine ae fun K16 hK16 => aa fun K17 hK17 => wlm Z rfl fun a Z => wlv Z (v_ge rfl rfl) fun a Z => ab (hK17 _ _ ?_)
  refine ay Z rfl (fun hc3 => ?_) (fun hc3 => ?_)
  ·rw [hc3] at Z
   try simp only [qz] at hc3
   refine aI <| hK9 _ _ <| am <| wlv Z (aU rfl rfl ⟨by omega, by omega⟩) fun a Z => wlm Z rfl fun a Z => ab ?_
   refine ⟨_, ?_, i + 1, (z + (s.getD (p + i) 0).toNat % 128 * 2 ^ (7 * i)), rfl, (by omega), (by rw [hw]; exact m2 (by omega) hpi (by omega)), hzl, Z.pick [0, 1, 7, 19], Y.select [] (by decide)⟩
   omega
  rw [hc3] at Z
  try simp only [qz] at hc3
  refine ar <| hK16 _ _ <| aa fun K18 hK18 => wlm Z rfl fun a Z => wlv Z ((mt (m := (z + (s.getD (p + i) 0).toNat % 128 * 2 ^ (7 * i))) (n := 1) (by decide) rfl rfl).asi (m' := (((z + (s.getD (p + i) 0).toNat % 128 * 2 ^ (7 * i)) / 2 : Nat) : Int)) rfl) fun a Z => wlv Z (gD (n := (z + (s.getD (p + i) 0).toNat % 128 * 2 ^ (7 * i)) / 2) (by omega) rfl (by kernel_rfl) Tryd.underlying3) fun a Z => wlm Z rfl fun a Z => wlv Z ((lM (m := (z + (s.getD (p + i) 0).toNat % 128 * 2 ^ (7 * i))) (k := 1) (by omega) (by decide) rfl rfl).asi (m' := (((z + (s.getD (p + i) 0).toNat % 128 * 2 ^ (7 * i)) % 2 : Nat) : Int)) rfl) fun a Z => ?_
  refine wlv Z (gD (n := (z + (s.getD (p + i) 0).toNat % 128 * 2 ^ (7 * i)) % 2) (by omega) rfl (by kernel_rfl) Tryd.underlying3) fun a Z => wlv Z (iW rfl (by omega) (by omega)) fun a Z => wlv Z (v_ixz (z := (z + (s.getD (p + i) 0).toNat % 128 * 2 ^ (7 * i))) (by omega) rfl rfl) fun a Z => wla Z rfl fun a Z => ab (hK18 _ _ ?_)
  replace Z : Fr 67 [(0, _), (1, _), (19, _), (8, _), (9, _), (7, _), (10, _)] [] a := Z.pick [0, 1, 19, 8, 9, 7, 10]
  refine ae fun K19 hK19 => aa fun K20 hK20 => wlm Z rfl fun a Z => wlv Z (v_eq rfl rfl) fun a Z => wlm Z rfl fun a Z => ?_
  rcases Bool.eq_false_or_eq_true (decide (((s.getD (p + i) 0).toNat : Int) = 0)) with hb4 | hb4
  ·rw [hb4] at Z
   try simp only [qz] at hb4
   refine wly Z (ah rfl) fun a Z => wly Z (v_gt rfl rfl) fun a Z => wlv Z (aC rfl rfl) fun a Z => wlm Z rfl fun a Z => ?_
   rcases Bool.eq_false_or_eq_true (decide (0 < (i : Int))) with hb5 | hb5
   ·rw [hb5] at Z
    try simp only [qz] at hb5
    have hwn : wI 9 0 0 (s.drop p) = none := by rw [hw]; exact jg (by omega) hpi (by omega) (.inl ⟨by omega, by omega⟩)
    refine wln Z fun a Z => wln Z fun a Z => wlv Z (aC rfl rfl) fun a Z => ab (hK20 _ _ ?_)
    replace Z : Fr 67 [(0, _), (1, _), (19, _), (8, _), (7, _), (10, _), (60, _)] [] a := Z.pick [0, 1, 19, 8, 7, 10, 60]
    refine aQ Z rfl ?_
    refine aI <| hK5 _ _ <| aa fun K21 hK21 => wla Z rfl fun a Z => wla Z rfl fun a Z => wla Z rfl fun a Z => ab (hK21 _ _ ?_)
    replace Z : Fr 67 [(4, _), (5, _), (6, _)] [] a := Z.pick [4, 5, 6]
    refine au ?_
    refine ap Z Tryd.results57 (ac rfl (ac rfl (ac rfl ag))) ?_
    exact ⟨(dI hwn).symm, Y.ext⟩
   rw [hb5] at Z
   try simp only [qz] at hb5
   have hng : ¬ ((s.getD (p + i) 0).toNat = 0 ∧ 0 < i) := by omega
   refine wly Z (ah rfl) fun a Z => wly Z (v_lt rfl rfl) fun a Z => wlv Z (ax rfl rfl) fun a Z => ab (hK20 _ _ ?_)
   replace Z : Fr 67 [(0, _), (1, _), (19, _), (8, _), (7, _), (10, _), (60, _)] [] a := Z.pick [0, 1, 19, 8, 7, 10, 60]
   refine ay Z rfl (fun hc6 => ?_) (fun hc6 => ?_)
   ·rw [hc6] at Z
    try simp only [qz] at hc6
    have hwn : wI 9 0 0 (s.drop p) = none := by rw [hw]; exact jg (by omega) hpi (by omega) (.inr hc6)
    refine aI <| hK5 _ _ <| aa fun K22 hK22 => wla Z rfl fun a Z => wla Z rfl fun a Z => wla Z rfl fun a Z => ab (hK22 _ _ ?_)
    replace Z : Fr 67 [(4, _), (5, _), (6, _)] [] a := Z.pick [4, 5, 6]
    refine au ?_
    refine ap Z Tryd.results57 (ac rfl (ac rfl (ac rfl ag))) ?_
    exact ⟨(dI hwn).symm, Y.ext⟩
   rw [hc6] at Z
   try simp only [qz] at hc6
   have hwg := hw.trans (jR (by omega) hpi (by omega) (by omega) hc6)
   refine ar <| hK19 _ _ <| aa fun K23 hK23 => wlm Z rfl fun a Z => wlm Z rfl fun a Z => wlm Z rfl fun a Z => wlv Z (aU rfl rfl ⟨by omega, by omega⟩) fun a Z => wlv Z (aU rfl rfl ⟨by omega, by omega⟩) fun a Z => wla Z rfl fun a Z => wla Z rfl fun a Z => wla Z rfl fun a Z => ab (hK23 _ _ ?_)
   replace Z : Fr 67 [(0, _), (1, _), (19, _), (7, _), (4, _), (5, _), (6, _)] [] a := Z.pick [0, 1, 19, 7, 4, 5, 6]
   refine au ?_
   refine ap Z Tryd.results57 (ac rfl (ac rfl (ac rfl ag))) ?_
   exact ⟨((im hp hwg).trans (by simp only [retv]; congr 3; all_goals omega)).symm, Y.ext⟩
  rw [hb4] at Z
  try simp only [qz] at hb4
  refine wln Z fun a Z => wln Z fun a Z => wlv Z (ax rfl rfl) fun a Z => wlm Z rfl fun a Z => wly Z (ah rfl) fun a Z => wly Z (v_lt rfl rfl) fun a Z => wlv Z (ax rfl rfl) fun a Z => ab (hK20 _ _ ?_)
  replace Z : Fr 67 [(0, _), (1, _), (19, _), (8, _), (7, _), (10, _), (60, _)] [] a := Z.pick [0, 1, 19, 8, 7, 10, 60]
  refine ay Z rfl (fun hc7 => ?_) (fun hc7 => ?_)
  ·rw [hc7] at Z
   try simp only [qz] at hc7
   have hwn : wI 9 0 0 (s.drop p) = none := by rw [hw]; exact jg (by omega) hpi (by omega) (.inr hc7)
   refine aI <| hK5 _ _ <| aa fun K24 hK24 => wla Z rfl fun a Z => wla Z rfl fun a Z => wla Z rfl fun a Z => ab (hK24 _ _ ?_)
   replace Z : Fr 67 [(4, _), (5, _), (6, _)] [] a := Z.pick [4, 5, 6]
   refine au ?_
   refine ap Z Tryd.results57 (ac rfl (ac rfl (ac rfl ag))) ?_
   exact ⟨(dI hwn).symm, Y.ext⟩
  rw [hc7] at Z
  try simp only [qz] at hc7
  have hwg := hw.trans (jR (by omega) hpi (by omega) (by omega) hc7)
  refine ar <| hK19 _ _ <| aa fun K25 hK25 => wlm Z rfl fun a Z => wlm Z rfl fun a Z => wlm Z rfl fun a Z => wlv Z (aU rfl rfl ⟨by omega, by omega⟩) fun a Z => wlv Z (aU rfl rfl ⟨by omega, by omega⟩) fun a Z => wla Z rfl fun a Z => wla Z rfl fun a Z => wla Z rfl fun a Z => ab (hK25 _ _ ?_)
  replace Z : Fr 67 [(0, _), (1, _), (19, _), (7, _), (4, _), (5, _), (6, _)] [] a := Z.pick [0, 1, 19, 7, 4, 5, 6]
  refine au ?_
  refine ap Z Tryd.results57 (ac rfl (ac rfl (ac rfl ag))) ?_
  exact ⟨((im hp hwg).trans (by simp only [retv]; congr 3; all_goals omega)).symm, Y.ext⟩
 rw [hc1] at Z
 try simp only [qz] at hc1
 have hwn : wI 9 0 0 (s.drop p) = none := by rw [hw, show 9 - i = 0 from by omega]; rfl
 refine aI <| hK5 _ _ <| aa fun K26 hK26 => wla Z rfl fun a Z => wla Z rfl fun a Z => wla Z rfl fun a Z => ab (hK26 _ _ <| au ?_)
 refine ap Z Tryd.results57 (ac rfl (ac rfl (ac rfl ag))) ?_
 exact ⟨(dI hwn).symm, Y.ext⟩
end Go.Proofs.YtddfkkdanpmnaaaDoor
namespace Go.Proofs.YtddfkkdanpmnaaaDoor
open Go.RowKit Go.PW
set_option linter.unusedVariables false
set_option linter.unusedSimpArgs false
set_option maxRecDepth 4000
end Go.Proofs.YtddfkkdanpmnaaaDoor
namespace Go.Proofs.YtddfkkdanpmnaaaDoor
open Go.RowKit Go.PW
set_option linter.unusedVariables false
set_option linter.unusedSimpArgs false
set_option maxRecDepth 4000
theorem dl {r q : By} {n : Int} (h : rdI r = some (n, q)) : q <:+ r := by
 obtain ⟨_, rfl⟩ := iE h; exact List.suffix_append _ _
theorem lr {r x q : By} (h : rdS r = some (x, q)) : ∃ n r2, rdI r = some (n, r2) ∧ 0 ≤ n ∧ n ≤ 65536 ∧ n ≤ (r2.length : Int) ∧ x = r2.take n.toNat ∧ q = r2.drop n.toNat ∧ q.length = r2.length - n.toNat := by
 unfold rdS at h
 cases hq : rdI r with
 | none => rw [hq] at h; cases h
 | some p =>
  obtain ⟨n, t⟩ := p
  rw [hq] at h
  simp only at h
  split at h
  ·rename_i hc
   cases h
   exact ⟨n, t, rfl, hc.1, hc.2.1, hc.2.2, rfl, rfl, by rw [List.length_drop]⟩
  ·cases h
theorem ny {r : By} (h : rdS r = none) : rdI r = none ∨ ∃ n r2, rdI r = some (n, r2) ∧ (n < 0 ∨ 65536 < n ∨ (r2.length : Int) < n) := by
 unfold rdS at h
 cases hq : rdI r with
 | none => exact .inl rfl
 | some p =>
  obtain ⟨n, t⟩ := p
  rw [hq] at h
  simp only at h
  split at h
  ·cases h
  ·rename_i hc
   exact .inr ⟨n, t, rfl, by omega⟩
theorem mS {r x q : By} (h : rdS r = some (x, q)) : q <:+ r := by
 obtain ⟨n, r2, hi, _, _, _, _, rfl, _⟩ := lr h
 exact (List.drop_suffix _ _).trans (dl hi)
theorem m7 {s r2 q x : By} {n : Int} (hs : r2 <:+ s) (hx : x = r2.take n.toNat) (h0 : 0 ≤ n) (hn : n ≤ (r2.length : Int)) (hq : q.length = r2.length - n.toNat) : x = (s.drop (s.length - r2.length)).take (s.length - q.length - (s.length - r2.length)) := by
 have := hs.length_le
 rw [← List.suffix_iff_eq_drop.1 hs, hx]
 congr 1
 omega
theorem gM (s : By) (w0 : World) (hs : s.length ≤ 65536) :
  Ret Tryd.prog 50 #[sv s] w0 fun v w => v = .tuple #[sv (putS s), iv 0] ∧ Ext No w0 w := by
 have hpl := bF (s.length : Int)
 refine aE Tryd.func50 rfl Tryd.ntmps50 (lb rfl) fun a Z => ?_
 replace Z : Fr 18 [(0, _)] [] a := Z
 replace Y : St No w0 [] w0 := St.init w0
 refine aa fun K1 hK1 => wla Z rfl fun a Z => wla Z rfl fun a Z => ab (hK1 _ _ <| ae fun K2 hK2 => ?_)
 refine aa fun K3 hK3 => wlm Z rfl fun a Z => wlv Z (bt rfl rfl (Tryd.runUnderlying9 _)) fun a Z => wlv Z ((v_gt rfl rfl).asb (b' := false) (by exact decide_eq_false (by omega))) fun a Z => ab (hK3 _ _ <| aL Z rfl ?_)
 refine ar <| hK2 _ _ <| aa fun K4 hK4 => wlm Z rfl fun a Z => wlv Z (bt rfl rfl (Tryd.runUnderlying9 _)) fun a Z => al Z Y (by decide) Tryd.call75 rfl (gA (s.length : Int) _ (by unfold small; omega)) ?_
 clear Z Y
 intro a w1 Z Y
 refine wlm Z rfl fun a Z => wlv Z (ak rfl rfl) fun a Z => wlv Z (ak rfl rfl) fun a Z => wla Z rfl fun a Z => wla Z rfl fun a Z => ab (hK4 _ _ ?_)
 replace Z : Fr 18 [(0, _), (2, _), (3, _), (4, _)] [] a := Z.pick [0, 2, 3, 4]
 refine aa fun K5 hK5 => wlm Z rfl fun a Z => wlm Z rfl fun a Z => wlv Z (bw rfl rfl (by (try simp only [List.length_append]); omega)) fun a Z => wla Z rfl fun a Z => wla Z rfl fun a Z => ab (hK5 _ _ <| au ?_)
 refine ap Z Tryd.results50 (ac rfl (ac rfl ag)) ?_
 exact ⟨by rfl, Y.ext⟩
theorem dP {s r r2 : By} {n z : Int} {w0 : World} (hz : z = ((s.length - r.length : Nat) : Int)) (hsf : r <:+ s) (hsl : s.length ≤ 1000000) (hq : rdI r = some (n, r2)) :
  Ret Tryd.prog 57 #[sv s, iv z] w0 fun v w => v = .tuple #[iv n, iv ((s.length - r2.length : Nat) : Int), iv 0] ∧ Ext No w0 w := by
 subst hz
 have := il s (s.length - r.length) w0 (by omega) hsl
 unfold intV at this
 rw [← List.suffix_iff_eq_drop.1 hsf, hq] at this
 exact this
theorem dD {s r : By} {z : Int} {w0 : World} (hz : z = ((s.length - r.length : Nat) : Int)) (hsf : r <:+ s) (hsl : s.length ≤ 1000000) (hq : rdI r = none) :
  Ret Tryd.prog 57 #[sv s, iv z] w0 fun v w => v = .tuple #[iv 0, iv 0, iv 10] ∧ Ext No w0 w := by
 subst hz
 have := il s (s.length - r.length) w0 (by omega) hsl
 unfold intV at this
 rw [← List.suffix_iff_eq_drop.1 hsf, hq] at this
 exact this
theorem kw (s r x q : By) (z : Int) (w0 : World) (hz : z = ((s.length - r.length : Nat) : Int)) (hsf : r <:+ s) (hsl : s.length ≤ 1000000) (hq : rdS r = some (x, q)) :
  Ret Tryd.prog 59 #[sv s, iv z] w0 fun v w => v = .tuple #[sv x, iv ((s.length - q.length : Nat) : Int), iv 0] ∧ Ext No w0 w := by
 obtain ⟨n, r2, hi, h0, h6, hl, hx, -, hql⟩ := lr hq
 have hsu := hsf.length_le
 have hsf2 := (dl hi).trans hsf
 have hsu2 := hsf2.length_le
 refine aE Tryd.func59 rfl Tryd.ntmps59 (lb rfl) fun a Z => ?_
 replace Z : Fr 43 [(0, _), (1, _)] [] a := Z
 replace Y : St No w0 [] w0 := St.init w0
 refine aa fun K1 hK1 => wla Z rfl fun a Z => wla Z rfl fun a Z => wla Z rfl fun a Z => ab (hK1 _ _ <| aa fun K2 hK2 => ?_)
 refine wlm Z rfl fun a Z => wlm Z rfl fun a Z => al Z Y (by decide) Tryd.call57 rfl (dP hz hsf hsl hi) ?_
 clear Z Y
 intro a w1 Z Y
 refine wlm Z rfl fun a Z => wlv Z (ak rfl rfl) fun a Z => wlv Z (ak rfl rfl) fun a Z => wlv Z (ak rfl rfl) fun a Z => wla Z rfl fun a Z => wla Z rfl fun a Z => wla Z rfl fun a Z => ab (hK2 _ _ ?_)
 replace Z : Fr 43 [(0, _), (4, _), (5, _), (6, _), (7, _), (8, _), (9, _)] [] a := Z.pick [0, 4, 5, 6, 7, 8, 9]
 refine ae fun K3 hK3 => aa fun K4 hK4 => wlm Z rfl fun a Z => wlv Z ((v_ne rfl rfl).asb (b' := false) rfl) fun a Z => ab (hK4 _ _ <| aL Z rfl ?_)
 refine ar <| hK3 _ _ <| ae fun K5 hK5 => aa fun K6 hK6 => wlm Z rfl fun a Z => wlv Z ((v_lt rfl rfl).asb (b' := false) (by exact decide_eq_false (by omega))) fun a Z => wlm Z rfl fun a Z => wly Z (ah rfl) fun a Z => wly Z ((v_gt rfl rfl).asb (b' := false) (by exact decide_eq_false (by omega))) fun a Z => wlv Z (ax rfl rfl) fun a Z => wlm Z rfl fun a Z => wly Z (ah rfl) fun a Z => wly Z (ah rfl) fun a Z => wly Z (bt rfl rfl (Tryd.runUnderlying9 _)) fun a Z => wly Z (ah rfl) fun a Z => wly Z (bn rfl rfl ⟨by omega, by omega⟩) fun a Z => wly Z ((v_gt rfl rfl).asb (b' := false) (by exact decide_eq_false (by omega))) fun a Z => ?_
 refine wlv Z (ax rfl rfl) fun a Z => ab (hK6 _ _ ?_)
 replace Z : Fr 43 [(0, _), (4, _), (5, _), (6, _), (7, _), (8, _), (33, _)] [] a := Z.pick [0, 4, 5, 6, 7, 8, 33]
 refine aL Z rfl ?_
 refine ar <| hK5 _ _ <| aa fun K7 hK7 => wlm Z rfl fun a Z => wlm Z rfl fun a Z => wlm Z rfl fun a Z => wlm Z rfl fun a Z => wlv Z ((aU rfl rfl ⟨by omega, by omega⟩).asi (m' := ((s.length - q.length : Nat) : Int)) (by omega)) fun a Z => wlv Z ((gJ (xs := s) (l := s.length - r2.length) (h := s.length - q.length) rfl rfl rfl Tryd.underlying9 (.inr ⟨.i64, rfl⟩) (.inr ⟨.i64, rfl⟩) (by omega) (by omega)).as (v' := sv x) (by rw [← m7 hsf2 hx h0 hl hql])) fun a Z => wlm Z rfl fun a Z => wlm Z rfl fun a Z => wlv Z ((aU rfl rfl ⟨by omega, by omega⟩).asi (m' := ((s.length - q.length : Nat) : Int)) (by omega)) fun a Z => wla Z rfl fun a Z => wla Z rfl fun a Z => wla Z rfl fun a Z => ?_
 refine ab (hK7 _ _ ?_)
 replace Z : Fr 43 [(4, _), (5, _), (6, _)] [] a := Z.pick [4, 5, 6]
 refine au ?_
 refine ap Z Tryd.results59 (ac rfl (ac rfl (ac rfl ag))) ?_
 exact ⟨by rfl, Y.ext⟩
set_option maxHeartbeats 4000000 in
theorem iG (s r r2 : By) (n z : Int) (w0 : World) (hz : z = ((s.length - r.length : Nat) : Int)) (hsf : r <:+ s) (hsl : s.length ≤ 1000000) (hi : rdI r = some (n, r2)) (hb : n < 0 ∨ 65536 < n ∨ (r2.length : Int) < n) :
  Ret Tryd.prog 59 #[sv s, iv z] w0 fun v w => v = .tuple #[sv ([] : By), iv 0, iv 10] ∧ Ext No w0 w := by
 have hsu := hsf.length_le
 have hsf2 := (dl hi).trans hsf
 have hsu2 := hsf2.length_le
 refine aE Tryd.func59 rfl Tryd.ntmps59 (lb rfl) fun a Z => ?_
 replace Z : Fr 43 [(0, _), (1, _)] [] a := Z
 replace Y : St No w0 [] w0 := St.init w0
 refine aa fun K1 hK1 => wla Z rfl fun a Z => wla Z rfl fun a Z => wla Z rfl fun a Z => ab (hK1 _ _ <| aa fun K2 hK2 => ?_)
 refine wlm Z rfl fun a Z => wlm Z rfl fun a Z => al Z Y (by decide) Tryd.call57 rfl (dP hz hsf hsl hi) ?_
 clear Z Y
 intro a w1 Z Y
 refine wlm Z rfl fun a Z => wlv Z (ak rfl rfl) fun a Z => wlv Z (ak rfl rfl) fun a Z => wlv Z (ak rfl rfl) fun a Z => wla Z rfl fun a Z => wla Z rfl fun a Z => wla Z rfl fun a Z => ab (hK2 _ _ ?_)
 replace Z : Fr 43 [(0, _), (4, _), (5, _), (6, _), (7, _), (8, _), (9, _)] [] a := Z.pick [0, 4, 5, 6, 7, 8, 9]
 refine ae fun K3 hK3 => aa fun K4 hK4 => wlm Z rfl fun a Z => wlv Z ((v_ne rfl rfl).asb (b' := false) rfl) fun a Z => ab (hK4 _ _ <| aL Z rfl ?_)
 refine ar <| hK3 _ _ <| ae fun K5 hK5 => aa fun K6 hK6 => wlm Z rfl fun a Z => wlv Z (v_lt rfl rfl) fun a Z => wlm Z rfl fun a Z => ?_
 rcases Bool.eq_false_or_eq_true (decide (n < 0)) with hb1 | hb1
 ·rw [hb1] at Z
  try simp only [qz] at hb1
  refine wln Z fun a Z => wln Z fun a Z => wlv Z (aC rfl rfl) fun a Z => wlm Z rfl fun a Z => wln Z fun a Z => wln Z fun a Z => wln Z fun a Z => wln Z fun a Z => ?_
  refine wln Z fun a Z => wln Z fun a Z => wlv Z (aC rfl rfl) fun a Z => ab (hK6 _ _ ?_)
  replace Z : Fr 43 [(0, _), (4, _), (5, _), (6, _), (7, _), (8, _), (33, _)] [] a := Z.pick [0, 4, 5, 6, 7, 8, 33]
  refine aQ Z rfl ?_
  refine aa fun K7 hK7 => wla Z rfl fun a Z => wla Z rfl fun a Z => wla Z rfl fun a Z => ab (hK7 _ _ <| au ?_)
  refine ap Z Tryd.results59 (ac rfl (ac rfl (ac rfl ag))) ?_
  exact ⟨by rfl, Y.ext⟩
 rw [hb1] at Z
 try simp only [qz] at hb1
 refine wly Z (ah rfl) fun a Z => wly Z (v_gt rfl rfl) fun a Z => wlv Z (ax rfl rfl) fun a Z => wlm Z rfl fun a Z => ?_
 rcases Bool.eq_false_or_eq_true (decide (65536 < n)) with hb2 | hb2
 ·rw [hb2] at Z
  try simp only [qz] at hb2
  refine wln Z fun a Z => wln Z fun a Z => wln Z fun a Z => wln Z fun a Z => wln Z fun a Z => wln Z fun a Z => wlv Z (aC rfl rfl) fun a Z => ?_
  refine ab (hK6 _ _ ?_)
  replace Z : Fr 43 [(0, _), (4, _), (5, _), (6, _), (7, _), (8, _), (33, _)] [] a := Z.pick [0, 4, 5, 6, 7, 8, 33]
  refine aQ Z rfl ?_
  refine aa fun K8 hK8 => wla Z rfl fun a Z => wla Z rfl fun a Z => wla Z rfl fun a Z => ab (hK8 _ _ <| au ?_)
  refine ap Z Tryd.results59 (ac rfl (ac rfl (ac rfl ag))) ?_
  exact ⟨by rfl, Y.ext⟩
 rw [hb2] at Z
 try simp only [qz] at hb2
 refine wly Z (ah rfl) fun a Z => wly Z (ah rfl) fun a Z => wly Z (bt rfl rfl (Tryd.runUnderlying9 _)) fun a Z => wly Z (ah rfl) fun a Z => wly Z (bn rfl rfl ⟨by omega, by omega⟩) fun a Z => wly Z (v_gt rfl rfl) fun a Z => wlv Z (ax rfl rfl) fun a Z => ab (hK6 _ _ ?_)
 replace Z : Fr 43 [(0, _), (4, _), (5, _), (6, _), (7, _), (8, _), (33, _)] [] a := Z.pick [0, 4, 5, 6, 7, 8, 33]
 refine ay Z rfl (fun hc3 => ?_) (fun hc3 => ?_)
 ·rw [hc3] at Z
  try simp only [qz] at hc3
  refine aa fun K9 hK9 => wla Z rfl fun a Z => wla Z rfl fun a Z => wla Z rfl fun a Z => ab (hK9 _ _ <| au ?_)
  refine ap Z Tryd.results59 (ac rfl (ac rfl (ac rfl ag))) ?_
  exact ⟨by rfl, Y.ext⟩
 rw [hc3] at Z
 try simp only [qz] at hc3
 exfalso; omega
theorem iP (s r : By) (z : Int) (w0 : World) (hz : z = ((s.length - r.length : Nat) : Int)) (hsf : r <:+ s) (hsl : s.length ≤ 1000000) (hi : rdI r = none) :
  Ret Tryd.prog 59 #[sv s, iv z] w0 fun v w => v = .tuple #[sv ([] : By), iv 0, iv 10] ∧ Ext No w0 w := by
 refine aE Tryd.func59 rfl Tryd.ntmps59 (lb rfl) fun a Z => ?_
 replace Z : Fr 43 [(0, _), (1, _)] [] a := Z
 replace Y : St No w0 [] w0 := St.init w0
 refine aa fun K1 hK1 => wla Z rfl fun a Z => wla Z rfl fun a Z => wla Z rfl fun a Z => ab (hK1 _ _ <| aa fun K2 hK2 => ?_)
 refine wlm Z rfl fun a Z => wlm Z rfl fun a Z => al Z Y (by decide) Tryd.call57 rfl (dD hz hsf hsl hi) ?_
 clear Z Y
 intro a w1 Z Y
 refine wlm Z rfl fun a Z => wlv Z (ak rfl rfl) fun a Z => wlv Z (ak rfl rfl) fun a Z => wlv Z (ak rfl rfl) fun a Z => wla Z rfl fun a Z => wla Z rfl fun a Z => wla Z rfl fun a Z => ab (hK2 _ _ ?_)
 replace Z : Fr 43 [(0, _), (4, _), (5, _), (6, _), (7, _), (8, _), (9, _)] [] a := Z.pick [0, 4, 5, 6, 7, 8, 9]
 refine ae fun K3 hK3 => aa fun K4 hK4 => wlm Z rfl fun a Z => wlv Z ((v_ne rfl rfl).asb (b' := true) rfl) fun a Z => ab (hK4 _ _ <| aQ Z rfl ?_)
 refine aa fun K5 hK5 => wlm Z rfl fun a Z => wla Z rfl fun a Z => wla Z rfl fun a Z => wla Z rfl fun a Z => ab (hK5 _ _ <| au ?_)
 refine ap Z Tryd.results59 (ac rfl (ac rfl (ac rfl ag))) ?_
 exact ⟨by rfl, Y.ext⟩
theorem jF {s r : By} {z : Int} {w0 : World} (hz : z = ((s.length - r.length : Nat) : Int)) (hsf : r <:+ s) (hsl : s.length ≤ 1000000) (hq : rdS r = none) :
  Ret Tryd.prog 59 #[sv s, iv z] w0 fun v w => v = .tuple #[sv ([] : By), iv 0, iv 10] ∧ Ext No w0 w := by
 rcases ny hq with hi | ⟨n, r2, hi, hb⟩
 ·exact iP s r z w0 hz hsf hsl hi
 ·exact iG s r r2 n z w0 hz hsf hsl hi hb
end Go.Proofs.YtddfkkdanpmnaaaDoor
namespace Go.Proofs.YtddfkkdanpmnaaaDoor
open Go.RowKit Go.PW
set_option linter.unusedVariables false
set_option linter.unusedSimpArgs false
set_option maxRecDepth 4000
def smalls (l : List Int) : Prop := ∀ n ∈ l, small n
def i64 (n : Int) : Prop := -9223372036854775808 ≤ n ∧ n ≤ 9223372036854775807
def Rec.cells (x : Rec) : List Value := [iv x.t, iv x.kind, iv x.a, iv x.b, sv x.text]
theorem et {l : List (List Value)} (h : ∀ e ∈ l, ∃ p : Rec, e = p.cells) : ∀ e ∈ l, ∀ u ∈ e, u.oneCell' = true := by
 intro e he u hu
 obtain ⟨p, rfl⟩ := h e he
 simp only [Rec.cells, List.mem_cons, List.not_mem_nil, or_false] at hu
 rcases hu with rfl | rfl | rfl | rfl | rfl <;> rfl
def Rin.cells (y : Rin) : List Value := [iv y.x0, iv y.x1, iv y.x2, iv y.x3, iv y.x4]
def Rin.z : Rin := ⟨0, 0, 0, 0, 0⟩
def Rin.wt (y : Rin) : Prop := i64 y.x0 ∧ i64 y.x1 ∧ i64 y.x2 ∧ i64 y.x3 ∧ i64 y.x4
def prevT (l : List Rec) : Nat → Int
 | 0 => 0
 | k + 1 => (l.getD k Rec.z).t
theorem Rec.t0 {x : Rec} (h : x.ok = true) : 0 ≤ x.t := by
 simp only [Rec.ok, inB, Bool.and_eq_true, decide_eq_true_eq] at h; omega
theorem es {l : List Rec} {k : Nat} (h : k < l.length) : l.drop k = l.getD k Rec.z :: l.drop (k + 1) := by
 rw [List.drop_eq_getElem_cons h, List.getD_eq_getElem?_getD, List.getElem?_eq_getElem h]; rfl
section
variable {l : List Rec} {k : Nat} {t : Int}
theorem sr_go (hk : k < l.length) (ho : (l.getD k Rec.z).ok = true) (ht : t ≤ (l.getD k Rec.z).t) : bH t (l.drop k) = bH (prevT l (k + 1)) (l.drop (k + 1)) := by
 rw [es hk, bH, ho, decide_eq_true ht]; rfl
theorem sr_no (hk : k < l.length) (ho : (l.getD k Rec.z).ok = false) : bH t (l.drop k) = false := by rw [es hk, bH, ho]; rfl
theorem sr_lt (hk : k < l.length) (ht : (l.getD k Rec.z).t < t) : bH t (l.drop k) = false := by rw [es hk, bH, decide_eq_false (by omega), Bool.and_false]; rfl
end
def eB (x : Rec) : By := if x.ok = true then x.enc else []
def eE (x : Rec) : Int := if x.ok = true then 0 else 110
theorem lj (x : Rec) : (eB x).length ≤ 300 := by
 unfold eB
 split
 ·rename_i h
  have h1 := x.enc_len
  have h2 := Rec.len h
  omega
 ·simp
def decR (acc : List Int) (m : Nat) (r : By) : Option Rec := match intsR m r with
 | none => none
 | some (l, t) => tailR (acc ++ l) t
def decX (s : By) : Rec := (decRec s).getD Rec.z
def decE (s : By) : Int := if (decRec s).isSome = true then 0 else 110
section
variable {acc : List Int} {m : Nat} {r q x s : By} {n : Int}
theorem mr : decRec s = decR [] 4 s := by
 unfold decRec decR
 cases intsR 4 s <;> rfl
theorem fd (h : rdI r = some (n, q)) : decR acc (m + 1) r = decR (acc ++ [n]) m q := by
 unfold decR
 rw [lL h]
 cases intsR m q with
 | none => rfl
 | some p => simp
theorem ey (h : rdI r = none) : decR acc (m + 1) r = none := by unfold decR; rw [km h]
theorem k7 : decR acc 0 r = tailR acc r := by unfold decR; simp [intsR]
theorem j8 (h : rdS r = none) : tailR acc r = none := by unfold tailR; rw [h]
theorem lw (h : rdS r = some (x, q)) : tailR acc r = shutR acc x q := by unfold tailR; rw [h]
theorem kL (h1 : q = []) (h2 : (recN acc x).ok = true) : shutR acc x q = some (recN acc x) := if_pos ⟨h1, h2⟩
theorem kI (h : q ≠ []) : shutR acc x q = none := if_neg fun hh => h hh.1
theorem kn (h : (recN acc x).ok = false) : shutR acc x q = none := if_neg fun hh => by rw [h] at hh; cases hh.2
end
def codesB (l : List Rec) : List By := l.map eB
theorem dR {l : List Rec} (h : ∀ x ∈ l, x.ok = true) : codesB l = codesR l := List.map_congr_left fun x hx => if_pos (h x hx)
theorem fK (l : List Rec) : ∀ s ∈ codesB l, s.length ≤ 300 := by
 intro s hs
 obtain ⟨x, _, rfl⟩ := List.mem_map.1 hs
 exact lj x
theorem fQ (l : List Rec) : (codesB l).length = l.length := List.length_map ..
def addOk (o : Int) (l : List Rec) (x : Rec) : Bool := logOk o l && logOk o (l ++ [x])
theorem dA {P : Program} {w : World} {d : Nat} {xs ys : Array Value} {f : Field} {fs : List Field} {a b : Value} {r r' : Bool} (hn : f.name ≠ "_") (h1 : (part f.type xs f.offset).run P w = .ok a w) (h2 : (part f.type ys f.offset).run P w = .ok b w)
  (h3 : (Op.equalIn d f.type a b).run P w = .ok r w) (h4 : (Op.eqFields d xs ys fs).run P w = .ok r' w) : (Op.eqFields d xs ys (f :: fs)).run P w = .ok (r && r') w := by
 simp only [Op.eqFields, hn, ne_eq, not_false_eq_true, if_true, Sem.run_bind, h1, h2, h3, Result.andThen_ok]
 cases r
 ·simp
 ·simpa using h4
theorem mW {P : Program} {w : World} {d : Nat} {xs ys : Array Value} : (Op.eqFields d xs ys []).run P w = .ok true w := by simp [Op.eqFields]
theorem eqI {w : World} (d : Nat) (a b : Int) : (Op.equalIn (d + 1) 3 (iv a) (iv b)).run Tryd.prog w = .ok (decide (a = b)) w := by
 rw [run_equalIn_int w d 3 .i64 .i64 a b Tryd.underlying3]; congr 1
theorem eqS {w : World} (d : Nat) (a b : By) : (Op.equalIn (d + 1) 9 (sv a) (sv b)).run Tryd.prog w = .ok (decide (a = b)) w := by
 unfold sv
 rw [run_equalIn_string w d 9 _ _ Tryd.underlying9, ByteArray.toList_mk, ByteArray.toList_mk]; congr 1
 rw [Bool.eq_iff_iff]; simp
theorem eqRec (a0 a1 a2 a3 : Int) (a4 : By) (c0 c1 c2 c3 : Int) (c4 : By) (w : World) : (Op.equal 27 (.agg #[iv a0, iv a1, iv a2, iv a3, sv a4]) (.agg #[iv c0, iv c1, iv c2, iv c3, sv c4])).run Tryd.prog w = .ok (decide (Rec.mk a0 a1 a2 a3 a4 = Rec.mk c0 c1 c2 c3 c4)) w := by
 have e : decide (Rec.mk a0 a1 a2 a3 a4 = Rec.mk c0 c1 c2 c3 c4) = (decide (a0 = c0) && (decide (a1 = c1) && (decide (a2 = c2) && (decide (a3 = c3) && (decide (a4 = c4) && true))))) := by
  rw [Bool.eq_iff_iff]; simp [and_assoc]
 rw [e]
 unfold Op.equal Op.maxDepth
 obtain ⟨dd, hd⟩ : ∃ dd, 10000 = dd + 1 + 1 + 1 := ⟨9997, rfl⟩
 rw [hd, run_equalIn_struct w (dd + 1 + 1) 27 _ _ (by kernel_rfl) (by kernel_rfl)]
 simp only [Program.fieldsOf, Tryd.underlying27]
 refine dA (a := iv a0) (b := iv c0) (r := decide (a0 = c0)) (by decide) (by simp [part, Tryd.isAgg3, sv]) (by simp [part, Tryd.isAgg3, sv]) (eqI _ _ _) ?_
 refine dA (a := iv a1) (b := iv c1) (r := decide (a1 = c1)) (by decide) (by simp [part, Tryd.isAgg3, sv]) (by simp [part, Tryd.isAgg3, sv]) (eqI _ _ _) ?_
 refine dA (a := iv a2) (b := iv c2) (r := decide (a2 = c2)) (by decide) (by simp [part, Tryd.isAgg3, sv]) (by simp [part, Tryd.isAgg3, sv]) (eqI _ _ _) ?_
 refine dA (a := iv a3) (b := iv c3) (r := decide (a3 = c3)) (by decide) (by simp [part, Tryd.isAgg3, sv]) (by simp [part, Tryd.isAgg3, sv]) (eqI _ _ _) ?_
 refine dA (a := sv a4) (b := sv c4) (r := decide (a4 = c4)) (by decide) (by simp [part, Tryd.isAgg9, sv]) (by simp [part, Tryd.isAgg9, sv]) (eqS _ _ _) ?_
 exact mW
theorem cb (n m : Int) (w0 : World) (hn : -9223372036854775808 ≤ n ∧ n ≤ 9223372036854775807) (hm : 0 < m ∧ m ≤ 9223372036854775807) :
  Ret Tryd.prog 44 #[iv n, iv m] w0 fun v w => v = iv (pickI n m) ∧ Ext No w0 w := by
 refine aE Tryd.func44 rfl Tryd.ntmps44 (lb rfl) fun a Z => ?_
 replace Z : Fr 13 [(0, _), (1, _)] [] a := Z
 replace Y : St No w0 [] w0 := St.init w0
 refine aa fun K1 hK1 => wla Z rfl fun a Z => ab (hK1 _ _ <| ae fun K2 hK2 => ?_)
 refine aa fun K3 hK3 => wlm Z rfl fun a Z => wlv Z (v_lt rfl rfl) fun a Z => ab (hK3 _ _ ?_)
 refine ay Z rfl (fun hc1 => ?_) (fun hc1 => ?_)
 ·rw [hc1] at Z
  try simp only [qz] at hc1
  refine am <| wlm Z rfl fun a Z => wlv Z (aU rfl rfl ⟨by omega, by omega⟩) fun a Z => wlv Z (iW rfl (by omega) (by omega)) fun a Z => wla Z rfl fun a Z => ab <| hK2 _ _ <| aa fun K4 hK4 => ?_
  refine wlm Z rfl fun a Z => wlm Z rfl fun a Z => wlv Z (gn rfl rfl (by omega) (by omega)) fun a Z => wla Z rfl fun a Z => ab (hK4 _ _ ?_)
  replace Z : Fr 13 [(4, _)] [] a := Z.pick [4]
  refine au ?_
  refine ap Z Tryd.results44 (ac rfl ag) ?_
  exact ⟨by simp only [retv, pickI]; simp [hc1], Y.ext⟩
 rw [hc1] at Z
 try simp only [qz] at hc1
 refine ar <| hK2 _ _ <| aa fun K5 hK5 => wlm Z rfl fun a Z => wlm Z rfl fun a Z => wlv Z (gn rfl rfl (by omega) (by omega)) fun a Z => wla Z rfl fun a Z => ab (hK5 _ _ ?_)
 replace Z : Fr 13 [(4, _)] [] a := Z.pick [4]
 refine au ?_
 refine ap Z Tryd.results44 (ac rfl ag) ?_
 exact ⟨by simp only [retv, pickI]; simp [hc1], Y.ext⟩
theorem lz (n m : Int) (w0 : World) (hn : -9223372036854775808 ≤ n ∧ n ≤ 9223372036854775807) (hm : 0 < m ∧ m ≤ 9223372036854775807) :
  Ret Tryd.prog 19 #[iv n, iv m] w0 fun v w => v = iv (pickI n m) ∧ Ext No w0 w := by
 refine aE Tryd.func19 rfl Tryd.ntmps19 (lb rfl) fun a Z => ?_
 replace Z : Fr 13 [(0, _), (1, _)] [] a := Z
 replace Y : St No w0 [] w0 := St.init w0
 refine aa fun K1 hK1 => wla Z rfl fun a Z => ab (hK1 _ _ <| ae fun K2 hK2 => ?_)
 refine aa fun K3 hK3 => wlm Z rfl fun a Z => wlv Z (v_lt rfl rfl) fun a Z => ab (hK3 _ _ ?_)
 refine ay Z rfl (fun hc1 => ?_) (fun hc1 => ?_)
 ·rw [hc1] at Z
  try simp only [qz] at hc1
  refine am <| wlm Z rfl fun a Z => wlv Z (aU rfl rfl ⟨by omega, by omega⟩) fun a Z => wlv Z (iW rfl (by omega) (by omega)) fun a Z => wla Z rfl fun a Z => ab <| hK2 _ _ <| aa fun K4 hK4 => ?_
  refine wlm Z rfl fun a Z => wlm Z rfl fun a Z => wlv Z (gn rfl rfl (by omega) (by omega)) fun a Z => wla Z rfl fun a Z => ab (hK4 _ _ ?_)
  replace Z : Fr 13 [(4, _)] [] a := Z.pick [4]
  refine au ?_
  refine ap Z Tryd.results19 (ac rfl ag) ?_
  exact ⟨by simp only [retv, pickI]; simp [hc1], Y.ext⟩
 rw [hc1] at Z
 try simp only [qz] at hc1
 refine ar <| hK2 _ _ <| aa fun K5 hK5 => wlm Z rfl fun a Z => wlm Z rfl fun a Z => wlv Z (gn rfl rfl (by omega) (by omega)) fun a Z => wla Z rfl fun a Z => ab (hK5 _ _ ?_)
 replace Z : Fr 13 [(4, _)] [] a := Z.pick [4]
 refine au ?_
 refine ap Z Tryd.results19 (ac rfl ag) ?_
 exact ⟨by simp only [retv, pickI]; simp [hc1], Y.ext⟩
end Go.Proofs.YtddfkkdanpmnaaaDoor
namespace Go.Proofs.YtddfkkdanpmnaaaDoor
open Go.RowKit Go.PW
set_option linter.unusedVariables false
set_option linter.unusedSimpArgs false
set_option maxRecDepth 4000
theorem go {o : Int} {l : List Rec} {x : Rec} (h : addOk o l x = true) : logOk o l = true ∧ logOk o (l ++ [x]) = true := by
 unfold addOk at h; simpa using h
end Go.Proofs.YtddfkkdanpmnaaaDoor
namespace Go.Proofs.YtddfkkdanpmnaaaDoor
open Go.RowKit Go.PW
set_option linter.unusedVariables false
set_option linter.unusedSimpArgs false
set_option maxRecDepth 4000
theorem mM {a b : Int} (ha : i64 a) (hb : 1 ≤ b) : -9223372036854775808 ≤ a.tdiv b ∧ a.tdiv b ≤ 9223372036854775807 := by
 have h : (a.tdiv b).natAbs ≤ a.natAbs := by rw [Int.natAbs_tdiv]; exact Nat.div_le_self _ _
 unfold i64 at ha
 by_cases h0 : 0 ≤ a
 ·have := Int.tdiv_nonneg h0 (by omega : 0 ≤ b); omega
 ·have h1 : a.tdiv b = -((-a).tdiv b) := by rw [Int.neg_tdiv, Int.neg_neg]
  have := Int.tdiv_nonneg (by omega : 0 ≤ -a) (by omega : 0 ≤ b); omega
def timeR : Int → List Rin → Int
 | t, [] => t
 | t, y :: l => timeR (t + pickI y.x0 30) l
theorem f9 : ∀ (l : List Rin) (t : Int) (y : Rin), timeR t (l ++ [y]) = timeR t l + pickI y.x0 30
 | [], t, y => rfl
 | x :: l, t, y => f9 l _ y
theorem fA : ∀ (l : List Rin) (t : Int) (y : Rin), recsR t (l ++ [y]) = recsR t l ++ [entR (timeR t l + pickI y.x0 30) y.x1 y.x2 y.x3 y.x4]
 | [], t, y => rfl
 | x :: l, t, y => by rw [List.cons_append, recsR, fA l _ y]; rfl
theorem iA : ∀ (l : List Rin) (t : Int), 0 ≤ t → 0 ≤ timeR t l ∧ timeR t l ≤ t + 30 * l.length
 | [], t, h => ⟨h, by simp [timeR]⟩
 | x :: l, t, h => by
  have h1 := bC x.x0 (n := 30) (by omega)
  have h2 := iA l (t + pickI x.x0 30) (by omega)
  rw [timeR, List.length_cons]; omega
theorem fp {α : Type} {l : List α} {k : Nat} (hk : k ≤ l.length) (h : ¬ (k < l.length ∧ k < 12)) (h12 : k ≤ 12) : l.take k = l.take 12 := by
 by_cases h1 : k = 12
 ·rw [h1]
 ·rw [List.take_of_length_le (by omega), List.take_of_length_le (by omega)]
def keyR (n : Int) : By := sha (putI (pickI n 1099511627776))
def exR : List Rec := [⟨10, 1, 7, -1, [110, 101, 119, 115]⟩, ⟨20, 2, 0, 5, []⟩, ⟨20, 1, 8, -1, []⟩]
theorem j5 {P : Program} {w : World} {L : List (Nat × Value)} {dst : Option Tmp} {T T' ty : TypeId} {pos : String} {af : Array Edge} {gd : Option (Nat × Bool)} {x : Operand} {n : Int} (hx : ev L x = some (iv n)) (hs : (P.underlying T).isSome = true) (hd : P.underlying T' = some (.int .u8)) : OpV P ⟨dst, .convert T T' x, ty, pos, af, gd⟩ L w (yv (UInt8.ofNat (n % 256).toNat)) :=
 (cX hx hs hd).as (by
  have h1 : 0 ≤ n % 256 := Int.emod_nonneg _ (by decide)
  have h2 : n % 256 < 256 := Int.emod_lt_of_pos _ (by decide)
  have e : ((UInt8.ofNat (n % 256).toNat).toNat : Int) = n % 256 := by rw [bX (by omega)]; omega
  unfold yv
  rw [e]
  simp [IntKind.wrap, IntKind.signed, IntKind.bits])
theorem kS (t x0 x1 x2 x3 : Int) (w0 : World) (ht : i64 t) (h0 : i64 x0) (h1 : i64 x1) (h2 : i64 x2) (h3 : i64 x3) :
  Ret Tryd.prog 15 #[iv t, .agg #[iv x0, iv x1, iv x2, iv x3]] w0 fun v w => v = .agg #[iv ((entR t x0 x1 x2 x3).t), iv ((entR t x0 x1 x2 x3).kind), iv ((entR t x0 x1 x2 x3).a), iv ((entR t x0 x1 x2 x3).b), sv ((entR t x0 x1 x2 x3).text)] ∧ Ext No w0 w := by
 have hp4 := bC x3 (n := 4) (by decide)
 have hpa := bC x0 (n := 3) (by decide)
 have hpb := bC x1 (n := 200) (by decide)
 have hpc := bC x2 (n := 200) (by decide)
 refine aE Tryd.func15 rfl Tryd.ntmps15 (lb rfl) fun a Z => ?_
 replace Z : Fr 43 [(0, _), (1, _)] [] a := Z
 replace Y : St No w0 [] w0 := St.init w0
 refine aa fun K1 hK1 => bx Z Y (by decide) rfl (cs := [iv x0, iv x1, iv x2, iv x3]) rfl ?_
 clear Z Y
 intro a w1 Z Y
 refine aO Z Y (by decide) (Tryd.zeroValue27 _) (cs := [iv 0, iv 0, iv 0, iv 0, .string (⟨#[]⟩)]) rfl ?_
 clear Z Y
 intro a w2 Z Y
 refine ab (hK1 _ _ <| ae fun K2 hK2 => ?_)
 refine aM (by kernel_rfl) (aR (by kernel_rfl) fun w3 hxz => ?_)
 replace Y := Y.grow hxz
 refine bj (k := 0) 16 [14, 15] Z (by kernel_rfl) (by kernel_rfl) (by kernel_rfl) (by rfl) ?_
 replace Z : Fr 43 [(0, _), (1, _), (3, _), (4, _)] [] a := Z.pick [0, 1, 3, 4]
 refine aF [15] (fun i => match i with | 15 => pm (fun b : Nat => pt b) (fun b => [blk b [iv 0, iv 0, iv 0, iv 0, .string (⟨#[]⟩)] 27]) (fun _ => True) | _ => fun _ _ => False) 16 [[], [0], [], [2], [3], [4], [], [6], [7], [8], [], [10], [11], [12], [1, 5, 9, 13], []] [iv t, iv (pickI t 10000001), pt w0.heap.size, iv x0, iv (pickI x0 3), iv (1 + (pickI x0 3)), .pointer (some ⟨w0.heap.size, 1, none⟩), iv x1, iv (pickI x1 200), iv ((pickI x1 200) - 1), .pointer (some ⟨w0.heap.size, 2, none⟩), iv x2, iv (pickI x2 200), iv ((pickI x2 200) - 1), .agg #[iv (pickI t 10000001), iv (1 + (pickI x0 3)), iv ((pickI x1 200) - 1), iv ((pickI x2 200) - 1), .string (⟨#[]⟩)], undef] Z Y (by kernel_rfl) (by kernel_rfl) (by kernel_rfl) ?_ ?_ ?_
 ·intro i hi hiq
  match i, hi, hiq with
  | 0, _, _ =>
   intro w Y
   exact OpV.g (ah rfl)
  | 1, _, _ =>
   intro w Y
   exact bu Tryd.call44 rfl (cb t 10000001 _ (by first | assumption | (unfold i64 at *; omega) | omega) (by omega))
  | 2, _, _ =>
   intro w Y
   exact OpV.g (aV (v := pt w0.heap.size) rfl rfl (by kernel_rfl))
  | 3, _, _ =>
   intro w Y
   exact OpV.g (ai (Y.get (k := 1) rfl) rfl (Tryd.isAgg3 _) rfl)
  | 4, _, _ =>
   intro w Y
   exact bu Tryd.call44 rfl (cb x0 3 _ (by first | assumption | (unfold i64 at *; omega) | omega) (by omega))
  | 5, _, _ =>
   intro w Y
   exact OpV.g (aU rfl rfl ⟨by omega, by omega⟩)
  | 6, _, _ =>
   intro w Y
   exact OpV.g (aV (v := .pointer (some ⟨w0.heap.size, 1, none⟩)) rfl rfl (by kernel_rfl))
  | 7, _, _ =>
   intro w Y
   exact OpV.g (ai (Y.get (k := 1) rfl) rfl (Tryd.isAgg3 _) rfl)
  | 8, _, _ =>
   intro w Y
   exact bu Tryd.call44 rfl (cb x1 200 _ (by first | assumption | (unfold i64 at *; omega) | omega) (by omega))
  | 9, _, _ =>
   intro w Y
   exact OpV.g (bn rfl rfl ⟨by omega, by omega⟩)
  | 10, _, _ =>
   intro w Y
   exact OpV.g (aV (v := .pointer (some ⟨w0.heap.size, 2, none⟩)) rfl rfl (by kernel_rfl))
  | 11, _, _ =>
   intro w Y
   exact OpV.g (ai (Y.get (k := 1) rfl) rfl (Tryd.isAgg3 _) rfl)
  | 12, _, _ =>
   intro w Y
   exact bu Tryd.call44 rfl (cb x2 200 _ (by first | assumption | (unfold i64 at *; omega) | omega) (by omega))
  | 13, _, _ =>
   intro w Y
   exact OpV.g (bn rfl rfl ⟨by omega, by omega⟩)
  | 14, _, _ =>
   intro w Y
   exact OpV.g (bA (v := .agg #[iv (pickI t 10000001), iv (1 + (pickI x0 3)), iv ((pickI x1 200) - 1), iv ((pickI x2 200) - 1), .string (⟨#[]⟩)]) rfl (by kernel_rfl))
  | 15, _, h => exact absurd (by simp) h
  | i + 16, h, _ => exact absurd h (by omega)
 ·intro i hi
  simp only [List.mem_cons, List.not_mem_nil, or_false] at hi
  subst hi
  ·intro w Y
   exact hC (Tryd.zeroValue27 _) (cs := [iv 0, iv 0, iv 0, iv 0, .string (⟨#[]⟩)]) rfl
 clear Z Y
 rintro _ _ ⟨b1, rfl, -, rfl⟩ a w4 Z Y
 replace Z : Fr 43 [(7, iv t), (8, iv (pickI t 10000001)), (9, pt w0.heap.size), (10, iv x0), (11, iv (pickI x0 3)), (12, iv (1 + (pickI x0 3))), (13, .pointer (some ⟨w0.heap.size, 1, none⟩)), (14, iv x1), (15, iv (pickI x1 200)), (16, iv ((pickI x1 200) - 1)), (17, .pointer (some ⟨w0.heap.size, 2, none⟩)), (18, iv x2), (19, iv (pickI x2 200)), (20, iv ((pickI x2 200) - 1)), (21, .agg #[iv (pickI t 10000001), iv (1 + (pickI x0 3)), iv ((pickI x1 200) - 1), iv ((pickI x2 200) - 1), .string (⟨#[]⟩)]), (5, _), (0, _), (1, _), (3, _), (4, _)] [] a := Z
 replace Y : St No w0 [_, _, _] w4 := Y
 refine ab <| aY (k := 16) 17 [16] (by kernel_rfl) (by kernel_rfl) (by kernel_rfl) ?_
 refine aG 0 Z Y rfl rfl rfl (Tryd.sizeOf27 _) rfl (lb rfl) (ds := [iv (pickI t 10000001), iv (1 + (pickI x0 3)), iv ((pickI x1 200) - 1), iv ((pickI x2 200) - 1), .string (⟨#[]⟩)]) rfl rfl ?_
 clear Z Y
 intro a w5 Z Y
 refine ab <| bf (by kernel_rfl) ?_
 refine hK2 _ _ ?_
 replace Z : Fr 43 [(3, _), (4, _), (5, _)] [] a := Z.pick [3, 4, 5]
 refine ae fun K3 hK3 => aa fun K4 hK4 => wla Z rfl fun a Z => ab (hK4 _ _ <| ao ?_)
 refine aN (fun m a w => ∃ (k : Nat), m = (pickI x3 4).toNat - k ∧ ((k : Int) ≤ pickI x3 4) ∧ Fr 43 [(3, pt w0.heap.size), (4, pt w1.heap.size), (5, pt b1), (6, iv (k : Int))] [] a ∧ St No w0 [blk b1 [iv (pickI t 10000001), iv (1 + (pickI x0 3)), iv ((pickI x1 200) - 1), iv ((pickI x2 200) - 1), sv (textR x3 k)] 27, blk w1.heap.size [iv 0, iv 0, iv 0, iv 0, .string (⟨#[]⟩)] 27, blk w0.heap.size [iv x0, iv x1, iv x2, iv x3] 37] w) _ ⟨0, rfl, hp4.1, Z.pick [3, 4, 5, 6], Y.select [0, 1, 2] (by decide)⟩ ?_
 rintro _ a w6 ⟨k, rfl, hk, Z, Y⟩
 refine ae fun K5 hK5 => aa fun K6 hK6 => wlm Z rfl fun a Z => wlv Z (aV (v := .pointer (some ⟨w0.heap.size, 3, none⟩)) rfl rfl (by kernel_rfl)) fun a Z => wlv Z (ai (Y.get (k := 2) rfl) rfl (Tryd.isAgg3 _) rfl) fun a Z => al Z Y (by decide) Tryd.call44 rfl (cb x3 4 _ (by first | assumption | (unfold i64 at *; omega) | omega) (by omega)) ?_
 clear Z Y
 intro a w7 Z Y
 refine wlv Z (v_lt rfl rfl) fun a Z => ab (hK6 _ _ ?_)
 refine ay Z rfl (fun hc2 => ?_) (fun hc2 => ?_)
 ·rw [hc2] at Z
  try simp only [qz] at hc2
  have hk4 : k < 4 := by omega
  have htl := eM x3 k
  have htl2 := bC (x3.tdiv (4 + (k : Int))) (n := 256) (by decide)
  have htd := mM h3 (b := 4 + (k : Int)) (by omega)
  refine ar <| hK5 _ _ <| ae fun K7 hK7 => ao <| aM (by kernel_rfl) (aR (by kernel_rfl) fun w8 hxz => ?_)
  replace Y := Y.grow hxz
  refine bj (k := 0) 11 [1, 10] Z (by kernel_rfl) (by kernel_rfl) (by kernel_rfl) (by rfl) ?_
  replace Z : Fr 43 [(3, _), (4, _), (5, _), (6, _), (22, _), (23, _), (24, _), (25, _), (26, _)] [] a := Z.pick [3, 4, 5, 6, 22, 23, 24, 25, 26]
  refine aF [9] (fun i => match i with | 9 => pm (fun b : Nat => .slice (some ⟨b, 0, none⟩) 1 1) (fun b => [own (.slice (some ⟨b, 0, none⟩) 1 1) 5 1 [[yv (UInt8.ofNat (pickI (x3.tdiv (4 + (k : Int))) 256).toNat)]]]) (fun _ => True) | _ => fun _ _ => False) 11 [[], [0], [], [2], [], [4], [3, 5], [6], [7], [8], [9]] [.pointer (some ⟨b1, 4, none⟩), sv (textR x3 k), .pointer (some ⟨w0.heap.size, 3, none⟩), iv x3, iv (k : Int), iv (4 + (k : Int)), iv (x3.tdiv (4 + (k : Int))), iv (pickI (x3.tdiv (4 + (k : Int))) 256), yv (UInt8.ofNat (pickI (x3.tdiv (4 + (k : Int))) 256).toNat), undef, sv ([(UInt8.ofNat (pickI (x3.tdiv (4 + (k : Int))) 256).toNat)])] Z Y (by kernel_rfl) (by kernel_rfl) (by kernel_rfl) ?_ ?_ ?_
  ·intro i hi hiq
   match i, hi, hiq with
   | 0, _, _ =>
    intro w Y
    exact OpV.g (aq (v := .pointer (some ⟨b1, 4, none⟩)) rfl (by kernel_rfl))
   | 1, _, _ =>
    intro w Y
    exact OpV.g (ai (Y.get (k := 0) rfl) rfl (Tryd.isAgg9 _) rfl)
   | 2, _, _ =>
    intro w Y
    exact OpV.g (aV (v := .pointer (some ⟨w0.heap.size, 3, none⟩)) rfl rfl (by kernel_rfl))
   | 3, _, _ =>
    intro w Y
    exact OpV.g (ai (Y.get (k := 2) rfl) rfl (Tryd.isAgg3 _) rfl)
   | 4, _, _ =>
    intro w Y
    exact OpV.g (ah rfl)
   | 5, _, _ =>
    intro w Y
    exact OpV.g (aU rfl rfl ⟨by omega, by omega⟩)
   | 6, _, _ =>
    intro w Y
    exact OpV.g (nL rfl rfl (by omega) h3)
   | 7, _, _ =>
    intro w Y
    exact bu Tryd.call44 rfl (cb (x3.tdiv (4 + (k : Int))) 256 _ (by first | assumption | (unfold i64 at *; omega) | omega) (by omega))
   | 8, _, _ =>
    intro w Y
    exact OpV.g ((j5 (n := pickI (x3.tdiv (4 + (k : Int))) 256) rfl (by kernel_rfl) Tryd.underlying5).as (v' := yv (UInt8.ofNat (pickI (x3.tdiv (4 + (k : Int))) 256).toNat)) (by have hp := bC (x3.tdiv (4 + (k : Int))) (n := 256) (by decide); rw [Int.emod_eq_of_lt hp.1 hp.2]))
   | 9, _, h => exact absurd (by simp) h
   | 10, _, _ =>
    rintro _ _ ⟨b3, rfl, -, rfl⟩
    intro w Y
    exact OpV.g (dq (xs := [(UInt8.ofNat (pickI (x3.tdiv (4 + (k : Int))) 256).toNat)]) (Y.ownAt (i := 0) rfl) rfl Tryd.underlying71 Tryd.underlying5 Tryd.underlying9)
  ·intro i hi
   simp only [List.mem_cons, List.not_mem_nil, or_false] at hi
   subst hi
   ·intro w Y
    exact aW (E := 5) (sz := 1) rfl [[yv (UInt8.ofNat (pickI (x3.tdiv (4 + (k : Int))) 256).toNat)]] (fun _ => by kernel_rfl) (by simp) rfl (by decide)
  clear Z Y
  rintro _ _ ⟨b3, rfl, -, rfl⟩ a w9 Z Y
  replace Z : Fr 43 [(29, .pointer (some ⟨b1, 4, none⟩)), (30, sv (textR x3 k)), (31, .pointer (some ⟨w0.heap.size, 3, none⟩)), (32, iv x3), (33, iv (k : Int)), (34, iv (4 + (k : Int))), (35, iv (x3.tdiv (4 + (k : Int)))), (36, iv (pickI (x3.tdiv (4 + (k : Int))) 256)), (37, yv (UInt8.ofNat (pickI (x3.tdiv (4 + (k : Int))) 256).toNat)), (38, _), (39, sv ([(UInt8.ofNat (pickI (x3.tdiv (4 + (k : Int))) 256).toNat)])), (3, _), (4, _), (5, _), (6, _), (22, _), (23, _), (24, _), (25, _), (26, _)] [] a := Z
  replace Y : St No w0 [_, _, _, _] w9 := Y
  refine ab <| aY (k := 11) 14 [13] (by kernel_rfl) (by kernel_rfl) (by kernel_rfl) ?_
  refine wlv Z (bw rfl rfl (by simp only [List.length_cons, List.length_nil]; omega)) fun a Z => wlv Z (aq (v := .pointer (some ⟨b1, 4, none⟩)) rfl (by kernel_rfl)) fun a Z => aG 1 Z Y rfl rfl rfl (Tryd.sizeOf9 _) rfl (lb rfl) (ds := [iv (pickI t 10000001), iv (1 + (pickI x0 3)), iv ((pickI x1 200) - 1), iv ((pickI x2 200) - 1), sv ((textR x3 k) ++ ([(UInt8.ofNat (pickI (x3.tdiv (4 + (k : Int))) 256).toNat)]))]) rfl rfl ?_
  clear Z Y
  intro a w10 Z Y
  refine ab <| bf (by kernel_rfl) ?_
  refine hK7 _ _ ?_
  replace Z : Fr 43 [(3, _), (4, _), (5, _), (6, _)] [] a := Z.pick [3, 4, 5, 6]
  replace Y : St No w0 [_, _, _] w10 := Y.mask [false, true, true, true]
  refine am <| wlm Z rfl fun a Z => wlv Z (aU rfl rfl ⟨by omega, by omega⟩) fun a Z => wla Z rfl fun a Z => ab ?_
  refine ⟨_, ?_, k + 1, rfl, (by omega), Z.pick [3, 4, 5, 6], Y.select [0, 1, 2] (by decide)⟩
  omega
 rw [hc2] at Z
 try simp only [qz] at hc2
 refine aI <| hK3 _ _ <| aa fun K8 hK8 => wlv Z (aA (Y.get (k := 0) rfl) rfl (Tryd.isAgg27 _) (Tryd.sizeOf27 _)) fun a Z => aG 1 Z Y rfl rfl rfl (Tryd.sizeOf27 _) rfl (lb rfl) (ds := [iv (pickI t 10000001), iv (1 + (pickI x0 3)), iv ((pickI x1 200) - 1), iv ((pickI x2 200) - 1), sv (textR x3 k)]) rfl rfl ?_
 clear Z Y
 intro a w11 Z Y
 refine ab (hK8 _ _ ?_)
 replace Z : Fr 43 [(4, _)] [] a := Z.pick [4]
 replace Y : St No w0 [_] w11 := Y.mask [false, true, false]
 refine au ?_
 refine ap Z Tryd.results15 (aJ rfl (bM (Y.get (k := 0) rfl) (Tryd.isAgg27 _) (Tryd.sizeOf27 _)) ag) ?_
 have hke : k = (pickI x3 4).toNat := by omega
 exact ⟨by simp only [retv]; unfold entR; rw [← hke], Y.ext⟩
set_option maxHeartbeats 4000000 in
theorem lX (owner : Int) (xv : Value) (ys : List Rin) (w0 : World) (hxv : SlAt w0 xv 5 (ys.map Rin.cells)) (hys : ∀ y ∈ ys, y.wt) (how : i64 owner) :
  Ret Tryd.prog 10 #[iv owner, xv] w0 (MemR w0 (fun v : Value => .agg #[iv (pickI owner 100), v]) (fun v => [own v 27 5 ((madeR ys).map Rec.cells)]) (fun _ => True)) := by
 have hxb := hxv.2.1
 simp only [List.length_map, big] at hxb
 refine aE Tryd.func10 rfl Tryd.ntmps10 (lb rfl) fun a Z => ?_
 replace Z : Fr 58 [(0, _), (1, _)] [] a := Z
 replace Y : St No w0 [] w0 := St.init w0
 refine aa fun K1 hK1 => aO Z Y (by decide) (Tryd.zeroValue25 _) (cs := [iv 0, .slice none 0 0]) rfl ?_
 clear Z Y
 intro a w1 Z Y
 refine ab (hK1 _ _ <| aa fun K2 hK2 => ?_)
 refine wlm Z rfl fun a Z => al Z Y (by decide) Tryd.call44 rfl (cb owner 100 _ (by first | assumption | (unfold i64 at *; omega) | omega) (by omega)) ?_
 clear Z Y
 intro a w2 Z Y
 refine wlv Z (bA (v := .agg #[iv (pickI owner 100), .slice none 0 0]) rfl (by kernel_rfl)) fun a Z => aO Z Y (by decide) (Tryd.zeroValue25 _) (cs := [iv 0, .slice none 0 0]) rfl ?_
 clear Z Y
 intro a w3 Z Y
 refine aG 0 Z Y rfl rfl rfl (Tryd.sizeOf25 _) rfl (lb rfl) (ds := [iv (pickI owner 100), .slice none 0 0]) rfl rfl ?_
 clear Z Y
 intro a w4 Z Y
 refine ab (hK2 _ _ <| aa fun K3 hK3 => ?_)
 refine wla Z rfl fun a Z => ab (hK3 _ _ <| ae fun K4 hK4 => ?_)
 refine aa fun K5 hK5 => wla Z rfl fun a Z => ab (hK5 _ _ <| ao ?_)
 replace Y : St No w0 [own (.slice none 0 0) 27 5 ((recsR 0 (ys.take 0)).map Rec.cells), blk w2.heap.size [iv (pickI owner 100), .slice none 0 0] 25, blk w0.heap.size [iv 0, .slice none 0 0] 25] w4 := Y.nil_own
 refine aN (fun m a w => ∃ (k : Nat) (v : Value), m = 12 - k ∧ (k ≤ ys.length) ∧ (k ≤ 12) ∧ Fr 58 [(1, xv), (4, pt w0.heap.size), (5, pt w2.heap.size), (6, iv (timeR 0 (ys.take k))), (7, iv (k : Int))] [] a ∧ St No w0 [blk w2.heap.size [iv (pickI owner 100), v] 25, blk w0.heap.size [iv 0, .slice none 0 0] 25, own v 27 5 ((recsR 0 (ys.take k)).map Rec.cells)] w) _ ⟨0, .slice none 0 0, rfl, Nat.zero_le _, (by decide), Z.pick [1, 4, 5, 6, 7], Y.select [1, 2, 0] (by decide)⟩ ?_
 rintro _ a w5 ⟨k, v, rfl, hk, hk12, Z, Y⟩
 refine ae fun K6 hK6 => aa fun K7 hK7 => wlm Z rfl fun a Z => wlm Z rfl fun a Z => wlv Z ((aH (sT := 22) (Y.arg hxv) rfl rfl (Tryd.runUnderlying22 _)).asi (m' := (ys.length : Int)) (by rw [List.length_map])) fun a Z => wlv Z (v_lt rfl rfl) fun a Z => wlm Z rfl fun a Z => ?_
 rcases Bool.eq_false_or_eq_true (decide ((k : Int) < (ys.length : Int))) with hb1 | hb1
 ·rw [hb1] at Z
  try simp only [qz] at hb1
  have hky : k < ys.length := by omega
  refine wly Z (ah rfl) fun a Z => wly Z (v_lt rfl rfl) fun a Z => wlv Z (aC rfl rfl) fun a Z => ab (hK7 _ _ ?_)
  replace Z : Fr 58 [(1, _), (4, _), (5, _), (6, _), (7, _), (18, _)] [] a := Z.pick [1, 4, 5, 6, 7, 18]
  refine ay Z rfl (fun hc2 => ?_) (fun hc2 => ?_)
  ·rw [hc2] at Z
   try simp only [qz] at hc2
   obtain ⟨y, hy⟩ : ∃ y, ys.getD k Rin.z = y := ⟨_, rfl⟩
   obtain ⟨hy0, hy1, hy2, hy3, hy4⟩ : y.wt := by rw [← hy]; exact hys _ (bd hky)
   have htm := iA (ys.take k) 0 (by omega)
   rw [List.length_take] at htm
   have hp30 := bC y.x0 (n := 30) (by decide)
   refine ar <| hK6 _ _ <| ae fun K8 hK8 => ao <| aa fun K9 hK9 => wlm Z rfl fun a Z => wlm Z rfl fun a Z => wlm Z rfl fun a Z => wlv Z ((aj (i := (k : Int)) (sT := 22) (Y.arg hxv) rfl rfl (Tryd.runUnderlying22 _) (Tryd.sizeOf75 _) (by omega) (by rw [List.length_map]; omega)).as (v' := slAddr xv (k * 5)) rfl) fun a Z => ?_
   refine wlv Z (bS (k := k * 5) (j := 0) (Y.arg hxv) (i := k) (by rw [List.length_map]; omega) rfl rfl (fun _ _ => by kernel_rfl)) fun a Z => wlv Z (aw (u := iv y.x0) (i := k) (j := 0) (Y.arg hxv) (by rw [List.length_map]; omega) rfl (Tryd.isAgg3 _) (by rw [bq Rin.z, hy]; rfl)) fun a Z => al Z Y (by decide) Tryd.call44 rfl (cb y.x0 30 _ (by first | assumption | (unfold i64 at *; omega) | omega) (by omega)) ?_
   clear Z Y
   intro a w6 Z Y
   refine wlv Z (aU rfl rfl ⟨by omega, by omega⟩) fun a Z => wla Z rfl fun a Z => ab (hK9 _ _ ?_)
   replace Z : Fr 58 [(1, _), (4, _), (5, _), (7, _), (6, _)] [] a := Z.pick [1, 4, 5, 7, 6]
   refine aM (by kernel_rfl) (aR (by kernel_rfl) fun w7 hxz => ?_)
   replace Y := Y.grow hxz
   refine bj (k := 0) 26 [1, 25] Z (by kernel_rfl) (by kernel_rfl) (by kernel_rfl) (by rfl) ?_
   replace Z : Fr 58 [(1, _), (4, _), (5, _), (7, _), (6, _)] [] a := Z.pick [1, 4, 5, 7, 6]
   refine aF [25] (fun i => match i with | 25 => pm (fun b : Nat => .slice (some ⟨b, 0, none⟩) 1 1) (fun b => [own (.slice (some ⟨b, 0, none⟩) 1 1) 27 5 [[iv ((entR ((timeR 0 (ys.take k)) + (pickI y.x0 30)) y.x1 y.x2 y.x3 y.x4).t), iv ((entR ((timeR 0 (ys.take k)) + (pickI y.x0 30)) y.x1 y.x2 y.x3 y.x4).kind), iv ((entR ((timeR 0 (ys.take k)) + (pickI y.x0 30)) y.x1 y.x2 y.x3 y.x4).a), iv ((entR ((timeR 0 (ys.take k)) + (pickI y.x0 30)) y.x1 y.x2 y.x3 y.x4).b), sv ((entR ((timeR 0 (ys.take k)) + (pickI y.x0 30)) y.x1 y.x2 y.x3 y.x4).text)]]]) (fun _ => True) | _ => fun _ _ => False) 26 [[], [0], [], [], [], [3, 4], [5], [6], [], [], [8, 9], [10], [11], [], [], [13, 14], [15], [16], [], [], [18, 19], [20], [21], [7, 12, 17, 22], [2, 23], [24]] [.pointer (some ⟨w2.heap.size, 1, none⟩), v, iv ((timeR 0 (ys.take k)) + (pickI y.x0 30)), xv, iv (k : Int), slAddr xv (k * 5), slAddr xv (k * 5 + 1), iv y.x1, xv, iv (k : Int), slAddr xv (k * 5), slAddr xv (k * 5 + 2), iv y.x2, xv, iv (k : Int), slAddr xv (k * 5), slAddr xv (k * 5 + 3), iv y.x3, xv, iv (k : Int), slAddr xv (k * 5), slAddr xv (k * 5 + 4), iv y.x4, .agg #[iv y.x1, iv y.x2, iv y.x3, iv y.x4], .agg #[iv ((entR ((timeR 0 (ys.take k)) + (pickI y.x0 30)) y.x1 y.x2 y.x3 y.x4).t), iv ((entR ((timeR 0 (ys.take k)) + (pickI y.x0 30)) y.x1 y.x2 y.x3 y.x4).kind), iv ((entR ((timeR 0 (ys.take k)) + (pickI y.x0 30)) y.x1 y.x2 y.x3 y.x4).a), iv ((entR ((timeR 0 (ys.take k)) + (pickI y.x0 30)) y.x1 y.x2 y.x3 y.x4).b), sv ((entR ((timeR 0 (ys.take k)) + (pickI y.x0 30)) y.x1 y.x2 y.x3 y.x4).text)], undef] Z Y (by kernel_rfl) (by kernel_rfl) (by kernel_rfl) ?_ ?_ ?_
   ·intro i hi hiq
    match i, hi, hiq with
    | 0, _, _ =>
     intro w Y
     exact OpV.g (aq (v := .pointer (some ⟨w2.heap.size, 1, none⟩)) rfl (by kernel_rfl))
    | 1, _, _ =>
     intro w Y
     exact OpV.g (ai (Y.get (k := 0) rfl) rfl (Tryd.isAgg23 _) rfl)
    | 2, _, _ =>
     intro w Y
     exact OpV.g (ah rfl)
    | 3, _, _ =>
     intro w Y
     exact OpV.g (ah rfl)
    | 4, _, _ =>
     intro w Y
     exact OpV.g (ah rfl)
    | 5, _, _ =>
     intro w Y
     exact OpV.g ((aj (i := (k : Int)) (sT := 22) (Y.arg hxv) rfl rfl (Tryd.runUnderlying22 _) (Tryd.sizeOf75 _) (by omega) (by rw [List.length_map]; omega)).as (v' := slAddr xv (k * 5)) rfl)
    | 6, _, _ =>
     intro w Y
     exact OpV.g (bS (k := k * 5) (j := 1) (Y.arg hxv) (i := k) (by rw [List.length_map]; omega) rfl rfl (fun _ _ => by kernel_rfl))
    | 7, _, _ =>
     intro w Y
     exact OpV.g (aw (u := iv y.x1) (i := k) (j := 1) (Y.arg hxv) (by rw [List.length_map]; omega) rfl (Tryd.isAgg3 _) (by rw [bq Rin.z, hy]; rfl))
    | 8, _, _ =>
     intro w Y
     exact OpV.g (ah rfl)
    | 9, _, _ =>
     intro w Y
     exact OpV.g (ah rfl)
    | 10, _, _ =>
     intro w Y
     exact OpV.g ((aj (i := (k : Int)) (sT := 22) (Y.arg hxv) rfl rfl (Tryd.runUnderlying22 _) (Tryd.sizeOf75 _) (by omega) (by rw [List.length_map]; omega)).as (v' := slAddr xv (k * 5)) rfl)
    | 11, _, _ =>
     intro w Y
     exact OpV.g (bS (k := k * 5) (j := 2) (Y.arg hxv) (i := k) (by rw [List.length_map]; omega) rfl rfl (fun _ _ => by kernel_rfl))
    | 12, _, _ =>
     intro w Y
     exact OpV.g (aw (u := iv y.x2) (i := k) (j := 2) (Y.arg hxv) (by rw [List.length_map]; omega) rfl (Tryd.isAgg3 _) (by rw [bq Rin.z, hy]; rfl))
    | 13, _, _ =>
     intro w Y
     exact OpV.g (ah rfl)
    | 14, _, _ =>
     intro w Y
     exact OpV.g (ah rfl)
    | 15, _, _ =>
     intro w Y
     exact OpV.g ((aj (i := (k : Int)) (sT := 22) (Y.arg hxv) rfl rfl (Tryd.runUnderlying22 _) (Tryd.sizeOf75 _) (by omega) (by rw [List.length_map]; omega)).as (v' := slAddr xv (k * 5)) rfl)
    | 16, _, _ =>
     intro w Y
     exact OpV.g (bS (k := k * 5) (j := 3) (Y.arg hxv) (i := k) (by rw [List.length_map]; omega) rfl rfl (fun _ _ => by kernel_rfl))
    | 17, _, _ =>
     intro w Y
     exact OpV.g (aw (u := iv y.x3) (i := k) (j := 3) (Y.arg hxv) (by rw [List.length_map]; omega) rfl (Tryd.isAgg3 _) (by rw [bq Rin.z, hy]; rfl))
    | 18, _, _ =>
     intro w Y
     exact OpV.g (ah rfl)
    | 19, _, _ =>
     intro w Y
     exact OpV.g (ah rfl)
    | 20, _, _ =>
     intro w Y
     exact OpV.g ((aj (i := (k : Int)) (sT := 22) (Y.arg hxv) rfl rfl (Tryd.runUnderlying22 _) (Tryd.sizeOf75 _) (by omega) (by rw [List.length_map]; omega)).as (v' := slAddr xv (k * 5)) rfl)
    | 21, _, _ =>
     intro w Y
     exact OpV.g (bS (k := k * 5) (j := 4) (Y.arg hxv) (i := k) (by rw [List.length_map]; omega) rfl rfl (fun _ _ => by kernel_rfl))
    | 22, _, _ =>
     intro w Y
     exact OpV.g (aw (u := iv y.x4) (i := k) (j := 4) (Y.arg hxv) (by rw [List.length_map]; omega) rfl (Tryd.isAgg3 _) (by rw [bq Rin.z, hy]; rfl))
    | 23, _, _ =>
     intro w Y
     exact OpV.g (bA (v := .agg #[iv y.x1, iv y.x2, iv y.x3, iv y.x4]) rfl (by kernel_rfl))
    | 24, _, _ =>
     intro w Y
     exact bu Tryd.call15 rfl (kS ((timeR 0 (ys.take k)) + (pickI y.x0 30)) y.x1 y.x2 y.x3 y.x4 _ (by unfold i64; omega) (by assumption) (by assumption) (by assumption) (by assumption))
    | 25, _, h => exact absurd (by simp) h
    | i + 26, h, _ => exact absurd h (by omega)
   ·intro i hi
    simp only [List.mem_cons, List.not_mem_nil, or_false] at hi
    subst hi
    ·intro w Y
     exact aW (E := 27) (sz := 5) rfl [[iv ((entR ((timeR 0 (ys.take k)) + (pickI y.x0 30)) y.x1 y.x2 y.x3 y.x4).t), iv ((entR ((timeR 0 (ys.take k)) + (pickI y.x0 30)) y.x1 y.x2 y.x3 y.x4).kind), iv ((entR ((timeR 0 (ys.take k)) + (pickI y.x0 30)) y.x1 y.x2 y.x3 y.x4).a), iv ((entR ((timeR 0 (ys.take k)) + (pickI y.x0 30)) y.x1 y.x2 y.x3 y.x4).b), sv ((entR ((timeR 0 (ys.take k)) + (pickI y.x0 30)) y.x1 y.x2 y.x3 y.x4).text)]] (fun _ => by kernel_rfl) (by simp) rfl (by decide)
   clear Z Y
   rintro _ _ ⟨b3, rfl, -, rfl⟩ a w8 Z Y
   replace Z : Fr 58 [(29, .pointer (some ⟨w2.heap.size, 1, none⟩)), (30, v), (31, iv ((timeR 0 (ys.take k)) + (pickI y.x0 30))), (32, xv), (33, iv (k : Int)), (34, slAddr xv (k * 5)), (35, slAddr xv (k * 5 + 1)), (36, iv y.x1), (37, xv), (38, iv (k : Int)), (39, slAddr xv (k * 5)), (40, slAddr xv (k * 5 + 2)), (41, iv y.x2), (42, xv), (43, iv (k : Int)), (44, slAddr xv (k * 5)), (45, slAddr xv (k * 5 + 3)), (46, iv y.x3), (47, xv), (48, iv (k : Int)), (49, slAddr xv (k * 5)), (50, slAddr xv (k * 5 + 4)), (51, iv y.x4), (52, .agg #[iv y.x1, iv y.x2, iv y.x3, iv y.x4]), (53, .agg #[iv ((entR ((timeR 0 (ys.take k)) + (pickI y.x0 30)) y.x1 y.x2 y.x3 y.x4).t), iv ((entR ((timeR 0 (ys.take k)) + (pickI y.x0 30)) y.x1 y.x2 y.x3 y.x4).kind), iv ((entR ((timeR 0 (ys.take k)) + (pickI y.x0 30)) y.x1 y.x2 y.x3 y.x4).a), iv ((entR ((timeR 0 (ys.take k)) + (pickI y.x0 30)) y.x1 y.x2 y.x3 y.x4).b), sv ((entR ((timeR 0 (ys.take k)) + (pickI y.x0 30)) y.x1 y.x2 y.x3 y.x4).text)]), (54, _), (1, _), (4, _), (5, _), (7, _), (6, _)] [] a := Z
   replace Y : St No w0 [_, _, _, _] w8 := Y
   refine ab <| aY (k := 26) 29 [28] (by kernel_rfl) (by kernel_rfl) (by kernel_rfl) ?_
   refine aS (i := 3) (sT := 23) (inf := Tryd.t27) (z := .agg #[iv 0, iv 0, iv 0, iv 0, .string (⟨#[]⟩)]) (b := 0) (off := 0) (m := 0) (c := 0) rfl rfl rfl (Y.ownAt (i := 0) rfl) (by simp) Tryd.underlying23 rfl rfl rfl rfl (by decide) (by simp [Value.oneCell', yv, wv, sv]) (by have hby : Tryd.t27.bytes = 48 := rfl; simp only [big, hby, List.length_append, List.length_map, dN, List.length_take, List.length_cons, List.length_nil]; omega) (by have hby : Tryd.t27.bytes = 48 := rfl; simp only [big, hby, List.length_append, List.length_map, dN, List.length_take, List.length_cons, List.length_nil]; omega) (by decide) Z Y fun a w9 s4 Z Y _ => wlv Z (aq (v := .pointer (some ⟨w2.heap.size, 1, none⟩)) rfl (by kernel_rfl)) fun a Z => cF 1 Z Y (Y.ownAt (i := 3) rfl) rfl rfl rfl (Tryd.sizeOf23 _) (lb rfl) (ds := [iv (pickI owner 100), s4]) rfl rfl ?_
   clear Z Y
   intro a w10 Z Y
   refine ab <| bf (by kernel_rfl) ?_
   refine hK8 _ _ ?_
   replace Z : Fr 58 [(1, _), (4, _), (5, _), (7, _), (6, _)] [] a := Z.pick [1, 4, 5, 7, 6]
   replace Y : St No w0 [_, _, _] w10 := Y.mask [false, true, true, true]
   rw [show ((recsR 0 (ys.take k)).map Rec.cells) ++ ([[iv ((entR ((timeR 0 (ys.take k)) + (pickI y.x0 30)) y.x1 y.x2 y.x3 y.x4).t), iv ((entR ((timeR 0 (ys.take k)) + (pickI y.x0 30)) y.x1 y.x2 y.x3 y.x4).kind), iv ((entR ((timeR 0 (ys.take k)) + (pickI y.x0 30)) y.x1 y.x2 y.x3 y.x4).a), iv ((entR ((timeR 0 (ys.take k)) + (pickI y.x0 30)) y.x1 y.x2 y.x3 y.x4).b), sv ((entR ((timeR 0 (ys.take k)) + (pickI y.x0 30)) y.x1 y.x2 y.x3 y.x4).text)]]) = ((recsR 0 (ys.take (k + 1))).map Rec.cells) from by rw [bU Rin.z hky, fA, hy, List.map_append]; rfl] at Y
   rw [show timeR 0 (ys.take k) + pickI y.x0 30 = timeR 0 (ys.take (k + 1)) from by rw [bU Rin.z hky, f9, hy]] at Z
   refine am <| wlm Z rfl fun a Z => wlv Z (aU rfl rfl ⟨by omega, by omega⟩) fun a Z => wla Z rfl fun a Z => ab ?_
   refine ⟨_, ?_, k + 1, s4, rfl, (by omega), (by omega), Z.pick [1, 4, 5, 6, 7], Y.select [0, 1, 2] (by decide)⟩
   omega
  rw [hc2] at Z
  try simp only [qz] at hc2
  have htk := fp hk (by omega) hk12
  refine aI <| hK4 _ _ <| aa fun K10 hK10 => wlv Z (aA (Y.get (k := 0) rfl) rfl (Tryd.isAgg25 _) (Tryd.sizeOf25 _)) fun a Z => bB (us := [iv (pickI owner 100), v]) 1 Z Y rfl rfl rfl (Tryd.sizeOf25 _) (by intro z hz; simp only [List.mem_cons, List.not_mem_nil, or_false] at hz; rcases hz with rfl | rfl <;> first | rfl | exact SlAt.one (Y.ownAt (i := 2) rfl)) (lb rfl) (ds := [iv (pickI owner 100), v]) rfl rfl ?_
  clear Z Y
  intro a w11 Z Y
  refine ab (hK10 _ _ ?_)
  replace Z : Fr 58 [(4, _)] [] a := Z.pick [4]
  replace Y : St No w0 [_, _] w11 := Y.mask [false, true, true]
  refine au ?_
  refine ap Z Tryd.results10 (aJ rfl (bM (Y.get (k := 0) rfl) (Tryd.isAgg25 _) (Tryd.sizeOf25 _)) ag) ?_
  rw [htk] at Y
  exact ⟨v, rfl, trivial, Y.ext, St.out (E := [own v 27 5 ((madeR ys).map Rec.cells)]) (H := []) (Y.select [1] (by decide))⟩
 rw [hb1] at Z
 try simp only [qz] at hb1
 have htk := fp hk (by omega) hk12
 refine wln Z fun a Z => wln Z fun a Z => wlv Z (ax rfl rfl) fun a Z => ab (hK7 _ _ ?_)
 replace Z : Fr 58 [(1, _), (4, _), (5, _), (6, _), (7, _), (18, _)] [] a := Z.pick [1, 4, 5, 6, 7, 18]
 refine aL Z rfl ?_
 refine aI <| hK4 _ _ <| aa fun K11 hK11 => wlv Z (aA (Y.get (k := 0) rfl) rfl (Tryd.isAgg25 _) (Tryd.sizeOf25 _)) fun a Z => bB (us := [iv (pickI owner 100), v]) 1 Z Y rfl rfl rfl (Tryd.sizeOf25 _) (by intro z hz; simp only [List.mem_cons, List.not_mem_nil, or_false] at hz; rcases hz with rfl | rfl <;> first | rfl | exact SlAt.one (Y.ownAt (i := 2) rfl)) (lb rfl) (ds := [iv (pickI owner 100), v]) rfl rfl ?_
 clear Z Y
 intro a w12 Z Y
 refine ab (hK11 _ _ ?_)
 replace Z : Fr 58 [(4, _)] [] a := Z.pick [4]
 replace Y : St No w0 [_, _] w12 := Y.mask [false, true, true]
 refine au ?_
 refine ap Z Tryd.results10 (aJ rfl (bM (Y.get (k := 0) rfl) (Tryd.isAgg25 _) (Tryd.sizeOf25 _)) ag) ?_
 rw [htk] at Y
 exact ⟨v, rfl, trivial, Y.ext, St.out (E := [own v 27 5 ((madeR ys).map Rec.cells)]) (H := []) (Y.select [1] (by decide))⟩
theorem hO (n : Int) (w0 : World) (hn : i64 n) :
  Ret Tryd.prog 35 #[iv n] w0 fun v w => v = sv (keyR n) ∧ Ext No w0 w := by
 have hp := bC n (n := 1099511627776) (by decide)
 have hq := bF (pickI n 1099511627776)
 refine aE Tryd.func35 rfl Tryd.ntmps35 (lb rfl) fun a Z => ?_
 replace Z : Fr 13 [(0, _)] [] a := Z
 replace Y : St No w0 [] w0 := St.init w0
 refine aa fun K1 hK1 => wla Z rfl fun a Z => ab (hK1 _ _ <| aa fun K2 hK2 => ?_)
 refine wlm Z rfl fun a Z => al Z Y (by decide) Tryd.call44 rfl (cb n 1099511627776 _ (by first | assumption | (unfold i64 at *; omega) | omega) (by omega)) ?_
 clear Z Y
 intro a w1 Z Y
 refine al Z Y (by decide) Tryd.call53 rfl (eh (pickI n 1099511627776) _ (by unfold small; omega)) ?_
 clear Z Y
 intro a w2 Z Y
 refine wlm Z rfl fun a Z => wlv Z (ak rfl rfl) fun a Z => wlv Z (ak rfl rfl) fun a Z => wla Z rfl fun a Z => wla Z rfl fun a Z => ab (hK2 _ _ ?_)
 replace Z : Fr 13 [(2, _), (3, _)] [] a := Z.pick [2, 3]
 refine aa fun K3 hK3 => wlm Z rfl fun a Z => al Z Y (by decide) Tryd.call70 rfl (fg (putI (pickI n 1099511627776)) _ (by omega)) ?_
 clear Z Y
 intro a w3 Z Y
 refine wla Z rfl fun a Z => ab (hK3 _ _ <| au ?_)
 refine ap Z Tryd.results35 (ac rfl ag) ?_
 exact ⟨by rfl, Y.ext⟩
end Go.Proofs.YtddfkkdanpmnaaaDoor
namespace Go.Proofs.YtddfkkdanpmnaaaDoor
open Go.RowKit Go.PW
set_option linter.unusedVariables false
set_option linter.unusedSimpArgs false
set_option maxRecDepth 4000
def colxB (s t : By) : Bool := !decide (s = t) && decide (sha s = sha t)
def colxH (xs ys : List By) : Bool := xs.any fun s => ys.any fun t => colxB s t
theorem kv {xs ys : List By} {i j : Nat} (hi : i < xs.length) (hj : j < ys.length) (h : colxB (xs.getD i []) (ys.getD j []) = true) : colxH xs ys = true :=
 List.any_eq_true.2 ⟨_, bd hi, List.any_eq_true.2 ⟨_, bd hj, h⟩⟩
theorem jx {xs ys : List By} (h : ∀ i, i < xs.length → ∀ j, j < ys.length → colxB (xs.getD i []) (ys.getD j []) = false) : colxH xs ys = false := by
 rw [Bool.eq_false_iff]
 intro hc
 obtain ⟨s, hs, h2⟩ := List.any_eq_true.1 hc
 obtain ⟨t, ht, h3⟩ := List.any_eq_true.1 h2
 obtain ⟨i, hi, rfl⟩ := List.getElem_of_mem hs
 obtain ⟨j, hj, rfl⟩ := List.getElem_of_mem ht
 have := h i hi j hj
 rw [List.getD_eq_getElem?_getD, List.getD_eq_getElem?_getD, List.getElem?_eq_getElem hi, List.getElem?_eq_getElem hj] at this
 simp only [Option.getD_some] at this
 rw [this] at h3; cases h3
theorem mF {ys : List By} {j : Nat} (h : j < ys.length) : (ys.map sha).getD j [] = sha (ys.getD j []) := by
 rw [List.getD_eq_getElem?_getD, List.getElem?_map, List.getElem?_eq_getElem h, List.getD_eq_getElem?_getD, List.getElem?_eq_getElem h]; rfl
set_option maxHeartbeats 4000000 in
theorem cZ (av bv : Value) (xs ys : List By) (w0 : World) (hav : SlAt w0 av 1 ((xs).map fun s => [sv s])) (hbv : SlAt w0 bv 1 ((ys).map fun s => [sv s])) (hxs : ∀ s ∈ xs, s.length ≤ 100000000) (hys : ∀ s ∈ ys, s.length ≤ 100000000) (hyn : ys.length ≤ 1000) :
  Ret Tryd.prog 40 #[av, bv] w0 fun v w => v = .bool (colxH xs ys) ∧ Ext No w0 w := by
 have hxb := hav.2.1
 simp only [List.length_map, big] at hxb
 refine aE Tryd.func40 rfl Tryd.ntmps40 (lb rfl) fun a Z => ?_
 replace Z : Fr 58 [(0, _), (1, _)] [] a := Z
 replace Y : St No w0 [] w0 := St.init w0
 refine aa fun K1 hK1 => wla Z rfl fun a Z => ab (hK1 _ _ <| aa fun K2 hK2 => ?_)
 refine wla Z rfl fun a Z => ab (hK2 _ _ <| ae fun K3 hK3 => ?_)
 refine aa fun K4 hK4 => wla Z rfl fun a Z => ab (hK4 _ _ <| ao ?_)
 replace Y : St No w0 [own (.slice none 0 0) 9 1 (((ys.take 0).map sha).map fun s => [sv s])] w0 := Y.nil_own
 refine aN (fun m a w => ∃ (k : Nat) (vs : Value), m = ys.length - k ∧ (k ≤ ys.length) ∧ Fr 58 [(0, av), (1, bv), (4, .bool false), (5, vs), (6, iv (k : Int))] [] a ∧ St No w0 [own vs 9 1 (((ys.take k).map sha).map fun s => [sv s])] w) _ ⟨0, .slice none 0 0, rfl, Nat.zero_le _, Z.pick [0, 1, 4, 5, 6], Y.select [0] (by decide)⟩ ?_
 rintro _ a w1 ⟨k, vs, rfl, hk, Z, Y⟩
 refine ae fun K5 hK5 => aa fun K6 hK6 => wlm Z rfl fun a Z => wlm Z rfl fun a Z => wlv Z ((aH (sT := 45) (Y.arg hbv) rfl rfl (Tryd.runUnderlying45 _)).asi (m' := (ys.length : Int)) (by rw [List.length_map])) fun a Z => wlv Z (v_lt rfl rfl) fun a Z => ab (hK6 _ _ ?_)
 refine ay Z rfl (fun hc1 => ?_) (fun hc1 => ?_)
 ·rw [hc1] at Z
  try simp only [qz, Bool.and_eq_true, Bool.or_eq_true, Bool.and_eq_false_iff, Bool.or_eq_false_iff] at hc1
  refine ar <| hK5 _ _ <| ae fun K7 hK7 => ao <| am <| wlm Z rfl fun a Z => wlm Z rfl fun a Z => wlm Z rfl fun a Z => wlv Z ((aj (i := (k : Int)) (sT := 45) (Y.arg hbv) rfl rfl (Tryd.runUnderlying45 _) (Tryd.sizeOf9 _) (by omega) (by first | (rw [List.length_map]; omega) | (rw [List.length_map, List.length_map]; omega))).as (v' := slAddr bv (k * 1)) rfl) fun a Z => ?_
  refine wlv Z (aw (u := sv (ys.getD k [])) (i := k) (j := 0) (Y.arg hbv) (by first | (rw [List.length_map]; omega) | (rw [List.length_map, List.length_map]; omega)) rfl (Tryd.isAgg9 _) (by rw [bq []]; rfl)) fun a Z => al Z Y (by decide) Tryd.call70 rfl (fg (ys.getD k []) _ (by first | exact hxs _ (bd (by omega)) | exact hys _ (bd (by omega)))) ?_
  clear Z Y
  intro a w2 Z Y
  refine az (E := 9) (sz := 1) rfl [[sv (sha (ys.getD k []))]] (by kernel_rfl) (by simp) rfl (by decide) (by decide) Z Y ?_
  clear Z Y
  intro a w3 Z Y
  refine aS (i := 1) (sT := 45) (inf := Tryd.t9) (z := .string (⟨#[]⟩)) (b := 0) (off := 0) (m := 0) (c := 0) rfl rfl rfl (Y.ownAt (i := 0) rfl) (by simp) Tryd.underlying45 rfl rfl rfl rfl (by decide) (by simp [Value.oneCell', yv, wv, sv]) (by have hby : Tryd.t9.bytes = 16 := rfl; simp [big, hby] <;> omega) (by have hby : Tryd.t9.bytes = 16 := rfl; simp [big, hby] <;> omega) (by decide) Z Y fun a w4 s2 Z Y _ => ?_
  rw [show (((ys.take k).map sha).map fun s => [sv s]) ++ ([[sv (sha (ys.getD k []))]]) = (((ys.take (k + 1)).map sha).map fun s => [sv s]) from by rw [bU [] (by omega)]; simp] at Y
  refine wla Z rfl fun a Z => ab <| hK7 _ _ ?_
  replace Z : Fr 58 [(0, _), (1, _), (4, _), (6, _), (5, _)] [] a := Z.pick [0, 1, 4, 6, 5]
  replace Y : St No w0 [_] w4 := Y.mask [false, true]
  refine am <| wlm Z rfl fun a Z => wlv Z (aU rfl rfl ⟨by omega, by omega⟩) fun a Z => wla Z rfl fun a Z => ab ?_
  refine ⟨_, ?_, k + 1, s2, rfl, (by omega), Z.pick [0, 1, 4, 5, 6], Y.select [0] (by decide)⟩
  omega
 rw [hc1] at Z
 try simp only [qz, Bool.and_eq_true, Bool.or_eq_true, Bool.and_eq_false_iff, Bool.or_eq_false_iff] at hc1
 obtain rfl : k = ys.length := by omega
 rw [List.take_length] at Y
 refine aI <| hK3 _ _ <| ae fun K8 hK8 => aa fun K9 hK9 => wla Z rfl fun a Z => ab (hK9 _ _ <| ao ?_)
 refine aN (fun m a w => ∃ (x : Nat), m = xs.length - x ∧ (x ≤ xs.length) ∧ (∀ i, i < x → ∀ j, j < ys.length → colxB (xs.getD i []) (ys.getD j []) = false) ∧ Fr 58 [(0, av), (1, bv), (5, vs), (7, iv (x : Int))] [] a ∧ St No w0 [own vs 9 1 ((ys.map sha).map fun s => [sv s])] w) _ ⟨0, rfl, Nat.zero_le _, (fun i h => absurd h (Nat.not_lt_zero _)), Z.pick [0, 1, 5, 7], Y.select [0] (by decide)⟩ ?_
 rintro _ a w5 ⟨x, rfl, hx, hno, Z, Y⟩
 refine ae fun K10 hK10 => aa fun K11 hK11 => wlm Z rfl fun a Z => wlm Z rfl fun a Z => wlv Z ((aH (sT := 45) (Y.arg hav) rfl rfl (Tryd.runUnderlying45 _)).asi (m' := (xs.length : Int)) (by rw [List.length_map])) fun a Z => wlv Z (v_lt rfl rfl) fun a Z => ab (hK11 _ _ ?_)
 refine ay Z rfl (fun hc3 => ?_) (fun hc3 => ?_)
 ·rw [hc3] at Z
  try simp only [qz, Bool.and_eq_true, Bool.or_eq_true, Bool.and_eq_false_iff, Bool.or_eq_false_iff] at hc3
  have hxl : x < xs.length := by omega
  refine ar <| hK10 _ _ <| ae fun K12 hK12 => ao <| aa fun K13 hK13 => wlm Z rfl fun a Z => wlm Z rfl fun a Z => wlv Z ((aj (i := (x : Int)) (sT := 45) (Y.arg hav) rfl rfl (Tryd.runUnderlying45 _) (Tryd.sizeOf9 _) (by omega) (by first | (rw [List.length_map]; omega) | (rw [List.length_map, List.length_map]; omega))).as (v' := slAddr av (x * 1)) rfl) fun a Z => ?_
  refine wlv Z (aw (u := sv (xs.getD x [])) (i := x) (j := 0) (Y.arg hav) (by first | (rw [List.length_map]; omega) | (rw [List.length_map, List.length_map]; omega)) rfl (Tryd.isAgg9 _) (by rw [bq []]; rfl)) fun a Z => al Z Y (by decide) Tryd.call70 rfl (fg (xs.getD x []) _ (by first | exact hxs _ (bd (by omega)) | exact hys _ (bd (by omega)))) ?_
  clear Z Y
  intro a w6 Z Y
  refine wla Z rfl fun a Z => ab (hK13 _ _ ?_)
  replace Z : Fr 58 [(0, _), (1, _), (5, _), (7, _), (8, _)] [] a := Z.pick [0, 1, 5, 7, 8]
  refine aa fun K14 hK14 => wla Z rfl fun a Z => ab (hK14 _ _ <| ao ?_)
  refine aN (fun m a w => ∃ (y : Nat), m = ys.length - y ∧ (y ≤ ys.length) ∧ (∀ j, j < y → colxB (xs.getD x []) (ys.getD j []) = false) ∧ Fr 58 [(0, av), (1, bv), (5, vs), (7, iv (x : Int)), (8, sv (sha (xs.getD x []))), (9, iv (y : Int))] [] a ∧ St No w0 [own vs 9 1 ((ys.map sha).map fun s => [sv s])] w) _ ⟨0, rfl, Nat.zero_le _, (fun i h => absurd h (Nat.not_lt_zero _)), Z.pick [0, 1, 5, 7, 8, 9], Y.select [0] (by decide)⟩ ?_
  rintro _ a w7 ⟨y, rfl, hy, hno2, Z, Y⟩
  refine ae fun K15 hK15 => aa fun K16 hK16 => wlm Z rfl fun a Z => wlm Z rfl fun a Z => wlv Z ((aH (sT := 45) (Y.arg hbv) rfl rfl (Tryd.runUnderlying45 _)).asi (m' := (ys.length : Int)) (by rw [List.length_map])) fun a Z => wlv Z (v_lt rfl rfl) fun a Z => ab (hK16 _ _ ?_)
  refine ay Z rfl (fun hc4 => ?_) (fun hc4 => ?_)
  ·rw [hc4] at Z
   try simp only [qz, Bool.and_eq_true, Bool.or_eq_true, Bool.and_eq_false_iff, Bool.or_eq_false_iff] at hc4
   have hyl : y < ys.length := by omega
   refine ar <| hK15 _ _ <| ae fun K17 hK17 => ao <| ae fun K18 hK18 => aM (by kernel_rfl) (aR (by kernel_rfl) fun w8 hxz => ?_)
   replace Y := Y.grow hxz
   refine bj (k := 0) 8 [3, 7] Z (by kernel_rfl) (by kernel_rfl) (by kernel_rfl) (by rfl) ?_
   replace Z : Fr 58 [(0, _), (1, _), (5, _), (7, _), (8, _), (9, _), (35, _), (36, _), (37, _), (38, _)] [] a := Z.pick [0, 1, 5, 7, 8, 9, 35, 36, 37, 38]
   refine aF [] (fun i => match i with | _ => fun _ _ => False) 8 [[], [], [0, 1], [2], [], [], [4, 5], [6]] [av, iv (x : Int), slAddr av (x * 1), sv (xs.getD x []), bv, iv (y : Int), slAddr bv (y * 1), sv (ys.getD y [])] Z Y (by kernel_rfl) (by kernel_rfl) (by kernel_rfl) ?_ ?_ ?_
   ·intro i hi hiq
    match i, hi, hiq with
    | 0, _, _ =>
     intro w Y
     exact OpV.g (ah rfl)
    | 1, _, _ =>
     intro w Y
     exact OpV.g (ah rfl)
    | 2, _, _ =>
     intro w Y
     exact OpV.g ((aj (i := (x : Int)) (sT := 45) (Y.arg hav) rfl rfl (Tryd.runUnderlying45 _) (Tryd.sizeOf9 _) (by omega) (by first | (rw [List.length_map]; omega) | (rw [List.length_map, List.length_map]; omega))).as (v' := slAddr av (x * 1)) rfl)
    | 3, _, _ =>
     intro w Y
     exact OpV.g (aw (u := sv (xs.getD x [])) (i := x) (j := 0) (Y.arg hav) (by first | (rw [List.length_map]; omega) | (rw [List.length_map, List.length_map]; omega)) rfl (Tryd.isAgg9 _) (by rw [bq []]; rfl))
    | 4, _, _ =>
     intro w Y
     exact OpV.g (ah rfl)
    | 5, _, _ =>
     intro w Y
     exact OpV.g (ah rfl)
    | 6, _, _ =>
     intro w Y
     exact OpV.g ((aj (i := (y : Int)) (sT := 45) (Y.arg hbv) rfl rfl (Tryd.runUnderlying45 _) (Tryd.sizeOf9 _) (by omega) (by first | (rw [List.length_map]; omega) | (rw [List.length_map, List.length_map]; omega))).as (v' := slAddr bv (y * 1)) rfl)
    | 7, _, _ =>
     intro w Y
     exact OpV.g (aw (u := sv (ys.getD y [])) (i := y) (j := 0) (Y.arg hbv) (by first | (rw [List.length_map]; omega) | (rw [List.length_map, List.length_map]; omega)) rfl (Tryd.isAgg9 _) (by rw [bq []]; rfl))
   ·intro i hi
    exact absurd hi (by simp)
   clear Z Y
   intro  a w9 Z Y
   replace Z : Fr 58 [(41, av), (42, iv (x : Int)), (43, slAddr av (x * 1)), (44, sv (xs.getD x [])), (45, bv), (46, iv (y : Int)), (47, slAddr bv (y * 1)), (48, sv (ys.getD y [])), (0, _), (1, _), (5, _), (7, _), (8, _), (9, _), (35, _), (36, _), (37, _), (38, _)] [] a := Z
   refine ab <| aY (k := 8) 10 [9] (by kernel_rfl) (by kernel_rfl) (by kernel_rfl) ?_
   refine wlv Z (v_sne rfl rfl) fun a Z => wlm Z rfl fun a Z => ab ?_
   rcases Bool.eq_false_or_eq_true (!decide (xs.getD x [] = ys.getD y [])) with hb5 | hb5
   ·rw [hb5] at Z
    try simp only [qz] at hb5
    refine bj (k := 10) 15 [10, 14] Z (by kernel_rfl) (by kernel_rfl) (by kernel_rfl) (by rfl) ?_
    replace Z : Fr 58 [(0, _), (1, _), (5, _), (7, _), (8, _), (9, _), (35, _), (36, _), (37, _), (38, _), (41, _), (42, _), (43, _), (44, _), (45, _), (46, _), (47, _), (48, _), (49, _), (50, _)] [] a := Z.pick [0, 1, 5, 7, 8, 9, 35, 36, 37, 38, 41, 42, 43, 44, 45, 46, 47, 48, 49, 50]
    refine aF [] (fun i => match i with | _ => fun _ _ => False) 5 [[], [], [], [1, 2], [3]] [sv (sha (xs.getD x [])), vs, iv (y : Int), slAddr vs (y * 1), sv (sha (ys.getD y []))] Z Y (by kernel_rfl) (by kernel_rfl) (by kernel_rfl) ?_ ?_ ?_
    ·intro i hi hiq
     match i, hi, hiq with
     | 0, _, _ =>
      intro w Y
      exact OpV.g (ah rfl)
     | 1, _, _ =>
      intro w Y
      exact OpV.g (ah rfl)
     | 2, _, _ =>
      intro w Y
      exact OpV.g (ah rfl)
     | 3, _, _ =>
      intro w Y
      exact OpV.g ((aj (i := (y : Int)) (sT := 45) (Y.ownAt (i := 0) rfl) rfl rfl (Tryd.runUnderlying45 _) (Tryd.sizeOf9 _) (by omega) (by first | (rw [List.length_map]; omega) | (rw [List.length_map, List.length_map]; omega))).as (v' := slAddr vs (y * 1)) rfl)
     | 4, _, _ =>
      intro w Y
      exact OpV.g (aw (u := sv (sha (ys.getD y []))) (i := y) (j := 0) (Y.ownAt (i := 0) rfl) (by first | (rw [List.length_map]; omega) | (rw [List.length_map, List.length_map]; omega)) rfl (Tryd.isAgg9 _) (by rw [bq [], mF (by omega)]; rfl))
    ·intro i hi
     exact absurd hi (by simp)
    clear Z Y
    intro  a w10 Z Y
    replace Z : Fr 58 [(51, sv (sha (xs.getD x []))), (52, vs), (53, iv (y : Int)), (54, slAddr vs (y * 1)), (55, sv (sha (ys.getD y []))), (0, _), (1, _), (5, _), (7, _), (8, _), (9, _), (35, _), (36, _), (37, _), (38, _), (41, _), (42, _), (43, _), (44, _), (45, _), (46, _), (47, _), (48, _), (49, _), (50, _)] [] a := Z
    refine ab <| aY (k := 15) 17 [16] (by kernel_rfl) (by kernel_rfl) (by kernel_rfl) ?_
    refine wly Z (dx rfl rfl) fun a Z => wlv Z (aC rfl rfl) fun a Z => ab <| bf (by kernel_rfl) ?_
    refine hK18 _ _ ?_
    replace Z : Fr 58 [(0, _), (1, _), (5, _), (7, _), (8, _), (9, _), (57, _)] [] a := Z.pick [0, 1, 5, 7, 8, 9, 57]
    refine ay Z rfl (fun hc6 => ?_) (fun hc6 => ?_)
    ·rw [hc6] at Z
     try simp only [qz, Bool.and_eq_true, Bool.or_eq_true, Bool.and_eq_false_iff, Bool.or_eq_false_iff] at hc6
     refine aa fun K19 hK19 => wla Z rfl fun a Z => ab (hK19 _ _ <| au ?_)
     refine ap Z Tryd.results40 (ac rfl ag) ?_
     exact ⟨by simp only [retv]; congr 1; exact (kv hxl hyl (by unfold colxB; simp [-List.getD_eq_getElem?_getD, hb5, hc6])).symm, Y.ext⟩
    rw [hc6] at Z
    try simp only [qz, Bool.and_eq_true, Bool.or_eq_true, Bool.and_eq_false_iff, Bool.or_eq_false_iff] at hc6
    refine ar <| hK17 _ _ <| am <| wlm Z rfl fun a Z => wlv Z (aU rfl rfl ⟨by omega, by omega⟩) fun a Z => wla Z rfl fun a Z => ab ?_
    refine ⟨_, ?_, y + 1, rfl, (by omega), (fun j h => by rcases Nat.lt_succ_iff_lt_or_eq.1 h with h | rfl; exact hno2 j h; unfold colxB; simp [-List.getD_eq_getElem?_getD, hc6]), Z.pick [0, 1, 5, 7, 8, 9], Y.select [0] (by decide)⟩
    omega
   rw [hb5] at Z
   try simp only [qz] at hb5
   replace Z : Fr 58 [(0, av), (1, bv), (5, vs), (7, iv (x : Int)), (8, sv (sha (xs.getD x []))), (9, iv (y : Int)), (35, iv (y : Int)), (36, bv), (37, iv (ys.length : Int)), (38, .bool true), (41, av), (42, iv (x : Int)), (43, slAddr av (x * 1)), (44, sv (xs.getD x [])), (45, bv), (46, iv (y : Int)), (47, slAddr bv (y * 1)), (48, sv (ys.getD y [])), (49, .bool false), (50, .bool false)] [] a := Z.pick [0, 1, 5, 7, 8, 9, 35, 36, 37, 38, 41, 42, 43, 44, 45, 46, 47, 48, 49, 50]
   refine jS (k := 10) 15 [10, 14] Z (by kernel_rfl) (by kernel_rfl) (by kernel_rfl) (by rfl) fun a Z => ?_
   replace Z : Fr 58 [(51, undef), (52, undef), (53, undef), (54, undef), (55, undef), (0, av), (1, bv), (5, vs), (7, iv (x : Int)), (8, sv (sha (xs.getD x []))), (9, iv (y : Int)), (35, iv (y : Int)), (36, bv), (37, iv (ys.length : Int)), (38, .bool true), (41, av), (42, iv (x : Int)), (43, slAddr av (x * 1)), (44, sv (xs.getD x [])), (45, bv), (46, iv (y : Int)), (47, slAddr bv (y * 1)), (48, sv (ys.getD y [])), (49, .bool false), (50, .bool false)] [] a := Z
   refine aY (k := 15) 17 [16] (by kernel_rfl) (by kernel_rfl) (by kernel_rfl) ?_
   refine wln Z fun a Z => wlv Z (ax rfl rfl) fun a Z => ab <| bf (by kernel_rfl) ?_
   refine hK18 _ _ ?_
   replace Z : Fr 58 [(0, _), (1, _), (5, _), (7, _), (8, _), (9, _), (57, _)] [] a := Z.pick [0, 1, 5, 7, 8, 9, 57]
   refine aL Z rfl ?_
   refine ar <| hK17 _ _ <| am <| wlm Z rfl fun a Z => wlv Z (aU rfl rfl ⟨by omega, by omega⟩) fun a Z => wla Z rfl fun a Z => ab ?_
   refine ⟨_, ?_, y + 1, rfl, (by omega), (fun j h => by rcases Nat.lt_succ_iff_lt_or_eq.1 h with h | rfl; exact hno2 j h; unfold colxB; simp [-List.getD_eq_getElem?_getD, hb5]), Z.pick [0, 1, 5, 7, 8, 9], Y.select [0] (by decide)⟩
   omega
  rw [hc4] at Z
  try simp only [qz, Bool.and_eq_true, Bool.or_eq_true, Bool.and_eq_false_iff, Bool.or_eq_false_iff] at hc4
  refine aI <| hK12 _ _ <| am <| wlm Z rfl fun a Z => wlv Z (aU rfl rfl ⟨by omega, by omega⟩) fun a Z => wla Z rfl fun a Z => ab ?_
  refine ⟨_, ?_, x + 1, rfl, (by omega), (fun i h => by rcases Nat.lt_succ_iff_lt_or_eq.1 h with h | rfl; exact hno i h; exact fun j hj => hno2 j (by omega)), Z.pick [0, 1, 5, 7], Y.select [0] (by decide)⟩
  omega
 rw [hc3] at Z
 try simp only [qz, Bool.and_eq_true, Bool.or_eq_true, Bool.and_eq_false_iff, Bool.or_eq_false_iff] at hc3
 refine aI <| hK8 _ _ <| aa fun K20 hK20 => wla Z rfl fun a Z => ab (hK20 _ _ ?_)
 replace Z : Fr 58 [(4, _)] [] a := Z.pick [4]
 refine au ?_
 refine ap Z Tryd.results40 (ac rfl ag) ?_
 exact ⟨by simp only [retv]; congr 1; exact (jx fun i h => hno i (by omega)).symm, Y.ext⟩
theorem lD {a b : List By} (h : Two sha a b) : colxH a b = true := by
 obtain ⟨x, hx, y, hy, h1, h2⟩ := h
 exact List.any_eq_true.2 ⟨x, hx, List.any_eq_true.2 ⟨y, hy, by unfold colxB; rw [decide_eq_false h1, decide_eq_true h2]; rfl⟩⟩
end Go.Proofs.YtddfkkdanpmnaaaDoor
namespace Go.Proofs.YtddfkkdanpmnaaaDoor
open Go.RowKit Go.PW
set_option linter.unusedVariables false
set_option linter.unusedSimpArgs false
set_option maxRecDepth 4000
def headB (o : Int) (l : List Rec) : By := if logOk o l = true then rootH sha (codesR l) else []
def headE (o : Int) (l : List Rec) : Int := if logOk o l = true then 0 else 110
theorem dz {o : Int} {l : List Rec} : headE o l = 0 ↔ logOk o l = true := by
 unfold headE; split <;> simp_all
theorem dB {o : Int} {l : List Rec} (h : logOk o l = true) : headB o l = rootH sha (codesR l) := if_pos h
def signOk (key : By) (o : Int) (l : List Rec) : Bool := logOk o l && decide (key.length = 32)
def signB (key : By) (o : Int) (l : List Rec) : By := if signOk key o l = true then tagR sha key o (l.length : Int) (rootH sha (codesR l)) else []
def signE (key : By) (o : Int) (l : List Rec) : Int := if signOk key o l = true then 0 else 110
def checkB (root : By) (n i : Int) (x : Rec) (p : List By) : Bool := x.ok && cr sha root n i x.enc p
theorem fO {l : List Rec} (h : ∀ x ∈ l, x.ok = true) : ∀ s ∈ codesR l, s.length ≤ 300 := by rw [← dR h]; exact fK l
theorem cG (o n : Int) (root : By) : (aD o n root).length ≤ 18 + root.length := by
 have h1 := bF o
 have h2 := bF n
 simp only [aD, puts, List.flatMap_cons, List.flatMap_nil, List.length_append, List.length_nil]; omega
theorem jc (w0 : World) :
  Ret Tryd.prog 41 #[] w0 (MemR w0 (fun v : Value => .agg #[iv 4, v]) (fun v => [own v 27 5 (exR.map Rec.cells)]) (fun _ => True)) := by
 refine aE Tryd.func41 rfl Tryd.ntmps41 (lb rfl) fun a Z => ?_
 replace Z : Fr 6 [] [] a := Z
 replace Y : St No w0 [] w0 := St.init w0
 refine aa fun K1 hK1 => aO Z Y (by decide) (Tryd.zeroValue25 _) (cs := [iv 0, .slice none 0 0]) rfl ?_
 clear Z Y
 intro a w1 Z Y
 refine ab (hK1 _ _ <| aa fun K2 hK2 => ?_)
 refine wlv Z (bA (v := .agg #[iv 10, iv 1, iv 7, iv (-1), sv ([110, 101, 119, 115])]) rfl (by kernel_rfl)) fun a Z => wlv Z (bA (v := .agg #[iv 20, iv 2, iv 0, iv 5, sv ([] : By)]) rfl (by kernel_rfl)) fun a Z => wlv Z (bA (v := .agg #[iv 20, iv 1, iv 8, iv (-1), sv ([] : By)]) rfl (by kernel_rfl)) fun a Z => az (E := 27) (sz := 5) rfl [[iv 10, iv 1, iv 7, iv (-1), sv ([110, 101, 119, 115])], [iv 20, iv 2, iv 0, iv 5, sv ([] : By)], [iv 20, iv 1, iv 8, iv (-1), sv ([] : By)]] (by kernel_rfl) (by simp) rfl (by decide) (by decide) Z Y ?_
 clear Z Y
 intro a w2 Z Y
 refine wlv Z (bA (v := .agg #[iv 4, (.slice (some ⟨w1.heap.size, 0, none⟩) 3 3)]) rfl (by kernel_rfl)) fun a Z => aG 1 Z Y rfl rfl rfl (Tryd.sizeOf25 _) rfl (lb rfl) (ds := [iv 4, (.slice (some ⟨w1.heap.size, 0, none⟩) 3 3)]) rfl rfl ?_
 clear Z Y
 intro a w3 Z Y
 refine ab (hK2 _ _ <| au ?_)
 refine ap Z Tryd.results41 (aJ rfl (bM (Y.get (k := 1) rfl) (Tryd.isAgg25 _) (Tryd.sizeOf25 _)) ag) ?_
 exact ⟨(.slice (some ⟨w1.heap.size, 0, none⟩) 3 3), rfl, trivial, Y.ext, St.out (E := [own (.slice (some ⟨w1.heap.size, 0, none⟩) 3 3) 27 5 (exR.map Rec.cells)]) (H := []) (Y.select [0] (by decide))⟩
theorem cD (o n : Int) (root : By) (w0 : World) (ho : small o) (hn : small n) (hr : root.length ≤ 1000) :
  Ret Tryd.prog 38 #[iv o, iv n, sv root] w0 fun v w => v = sv (aD o n root) ∧ Ext No w0 w := by
 have hq0 := bF o
 have hq1 := bF n
 refine aE Tryd.func38 rfl Tryd.ntmps38 (lb rfl) fun a Z => ?_
 replace Z : Fr 26 [(0, _), (1, _), (2, _)] [] a := Z
 replace Y : St No w0 [] w0 := St.init w0
 refine aa fun K1 hK1 => wla Z rfl fun a Z => ab (hK1 _ _ <| aa fun K2 hK2 => ?_)
 refine wlm Z rfl fun a Z => al Z Y (by decide) Tryd.call53 rfl (eh o _ (by assumption)) ?_
 clear Z Y
 intro a w1 Z Y
 refine wlm Z rfl fun a Z => wlv Z (ak rfl rfl) fun a Z => wlv Z (ak rfl rfl) fun a Z => wla Z rfl fun a Z => wla Z rfl fun a Z => ab (hK2 _ _ ?_)
 replace Z : Fr 26 [(1, _), (2, _), (6, _), (7, _)] [] a := Z.pick [1, 2, 6, 7]
 refine aa fun K3 hK3 => wlm Z rfl fun a Z => al Z Y (by decide) Tryd.call53 rfl (eh n _ (by assumption)) ?_
 clear Z Y
 intro a w2 Z Y
 refine wlm Z rfl fun a Z => wlv Z (ak rfl rfl) fun a Z => wlv Z (ak rfl rfl) fun a Z => wla Z rfl fun a Z => wla Z rfl fun a Z => ab (hK3 _ _ ?_)
 replace Z : Fr 26 [(2, _), (6, _), (7, _), (9, _)] [] a := Z.pick [2, 6, 7, 9]
 refine aa fun K4 hK4 => wlm Z rfl fun a Z => wlm Z rfl fun a Z => wlv Z (bw rfl rfl (by (try simp only [List.length_append]); omega)) fun a Z => wlm Z rfl fun a Z => wlv Z (bw rfl rfl (by (try simp only [List.length_append]); omega)) fun a Z => wla Z rfl fun a Z => ab (hK4 _ _ ?_)
 replace Z : Fr 26 [(6, _)] [] a := Z.pick [6]
 refine au ?_
 refine ap Z Tryd.results38 (ac rfl ag) ?_
 exact ⟨by simp only [retv]; simp [aD, puts], Y.ext⟩
end Go.Proofs.YtddfkkdanpmnaaaDoor
namespace Go.Proofs.YtddfkkdanpmnaaaDoor
open Go.RowKit Go.PW
set_option linter.unusedVariables false
set_option linter.unusedSimpArgs false
set_option maxRecDepth 4000
theorem fS {M : Nat → Prop} {w0 : World} (T : TypeId) (b : Nat) (ad v : Value) (bs s : By) (ws : World) (hlie : liesAt Tryd.prog Tryd.prog.depth T (2 / Tryd.prog.cellsOf T) 0 83 1 = true) (had : ad = .pointer none ∨ ad = pt b) (hne : s ≠ []) (hbn : bs.length + s.length ≤ 1000000000) (Y : St M w0 [bld T b ad v bs] ws) :
  Ret Tryd.prog 51 #[pt b, sv s] ws fun u w => u = .tuple #[iv (s.length : Int), .nilIface] ∧ ∃ v2, St M w0 [bld T b (pt b) v2 (bs ++ s)] w := by
 rcases had with rfl | rfl
 ·exact jf T b v bs s ws hlie hne hbn Y
 ·exact ku T b v bs s ws hlie hne hbn Y
theorem jH (n : Int) : putI n ≠ [] := fun h => by have := (bF n).1; rw [h] at this; simp at this
theorem j1 (s : By) : putS s ≠ [] := fun h => jH _ (List.append_eq_nil_iff.1 h).1
theorem k8 {a b : By} (h : b ≠ []) : a ++ b ≠ [] := fun e => h (List.append_eq_nil_iff.1 e).2
theorem jX {s : By} (h : s.length = 32) : s ≠ [] := fun e => by rw [e] at h; cases h
def encRb (l : List Rec) (k : Nat) : List Value := [iv (k : Int), .agg (l.getD k Rec.z).cells.toArray]
theorem du (n lo hi : Int) (w0 : World) :
  Ret Tryd.prog 46 #[iv n, iv lo, iv hi] w0 fun v w => v = .bool (inB n lo hi) ∧ Ext No w0 w := by
 refine aE Tryd.func46 rfl Tryd.ntmps46 (lb rfl) fun a Z => ?_
 replace Z : Fr 15 [(0, _), (1, _), (2, _)] [] a := Z
 replace Y : St No w0 [] w0 := St.init w0
 refine aa fun K1 hK1 => wla Z rfl fun a Z => ab (hK1 _ _ <| aa fun K2 hK2 => ?_)
 refine wlm Z rfl fun a Z => wlm Z rfl fun a Z => wlv Z (v_le rfl rfl) fun a Z => wlm Z rfl fun a Z => ?_
 refine jZ (N := 15) (df := []) 4 [(14, .bool ((decide (lo ≤ n)) && (decide (n ≤ hi)))), (0, iv n), (1, iv lo), (2, iv hi), (6, .bool false)] ?_ (fun hj => ?_)
 rotate_left
 ·rcases Bool.eq_false_or_eq_true (decide (lo ≤ n)) with hb1 | hb1
  ·rw [hb1] at Z
   have hb1b := hb1
   try simp only [qz, Bool.and_eq_true, Bool.or_eq_true, Bool.and_eq_false_iff, Bool.or_eq_false_iff] at hb1
   refine wly Z (ah rfl) fun a Z => wly Z (ah rfl) fun a Z => wly Z (v_le rfl rfl) fun a Z => wlv Z (aC rfl rfl) fun a Z => ?_
   refine hj _ ?_
   try rw [hb1b]
   exact Z.pick [14, 0, 1, 2, 6]
  rw [hb1] at Z
  have hb1b := hb1
  try simp only [qz, Bool.and_eq_true, Bool.or_eq_true, Bool.and_eq_false_iff, Bool.or_eq_false_iff] at hb1
  refine wln Z fun a Z => wln Z fun a Z => wln Z fun a Z => wlv Z (ax rfl rfl) fun a Z => ?_
  refine hj _ ?_
  try rw [hb1b]
  exact Z.pick [14, 0, 1, 2, 6]
 intro a Z
 refine wla Z rfl fun a Z => ab (hK2 _ _ <| au ?_)
 refine ap Z Tryd.results46 (ac rfl ag) ?_
 exact ⟨by rfl, Y.ext⟩
set_option maxHeartbeats 4000000 in
theorem em (x : Rec) (w0 : World) :
  Ret Tryd.prog 45 #[.agg #[iv x.t, iv x.kind, iv x.a, iv x.b, sv x.text]] w0 fun v w => v = .bool x.ok ∧ Ext No w0 w := by
 refine aE Tryd.func45 rfl Tryd.ntmps45 (lb rfl) fun a Z => ?_
 replace Z : Fr 27 [(0, _)] [] a := Z
 replace Y : St No w0 [] w0 := St.init w0
 refine aa fun K1 hK1 => bx Z Y (by decide) rfl (cs := [iv x.t, iv x.kind, iv x.a, iv x.b, sv x.text]) rfl ?_
 clear Z Y
 intro a w1 Z Y
 refine wla Z rfl fun a Z => ab (hK1 _ _ <| aa fun K2 hK2 => ?_)
 refine wlv Z (aq (v := pt w0.heap.size) rfl (by kernel_rfl)) fun a Z => wlv Z (ai (Y.get (k := 0) rfl) rfl (Tryd.isAgg3 _) rfl) fun a Z => al Z Y (by decide) Tryd.call46 rfl (du x.t 0 10000000 _) ?_
 clear Z Y
 intro a w2 Z Y
 refine wlm Z rfl fun a Z => ?_
 rcases Bool.eq_false_or_eq_true (inB x.t 0 10000000) with hb1 | hb1
 ·rw [hb1] at Z
  try simp only [qz] at hb1
  refine wly Z (aq (v := .pointer (some ⟨w0.heap.size, 1, none⟩)) rfl (by kernel_rfl)) fun a Z => wly Z (ai (Y.get (k := 0) rfl) rfl (Tryd.isAgg3 _) rfl) fun a Z => aT Z Y (by decide) rfl (by decide) rfl Tryd.call46 rfl (du x.kind 1 20 _) ?_
  clear Z Y
  intro a w3 Z Y
  refine wlv Z (aC rfl rfl) fun a Z => wlm Z rfl fun a Z => ?_
  rcases Bool.eq_false_or_eq_true (inB x.kind 1 20) with hb2 | hb2
  ·rw [hb2] at Z
   try simp only [qz] at hb2
   refine wly Z (aq (v := .pointer (some ⟨w0.heap.size, 2, none⟩)) rfl (by kernel_rfl)) fun a Z => wly Z (ai (Y.get (k := 0) rfl) rfl (Tryd.isAgg3 _) rfl) fun a Z => aT Z Y (by decide) rfl (by decide) rfl Tryd.call46 rfl (du x.a (-1) 99999999 _) ?_
   clear Z Y
   intro a w4 Z Y
   refine wlv Z (aC rfl rfl) fun a Z => wlm Z rfl fun a Z => ?_
   rcases Bool.eq_false_or_eq_true (inB x.a (-1) 99999999) with hb3 | hb3
   ·rw [hb3] at Z
    try simp only [qz] at hb3
    refine wly Z (aq (v := .pointer (some ⟨w0.heap.size, 3, none⟩)) rfl (by kernel_rfl)) fun a Z => wly Z (ai (Y.get (k := 0) rfl) rfl (Tryd.isAgg3 _) rfl) fun a Z => aT Z Y (by decide) rfl (by decide) rfl Tryd.call46 rfl (du x.b (-1) 99999999 _) ?_
    clear Z Y
    intro a w5 Z Y
    refine wlv Z (aC rfl rfl) fun a Z => wlm Z rfl fun a Z => ?_
    rcases Bool.eq_false_or_eq_true (inB x.b (-1) 99999999) with hb4 | hb4
    ·rw [hb4] at Z
     try simp only [qz] at hb4
     refine wly Z (aq (v := .pointer (some ⟨w0.heap.size, 4, none⟩)) rfl (by kernel_rfl)) fun a Z => wly Z (ai (Y.get (k := 0) rfl) rfl (Tryd.isAgg9 _) rfl) fun a Z => wly Z (bt rfl rfl (Tryd.runUnderlying9 _)) fun a Z => wly Z (v_le rfl rfl) fun a Z => wlv Z (aC rfl rfl) fun a Z => wla Z rfl fun a Z => ab (hK2 _ _ ?_)
     replace Z : Fr 27 [(2, _)] [] a := Z.pick [2]
     replace Y : St No w0 [] w5 := Y.mask [false]
     refine au ?_
     refine ap Z Tryd.results45 (ac rfl ag) ?_
     refine ⟨?_, Y.ext⟩
     simp only [retv]
     refine congrArg Value.bool ?_
     unfold Rec.ok
     simp only [hb1, hb2, hb3, hb4, Bool.true_and]
     exact decide_eq_decide.2 (by omega)
    rw [hb4] at Z
    try simp only [qz] at hb4
    refine wln Z fun a Z => wln Z fun a Z => wln Z fun a Z => wln Z fun a Z => wlv Z (ax rfl rfl) fun a Z => wla Z rfl fun a Z => ab (hK2 _ _ ?_)
    replace Z : Fr 27 [(2, _)] [] a := Z.pick [2]
    replace Y : St No w0 [] w5 := Y.mask [false]
    refine au ?_
    refine ap Z Tryd.results45 (ac rfl ag) ?_
    refine ⟨?_, Y.ext⟩
    simp only [retv]
    refine congrArg Value.bool ?_
    unfold Rec.ok
    simp only [hb1, hb2, hb3, hb4, Bool.true_and, Bool.false_and]
   rw [hb3] at Z
   try simp only [qz] at hb3
   refine wln Z fun a Z => wln Z fun a Z => wln Z fun a Z => wlv Z (ax rfl rfl) fun a Z => wlm Z rfl fun a Z => wln Z fun a Z => wln Z fun a Z => wln Z fun a Z => ?_
   refine wln Z fun a Z => wlv Z (ax rfl rfl) fun a Z => wla Z rfl fun a Z => ab (hK2 _ _ ?_)
   replace Z : Fr 27 [(2, _)] [] a := Z.pick [2]
   replace Y : St No w0 [] w4 := Y.mask [false]
   refine au ?_
   refine ap Z Tryd.results45 (ac rfl ag) ?_
   refine ⟨?_, Y.ext⟩
   simp only [retv]
   refine congrArg Value.bool ?_
   unfold Rec.ok
   simp only [hb1, hb2, hb3, Bool.true_and, Bool.false_and]
  rw [hb2] at Z
  try simp only [qz] at hb2
  refine wln Z fun a Z => wln Z fun a Z => wln Z fun a Z => wlv Z (ax rfl rfl) fun a Z => wlm Z rfl fun a Z => wln Z fun a Z => wln Z fun a Z => wln Z fun a Z => ?_
  refine wlv Z (ax rfl rfl) fun a Z => wlm Z rfl fun a Z => wln Z fun a Z => wln Z fun a Z => wln Z fun a Z => wln Z fun a Z => wlv Z (ax rfl rfl) fun a Z => wla Z rfl fun a Z => ab (hK2 _ _ ?_)
  replace Z : Fr 27 [(2, _)] [] a := Z.pick [2]
  replace Y : St No w0 [] w3 := Y.mask [false]
  refine au ?_
  refine ap Z Tryd.results45 (ac rfl ag) ?_
  refine ⟨?_, Y.ext⟩
  simp only [retv]
  refine congrArg Value.bool ?_
  unfold Rec.ok
  simp only [hb1, hb2, Bool.true_and, Bool.false_and]
 rw [hb1] at Z
 try simp only [qz] at hb1
 refine wln Z fun a Z => wln Z fun a Z => wln Z fun a Z => wlv Z (ax rfl rfl) fun a Z => wlm Z rfl fun a Z => wln Z fun a Z => wln Z fun a Z => wln Z fun a Z => ?_
 refine wlv Z (ax rfl rfl) fun a Z => wlm Z rfl fun a Z => wln Z fun a Z => wln Z fun a Z => wln Z fun a Z => wlv Z (ax rfl rfl) fun a Z => wlm Z rfl fun a Z => wln Z fun a Z => wln Z fun a Z => ?_
 refine wln Z fun a Z => wln Z fun a Z => wlv Z (ax rfl rfl) fun a Z => wla Z rfl fun a Z => ab (hK2 _ _ ?_)
 replace Z : Fr 27 [(2, _)] [] a := Z.pick [2]
 replace Y : St No w0 [] w2 := Y.mask [false]
 refine au ?_
 refine ap Z Tryd.results45 (ac rfl ag) ?_
 refine ⟨?_, Y.ext⟩
 simp only [retv]
 refine congrArg Value.bool ?_
 unfold Rec.ok
 simp only [hb1, Bool.true_and, Bool.false_and]
set_option maxHeartbeats 4000000 in
theorem dr (o : Int) (lv : Value) (l : List Rec) (w0 : World) (hlv : SlAt w0 lv 5 (l.map Rec.cells)) :
  Ret Tryd.prog 16 #[.agg #[iv o, lv]] w0 fun v w => v = .bool (logOk o l) ∧ Ext No w0 w := by
 have hxb := hlv.2.1
 simp only [List.length_map, big] at hxb
 refine aE Tryd.func16 rfl Tryd.ntmps16 (lb rfl) fun a Z => ?_
 replace Z : Fr 34 [(0, _)] [] a := Z
 replace Y : St No w0 [] w0 := St.init w0
 refine aa fun K1 hK1 => bx Z Y (by decide) rfl (cs := [iv o, lv]) rfl ?_
 clear Z Y
 intro a w1 Z Y
 refine wla Z rfl fun a Z => ab (hK1 _ _ <| aa fun K2 hK2 => ?_)
 refine wla Z rfl fun a Z => ab (hK2 _ _ <| ae fun K3 hK3 => ?_)
 refine aa fun K4 hK4 => wlv Z (aq (v := .pointer (some ⟨w0.heap.size, 1, none⟩)) rfl (by kernel_rfl)) fun a Z => wlv Z (ai (Y.get (k := 0) rfl) rfl (Tryd.isAgg23 _) rfl) fun a Z => wlv Z ((aH (sT := 23) (Y.arg hlv) rfl rfl (Tryd.runUnderlying23 _)).asi (m' := (l.length : Int)) (by rw [List.length_map])) fun a Z => wlm Z rfl fun a Z => ab (hK4 _ _ <| ao ?_)
 refine aN (fun m a w => ∃ (k : Nat), m = l.length - k ∧ (k ≤ l.length) ∧ (bH 0 l = bH (prevT l k) (l.drop k)) ∧ Fr 34 [(1, pt w0.heap.size), (7, lv), (8, iv (l.length : Int)), (3, iv (prevT l k)), (9, iv (k : Int))] [] a ∧ St No w0 [blk w0.heap.size [iv o, lv] 25] w) _ ⟨0, rfl, Nat.zero_le _, rfl, Z.pick [1, 7, 8, 3, 9], Y.select [0] (by decide)⟩ ?_
 rintro _ a w2 ⟨k, rfl, hk, hs, Z, Y⟩
 refine aa fun K5 hK5 => wlv Z (v_lt rfl rfl) fun a Z => ab (hK5 _ _ <| ae fun K6 hK6 => ?_)
 refine ay Z rfl (fun hc1 => ?_) (fun hc1 => ?_)
 ·rw [hc1] at Z
  try simp only [qz] at hc1
  have hkx : k < l.length := by omega
  refine ar <| hK6 _ _ <| ae fun K7 hK7 => ao <| aa fun K8 hK8 => wlv Z ((aj (i := (k : Int)) (sT := 23) (Y.arg hlv) rfl rfl (Tryd.runUnderlying23 _) (Tryd.sizeOf27 _) (by omega) (by rw [List.length_map]; omega)).as (v' := slAddr lv (k * 5)) rfl) fun a Z => wlv Z ((cy (Y.arg hlv) (i := k) (by rw [List.length_map]; omega) rfl (Tryd.isAgg27 _) (Tryd.sizeOf27 _)).as (v' := .agg #[iv ((l.getD k Rec.z).t), iv ((l.getD k Rec.z).kind), iv ((l.getD k Rec.z).a), iv ((l.getD k Rec.z).b), sv ((l.getD k Rec.z).text)]) (by rw [bq Rec.z]; rfl)) fun a Z => ?_
  refine aO Z Y (by decide) (Tryd.zeroValue27 _) (cs := [iv 0, iv 0, iv 0, iv 0, .string (⟨#[]⟩)]) rfl ?_
  clear Z Y
  intro a w3 Z Y
  refine aG 0 Z Y rfl rfl rfl (Tryd.sizeOf27 _) rfl (lb rfl) (ds := [iv ((l.getD k Rec.z).t), iv ((l.getD k Rec.z).kind), iv ((l.getD k Rec.z).a), iv ((l.getD k Rec.z).b), sv ((l.getD k Rec.z).text)]) rfl rfl ?_
  clear Z Y
  intro a w4 Z Y
  refine ab (hK8 _ _ <| ae fun K9 hK9 => ?_)
  refine aa fun K10 hK10 => wlv Z (aA (Y.get (k := 0) rfl) rfl (Tryd.isAgg27 _) (Tryd.sizeOf27 _)) fun a Z => al Z Y (by decide) Tryd.call45 rfl (em (l.getD k Rec.z) _) ?_
  clear Z Y
  intro a w5 Z Y
  refine wlv Z (bh rfl) fun a Z => wlm Z rfl fun a Z => ?_
  rcases Bool.eq_false_or_eq_true (!((l.getD k Rec.z).ok)) with hb2 | hb2
  ·rw [hb2] at Z
   try simp only [qz] at hb2
   have hbad : bH 0 l = false := by rw [hs]; exact sr_no hkx (by simpa using hb2)
   refine wln Z fun a Z => wln Z fun a Z => wln Z fun a Z => wln Z fun a Z => wlv Z (aC rfl rfl) fun a Z => ab (hK10 _ _ ?_)
   replace Z : Fr 34 [(1, _), (7, _), (8, _), (9, _), (5, _), (21, _)] [] a := Z.pick [1, 7, 8, 9, 5, 21]
   refine aQ Z rfl ?_
   refine aa fun K11 hK11 => wla Z rfl fun a Z => ab (hK11 _ _ <| au ?_)
   refine ap Z Tryd.results16 (ac rfl ag) ?_
   refine ⟨?_, Y.ext⟩
   simp only [retv]
   refine congrArg Value.bool ?_
   unfold logOk; rw [hbad]; rfl
  rw [hb2] at Z
  try simp only [qz] at hb2
  have hok : (l.getD k Rec.z).ok = true := by simpa using hb2
  refine wly Z (aq (v := pt w2.heap.size) rfl (by kernel_rfl)) fun a Z => wly Z (ai (Y.get (k := 0) rfl) rfl (Tryd.isAgg3 _) rfl) fun a Z => wly Z (ah rfl) fun a Z => wly Z (v_lt rfl rfl) fun a Z => wlv Z (ax rfl rfl) fun a Z => ab (hK10 _ _ ?_)
  replace Z : Fr 34 [(1, _), (7, _), (8, _), (9, _), (5, _), (21, _)] [] a := Z.pick [1, 7, 8, 9, 5, 21]
  refine ay Z rfl (fun hc3 => ?_) (fun hc3 => ?_)
  ·rw [hc3] at Z
   try simp only [qz] at hc3
   have hbad : bH 0 l = false := by rw [hs]; exact sr_lt hkx hc3
   refine aa fun K12 hK12 => wla Z rfl fun a Z => ab (hK12 _ _ <| au ?_)
   refine ap Z Tryd.results16 (ac rfl ag) ?_
   refine ⟨?_, Y.ext⟩
   simp only [retv]
   refine congrArg Value.bool ?_
   unfold logOk; rw [hbad]; rfl
  rw [hc3] at Z
  try simp only [qz] at hc3
  have hgo : prevT l k ≤ (l.getD k Rec.z).t := by omega
  refine ar <| hK9 _ _ <| am <| wlv Z (aq (v := pt w2.heap.size) rfl (by kernel_rfl)) fun a Z => wlv Z (ai (Y.get (k := 0) rfl) rfl (Tryd.isAgg3 _) rfl) fun a Z => wla Z rfl fun a Z => ab <| hK7 _ _ ?_
  refine am <| wlv Z (aU rfl rfl ⟨by omega, by omega⟩) fun a Z => wlm Z rfl fun a Z => ab ?_
  refine ⟨_, ?_, k + 1, rfl, (by omega), (by rw [hs]; exact sr_go hkx hok hgo), Z.pick [1, 7, 8, 3, 9], Y.select [1] (by decide)⟩
  omega
 rw [hc1] at Z
 try simp only [qz] at hc1
 have hall : bH 0 l = true := by rw [hs, show k = l.length by omega, List.drop_length]; rfl
 refine aI <| hK3 _ _ <| aa fun K13 hK13 => wlv Z (aq (v := pt w0.heap.size) rfl (by kernel_rfl)) fun a Z => wlv Z (ai (Y.get (k := 0) rfl) rfl (Tryd.isAgg3 _) rfl) fun a Z => al Z Y (by decide) Tryd.call46 rfl (du o 0 99 _) ?_
 clear Z Y
 intro a w6 Z Y
 refine wlm Z rfl fun a Z => ?_
 rcases Bool.eq_false_or_eq_true (inB o 0 99) with hb4 | hb4
 ·rw [hb4] at Z
  try simp only [qz] at hb4
  refine wly Z (aq (v := .pointer (some ⟨w0.heap.size, 1, none⟩)) rfl (by kernel_rfl)) fun a Z => wly Z (ai (Y.get (k := 0) rfl) rfl (Tryd.isAgg23 _) rfl) fun a Z => wly Z ((aH (sT := 23) (Y.arg hlv) rfl rfl (Tryd.runUnderlying23 _)).asi (m' := (l.length : Int)) (by rw [List.length_map])) fun a Z => wly Z (v_le rfl rfl) fun a Z => wlv Z (aC rfl rfl) fun a Z => wla Z rfl fun a Z => ab (hK13 _ _ ?_)
  replace Z : Fr 34 [(2, _)] [] a := Z.pick [2]
  replace Y : St No w0 [] w6 := Y.mask [false]
  refine au ?_
  refine ap Z Tryd.results16 (ac rfl ag) ?_
  refine ⟨?_, Y.ext⟩
  simp only [retv]
  refine congrArg Value.bool ?_
  unfold logOk; rw [hall, hb4]; simp only [Bool.true_and]; exact decide_eq_decide.2 (by omega)
 rw [hb4] at Z
 try simp only [qz] at hb4
 refine wln Z fun a Z => wln Z fun a Z => wln Z fun a Z => wln Z fun a Z => wlv Z (ax rfl rfl) fun a Z => wla Z rfl fun a Z => ab (hK13 _ _ ?_)
 replace Z : Fr 34 [(2, _)] [] a := Z.pick [2]
 replace Y : St No w0 [] w6 := Y.mask [false]
 refine au ?_
 refine ap Z Tryd.results16 (ac rfl ag) ?_
 refine ⟨?_, Y.ext⟩
 simp only [retv]
 refine congrArg Value.bool ?_
 unfold logOk; rw [hall, hb4]; rfl
theorem fU {M : Nat → Prop} {w0 : World} (T : TypeId) (b : Nat) (ad v lv : Value) (bs : By) (ns : List Int) (ws : World) (hlie : liesAt Tryd.prog Tryd.prog.depth T (2 / Tryd.prog.cellsOf T) 0 83 1 = true) (had : ad = .pointer none ∨ ad = pt b) (hns : smalls ns) (hnn : ns ≠ []) (hbn : bs.length + 9 * ns.length ≤ 1000000000) (Y : St M w0 [bld T b (ad) v bs, own lv 3 1 ((ns).map fun n => [iv n])] ws) :
  Ret Tryd.prog 49 #[pt b, lv] ws fun u w => u = .tuple #[] ∧ ∃ v2, St M w0 [bld T b (pt b) v2 (bs ++ puts ns)] w := by
 refine aE Tryd.func49 rfl Tryd.ntmps49 (lb rfl) fun a Z => ?_
 replace Z : Fr 25 [(0, _), (1, _)] [] a := Z
 skip
 refine aa fun K1 hK1 => wlm Z rfl fun a Z => wlv Z ((aH (sT := 41) (Y.ownAt (i := 1) rfl) rfl rfl (Tryd.runUnderlying41 _)).asi (m' := (ns.length : Int)) (by rw [List.length_map])) fun a Z => wlm Z rfl fun a Z => ab (hK1 _ _ <| ao ?_)
 replace Y : St M w0 [bld T b ad v (bs ++ puts (ns.take 0)), own lv 3 1 ((ns).map fun n => [iv n])] ws := by rw [show bs ++ puts (ns.take 0) = bs from by simp [puts]]; exact Y
 refine aN (fun m a w => ∃ (k : Nat) (ad : Value) (v : Value), m = ns.length - k ∧ (k ≤ ns.length) ∧ (ad = .pointer none ∨ ad = pt b) ∧ (0 < k → ad = pt b) ∧ Fr 25 [(0, pt b), (8, lv), (9, iv (ns.length : Int)), (10, iv (k : Int))] [] a ∧ St M w0 [bld T b (ad) v (bs ++ puts (ns.take k)), own lv 3 1 ((ns).map fun n => [iv n])] w) _ ⟨0, ad, v, rfl, Nat.zero_le _, had, (fun h => absurd h (Nat.lt_irrefl 0)), Z.pick [0, 8, 9, 10], Y⟩ ?_
 rintro _ a w1 ⟨k, ad, v, rfl, hk, had, hak, Z, Y⟩
 refine aa fun K2 hK2 => wlv Z (v_lt rfl rfl) fun a Z => ab (hK2 _ _ <| ae fun K3 hK3 => ?_)
 refine ay Z rfl (fun hc1 => ?_) (fun hc1 => ?_)
 ·rw [hc1] at Z
  try simp only [qz] at hc1
  refine ar <| hK3 _ _ <| ae fun K4 hK4 => ao <| aa fun K5 hK5 => wlv Z ((aj (i := (k : Int)) (sT := 41) (Y.ownAt (i := 1) rfl) rfl rfl (Tryd.runUnderlying41 _) (Tryd.sizeOf3 _) (by omega) (by rw [List.length_map]; omega)).as (v' := slAddr lv (k * 1)) rfl) fun a Z => wlv Z (aw (u := iv (ns.getD k 0)) (i := k) (j := 0) (Y.ownAt (i := 1) rfl) (by rw [List.length_map]; omega) rfl (Tryd.isAgg3 _) (by rw [bq (0 : Int)]; rfl)) fun a Z => wla Z rfl fun a Z => ?_
  refine ab (hK5 _ _ <| aa fun K6 hK6 => ?_)
  refine wlm Z rfl fun a Z => al Z Y (by decide) Tryd.call75 rfl (gA (ns.getD k 0) _ (hns _ (bd (by omega)))) ?_
  clear Z Y
  intro a w2 Z Y
  refine wlm Z rfl fun a Z => wlv Z (ak rfl rfl) fun a Z => wlv Z (ak rfl rfl) fun a Z => wla Z rfl fun a Z => wla Z rfl fun a Z => ab (hK6 _ _ ?_)
  replace Z : Fr 25 [(0, _), (8, _), (9, _), (10, _), (6, _)] [] a := Z.pick [0, 8, 9, 10, 6]
  refine am <| wlm Z rfl fun a Z => wlv Z (bc rfl) fun a Z => wlv Z (aq (v := pt b) rfl (by kernel_rfl)) fun a Z => wlm Z rfl fun a Z => cS (R := fun u e' => u = .tuple #[iv ((putI (ns.getD k 0)).length : Int), .nilIface] ∧ ∃ v2, e' = bld T b (pt b) v2 ((bs ++ puts (ns.take k)) ++ (putI (ns.getD k 0)))) 0 Z Y rfl (by decide) Tryd.call51 rfl (fun h => (fS T b _ _ _ _ _ hlie (had) (jH _) (by have h1 := fG (ns.take k); have h2 := (bF (ns.getD k 0)).2; rw [List.length_take] at h1; rw [List.length_append]; omega) h).mono fun u w ⟨h1, v2, h2⟩ => ⟨_, ⟨h1, v2, rfl⟩, h2⟩) ?_
  clear Z Y
  rintro a w3 _ _ ⟨rfl, v2, rfl⟩ Z Y
  replace Y : St M w0 [bld T b (pt b) v2 ((bs ++ puts (ns.take k)) ++ (putI (ns.getD k 0))), own lv 3 1 ((ns).map fun n => [iv n])] w3 := Y
  refine ab <| hK4 _ _ ?_
  replace Z : Fr 25 [(0, _), (8, _), (9, _), (10, _)] [] a := Z.pick [0, 8, 9, 10]
  refine am <| wlv Z (aU rfl rfl ⟨by omega, by omega⟩) fun a Z => wlm Z rfl fun a Z => ab ?_
  replace Y : St M w0 [bld T b (pt b) v2 (bs ++ puts (ns.take (k + 1))), own lv 3 1 ((ns).map fun n => [iv n])] w3 := by rw [show bs ++ puts (ns.take (k + 1)) = (bs ++ puts (ns.take k)) ++ (putI (ns.getD k 0)) from by rw [bU 0 (by omega), kp, List.append_assoc]]; exact Y
  refine ⟨_, ?_, k + 1, pt b, v2, rfl, (by omega), (.inr rfl), (fun _ => rfl), Z.pick [0, 8, 9, 10], Y⟩
  omega
 rw [hc1] at Z
 try simp only [qz] at hc1
 obtain rfl : k = ns.length := by omega
 rw [List.take_length] at Y
 obtain rfl := hak (List.length_pos_iff.2 hnn)
 refine aI ?_
 refine c7 Z Tryd.results49 ag ?_
 exact ⟨rfl, _, Y.select [0] (by decide)⟩
theorem nq (x : Rec) (w0 : World) (hok : x.ok = true) :
  Ret Tryd.prog 22 #[.agg #[iv x.t, iv x.kind, iv x.a, iv x.b, sv x.text]] w0 fun v w => v = .tuple #[sv x.enc, iv 0] ∧ Ext No w0 w := by
 have hle := Rec.len hok
 have hpl := fG [x.t, x.kind, x.a, x.b]
 have hq4 := bF (x.text.length : Int)
 have hq5 : (putS x.text).length ≤ 300 := by unfold putS; rw [List.length_append]; omega
 simp only [List.length_cons, List.length_nil] at hpl
 refine aE Tryd.func22 rfl Tryd.ntmps22 (lb rfl) fun a Z => ?_
 replace Z : Fr 31 [(0, _)] [] a := Z
 replace Y : St No w0 [] w0 := St.init w0
 refine aa fun K1 hK1 => bx Z Y (by decide) rfl (cs := [iv x.t, iv x.kind, iv x.a, iv x.b, sv x.text]) rfl ?_
 clear Z Y
 intro a w1 Z Y
 refine wla Z rfl fun a Z => wla Z rfl fun a Z => ab (hK1 _ _ <| ae fun K2 hK2 => ?_)
 refine aa fun K3 hK3 => wlv Z (aA (Y.get (k := 0) rfl) rfl (Tryd.isAgg27 _) (Tryd.sizeOf27 _)) fun a Z => al Z Y (by decide) Tryd.call45 rfl (em x _) ?_
 clear Z Y
 intro a w2 Z Y
 refine wlv Z (bh rfl) fun a Z => ab (hK3 _ _ ?_)
 refine ay Z rfl (fun hc1 => ?_) (fun hc1 => ?_)
 ·rw [hc1] at Z
  try simp only [qz] at hc1
  simp [hok] at hc1
 rw [hc1] at Z
 try simp only [qz] at hc1
 refine ar <| hK2 _ _ <| aa fun K4 hK4 => aO Z Y (by decide) (Tryd.zeroValue85 _) (cs := [.pointer none, .slice none 0 0]) rfl ?_
 clear Z Y
 intro a w3 Z Y
 refine ab (hK4 _ _ ?_)
 replace Y : St No w0 (own (.slice none 0 0) 5 1 [] :: [blk w2.heap.size [.pointer none, .slice none 0 0] 85, blk w0.heap.size [iv x.t, iv x.kind, iv x.a, iv x.b, sv x.text] 27]) w3 := Y.nil_own
 replace Y : St No w0 [blk w2.heap.size [.pointer none, .slice none 0 0] 85, own (.slice none 0 0) 5 1 ([]), blk w0.heap.size [iv x.t, iv x.kind, iv x.a, iv x.b, sv x.text] 27] w3 := Y.select [1, 0, 2] (by decide)
 replace Y : St No w0 [bld 85 w2.heap.size (.pointer none) (.slice none 0 0) ([] : By), blk w0.heap.size [iv x.t, iv x.kind, iv x.a, iv x.b, sv x.text] 27] w3 := St.join [blk w2.heap.size [.pointer none, .slice none 0 0] 85, own (.slice none 0 0) 5 1 ([])] [blk w0.heap.size [iv x.t, iv x.kind, iv x.a, iv x.b, sv x.text] 27] Y
 refine aa fun K5 hK5 => wlv Z (aq (v := pt w0.heap.size) rfl (by kernel_rfl)) fun a Z => wlv Z (ai (Y.get (k := 1) rfl) rfl (Tryd.isAgg3 _) rfl) fun a Z => wlv Z (aq (v := .pointer (some ⟨w0.heap.size, 1, none⟩)) rfl (by kernel_rfl)) fun a Z => wlv Z (ai (Y.get (k := 1) rfl) rfl (Tryd.isAgg3 _) rfl) fun a Z => wlv Z (aq (v := .pointer (some ⟨w0.heap.size, 2, none⟩)) rfl (by kernel_rfl)) fun a Z => wlv Z (ai (Y.get (k := 1) rfl) rfl (Tryd.isAgg3 _) rfl) fun a Z => ?_
 refine wlv Z (aq (v := .pointer (some ⟨w0.heap.size, 3, none⟩)) rfl (by kernel_rfl)) fun a Z => wlv Z (ai (Y.get (k := 1) rfl) rfl (Tryd.isAgg3 _) rfl) fun a Z => az (E := 3) (sz := 1) rfl [[iv x.t], [iv x.kind], [iv x.a], [iv x.b]] (by kernel_rfl) (by simp) rfl (by decide) (by decide) Z Y ?_
 clear Z Y
 intro a w4 Z Y
 replace Y : St No w0 [bld 85 w2.heap.size (.pointer none) (.slice none 0 0) ([] : By), own (.slice (some ⟨w3.heap.size, 0, none⟩) 4 4) 3 1 ([[iv x.t], [iv x.kind], [iv x.a], [iv x.b]]), blk w0.heap.size [iv x.t, iv x.kind, iv x.a, iv x.b, sv x.text] 27] w4 := Y.select [1, 0, 2] (by decide)
 replace Y := St.join [bld 85 w2.heap.size (.pointer none) (.slice none 0 0) ([] : By), own (.slice (some ⟨w3.heap.size, 0, none⟩) 4 4) 3 1 ([[iv x.t], [iv x.kind], [iv x.a], [iv x.b]])] [blk w0.heap.size [iv x.t, iv x.kind, iv x.a, iv x.b, sv x.text] 27] Y
 refine cS (R := fun u e' => u = .tuple #[] ∧ ∃ v2, e' = bld 85 w2.heap.size (pt w2.heap.size) v2 (([] : By) ++ puts [x.t, x.kind, x.a, x.b])) 0 Z Y rfl (by decide) Tryd.call49 rfl (fun h => (fU 85 w2.heap.size _ _ _ _ [x.t, x.kind, x.a, x.b] _ (by kernel_rfl) (.inl rfl) (Rec.smalls hok) (by simp) (by simp) (St.unjoin [bld 85 w2.heap.size (.pointer none) (.slice none 0 0) ([] : By), own (.slice (some ⟨w3.heap.size, 0, none⟩) 4 4) 3 1 ([[iv x.t], [iv x.kind], [iv x.a], [iv x.b]])] [] h)).mono fun u w ⟨h1, v2, h2⟩ => ⟨_, ⟨h1, v2, rfl⟩, h2⟩) ?_
 clear Z Y
 rintro a w5 _ _ ⟨rfl, v2, rfl⟩ Z Y
 replace Y : St No w0 [bld 85 w2.heap.size (pt w2.heap.size) v2 (([] : By) ++ puts [x.t, x.kind, x.a, x.b]), blk w0.heap.size [iv x.t, iv x.kind, iv x.a, iv x.b, sv x.text] 27] w5 := Y
 refine ab (hK5 _ _ ?_)
 replace Z : Fr 31 [(1, _), (2, _), (3, _), (4, _)] [] a := Z.pick [1, 2, 3, 4]
 refine aa fun K6 hK6 => wlv Z (aq (v := .pointer (some ⟨w0.heap.size, 4, none⟩)) rfl (by kernel_rfl)) fun a Z => wlv Z (ai (Y.get (k := 1) rfl) rfl (Tryd.isAgg9 _) rfl) fun a Z => al Z Y (by decide) Tryd.call50 rfl (gM x.text _ (by omega)) ?_
 clear Z Y
 intro a w6 Z Y
 refine wlm Z rfl fun a Z => wlv Z (ak rfl rfl) fun a Z => wlv Z (ak rfl rfl) fun a Z => wla Z rfl fun a Z => wla Z rfl fun a Z => ab (hK6 _ _ ?_)
 replace Z : Fr 31 [(2, _), (3, _), (4, _), (5, _)] [] a := Z.pick [2, 3, 4, 5]
 replace Y : St No w0 [_] w6 := Y.mask [true, false]
 refine aa fun K7 hK7 => wlv Z (aq (v := pt w2.heap.size) rfl (by kernel_rfl)) fun a Z => wlm Z rfl fun a Z => cS (R := fun u e' => u = .tuple #[iv ((putS x.text).length : Int), .nilIface] ∧ ∃ v2, e' = bld 85 w2.heap.size (pt w2.heap.size) v2 ((([] : By) ++ puts [x.t, x.kind, x.a, x.b]) ++ (putS x.text))) 0 Z Y rfl (by decide) Tryd.call51 rfl (fun h => (fS 85 w2.heap.size _ _ _ _ _ (by kernel_rfl) (.inr rfl) (j1 _) (by rw [List.length_append, List.length_nil]; omega) h).mono fun u w ⟨h1, v2, h2⟩ => ⟨_, ⟨h1, v2, rfl⟩, h2⟩) ?_
 clear Z Y
 rintro a w7 _ _ ⟨rfl, v3, rfl⟩ Z Y
 replace Y : St No w0 [bld 85 w2.heap.size (pt w2.heap.size) v3 ((([] : By) ++ puts [x.t, x.kind, x.a, x.b]) ++ (putS x.text))] w7 := Y
 refine ab (hK7 _ _ <| aa fun K8 hK8 => ?_)
 refine wlv Z (aq (v := pt w2.heap.size) rfl (by kernel_rfl)) fun a Z => cS (R := fun u e' => u = sv ((([] : By) ++ puts [x.t, x.kind, x.a, x.b]) ++ (putS x.text)) ∧ e' = blk w2.heap.size [pt w2.heap.size, v3] 85) 0 Z Y rfl (by decide) Tryd.call52 rfl (fun h => (f4 85 w2.heap.size _ _ _ (k8 (j1 _)) h).mono fun u w ⟨h1, h2⟩ => ⟨_, ⟨h1, rfl⟩, h2⟩) ?_
 clear Z Y
 rintro a w8 _ _ ⟨rfl, rfl⟩ Z Y
 replace Y : St No w0 [blk w2.heap.size [pt w2.heap.size, v3] 85] w8 := Y
 refine wla Z rfl fun a Z => wla Z rfl fun a Z => ab (hK8 _ _ ?_)
 replace Z : Fr 31 [(2, _), (3, _)] [] a := Z.pick [2, 3]
 refine au ?_
 refine ap Z Tryd.results22 (ac rfl (ac rfl ag)) ?_
 exact ⟨by simp only [retv]; simp [Rec.enc], Y.ext⟩
theorem mD (x : Rec) (w0 : World) (hok : x.ok = false) :
  Ret Tryd.prog 22 #[.agg #[iv x.t, iv x.kind, iv x.a, iv x.b, sv x.text]] w0 fun v w => v = .tuple #[sv ([] : By), iv 110] ∧ Ext No w0 w := by
 refine aE Tryd.func22 rfl Tryd.ntmps22 (lb rfl) fun a Z => ?_
 replace Z : Fr 31 [(0, _)] [] a := Z
 replace Y : St No w0 [] w0 := St.init w0
 refine aa fun K1 hK1 => bx Z Y (by decide) rfl (cs := [iv x.t, iv x.kind, iv x.a, iv x.b, sv x.text]) rfl ?_
 clear Z Y
 intro a w1 Z Y
 refine wla Z rfl fun a Z => wla Z rfl fun a Z => ab (hK1 _ _ <| ae fun K2 hK2 => ?_)
 refine aa fun K3 hK3 => wlv Z (aA (Y.get (k := 0) rfl) rfl (Tryd.isAgg27 _) (Tryd.sizeOf27 _)) fun a Z => al Z Y (by decide) Tryd.call45 rfl (em x _) ?_
 clear Z Y
 intro a w2 Z Y
 refine wlv Z (bh rfl) fun a Z => ab (hK3 _ _ ?_)
 refine ay Z rfl (fun hc1 => ?_) (fun hc1 => ?_)
 ·rw [hc1] at Z
  try simp only [qz] at hc1
  refine aa fun K4 hK4 => wla Z rfl fun a Z => wla Z rfl fun a Z => ab (hK4 _ _ <| au ?_)
  refine ap Z Tryd.results22 (ac rfl (ac rfl ag)) ?_
  exact ⟨by rfl, Y.ext⟩
 rw [hc1] at Z
 try simp only [qz] at hc1
 simp [hok] at hc1
theorem gG (x : Rec) (w0 : World) : Ret Tryd.prog 22 #[.agg #[iv x.t, iv x.kind, iv x.a, iv x.b, sv x.text]] w0 fun v w => v = .tuple #[sv (eB x), iv (eE x)] ∧ Ext No w0 w := by
 unfold eB eE
 cases h : x.ok with
 | true => rw [if_pos rfl, if_pos rfl]; exact nq x w0 h
 | false => rw [if_neg (by simp), if_neg (by simp)]; exact mD x w0 h
theorem l0 (key : By) (o n : Int) (root : By) (w0 : World) (ho : small o) (hn : small n) (hr : root.length = 32) (hk : key.length ≤ 1000) (hk0 : (blk 0 (kOf.map wv) 161).ok w0) :
  Ret Tryd.prog 71 #[sv key, iv o, iv n, sv root] w0 fun v w => v = sv (tagR sha key o n root) ∧ Ext No w0 w := by
 have hpl := fG [o, n]
 simp only [List.length_cons, List.length_nil] at hpl
 have hsm : smalls [o, n] := by intro z hz; simp only [List.mem_cons, List.not_mem_nil, or_false] at hz; rcases hz with rfl | rfl; exact ho; exact hn
 have hxl : (([] : By) ++ puts [o, n] ++ root).length ≤ 60 := by simp only [List.length_append, List.length_nil]; omega
 refine aE Tryd.func71 rfl Tryd.ntmps71 (lb rfl) fun a Z => ?_
 replace Z : Fr 22 [(0, _), (1, _), (2, _), (3, _)] [] a := Z
 replace Y : St No w0 [] w0 := St.init w0
 refine aa fun K1 hK1 => wla Z rfl fun a Z => ab (hK1 _ _ <| aa fun K2 hK2 => ?_)
 refine aO Z Y (by decide) (Tryd.zeroValue85 _) (cs := [.pointer none, .slice none 0 0]) rfl ?_
 clear Z Y
 intro a w1 Z Y
 refine ab (hK2 _ _ ?_)
 replace Y : St No w0 (own (.slice none 0 0) 5 1 [] :: [blk w0.heap.size [.pointer none, .slice none 0 0] 85]) w1 := Y.nil_own
 replace Y : St No w0 [blk w0.heap.size [.pointer none, .slice none 0 0] 85, own (.slice none 0 0) 5 1 ([])] w1 := Y.select [1, 0] (by decide)
 replace Y : St No w0 [bld 85 w0.heap.size (.pointer none) (.slice none 0 0) ([] : By)] w1 := St.join [blk w0.heap.size [.pointer none, .slice none 0 0] 85, own (.slice none 0 0) 5 1 ([])] [] Y
 refine aa fun K3 hK3 => wlm Z rfl fun a Z => wlm Z rfl fun a Z => az (E := 3) (sz := 1) rfl [[iv o], [iv n]] (by kernel_rfl) (by simp) rfl (by decide) (by decide) Z Y ?_
 clear Z Y
 intro a w2 Z Y
 replace Y : St No w0 [bld 85 w0.heap.size (.pointer none) (.slice none 0 0) ([] : By), own (.slice (some ⟨w1.heap.size, 0, none⟩) 2 2) 3 1 ([[iv o], [iv n]])] w2 := Y.select [1, 0] (by decide)
 replace Y := St.join [bld 85 w0.heap.size (.pointer none) (.slice none 0 0) ([] : By), own (.slice (some ⟨w1.heap.size, 0, none⟩) 2 2) 3 1 ([[iv o], [iv n]])] [] Y
 refine cS (R := fun u e' => u = .tuple #[] ∧ ∃ v2, e' = bld 85 w0.heap.size (pt w0.heap.size) v2 (([] : By) ++ puts [o, n])) 0 Z Y rfl (by decide) Tryd.call49 rfl (fun h => (fU 85 w0.heap.size _ _ _ _ [o, n] _ (by kernel_rfl) (.inl rfl) (hsm) (by simp) (by simp) (St.unjoin [bld 85 w0.heap.size (.pointer none) (.slice none 0 0) ([] : By), own (.slice (some ⟨w1.heap.size, 0, none⟩) 2 2) 3 1 ([[iv o], [iv n]])] [] h)).mono fun u w ⟨h1, v2, h2⟩ => ⟨_, ⟨h1, v2, rfl⟩, h2⟩) ?_
 clear Z Y
 rintro a w3 _ _ ⟨rfl, v1, rfl⟩ Z Y
 replace Y : St No w0 [bld 85 w0.heap.size (pt w0.heap.size) v1 (([] : By) ++ puts [o, n])] w3 := Y
 refine ab (hK3 _ _ ?_)
 replace Z : Fr 22 [(0, _), (3, _), (8, _), (9, _)] [] a := Z.pick [0, 3, 8, 9]
 refine aa fun K4 hK4 => wlv Z (aq (v := pt w0.heap.size) rfl (by kernel_rfl)) fun a Z => wlm Z rfl fun a Z => cS (R := fun u e' => u = .tuple #[iv (root.length : Int), .nilIface] ∧ ∃ v2, e' = bld 85 w0.heap.size (pt w0.heap.size) v2 ((([] : By) ++ puts [o, n]) ++ root)) 0 Z Y rfl (by decide) Tryd.call51 rfl (fun h => (fS 85 w0.heap.size _ _ _ _ _ (by kernel_rfl) (.inr rfl) (jX hr) (by rw [List.length_append, List.length_nil]; omega) h).mono fun u w ⟨h1, v2, h2⟩ => ⟨_, ⟨h1, v2, rfl⟩, h2⟩) ?_
 clear Z Y
 rintro a w4 _ _ ⟨rfl, v2, rfl⟩ Z Y
 replace Y : St No w0 [bld 85 w0.heap.size (pt w0.heap.size) v2 ((([] : By) ++ puts [o, n]) ++ root)] w4 := Y
 refine ab (hK4 _ _ <| aa fun K5 hK5 => ?_)
 refine wlm Z rfl fun a Z => wlv Z (aq (v := pt w0.heap.size) rfl (by kernel_rfl)) fun a Z => cS (R := fun u e' => u = sv ((([] : By) ++ puts [o, n]) ++ root) ∧ e' = blk w0.heap.size [pt w0.heap.size, v2] 85) 0 Z Y rfl (by decide) Tryd.call52 rfl (fun h => (f4 85 w0.heap.size _ _ _ (k8 (jX hr)) h).mono fun u w ⟨h1, h2⟩ => ⟨_, ⟨h1, rfl⟩, h2⟩) ?_
 clear Z Y
 rintro a w5 _ _ ⟨rfl, rfl⟩ Z Y
 replace Y : St No w0 [blk w0.heap.size [pt w0.heap.size, v2] 85] w5 := Y
 refine al Z Y (by decide) Tryd.call78 rfl (gV ((([] : By) ++ puts [o, n]) ++ root) _ (by omega) (Y.keepb hk0)) ?_
 clear Z Y
 intro a w6 Z Y
 refine al Z Y (by decide) Tryd.call79 rfl (eA key (leafH sha ((([] : By) ++ puts [o, n]) ++ root)) _ (by omega) (by first | omega | (rw [aP aK]; decide)) (Y.keepb hk0)) ?_
 clear Z Y
 intro a w7 Z Y
 refine wla Z rfl fun a Z => ab (hK5 _ _ ?_)
 replace Z : Fr 22 [(8, _)] [] a := Z.pick [8]
 refine au ?_
 refine ap Z Tryd.results71 (ac rfl ag) ?_
 exact ⟨by simp only [retv]; simp [tagR, aD, nodeH], Y.ext⟩
theorem kJ {M : Nat → Prop} {w0 : World} (o : Int) (lv : Value) (l : List Rec) (lp b1 : Nat) (J Jx : List Nat → Ent → Prop) (hY : Rounds Tryd.prog M w0 lp (encRb l) (NxB l.length) J Jx) (e0 : Ent) (ws : World) (hn : l.length ≤ 1000000) (hlv : ∀ (H : List Ent) (w : World), St M w0 H w → SlAt w lv 5 (l.map Rec.cells)) (hJ : J [] e0) (Y : St M w0 [e0, blk b1 [iv o, lv] 25] ws) :
  Ret Tryd.prog 74 #[.func (.yield lp) #[] #[], pt b1] ws fun _ w => ∃ e1 Hi1, St M w0 (e1 :: Hi1) w ∧ ((∃ ys, (ys = backs l.length l.length ∧ Hi1 = [blk b1 [iv o, lv] 25]) ∧ J ys e1) ∨ (∃ pre, Hi1 = [blk b1 [iv o, lv] 25] ∧ Jx pre e1)) := by
 refine aE Tryd.func74 rfl Tryd.ntmps74 (lb rfl) fun a Z => ?_
 replace Z : Fr 21 [(0, _), (1, _)] [] a := Z
 skip
 refine aa fun K1 hK1 => wlv Z (aq (v := .pointer (some ⟨b1, 1, none⟩)) rfl (by kernel_rfl)) fun a Z => wlv Z (ai (Y.get (k := 1) rfl) rfl (Tryd.isAgg23 _) rfl) fun a Z => wlv Z ((aH (sT := 23) (hlv _ _ Y) rfl rfl (Tryd.runUnderlying23 _)).asi (m' := (l.length : Int)) (by rw [List.length_map])) fun a Z => wlv Z (bn rfl rfl ⟨by omega, by omega⟩) fun a Z => wla Z rfl fun a Z => ab (hK1 _ _ <| ao ?_)
 rw [show (l.length : Int) - 1 = (l.length : Int) - 1 - ((0 : Nat) : Int) from by omega] at Z
 refine aN (fun m a w => ∃ (j : Nat) (e : Ent), m = l.length - j ∧ (j ≤ l.length) ∧ (J (backs l.length j) e) ∧ Fr 21 [(0, .func (.yield lp) #[] #[]), (1, pt b1), (3, iv ((l.length : Int) - 1 - (j : Int)))] [] a ∧ St M w0 [e, blk b1 [iv o, lv] 25] w) _ ⟨0, e0, rfl, Nat.zero_le _, hJ, Z.pick [0, 1, 3], Y⟩ ?_
 rintro _ a w1 ⟨j, e, rfl, hj, hJ, Z, Y⟩
 refine ae fun K2 hK2 => aa fun K3 hK3 => wlm Z rfl fun a Z => wlv Z (v_ge rfl rfl) fun a Z => ab (hK3 _ _ ?_)
 refine ay Z rfl (fun hc1 => ?_) (fun hc1 => ?_)
 ·rw [hc1] at Z
  try simp only [qz] at hc1
  have hjl : j < l.length := by omega
  refine ar <| hK2 _ _ <| ae fun K4 hK4 => ao ?_
  have hidx : (l.length : Int) - 1 - (j : Int) = ((l.length - 1 - j : Nat) : Int) := by omega
  refine aa fun K5 hK5 => wlm Z rfl fun a Z => wlm Z rfl fun a Z => wlv Z (aq (v := .pointer (some ⟨b1, 1, none⟩)) rfl (by kernel_rfl)) fun a Z => wlv Z (ai (Y.get (k := 1) rfl) rfl (Tryd.isAgg23 _) rfl) fun a Z => wlm Z rfl fun a Z => wlv Z ((aj (i := (l.length : Int) - 1 - (j : Int)) (sT := 23) (hlv _ _ Y) rfl rfl (Tryd.runUnderlying23 _) (Tryd.sizeOf27 _) (by omega) (by rw [List.length_map]; omega)).as (v' := slAddr lv ((l.length - 1 - j) * 5)) (by rw [show ((l.length : Int) - 1 - (j : Int)).toNat = (l.length - 1 - j) from by omega])) fun a Z => wlv Z ((cy (hlv _ _ Y) (i := (l.length - 1 - j)) (by rw [List.length_map]; omega) rfl (Tryd.isAgg27 _) (Tryd.sizeOf27 _)).as (v' := .agg #[iv ((l.getD (l.length - 1 - j) Rec.z).t), iv ((l.getD (l.length - 1 - j) Rec.z).kind), iv ((l.getD (l.length - 1 - j) Rec.z).a), iv ((l.getD (l.length - 1 - j) Rec.z).b), sv ((l.getD (l.length - 1 - j) Rec.z).text)]) (by rw [bq Rec.z]; rfl)) fun a Z => ?_
  rw [hidx] at Z
  refine wl_r (eq rfl rfl (hY.yield (pre := backs l.length j) (x := l.length - 1 - j) (by show l.length - 1 - j + 1 + (backs l.length j).length = l.length; rw [dk]; omega) hJ (Y.only (i := 0) rfl))) rfl rfl Z ?_
  clear Z
  intro a v w2 hR Z
  obtain ⟨y2, e3, rfl, hx, hok, hft, hJt, hJf⟩ := hR
  replace Y := Y.exchange (k := 0) rfl hx hok hft
  replace Y : St M w0 [e3, blk b1 [iv o, lv] 25] w2 := Y
  clear hx hok hft
  refine wlv Z (bh rfl) fun a Z => ab (hK5 _ _ ?_)
  replace Z : Fr 21 [(0, _), (1, _), (3, _), (20, _)] [] a := Z.pick [0, 1, 3, 20]
  refine ay Z rfl (fun hc4 => ?_) (fun hc4 => ?_)
  ·rw [hc4] at Z
   try simp only [qz] at hc4
   have hJ := hJf hc4
   refine au ?_
   refine ap Z Tryd.results74 ag ?_
   exact ⟨_, _, Y, .inr ⟨_, rfl, hJ⟩⟩
  rw [hc4] at Z
  try simp only [qz] at hc4
  have hJ := hJt hc4
  refine ar <| hK4 _ _ <| am <| wlm Z rfl fun a Z => wlv Z (bn rfl rfl ⟨by omega, by omega⟩) fun a Z => wla Z rfl fun a Z => ab ?_
  rw [show ((l.length - 1 - j : Nat) : Int) - 1 = (l.length : Int) - 1 - ((j + 1 : Nat) : Int) from by omega] at Z
  refine ⟨_, ?_, j + 1, e3, rfl, (by omega), hJ, Z.pick [0, 1, 3], Y⟩
  omega
 rw [hc1] at Z
 try simp only [qz] at hc1
 obtain rfl : j = l.length := by omega
 refine aI ?_
 refine c7 Z Tryd.results74 ag ?_
 exact ⟨_, _, Y, .inl ⟨_, ⟨rfl, rfl⟩, hJ⟩⟩
theorem fR {M : Nat → Prop} {w0 : World} (o : Int) (lv : Value) (l : List Rec) (b1 : Nat) (hn : l.length ≤ 1000000) (hlv : ∀ (H : List Ent) (w : World), St M w0 H w → SlAt w lv 5 (l.map Rec.cells)) :
  Iter Tryd.prog 74 [pt b1] (encRb l) (NxB l.length) (fun ys Hi => ys = backs l.length l.length ∧ Hi = [blk b1 [iv o, lv] 25]) (fun pre Hi => Hi = [blk b1 [iv o, lv] 25]) M w0 [blk b1 [iv o, lv] 25] :=
 fun lp J Jx w e hY hJ Y => kJ o lv l lp b1 J Jx hY e w hn hlv hJ Y
theorem i6 (o : Int) (lv : Value) (w0 : World) (l : List Rec) (hlv : SlAt w0 lv 5 (l.map Rec.cells)) :
  Ret Tryd.prog 48 #[.agg #[iv o, lv]] w0 (MemR w0 (fun z : Nat => .func (.func 74) #[] #[pt z]) (fun z => [blk z [iv o, lv] 25]) (fun _ => True)) := by
 refine aE Tryd.func48 rfl Tryd.ntmps48 (lb rfl) fun a Z => ?_
 replace Z : Fr 4 [(0, _)] [] a := Z
 replace Y : St No w0 [] w0 := St.init w0
 refine aa fun K1 hK1 => bx Z Y (by decide) rfl (cs := [iv o, lv]) rfl ?_
 clear Z Y
 intro a w1 Z Y
 refine wla Z rfl fun a Z => ab (hK1 _ _ <| aa fun K2 hK2 => ?_)
 refine wlv Z (cf rfl rfl) fun a Z => wla Z rfl fun a Z => ab (hK2 _ _ <| au ?_)
 refine ap Z Tryd.results48 (ac rfl ag) ?_
 exact ⟨w0.heap.size, rfl, trivial, Y.ext, St.out (H := []) Y⟩
end Go.Proofs.YtddfkkdanpmnaaaDoor
