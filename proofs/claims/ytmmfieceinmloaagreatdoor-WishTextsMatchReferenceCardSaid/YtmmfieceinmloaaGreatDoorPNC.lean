/- Texts joined: RefC, WirA, WshA, WshB, WshC, WshD, BldA, BldB, WshE. -/
import Derived.Test.YtmmfieceinmloaaGreatDoorPNB
import Derived.Test.YtmmfieceinmloaaGreatDoorPNA
import Derived.Laws.StructEq
namespace Go.Proofs.YtmmfieceinmloaaGreatDoor
open Go.RowKit Go.PW
set_option linter.unusedVariables false
set_option linter.unusedSimpArgs false
set_option maxRecDepth 4000
theorem out_take (v : W8) {q : Nat} (h : q < 8) : v.out.take (4 * (q + 1)) = v.out.take (4 * q) ++ [UInt8.ofNat (v.l.getD q 0#32 >>> 24).toNat, UInt8.ofNat (v.l.getD q 0#32 >>> 16).toNat, UInt8.ofNat (v.l.getD q 0#32 >>> 8).toNat, UInt8.ofNat (v.l.getD q 0#32).toNat] := by
 have : q = 0 ∨ q = 1 ∨ q = 2 ∨ q = 3 ∨ q = 4 ∨ q = 5 ∨ q = 6 ∨ q = 7 := by omega
 rcases this with rfl | rfl | rfl | rfl | rfl | rfl | rfl | rfl <;> simp [W8.out, W8.l, wdBytes]
set_option maxHeartbeats 4000000 in
theorem rsum_ok (s : By) (w0 : World) (hs : s.length ≤ 100000000) :
  Ret Tryz.prog 91 #[sv s] w0 fun v w => v = sv (sha s) ∧ Ext No w0 w := by
 have hpb := padded_bound s
 refine ret_of Tryz.func91 rfl Tryz.ntmps91 (lb rfl) fun a hfr => ?_
 replace hfr : Fr 56 [(0, _)] [] a := hfr
 replace hst : St No w0 [] w0 := St.init w0
 refine wc_seq_region fun K1 hK1 => ?_
 refine wla hfr rfl fun a hfr => ?_
 refine wl_nil (hK1 _ _ ?_)
 refine wc_seq_region fun K2 hK2 => ?_
 refine wl_buildSlice (E := 191) (sz := 1) rfl [[wv (1779033703#32)], [wv (3144134277#32)], [wv (1013904242#32)], [wv (2773480762#32)], [wv (1359893119#32)], [wv (2600822924#32)], [wv (528734635#32)], [wv (1541459225#32)]] (by kernel_rfl) (by simp) rfl (by decide) (by decide) hfr hst ?_
 clear hfr hst
 intro a w1 hfr hst
 refine wla hfr rfl fun a hfr => ?_
 refine wl_nil (hK2 _ _ ?_)
 refine wc_seq_region fun K3 hK3 => ?_
 refine wlm hfr rfl fun a hfr => ?_
 refine wl_callm hfr hst (by decide) Tryz.call130 rfl (extended_ok s _ hs) ?_
 clear hfr hst
 intro a w2 x1 hp hfr hst
 revert x1 hp hfr hst; rintro bz hp hfr hst
 clear hp
 replace hst : St No w0 [own bz 5 1 ((padded s).map fun b => [yv b]), own (.slice (some ⟨w0.heap.size, 0, none⟩) 8 8) 191 1 ([[wv (1779033703#32)], [wv (3144134277#32)], [wv (1013904242#32)], [wv (2773480762#32)], [wv (1359893119#32)], [wv (2600822924#32)], [wv (528734635#32)], [wv (1541459225#32)]])] w2 := hst
 refine wla hfr rfl fun a hfr => ?_
 refine wl_nil (hK3 _ _ ?_)
 refine wc_seq_k fun K4 hK4 => ?_
 refine wc_seq_region fun K5 hK5 => ?_
 refine wla hfr rfl fun a hfr => ?_
 refine wl_nil (hK5 _ _ ?_)
 refine wc_block ?_
 replace hst : St No w0 [own bz 5 1 ((padded s).map fun b => [yv b]), own (.slice (some ⟨w0.heap.size, 0, none⟩) 8 8) 191 1 (((blocks h0 (padded s) 0).l).map fun x => [wv x])] w2 := hst
 refine wc_loop (fun m a w => ∃ (q : Nat) (hz : Value), m = (padded s).length / 64 - q ∧ (q ≤ (padded s).length / 64) ∧ Fr 56 [(2, sv ([])), (4, bz), (3, hz), (5, iv ((64 * q : Nat) : Int))] [] a ∧ St No w0 [own hz 191 1 (((blocks h0 (padded s) q).l).map fun x => [wv x]), own bz 5 1 ((padded s).map fun b => [yv b])] w) _ ⟨0, (.slice (some ⟨w0.heap.size, 0, none⟩) 8 8), rfl, Nat.zero_le _, hfr.pick [2, 4, 3, 5], hst.select [1, 0] (by decide)⟩ ?_
 rintro _ a w3 ⟨q, hz, rfl, hq, hfr, hst⟩
 refine wc_seq_k fun K6 hK6 => ?_
 refine wc_seq_region fun K7 hK7 => ?_
 refine wlm hfr rfl fun a hfr => wlm hfr rfl fun a hfr => ?_
 refine wlv hfr ((v_len_sl (sT := 62) (hst.ownAt (i := 1) rfl) rfl rfl (Tryz.runUnderlying62 _)).asi (m' := ((padded s).length : Int)) (by rw [List.length_map])) fun a hfr => ?_
 refine wlv hfr (v_lt rfl rfl) fun a hfr => ?_
 refine wl_nil (hK7 _ _ ?_)
 refine wc_cond hfr rfl (fun hc2 => ?_) (fun hc2 => ?_)
 ·rw [hc2] at hfr
  try simp only [qz] at hc2
  have hpl := padded_len s
  refine wc_skip ?_
  refine hK6 _ _ ?_
  refine wc_seq_k fun K8 hK8 => ?_
  refine wc_block ?_
  refine wc_region ?_
  refine wlm hfr rfl fun a hfr => wlm hfr rfl fun a hfr => wlm hfr rfl fun a hfr => wlm hfr rfl fun a hfr => ?_
  refine wlv hfr (v_add rfl rfl ⟨by omega, by omega⟩) fun a hfr => ?_
  refine wlv hfr (v_slice_at (l := (64 * q)) (h := (64 * q + 64)) (hst.ownAt (i := 1) rfl) rfl rfl rfl Tryz.underlying62 (by kernel_rfl) (.inr (by first | rfl | (rw [show (((64 * q : Nat) : Int) : Int) = (((64 * q) : Nat) : Int) from by omega] <;> rfl))) (.inr (by first | rfl | (rw [show (((64 * q : Nat) : Int) + 64 : Int) = (((64 * q + 64) : Nat) : Int) from by omega] <;> rfl))) (by omega) (by first | (rw [List.length_map]; omega) | (simp <;> omega))) fun a hfr => ?_
  refine wl_callm hfr hst (by decide) Tryz.call131 rfl (rblock_ok hz (cut bz 1 (64 * q) (64 * q + 64) (slCap bz)) (blocks h0 (padded s) q) (((padded s).drop (64 * q)).take 64) _ (hst.ownAt (i := 0) rfl) (by have h := ((hst.ownAt (i := 1) rfl).cutm (l := (64 * q)) (h := (64 * q + 64)) (by omega) (by first | omega | (simp; omega))); rwa [show 64 * q + 64 - 64 * q = 64 from by omega] at h) (by simp; omega)) ?_
  clear hfr hst
  intro a w4 x4 hp hfr hst
  revert x4 hp hfr hst; rintro v3 hp hfr hst
  clear hp
  replace hst : St No w0 [own v3 191 1 (((block (blocks h0 (padded s) q) (((padded s).drop (64 * q)).take 64)).l).map fun x => [wv x]), own hz 191 1 (((blocks h0 (padded s) q).l).map fun x => [wv x]), own bz 5 1 ((padded s).map fun b => [yv b])] w4 := hst
  refine wla hfr rfl fun a hfr => ?_
  refine wl_nil ?_
  refine hK8 _ _ ?_
  replace hfr : Fr 56 [(2, _), (4, _), (5, _), (3, _)] [] a := hfr.pick [2, 4, 5, 3]
  refine wc_region ?_
  refine wlm hfr rfl fun a hfr => ?_
  refine wlv hfr (v_add rfl rfl ⟨by omega, by omega⟩) fun a hfr => wla hfr rfl fun a hfr => ?_
  refine wl_nil ?_
  replace hst : St No w0 [own v3 191 1 (((blocks h0 (padded s) (q + 1)).l).map fun x => [wv x]), own hz 191 1 (((blocks h0 (padded s) q).l).map fun x => [wv x]), own bz 5 1 ((padded s).map fun b => [yv b])] w4 := hst
  rw [show ((64 * q : Nat) : Int) + 64 = ((64 * (q + 1) : Nat) : Int) from by omega] at hfr
  refine ⟨_, ?_, q + 1, v3, rfl, (by omega), hfr.pick [2, 4, 3, 5], hst.select [0, 2] (by decide)⟩
  omega
 rw [hc2] at hfr
 try simp only [qz] at hc2
 have hpl := padded_len s
 obtain rfl : q = (padded s).length / 64 := by omega
 refine wc_exit ?_
 refine hK4 _ _ ?_
 refine wc_seq_region fun K9 hK9 => ?_
 refine wla hfr rfl fun a hfr => ?_
 refine wl_nil (hK9 _ _ ?_)
 replace hfr : Fr 56 [(2, _), (3, _), (6, _)] [] a := hfr.pick [2, 3, 6]
 refine wc_seq_k fun K10 hK10 => ?_
 refine wc_seq_region fun K11 hK11 => ?_
 refine wla hfr rfl fun a hfr => ?_
 refine wl_nil (hK11 _ _ ?_)
 refine wc_block ?_
 replace hst : St No w0 [own (.slice none 0 0) 5 1 (((blocks h0 (padded s) ((padded s).length / 64)).out.take (4 * 0)).map fun b => [yv b]), own hz 191 1 (((blocks h0 (padded s) ((padded s).length / 64)).l).map fun x => [wv x]), own bz 5 1 ((padded s).map fun b => [yv b])] w3 := hst.nil_own
 refine wc_loop (fun m a w => ∃ (r : Nat) (oz : Value), m = 8 - r ∧ (r ≤ 8) ∧ Fr 56 [(2, sv ([])), (3, hz), (6, oz), (7, iv (r : Int))] [] a ∧ St No w0 [own oz 5 1 (((blocks h0 (padded s) ((padded s).length / 64)).out.take (4 * r)).map fun b => [yv b]), own hz 191 1 (((blocks h0 (padded s) ((padded s).length / 64)).l).map fun x => [wv x])] w) _ ⟨0, .slice none 0 0, rfl, Nat.zero_le _, hfr.pick [2, 3, 6, 7], hst.select [0, 1] (by decide)⟩ ?_
 rintro _ a w5 ⟨r, oz, rfl, hr, hfr, hst⟩
 refine wc_seq_k fun K12 hK12 => ?_
 refine wc_seq_region fun K13 hK13 => ?_
 refine wlm hfr rfl fun a hfr => ?_
 refine wlv hfr (v_lt rfl rfl) fun a hfr => ?_
 refine wl_nil (hK13 _ _ ?_)
 refine wc_cond hfr rfl (fun hc5 => ?_) (fun hc5 => ?_)
 ·rw [hc5] at hfr
  try simp only [qz] at hc5
  refine wc_skip ?_
  refine hK12 _ _ ?_
  refine wc_seq_k fun K14 hK14 => ?_
  refine wc_block ?_
  refine wc_of_dr (by kernel_rfl) (dr_of_wd (by kernel_rfl) fun w6 hxz => ?_)
  replace hst := hst.grow hxz
  refine wd_sub (k := 0) 25 [0, 24] hfr (by kernel_rfl) (by kernel_rfl) (by kernel_rfl) (by rfl) ?_
  replace hfr : Fr 56 [(2, _), (3, _), (6, _), (7, _), (24, _), (25, _)] [] a := hfr.pick [2, 3, 6, 7, 24, 25]
  refine wc_phases_q [24] (fun i => match i with | 24 => pm (fun b : Nat => .slice (some ⟨b, 0, none⟩) 4 4) (fun b => [own (.slice (some ⟨b, 0, none⟩) 4 4) 5 1 [[yv (UInt8.ofNat (((blocks h0 (padded s) ((padded s).length / 64)).l.getD r 0#32) >>> 24).toNat)], [yv (UInt8.ofNat (((blocks h0 (padded s) ((padded s).length / 64)).l.getD r 0#32) >>> 16).toNat)], [yv (UInt8.ofNat (((blocks h0 (padded s) ((padded s).length / 64)).l.getD r 0#32) >>> 8).toNat)], [yv (UInt8.ofNat ((blocks h0 (padded s) ((padded s).length / 64)).l.getD r 0#32).toNat)]]]) (fun _ => True) | _ => fun _ _ => False) 25 [[], [], [], [1, 2], [3], [4], [5], [], [], [7, 8], [9], [10], [11], [], [], [13, 14], [15], [16], [17], [], [], [19, 20], [21], [22], [6, 12, 18, 23]] [oz, hz, iv (r : Int), slAddr hz (r * 1), wv ((blocks h0 (padded s) ((padded s).length / 64)).l.getD r 0#32), wv (((blocks h0 (padded s) ((padded s).length / 64)).l.getD r 0#32) >>> 24), yv (UInt8.ofNat (((blocks h0 (padded s) ((padded s).length / 64)).l.getD r 0#32) >>> 24).toNat), hz, iv (r : Int), slAddr hz (r * 1), wv ((blocks h0 (padded s) ((padded s).length / 64)).l.getD r 0#32), wv (((blocks h0 (padded s) ((padded s).length / 64)).l.getD r 0#32) >>> 16), yv (UInt8.ofNat (((blocks h0 (padded s) ((padded s).length / 64)).l.getD r 0#32) >>> 16).toNat), hz, iv (r : Int), slAddr hz (r * 1), wv ((blocks h0 (padded s) ((padded s).length / 64)).l.getD r 0#32), wv (((blocks h0 (padded s) ((padded s).length / 64)).l.getD r 0#32) >>> 8), yv (UInt8.ofNat (((blocks h0 (padded s) ((padded s).length / 64)).l.getD r 0#32) >>> 8).toNat), hz, iv (r : Int), slAddr hz (r * 1), wv ((blocks h0 (padded s) ((padded s).length / 64)).l.getD r 0#32), yv (UInt8.ofNat ((blocks h0 (padded s) ((padded s).length / 64)).l.getD r 0#32).toNat), undef] hfr hst (by kernel_rfl) (by kernel_rfl) (by kernel_rfl) ?_ ?_ ?_
  ·intro i hi hiq
   match i, hi, hiq with
   | 0, _, _ =>
    intro w hst
    exact OpV.g (v_move rfl)
   | 1, _, _ =>
    intro w hst
    exact OpV.g (v_move rfl)
   | 2, _, _ =>
    intro w hst
    exact OpV.g (v_move rfl)
   | 3, _, _ =>
    intro w hst
    exact OpV.g ((v_indexAddr_sl (i := (r : Int)) (sT := 192) (hst.ownAt (i := 1) rfl) rfl rfl (Tryz.runUnderlying192 _) (Tryz.sizeOf191 _) (by omega) (by rw [List.length_map]; first | omega | (rw [W8.l_len]; omega))).as (v' := slAddr hz (r * 1)) rfl)
   | 4, _, _ =>
    intro w hst
    exact OpV.g (v_load_sl1 (u := wv ((blocks h0 (padded s) ((padded s).length / 64)).l.getD r 0#32)) (i := r) (j := 0) (hst.ownAt (i := 1) rfl) (by rw [List.length_map]; first | omega | (rw [W8.l_len]; omega)) rfl (Tryz.isAgg191 _) (by rw [el_at 0#32]; rfl))
   | 5, _, _ =>
    intro w hst
    exact OpV.g (v_wshr (n := 24) rfl rfl)
   | 6, _, _ =>
    intro w hst
    exact OpV.g (v_conv_wy rfl (by kernel_rfl) Tryz.underlying5)
   | 7, _, _ =>
    intro w hst
    exact OpV.g (v_move rfl)
   | 8, _, _ =>
    intro w hst
    exact OpV.g (v_move rfl)
   | 9, _, _ =>
    intro w hst
    exact OpV.g ((v_indexAddr_sl (i := (r : Int)) (sT := 192) (hst.ownAt (i := 1) rfl) rfl rfl (Tryz.runUnderlying192 _) (Tryz.sizeOf191 _) (by omega) (by rw [List.length_map]; first | omega | (rw [W8.l_len]; omega))).as (v' := slAddr hz (r * 1)) rfl)
   | 10, _, _ =>
    intro w hst
    exact OpV.g (v_load_sl1 (u := wv ((blocks h0 (padded s) ((padded s).length / 64)).l.getD r 0#32)) (i := r) (j := 0) (hst.ownAt (i := 1) rfl) (by rw [List.length_map]; first | omega | (rw [W8.l_len]; omega)) rfl (Tryz.isAgg191 _) (by rw [el_at 0#32]; rfl))
   | 11, _, _ =>
    intro w hst
    exact OpV.g (v_wshr (n := 16) rfl rfl)
   | 12, _, _ =>
    intro w hst
    exact OpV.g (v_conv_wy rfl (by kernel_rfl) Tryz.underlying5)
   | 13, _, _ =>
    intro w hst
    exact OpV.g (v_move rfl)
   | 14, _, _ =>
    intro w hst
    exact OpV.g (v_move rfl)
   | 15, _, _ =>
    intro w hst
    exact OpV.g ((v_indexAddr_sl (i := (r : Int)) (sT := 192) (hst.ownAt (i := 1) rfl) rfl rfl (Tryz.runUnderlying192 _) (Tryz.sizeOf191 _) (by omega) (by rw [List.length_map]; first | omega | (rw [W8.l_len]; omega))).as (v' := slAddr hz (r * 1)) rfl)
   | 16, _, _ =>
    intro w hst
    exact OpV.g (v_load_sl1 (u := wv ((blocks h0 (padded s) ((padded s).length / 64)).l.getD r 0#32)) (i := r) (j := 0) (hst.ownAt (i := 1) rfl) (by rw [List.length_map]; first | omega | (rw [W8.l_len]; omega)) rfl (Tryz.isAgg191 _) (by rw [el_at 0#32]; rfl))
   | 17, _, _ =>
    intro w hst
    exact OpV.g (v_wshr (n := 8) rfl rfl)
   | 18, _, _ =>
    intro w hst
    exact OpV.g (v_conv_wy rfl (by kernel_rfl) Tryz.underlying5)
   | 19, _, _ =>
    intro w hst
    exact OpV.g (v_move rfl)
   | 20, _, _ =>
    intro w hst
    exact OpV.g (v_move rfl)
   | 21, _, _ =>
    intro w hst
    exact OpV.g ((v_indexAddr_sl (i := (r : Int)) (sT := 192) (hst.ownAt (i := 1) rfl) rfl rfl (Tryz.runUnderlying192 _) (Tryz.sizeOf191 _) (by omega) (by rw [List.length_map]; first | omega | (rw [W8.l_len]; omega))).as (v' := slAddr hz (r * 1)) rfl)
   | 22, _, _ =>
    intro w hst
    exact OpV.g (v_load_sl1 (u := wv ((blocks h0 (padded s) ((padded s).length / 64)).l.getD r 0#32)) (i := r) (j := 0) (hst.ownAt (i := 1) rfl) (by rw [List.length_map]; first | omega | (rw [W8.l_len]; omega)) rfl (Tryz.isAgg191 _) (by rw [el_at 0#32]; rfl))
   | 23, _, _ =>
    intro w hst
    exact OpV.g (v_conv_wy rfl (by kernel_rfl) Tryz.underlying5)
   | 24, _, h => exact absurd (by simp) h
   | i + 25, h, _ => exact absurd h (by omega)
  ·intro i hi
   simp only [List.mem_cons, List.not_mem_nil, or_false] at hi
   subst hi
   ·intro w hst
    exact g_buildSlice (E := 5) (sz := 1) rfl [[yv (UInt8.ofNat (((blocks h0 (padded s) ((padded s).length / 64)).l.getD r 0#32) >>> 24).toNat)], [yv (UInt8.ofNat (((blocks h0 (padded s) ((padded s).length / 64)).l.getD r 0#32) >>> 16).toNat)], [yv (UInt8.ofNat (((blocks h0 (padded s) ((padded s).length / 64)).l.getD r 0#32) >>> 8).toNat)], [yv (UInt8.ofNat ((blocks h0 (padded s) ((padded s).length / 64)).l.getD r 0#32).toNat)]] (fun _ => by kernel_rfl) (by simp) rfl (by decide)
  clear hfr hst
  rintro _ _ ⟨b6, rfl, -, rfl⟩ a w7 hfr hst
  replace hfr : Fr 56 [(28, oz), (29, hz), (30, iv (r : Int)), (31, slAddr hz (r * 1)), (32, wv ((blocks h0 (padded s) ((padded s).length / 64)).l.getD r 0#32)), (33, wv (((blocks h0 (padded s) ((padded s).length / 64)).l.getD r 0#32) >>> 24)), (34, yv (UInt8.ofNat (((blocks h0 (padded s) ((padded s).length / 64)).l.getD r 0#32) >>> 24).toNat)), (35, hz), (36, iv (r : Int)), (37, slAddr hz (r * 1)), (38, wv ((blocks h0 (padded s) ((padded s).length / 64)).l.getD r 0#32)), (39, wv (((blocks h0 (padded s) ((padded s).length / 64)).l.getD r 0#32) >>> 16)), (40, yv (UInt8.ofNat (((blocks h0 (padded s) ((padded s).length / 64)).l.getD r 0#32) >>> 16).toNat)), (41, hz), (42, iv (r : Int)), (43, slAddr hz (r * 1)), (44, wv ((blocks h0 (padded s) ((padded s).length / 64)).l.getD r 0#32)), (45, wv (((blocks h0 (padded s) ((padded s).length / 64)).l.getD r 0#32) >>> 8)), (46, yv (UInt8.ofNat (((blocks h0 (padded s) ((padded s).length / 64)).l.getD r 0#32) >>> 8).toNat)), (47, hz), (48, iv (r : Int)), (49, slAddr hz (r * 1)), (50, wv ((blocks h0 (padded s) ((padded s).length / 64)).l.getD r 0#32)), (51, yv (UInt8.ofNat ((blocks h0 (padded s) ((padded s).length / 64)).l.getD r 0#32).toNat)), (52, _), (2, _), (3, _), (6, _), (7, _), (24, _), (25, _)] [] a := hfr
  replace hst : St No w0 [_, _, _] w7 := hst
  refine wl_nil ?_
  refine wd_lin (k := 25) 27 [26] (by kernel_rfl) (by kernel_rfl) (by kernel_rfl) ?_
  refine wl_append (i := 1) (sT := 62) (inf := Tryz.t5) (z := yv (0 : UInt8)) (b := 0) (off := 0) (m := 0) (c := 0) rfl rfl rfl (hst.ownAt (i := 0) rfl) (by simp) Tryz.underlying62 rfl rfl rfl rfl (by decide) (by simp [Value.oneCell', yv, wv, sv]) (by have hby : Tryz.t5.bytes = 1 := rfl; simp only [big, hby, List.length_append, List.length_map, List.length_take, out_len, List.length_cons, List.length_nil]; omega) (by have hby : Tryz.t5.bytes = 1 := rfl; simp only [big, hby, List.length_append, List.length_map, List.length_take, out_len, List.length_cons, List.length_nil]; omega) (by decide) hfr hst fun a w8 s7 hfr hst _ => ?_
  refine wla hfr rfl fun a hfr => ?_
  refine wl_nil ?_
  refine wd_end (by kernel_rfl) ?_
  refine hK14 _ _ ?_
  replace hfr : Fr 56 [(2, _), (3, _), (7, _), (6, _)] [] a := hfr.pick [2, 3, 7, 6]
  replace hst : St No w0 [_, _] w8 := hst.mask [false, true, true]
  refine wc_region ?_
  refine wlm hfr rfl fun a hfr => ?_
  refine wlv hfr (v_add rfl rfl ⟨by omega, by omega⟩) fun a hfr => wla hfr rfl fun a hfr => ?_
  refine wl_nil ?_
  rw [show (((blocks h0 (padded s) ((padded s).length / 64)).out.take (4 * r)).map fun b => [yv b]) ++ ([[yv (UInt8.ofNat (((blocks h0 (padded s) ((padded s).length / 64)).l.getD r 0#32) >>> 24).toNat)], [yv (UInt8.ofNat (((blocks h0 (padded s) ((padded s).length / 64)).l.getD r 0#32) >>> 16).toNat)], [yv (UInt8.ofNat (((blocks h0 (padded s) ((padded s).length / 64)).l.getD r 0#32) >>> 8).toNat)], [yv (UInt8.ofNat ((blocks h0 (padded s) ((padded s).length / 64)).l.getD r 0#32).toNat)]]) = (((blocks h0 (padded s) ((padded s).length / 64)).out.take (4 * (r + 1))).map fun b => [yv b]) from by rw [out_take _ (by omega)]; simp] at hst
  refine ⟨_, ?_, r + 1, s7, rfl, (by omega), hfr.pick [2, 3, 6, 7], hst.select [0, 1] (by decide)⟩
  omega
 rw [hc5] at hfr
 try simp only [qz] at hc5
 obtain rfl : r = 8 := by omega
 rw [show 4 * 8 = 32 from rfl, List.take_of_length_le (by rw [out_len]; decide)] at hst
 refine wc_exit ?_
 refine hK10 _ _ ?_
 refine wc_seq_region fun K15 hK15 => ?_
 refine wlm hfr rfl fun a hfr => ?_
 refine wlv hfr (v_conv_sls (hst.ownAt (i := 0) rfl) rfl Tryz.underlying62 Tryz.underlying5 Tryz.underlying9) fun a hfr => wla hfr rfl fun a hfr => ?_
 refine wl_nil (hK15 _ _ ?_)
 replace hfr : Fr 56 [(2, _)] [] a := hfr.pick [2]
 refine wc_ret ?_
 refine fin_ret hfr Tryz.results91 (resAre_tmp rfl resAre_nil) ?_
 exact ⟨by rfl, hst.ext⟩
theorem rleaf_ok (s : By) (w0 : World) (hs : s.length ≤ 40000000) :
  Ret Tryz.prog 92 #[sv s] w0 fun v w => v = sv (leafH sha s) ∧ Ext No w0 w := by
 refine ret_of Tryz.func92 rfl Tryz.ntmps92 (lb rfl) fun a hfr => ?_
 replace hfr : Fr 6 [(0, _)] [] a := hfr
 replace hst : St No w0 [] w0 := St.init w0
 refine wc_seq_region fun K1 hK1 => ?_
 refine wla hfr rfl fun a hfr => ?_
 refine wl_nil (hK1 _ _ ?_)
 refine wc_seq_region fun K2 hK2 => ?_
 refine wlm hfr rfl fun a hfr => ?_
 refine wlv hfr (v_sadd rfl rfl (by (simp only [List.length_append, List.length_cons, List.length_nil]); omega)) fun a hfr => ?_
 refine wl_callp hfr hst (by decide) Tryz.call91 rfl (rsum_ok (([0]) ++ s) _ (by simp only [List.length_append, List.length_cons, List.length_nil]; omega)) ?_
 clear hfr hst
 intro a w1 hfr hst
 refine wla hfr rfl fun a hfr => ?_
 refine wl_nil (hK2 _ _ ?_)
 refine wc_ret ?_
 refine fin_ret hfr Tryz.results92 (resAre_tmp rfl resAre_nil) ?_
 exact ⟨by rfl, hst.ext⟩
theorem rnode_ok (s t : By) (w0 : World) (hs : s.length ≤ 40000000) (ht : t.length ≤ 40000000) :
  Ret Tryz.prog 124 #[sv s, sv t] w0 fun v w => v = sv (nodeH sha s t) ∧ Ext No w0 w := by
 refine ret_of Tryz.func124 rfl Tryz.ntmps124 (lb rfl) fun a hfr => ?_
 replace hfr : Fr 10 [(0, _), (1, _)] [] a := hfr
 replace hst : St No w0 [] w0 := St.init w0
 refine wc_seq_region fun K1 hK1 => ?_
 refine wla hfr rfl fun a hfr => ?_
 refine wl_nil (hK1 _ _ ?_)
 refine wc_seq_region fun K2 hK2 => ?_
 refine wlm hfr rfl fun a hfr => ?_
 refine wlv hfr (v_sadd rfl rfl (by (simp only [List.length_append, List.length_cons, List.length_nil]); omega)) fun a hfr => wlm hfr rfl fun a hfr => ?_
 refine wlv hfr (v_sadd rfl rfl (by (simp only [List.length_append, List.length_cons, List.length_nil]); omega)) fun a hfr => ?_
 refine wl_callp hfr hst (by decide) Tryz.call91 rfl (rsum_ok ((([1]) ++ s) ++ t) _ (by simp only [List.length_append, List.length_cons, List.length_nil]; omega)) ?_
 clear hfr hst
 intro a w1 hfr hst
 refine wla hfr rfl fun a hfr => ?_
 refine wl_nil (hK2 _ _ ?_)
 replace hfr : Fr 10 [(4, _)] [] a := hfr.pick [4]
 refine wc_ret ?_
 refine fin_ret hfr Tryz.results124 (resAre_tmp rfl resAre_nil) ?_
 exact ⟨by rfl, hst.ext⟩
end Go.Proofs.YtmmfieceinmloaaGreatDoor
namespace Go.Proofs.YtmmfieceinmloaaGreatDoor
open Go.RowKit Go.PW
set_option linter.unusedVariables false
set_option linter.unusedSimpArgs false
set_option maxRecDepth 4000
theorem vb_pos {f z : Nat} (h : z < 128 ^ (f + 1)) (hz : 128 ≤ z) : ∃ g, f = g + 1 := by
 cases f with
 | zero => exfalso; simp at h; omega
 | succ g => exact ⟨g, rfl⟩
theorem vb_less {f z : Nat} (h : z < 128 ^ (f + 1 + 1)) : z / 128 < 128 ^ (f + 1) := by
 rw [Nat.pow_succ] at h
 exact Nat.div_lt_of_lt_mul (by rw [Nat.mul_comm]; exact h)
theorem vb_more {f z : Nat} (h : 128 ≤ z) : vb (f + 1) z = UInt8.ofNat (z % 128 + 128) :: vb f (z / 128) := by rw [vb, if_neg (by omega)]
theorem vb_last {f z : Nat} (h : z < 128) : vb f z = [UInt8.ofNat z] := by cases f <;> simp [vb, h]
theorem zz_pow {n : Int} (h : small n) : zz n < 128 ^ (8 + 1) := by
 have := zz_lt h.1 h.2
 have e : (128 : Nat) ^ (8 + 1) = 9223372036854775808 := by decide
 rw [e]; exact this
theorem zz_u64 {n : Int} (h : small n) : zz n < 18446744073709551616 := by have := zz_lt h.1 h.2; omega
def gs : Nat → Nat → List (UInt8 × Bool)
 | 0, z => [(UInt8.ofNat (z % 128), true)]
 | f + 1, z => if z < 128 then [(UInt8.ofNat (z % 128), true)] else (UInt8.ofNat (z % 128), false) :: gs f (z / 128)
def enc1 (x : UInt8 × Bool) : UInt8 := if x.2 then x.1 else x.1 ||| 128
def encG (x : UInt8 × Bool) : List Value := [yv x.1, .bool x.2]
def NxG (pre : List (UInt8 × Bool)) (x : UInt8 × Bool) : Prop := pre.length < 9
theorem gs_more {f z : Nat} (h : ¬ z < 128) : gs (f + 1) z = (UInt8.ofNat (z % 128), false) :: gs f (z / 128) := by rw [gs, if_neg h]
theorem gs_last {f z : Nat} (h : z < 128) : gs f z = [(UInt8.ofNat (z % 128), true)] := by cases f <;> simp [gs, h]
theorem or128 : ∀ k, k < 128 → UInt8.ofNat k ||| 128 = UInt8.ofNat (k + 128) := by decide
theorem gs_vb : ∀ (f z : Nat), z < 128 ^ (f + 1) → (gs f z).map enc1 = vb f z
 | 0, z, h => by simp [gs, vb, enc1] at h ⊢; rw [Nat.mod_eq_of_lt h]
 | f + 1, z, h => by
  unfold gs vb
  split
  ·rename_i h1
   simp [enc1, Nat.mod_eq_of_lt h1]
  ·rw [List.map_cons, gs_vb f _ (vb_less h), enc1]
   simp only [Bool.false_eq_true, if_false]
   rw [or128 _ (Nat.mod_lt _ (by decide))]
def cu (n : Int) : Nat := (n % 18446744073709551616).toNat
theorem v_zz {P : Program} {w : World} {L : List (Nat × Value)} {dst : Option Tmp} {T T' ty : TypeId} {pos : String} {af : Array Edge} {gd : Option (Nat × Bool)} {x y : Operand} {n : Int} (hs : small n)
  (hx : ev L x = some (.int .u64 ((cu n * 2 % 18446744073709551616 : Nat) : Int))) (hy : ev L y = some (.int .u64 ((cu (if n < 0 then -1 else 0) : Nat) : Int))) : OpV P ⟨dst, .binOp .xor T x y T', ty, pos, af, gd⟩ L w (.int .u64 ((zz n : Nat) : Int)) := by
 have h1 := hs.1
 have h2 := hs.2
 by_cases hn : n < 0
 ·rw [if_pos hn] at hy
  have e : zz n = 18446744073709551615 - cu n * 2 % 18446744073709551616 := by unfold zz cu; rw [if_pos hn]; omega
  rw [e]
  exact v_uxor1 (Nat.mod_lt _ (by decide)) hx (by rw [hy]; rfl)
 ·rw [if_neg hn] at hy
  have e : zz n = cu n * 2 % 18446744073709551616 := by unfold zz cu; rw [if_neg hn]; omega
  rw [e]
  exact v_uxor0 (Nat.mod_lt _ (by decide)) hx (by rw [hy]; rfl)
theorem zigzag_ok (n : Int) (w0 : World) (hs : small n) :
  Ret Tryz.prog 148 #[iv n] w0 fun v w => v = .int .u64 ((zz n : Nat) : Int) ∧ Ext No w0 w := by
 have hs1 := hs.1
 have hs2 := hs.2
 refine ret_of Tryz.func148 rfl Tryz.ntmps148 (lb rfl) fun a hfr => ?_
 replace hfr : Fr 13 [(0, _)] [] a := hfr
 replace hst : St No w0 [] w0 := St.init w0
 refine wc_seq_region fun K1 hK1 => ?_
 refine wla hfr rfl fun a hfr => ?_
 refine wl_nil (hK1 _ _ ?_)
 refine wc_seq_k fun K2 hK2 => ?_
 refine wc_seq_region fun K3 hK3 => ?_
 refine wlm hfr rfl fun a hfr => ?_
 refine wlv hfr (v_lt rfl rfl) fun a hfr => ?_
 refine wl_nil (hK3 _ _ ?_)
 refine wc_cond hfr rfl (fun hc1 => ?_) (fun hc1 => ?_)
 ·rw [hc1] at hfr
  try simp only [qz] at hc1
  refine wc_seq_region fun K4 hK4 => ?_
  refine wlm hfr rfl fun a hfr => ?_
  refine wlv hfr (v_neg rfl (by omega) (by omega)) fun a hfr => ?_
  refine wlv hfr ((v_conv_iu rfl (by kernel_rfl) Tryz.underlying215).asi (m' := (((-n).toNat : Nat) : Int)) (by omega)) fun a hfr => ?_
  refine wlv hfr (v_umul (m := (-n).toNat) (n := 2) (by omega) rfl rfl) fun a hfr => ?_
  refine wlv hfr (v_usub (m := ((-n).toNat * 2)) (n := 1) (by omega) (by omega) rfl rfl) fun a hfr => wla hfr rfl fun a hfr => ?_
  refine wl_nil (hK4 _ _ ?_)
  replace hfr : Fr 13 [(0, _), (2, _)] [] a := hfr.pick [0, 2]
  refine wc_ret ?_
  refine fin_ret hfr Tryz.results148 (resAre_tmp rfl resAre_nil) ?_
  refine ⟨congrArg (Value.int .u64) ?_, hst.ext⟩
  unfold zz
  split <;> omega
 rw [hc1] at hfr
 try simp only [qz] at hc1
 refine wc_skip ?_
 refine hK2 _ _ ?_
 refine wc_seq_region fun K5 hK5 => ?_
 refine wlm hfr rfl fun a hfr => ?_
 refine wlv hfr ((v_conv_iu rfl (by kernel_rfl) Tryz.underlying215).asi (m' := (((n).toNat : Nat) : Int)) (by omega)) fun a hfr => ?_
 refine wlv hfr (v_umul (m := (n).toNat) (n := 2) (by omega) rfl rfl) fun a hfr => wla hfr rfl fun a hfr => ?_
 refine wl_nil (hK5 _ _ ?_)
 replace hfr : Fr 13 [(2, _)] [] a := hfr.pick [2]
 refine wc_ret ?_
 refine fin_ret hfr Tryz.results148 (resAre_tmp rfl resAre_nil) ?_
 refine ⟨congrArg (Value.int .u64) ?_, hst.ext⟩
 unfold zz
 split <;> omega
theorem rputInt_ok (n : Int) (w0 : World) (hs : small n) :
  Ret Tryz.prog 127 #[iv n] w0 fun v w => v = .tuple #[sv (putI n), iv 0] ∧ Ext No w0 w := by
 refine ret_of Tryz.func127 rfl Tryz.ntmps127 (lb rfl) fun a hfr => ?_
 replace hfr : Fr 31 [(0, _)] [] a := hfr
 replace hst : St No w0 [] w0 := St.init w0
 refine wc_seq_region fun K1 hK1 => ?_
 refine wla hfr rfl fun a hfr => wla hfr rfl fun a hfr => ?_
 refine wl_nil (hK1 _ _ ?_)
 refine wc_seq_k fun K2 hK2 => ?_
 refine wc_seq_region fun K3 hK3 => ?_
 refine wlm hfr rfl fun a hfr => ?_
 refine wlv hfr ((v_lt rfl rfl).asb (b' := false) (by rw [decide_eq_false_iff_not]; have := hs.1; omega)) fun a hfr => wlm hfr rfl fun a hfr => wly hfr (v_move rfl) fun a hfr => wly hfr ((v_gt rfl rfl).asb (b' := false) (by rw [decide_eq_false_iff_not]; have := hs.2; omega)) fun a hfr => ?_
 refine wlv hfr (v_pick_f rfl rfl) fun a hfr => ?_
 refine wl_nil (hK3 _ _ ?_)
 refine wc_cond_f hfr rfl ?_
 refine wc_skip ?_
 refine hK2 _ _ ?_
 refine wc_seq_region fun K4 hK4 => ?_
 refine wlm hfr rfl fun a hfr => ?_
 refine wl_callp hfr hst (by decide) Tryz.call148 rfl (zigzag_ok n _ hs) ?_
 clear hfr hst
 intro a w1 hfr hst
 refine wla hfr rfl fun a hfr => ?_
 refine wl_nil (hK4 _ _ ?_)
 replace hfr : Fr 31 [(2, _), (3, _), (4, _)] [] a := hfr.pick [2, 3, 4]
 refine wc_seq_region fun K5 hK5 => ?_
 refine wla hfr rfl fun a hfr => ?_
 refine wl_nil (hK5 _ _ ?_)
 refine wc_seq_k fun K6 hK6 => ?_
 refine wc_block ?_
 replace hst : St No w0 [own (.slice none 0 0) 5 1 ((([] : By)).map fun b => [yv b])] w1 := hst.nil_own
 refine wc_loop (fun m a w => ∃ (f : Nat) (z : Nat) (bs : By) (v : Value), m = f ∧ (bs ++ vb f z = putI n) ∧ (z < 128 ^ (f + 1)) ∧ (bs.length + f = 8) ∧ (z < 18446744073709551616) ∧ Fr 31 [(2, sv ([])), (3, iv 0), (4, .int .u64 (z : Int)), (5, v)] [] a ∧ St No w0 [own v 5 1 ((bs).map fun b => [yv b])] w) _ ⟨8, zz n, [], .slice none 0 0, rfl, rfl, zz_pow hs, rfl, zz_u64 hs, hfr.pick [2, 3, 4, 5], hst⟩ ?_
 rintro _ a w2 ⟨f, z, bs, v, rfl, hb, hz, hl, hz6, hfr, hst⟩
 refine wc_seq_k fun K7 hK7 => ?_
 refine wc_seq_region fun K8 hK8 => ?_
 refine wlm hfr rfl fun a hfr => ?_
 refine wlv hfr (v_ge rfl rfl) fun a hfr => ?_
 refine wl_nil (hK8 _ _ ?_)
 refine wc_cond hfr rfl (fun hc1 => ?_) (fun hc1 => ?_)
 ·rw [hc1] at hfr
  try simp only [qz] at hc1
  obtain ⟨g, rfl⟩ := vb_pos hz (by omega)
  rw [vb_more (by omega)] at hb
  refine wc_skip ?_
  refine hK7 _ _ ?_
  refine wc_block ?_
  refine wc_seq_region fun K9 hK9 => ?_
  refine wlm hfr rfl fun a hfr => wlm hfr rfl fun a hfr => ?_
  refine wlv hfr (v_urem (m := z) (n := 128) (by omega) rfl rfl) fun a hfr => ?_
  refine wlv hfr (v_uadd (m := (z % 128)) (n := 128) (by omega) rfl rfl) fun a hfr => ?_
  refine wlv hfr (v_conv_uy (n := ((z % 128) + 128)) rfl (by kernel_rfl) Tryz.underlying5) fun a hfr => ?_
  refine wl_buildSlice (E := 5) (sz := 1) rfl [[yv (UInt8.ofNat ((z % 128) + 128))]] (by kernel_rfl) (by simp) rfl (by decide) (by decide) hfr hst ?_
  clear hfr hst
  intro a w3 hfr hst
  refine wl_append (i := 1) (sT := 62) (inf := Tryz.t5) (z := yv (0 : UInt8)) (b := 0) (off := 0) (m := 0) (c := 0) rfl rfl rfl (hst.ownAt (i := 0) rfl) (by simp) Tryz.underlying62 rfl rfl rfl rfl (by decide) (by simp [Value.oneCell', yv, wv, sv]) (by have hby : Tryz.t5.bytes = 1 := rfl; simp [big, hby] <;> omega) (by have hby : Tryz.t5.bytes = 1 := rfl; simp [big, hby] <;> omega) (by decide) hfr hst fun a w4 s2 hfr hst _ => ?_
  rw [show ((bs).map fun b => [yv b]) ++ ([[yv (UInt8.ofNat ((z % 128) + 128))]]) = ((bs ++ [(UInt8.ofNat ((z % 128) + 128))]).map fun b => [yv b]) from by simp] at hst
  refine wla hfr rfl fun a hfr => ?_
  refine wl_nil (hK9 _ _ ?_)
  replace hfr : Fr 31 [(2, _), (3, _), (4, _), (5, _)] [] a := hfr.pick [2, 3, 4, 5]
  replace hst : St No w0 [_] w4 := hst.mask [false, true]
  refine wc_region ?_
  refine wlm hfr rfl fun a hfr => ?_
  refine wlv hfr (v_uquo (m := z) (n := 128) (by omega) (by omega) rfl rfl) fun a hfr => wla hfr rfl fun a hfr => ?_
  refine wl_nil ?_
  refine ⟨_, ?_, g, z / 128, bs ++ [UInt8.ofNat (z % 128 + 128)], s2, rfl, (by rw [List.append_assoc]; exact hb), (vb_less hz), (by rw [List.length_append]; simp; omega), (by omega), hfr.pick [2, 3, 4, 5], hst⟩
  omega
 rw [hc1] at hfr
 try simp only [qz] at hc1
 rw [vb_last (by omega)] at hb
 refine wc_exit ?_
 refine hK6 _ _ ?_
 refine wc_seq_region fun K10 hK10 => ?_
 refine wlm hfr rfl fun a hfr => wlm hfr rfl fun a hfr => ?_
 refine wlv hfr (v_conv_uy (n := z) rfl (by kernel_rfl) Tryz.underlying5) fun a hfr => ?_
 refine wl_buildSlice (E := 5) (sz := 1) rfl [[yv (UInt8.ofNat z)]] (by kernel_rfl) (by simp) rfl (by decide) (by decide) hfr hst ?_
 clear hfr hst
 intro a w5 hfr hst
 refine wl_append (i := 1) (sT := 62) (inf := Tryz.t5) (z := yv (0 : UInt8)) (b := 0) (off := 0) (m := 0) (c := 0) rfl rfl rfl (hst.ownAt (i := 0) rfl) (by simp) Tryz.underlying62 rfl rfl rfl rfl (by decide) (by simp [Value.oneCell', yv, wv, sv]) (by have hby : Tryz.t5.bytes = 1 := rfl; simp [big, hby] <;> omega) (by have hby : Tryz.t5.bytes = 1 := rfl; simp [big, hby] <;> omega) (by decide) hfr hst fun a w6 s3 hfr hst _ => ?_
 rw [show ((bs).map fun b => [yv b]) ++ ([[yv (UInt8.ofNat z)]]) = ((bs ++ [(UInt8.ofNat z)]).map fun b => [yv b]) from by simp] at hst
 refine wlv hfr (v_conv_sls (hst.ownAt (i := 1) rfl) rfl Tryz.underlying62 Tryz.underlying5 Tryz.underlying9) fun a hfr => wla hfr rfl fun a hfr => wla hfr rfl fun a hfr => ?_
 refine wl_nil (hK10 _ _ ?_)
 replace hfr : Fr 31 [(2, _), (3, _)] [] a := hfr.pick [2, 3]
 replace hst : St No w0 [] w6 := hst.mask [false, false]
 refine wc_ret ?_
 refine fin_ret hfr Tryz.results127 (resAre_tmp rfl (resAre_tmp rfl resAre_nil)) ?_
 exact ⟨by rw [← hb]; rfl, hst.ext⟩
theorem groups_ok (z : Nat) (w0 : World) :
  Ret Tryz.prog 146 #[.int .u64 (z : Int)] w0 (MemR w0 (fun b : Nat => .func (.func 163) #[] #[.pointer (some ⟨b, 0, none⟩)]) (fun b => [blk b [.int .u64 (z : Int)] 215]) (fun _ => True)) := by
 refine ret_of Tryz.func146 rfl Tryz.ntmps146 (lb rfl) fun a hfr => ?_
 replace hfr : Fr 4 [(0, _)] [] a := hfr
 replace hst : St No w0 [] w0 := St.init w0
 refine wc_seq_region fun K1 hK1 => ?_
 refine wl_box hfr hst (by decide) rfl (cs := [.int .u64 (z : Int)]) rfl ?_
 clear hfr hst
 intro a w1 hfr hst
 refine wla hfr rfl fun a hfr => ?_
 refine wl_nil (hK1 _ _ ?_)
 refine wc_seq_region fun K2 hK2 => ?_
 refine wlv hfr (v_makeFunc rfl rfl) fun a hfr => wla hfr rfl fun a hfr => ?_
 refine wl_nil (hK2 _ _ ?_)
 refine wc_ret ?_
 refine fin_ret hfr Tryz.results146 (resAre_tmp rfl resAre_nil) ?_
 exact ⟨w0.heap.size, rfl, trivial, hst.ext, St.out (H := []) hst⟩
theorem groups_run {M : Nat → Prop} {w0 : World} (z0 lp bg : Nat) (J Jx : List (UInt8 × Bool) → Ent → Prop) (hY : Rounds Tryz.prog M w0 lp encG NxG J Jx) (e0 : Ent) (ws : World) (hz0 : z0 < 128 ^ (8 + 1)) (hz06 : z0 < 18446744073709551616) (hJ : J [] e0) (hst : St M w0 [e0, blk bg [.int .u64 (z0 : Int)] 215] ws) :
  Ret Tryz.prog 163 #[.func (.yield lp) #[] #[], .pointer (some ⟨bg, 0, none⟩)] ws fun _ w => ∃ e1 Hi1, St M w0 (e1 :: Hi1) w ∧ ((∃ xs, (xs = gs 8 z0 ∧ ∃ z1 : Nat, Hi1 = [blk bg [.int .u64 (z1 : Int)] 215]) ∧ J xs e1) ∨ (∃ pre, (∃ z1 : Nat, Hi1 = [blk bg [.int .u64 (z1 : Int)] 215]) ∧ Jx pre e1)) := by
 refine ret_of Tryz.func163 rfl Tryz.ntmps163 (lb rfl) fun a hfr => ?_
 replace hfr : Fr 18 [(0, _), (1, _)] [] a := hfr
 skip
 refine wc_block ?_
 refine wc_loop (fun m a w => ∃ (f : Nat) (z : Nat) (e : Ent) (dn : List (UInt8 × Bool)), m = f ∧ (dn ++ gs f z = gs 8 z0) ∧ (z < 128 ^ (f + 1)) ∧ (dn.length + f = 8) ∧ (z < 18446744073709551616) ∧ (J dn e) ∧ Fr 18 [(0, .func (.yield lp) #[] #[]), (1, .pointer (some ⟨bg, 0, none⟩))] [] a ∧ St M w0 [e, blk bg [.int .u64 (z : Int)] 215] w) _ ⟨8, z0, e0, [], rfl, rfl, hz0, rfl, hz06, hJ, hfr.pick [0, 1], hst⟩ ?_
 rintro _ a w1 ⟨f, z, e, dn, rfl, hg, hz, hl, hz6, hJ, hfr, hst⟩
 refine wc_block ?_
 refine wc_seq_region fun K1 hK1 => ?_
 refine wlv hfr (v_load_blk1 (hst.get (k := 1) rfl) rfl (Tryz.isAgg215 _) rfl) fun a hfr => ?_
 refine wlv hfr (v_lt rfl rfl) fun a hfr => wla hfr rfl fun a hfr => ?_
 refine wl_nil (hK1 _ _ ?_)
 refine wc_seq_k fun K2 hK2 => ?_
 refine wc_seq_region fun K3 hK3 => ?_
 refine wlm hfr rfl fun a hfr => ?_
 refine wlv hfr (v_load_blk1 (hst.get (k := 1) rfl) rfl (Tryz.isAgg215 _) rfl) fun a hfr => ?_
 refine wlv hfr ((v_uand (m := z) (k := 7) (by omega) (by omega) rfl rfl).asi (m' := ((z % 128 : Nat) : Int)) rfl) fun a hfr => ?_
 refine wlv hfr (v_conv_uy (n := (z % 128)) rfl (by kernel_rfl) Tryz.underlying5) fun a hfr => wlm hfr rfl fun a hfr => ?_
 refine wl_r (r_yield rfl rfl (hY.yield (pre := dn) (x := (UInt8.ofNat (z % 128), decide ((z : Int) < 128))) (by show dn.length < 9; omega) hJ (hst.only (i := 0) rfl))) rfl rfl hfr ?_
 clear hfr
 intro a v w2 hR hfr
 obtain ⟨y1, e2, rfl, hx, hok, hft, hJt, hJf⟩ := hR
 replace hst := hst.exchange (k := 0) rfl hx hok hft
 replace hst : St M w0 [e2, blk bg [.int .u64 (z : Int)] 215] w2 := hst
 clear hx hok hft
 refine wlv hfr (v_not rfl) fun a hfr => wlm hfr rfl fun a hfr => ?_
 rcases Bool.eq_false_or_eq_true (!y1) with hb3 | hb3
 ·rw [hb3] at hfr
  try simp only [qz] at hb3
  have hJ := hJf hb3
  refine wln hfr fun a hfr => ?_
  refine wlv hfr (v_pick_t rfl rfl) fun a hfr => ?_
  refine wl_nil (hK3 _ _ ?_)
  replace hfr : Fr 18 [(0, _), (1, _), (15, _)] [] a := hfr.pick [0, 1, 15]
  refine wc_cond_t hfr rfl ?_
  refine wc_ret ?_
  refine fin_ret hfr Tryz.results163 resAre_nil ?_
  first | exact ⟨_, _, hst, .inl ⟨_, ⟨rfl, _, rfl⟩, hJ⟩⟩ | exact ⟨_, _, hst, .inr ⟨_, ⟨_, rfl⟩, hJ⟩⟩
 rw [hb3] at hfr
 try simp only [qz] at hb3
 have hJ := hJt hb3
 refine wly hfr (v_move rfl) fun a hfr => ?_
 refine wlv hfr (v_pick_f rfl rfl) fun a hfr => ?_
 refine wl_nil (hK3 _ _ ?_)
 replace hfr : Fr 18 [(0, _), (1, _), (15, _)] [] a := hfr.pick [0, 1, 15]
 refine wc_cond hfr rfl (fun hc4 => ?_) (fun hc4 => ?_)
 ·rw [hc4] at hfr
  try simp only [qz] at hc4
  rw [decide_eq_true hc4] at hJ
  rw [gs_last (by omega)] at hg
  rw [hg] at hJ
  refine wc_ret ?_
  refine fin_ret hfr Tryz.results163 resAre_nil ?_
  first | exact ⟨_, _, hst, .inl ⟨_, ⟨rfl, _, rfl⟩, hJ⟩⟩ | exact ⟨_, _, hst, .inr ⟨_, ⟨_, rfl⟩, hJ⟩⟩
 rw [hc4] at hfr
 try simp only [qz] at hc4
 rw [decide_eq_false hc4] at hJ
 obtain ⟨g, rfl⟩ := vb_pos hz (by omega)
 rw [gs_more (by omega)] at hg
 refine wc_skip ?_
 refine hK2 _ _ ?_
 refine wc_region ?_
 refine wlv hfr (v_load_blk1 (hst.get (k := 1) rfl) rfl (Tryz.isAgg215 _) rfl) fun a hfr => ?_
 refine wlv hfr ((v_ushr (m := z) (n := 7) (by omega) rfl rfl).asi (m' := ((z / 128 : Nat) : Int)) rfl) fun a hfr => ?_
 refine wl_store 1 hfr hst rfl rfl rfl (Tryz.sizeOf215 _) rfl (lb rfl) (ds := [.int .u64 ((z / 128 : Nat) : Int)]) rfl rfl ?_
 clear hfr hst
 intro a w3 hfr hst
 refine wl_nil ?_
 refine ⟨_, ?_, g, z / 128, e2, dn ++ [(UInt8.ofNat (z % 128), false)], rfl, (by rw [List.append_assoc]; exact hg), (vb_less hz), (by rw [List.length_append]; simp; omega), (by omega), hJ, hfr.pick [0, 1], hst⟩
 omega
theorem groups_iter {M : Nat → Prop} {w0 : World} (z0 bg : Nat) (hz0 : z0 < 128 ^ (8 + 1)) (hz06 : z0 < 18446744073709551616) :
  Iter Tryz.prog 163 [.pointer (some ⟨bg, 0, none⟩)] encG NxG (fun xs Hi1 => xs = gs 8 z0 ∧ ∃ z1 : Nat, Hi1 = [blk bg [.int .u64 (z1 : Int)] 215]) (fun pre Hi1 => ∃ z1 : Nat, Hi1 = [blk bg [.int .u64 (z1 : Int)] 215]) M w0 [blk bg [.int .u64 (z0 : Int)] 215] :=
 fun lp J Jx w e hY hJ hst => groups_run z0 lp bg J Jx hY e w hz0 hz06 hJ hst
theorem putInt_ok (n : Int) (w0 : World) (hs : small n) :
  Ret Tryz.prog 125 #[iv n] w0 fun v w => v = .tuple #[sv (putI n), iv 0] ∧ Ext No w0 w := by
 have hs1 := hs.1
 have hs2 := hs.2
 refine ret_of Tryz.func125 rfl Tryz.ntmps125 (lb rfl) fun a hfr => ?_
 replace hfr : Fr 33 [(0, _)] [] a := hfr
 replace hst : St No w0 [] w0 := St.init w0
 refine wc_seq_region fun K1 hK1 => ?_
 refine wla hfr rfl fun a hfr => wla hfr rfl fun a hfr => ?_
 refine wl_nil (hK1 _ _ ?_)
 refine wc_seq_k fun K2 hK2 => ?_
 refine wc_seq_region fun K3 hK3 => ?_
 refine wlm hfr rfl fun a hfr => ?_
 refine wlv hfr ((v_lt rfl rfl).asb (b' := false) (by rw [decide_eq_false_iff_not]; have := hs.1; omega)) fun a hfr => wlm hfr rfl fun a hfr => wly hfr (v_move rfl) fun a hfr => wly hfr ((v_gt rfl rfl).asb (b' := false) (by rw [decide_eq_false_iff_not]; have := hs.2; omega)) fun a hfr => ?_
 refine wlv hfr (v_pick_f rfl rfl) fun a hfr => ?_
 refine wl_nil (hK3 _ _ ?_)
 refine wc_cond_f hfr rfl ?_
 refine wc_skip ?_
 refine hK2 _ _ ?_
 refine wc_seq_region fun K4 hK4 => ?_
 refine wl_alloc hfr hst (by decide) (Tryz.zeroValue62 _) (cs := [.slice none 0 0]) rfl ?_
 clear hfr hst
 intro a w1 hfr hst
 refine wl_nil (hK4 _ _ ?_)
 replace hfr : Fr 33 [(0, _), (2, _), (3, _), (4, _)] [] a := hfr.pick [0, 2, 3, 4]
 refine wc_seq_k fun K5 hK5 => ?_
 refine wc_seq_region fun K6 hK6 => ?_
 refine wlm hfr rfl fun a hfr => ?_
 refine wlv hfr ((v_conv_iu rfl (by kernel_rfl) Tryz.underlying215).asi (m' := ((cu (n) : Nat) : Int)) rfl) fun a hfr => ?_
 refine wlv hfr (v_ushl (m := cu n) (n := 1) (by omega) rfl rfl) fun a hfr => wlm hfr rfl fun a hfr => ?_
 refine wlv hfr (v_isign (by omega) (by omega) rfl rfl) fun a hfr => ?_
 refine wlv hfr ((v_conv_iu rfl (by kernel_rfl) Tryz.underlying215).asi (m' := ((cu (if n < 0 then -1 else 0) : Nat) : Int)) rfl) fun a hfr => ?_
 refine wlv hfr (v_zz hs rfl rfl) fun a hfr => ?_
 refine wl_callm hfr hst (by decide) Tryz.call146 rfl (groups_ok (zz n) _) ?_
 clear hfr hst
 intro a w2 x1 hp hfr hst
 revert x1 hp hfr hst; rintro bg hp hfr hst
 clear hp
 replace hst : St No w0 [blk bg [.int .u64 (zz n : Int)] 215, blk w0.heap.size [.slice none 0 0] 62] w2 := hst
 refine wl_nil (hK6 _ _ ?_)
 replace hfr : Fr 33 [(2, _), (3, _), (4, _), (20, _)] [] a := hfr.pick [2, 3, 4, 20]
 refine wc_block ?_
 replace hst : St No w0 [own (.slice none 0 0) 5 1 ((([] : List (UInt8 × Bool)).map enc1).map fun b => [yv b]), blk bg [.int .u64 (zz n : Int)] 215, blk w0.heap.size [.slice none 0 0] 62] w2 := hst.nil_own
 replace hst : St No w0 [blk w0.heap.size [.slice none 0 0] 62, own (.slice none 0 0) 5 1 ((([] : List (UInt8 × Bool)).map enc1).map fun b => [yv b]), blk bg [.int .u64 (zz n : Int)] 215] w2 := hst.select [2, 0, 1] (by decide)
 replace hfr : Fr 33 [(2, sv ([])), (3, iv 0), (4, .pointer (some ⟨w0.heap.size, 0, none⟩)), (20, .func (.func 163) #[] #[.pointer (some ⟨bg, 0, none⟩)])] [] a := hfr.pick [2, 3, 4, 20]
 refine wc_range (M := No) (w0 := w0) (encs := encG) (Hi := [blk bg [.int .u64 (zz n : Int)] 215]) (Hc := [blk w0.heap.size [.slice none 0 0] 62, own (.slice none 0 0) 5 1 ((([] : List (UInt8 × Bool)).map enc1).map fun b => [yv b])]) (fun pre H => ∃ (v : Value), H = [blk w0.heap.size [v] 62, own v 5 1 ((pre.map enc1).map fun b => [yv b])]) (fun _ _ _ => False) (fun pre xs H a => Fr 33 [(2, sv ([])), (3, iv 0), (4, .pointer (some ⟨w0.heap.size, 0, none⟩)), (20, .func (.func 163) #[] #[.pointer (some ⟨bg, 0, none⟩)]), (5, yv xs.1), (6, .bool xs.2)] [] a ∧ ∃ (v : Value), H = [blk w0.heap.size [v] 62, own v 5 1 ((pre.map enc1).map fun b => [yv b])]) rfl Tryz.call163 hfr hst (groups_iter (zz n) bg (zz_pow hs) (zz_u64 hs)) (by decide) (fun _ => rfl) ⟨.slice none 0 0, rfl⟩ ?_ ?_ ?_ ?_
 ·clear hfr hst
  rintro lp pre xs _ a w3 hnx ⟨v, rfl⟩ hfr hst
  generalize (join [blk w0.heap.size [v] 62, own v 5 1 ((pre.map enc1).map fun b => [yv b])]).foot = M1 at hst ⊢
  replace hfr : Fr 33 [(22, .bool xs.2), (21, yv xs.1), (2, sv ([])), (3, iv 0), (4, .pointer (some ⟨w0.heap.size, 0, none⟩)), (20, .func (.func 163) #[] #[.pointer (some ⟨bg, 0, none⟩)])] [] a := hfr
  refine wc_seq_region fun K7 hK7 => ?_
  refine wla hfr rfl fun a hfr => ?_
  refine wl_nil (hK7 _ _ ?_)
  refine wc_region ?_
  refine wla hfr rfl fun a hfr => ?_
  refine wl_nil ?_
  exact ⟨_, ⟨hfr.pick [2, 3, 4, 20, 5, 6], v, rfl⟩, hst⟩
 ·rintro lp pre xs _ a w4 hnx ⟨hfr, v, rfl⟩ hout hrec hnl hst
  clear hrec hnl
  generalize (join [blk w0.heap.size [v] 62, own v 5 1 ((pre.map enc1).map fun b => [yv b])]).foot = M1 at hst hout ⊢
  refine wc_block ?_
  refine wc_seq_k fun K8 hK8 => ?_
  refine wc_seq_region fun K9 hK9 => ?_
  refine wlm hfr rfl fun a hfr => ?_
  refine wlv hfr (v_not rfl) fun a hfr => ?_
  refine wl_nil (hK9 _ _ ?_)
  refine wc_cond hfr rfl (fun hc2 => ?_) (fun hc2 => ?_)
  ·rw [hc2] at hfr
   try simp only [qz] at hc2
   refine wc_region ?_
   refine wlm hfr rfl fun a hfr => ?_
   refine wlv hfr (v_yor (a := xs.1) (b := (128 : UInt8)) rfl rfl) fun a hfr => wla hfr rfl fun a hfr => ?_
   refine wl_nil ?_
   refine hK8 _ _ ?_
   replace hfr : Fr 33 [(2, _), (3, _), (4, _), (5, _)] [] a := hfr.pick [2, 3, 4, 5]
   refine wc_region ?_
   refine wlv hfr (v_load_blk1 (hst.get (k := 0) rfl) rfl (Tryz.isAgg62 _) rfl) fun a hfr => wlm hfr rfl fun a hfr => ?_
   refine wl_buildSlice (E := 5) (sz := 1) rfl [[yv (xs.1 ||| (128 : UInt8))]] (by kernel_rfl) (by simp) rfl (by decide) (by decide) hfr hst ?_
   clear hfr hst
   intro a w5 hfr hst
   refine wl_append (i := 2) (sT := 62) (inf := Tryz.t5) (z := yv (0 : UInt8)) (b := 0) (off := 0) (m := 0) (c := 0) rfl rfl rfl (hst.ownAt (i := 0) rfl) (by simp) Tryz.underlying62 rfl rfl rfl rfl (by decide) (by simp [Value.oneCell', yv, wv, sv]) (by have hby : Tryz.t5.bytes = 1 := rfl; have : pre.length < 9 := hnx; simp [big, hby] <;> omega) (by have hby : Tryz.t5.bytes = 1 := rfl; have : pre.length < 9 := hnx; simp [big, hby] <;> omega) (by decide) hfr hst fun a w6 s3 hfr hst _ => ?_
   rw [show ((pre.map enc1).map fun b => [yv b]) ++ ([[yv (xs.1 ||| (128 : UInt8))]]) = (((pre ++ [xs]).map enc1).map fun b => [yv b]) from by simp [enc1, hc2]] at hst
   refine wl_store_sl 1 hfr hst (hst.ownAt (i := 2) rfl) rfl rfl rfl (Tryz.sizeOf62 _) (lb rfl) (ds := [s3]) rfl rfl ?_
   clear hfr hst
   intro a w7 hfr hst
   refine wl_nil ?_
   exact ⟨_, ⟨s3, rfl⟩, hst.select [1, 2] (by decide)⟩
  rw [hc2] at hfr
  try simp only [qz] at hc2
  refine wc_skip ?_
  refine hK8 _ _ ?_
  refine wc_region ?_
  refine wlv hfr (v_load_blk1 (hst.get (k := 0) rfl) rfl (Tryz.isAgg62 _) rfl) fun a hfr => wlm hfr rfl fun a hfr => ?_
  refine wl_buildSlice (E := 5) (sz := 1) rfl [[yv xs.1]] (by kernel_rfl) (by simp) rfl (by decide) (by decide) hfr hst ?_
  clear hfr hst
  intro a w8 hfr hst
  refine wl_append (i := 2) (sT := 62) (inf := Tryz.t5) (z := yv (0 : UInt8)) (b := 0) (off := 0) (m := 0) (c := 0) rfl rfl rfl (hst.ownAt (i := 0) rfl) (by simp) Tryz.underlying62 rfl rfl rfl rfl (by decide) (by simp [Value.oneCell', yv, wv, sv]) (by have hby : Tryz.t5.bytes = 1 := rfl; have : pre.length < 9 := hnx; simp [big, hby] <;> omega) (by have hby : Tryz.t5.bytes = 1 := rfl; have : pre.length < 9 := hnx; simp [big, hby] <;> omega) (by decide) hfr hst fun a w9 s4 hfr hst _ => ?_
  rw [show ((pre.map enc1).map fun b => [yv b]) ++ ([[yv xs.1]]) = (((pre ++ [xs]).map enc1).map fun b => [yv b]) from by simp [enc1, hc2]] at hst
  refine wl_store_sl 1 hfr hst (hst.ownAt (i := 2) rfl) rfl rfl rfl (Tryz.sizeOf62 _) (lb rfl) (ds := [s4]) rfl rfl ?_
  clear hfr hst
  intro a w10 hfr hst
  refine wl_nil ?_
  exact ⟨_, ⟨s4, rfl⟩, hst.select [1, 2] (by decide)⟩
 ·rintro D pre _ _ a w11 ⟨rfl, z1, rfl⟩ ⟨v, rfl⟩ hst hfr
  replace hfr : Fr 33 [(2, sv ([])), (3, iv 0), (4, .pointer (some ⟨w0.heap.size, 0, none⟩)), (20, .func (.func 163) #[] #[.pointer (some ⟨bg, 0, none⟩)])] [{ target := .collected D, args := #[] }] a := hfr
  replace hst : St No w0 [obj D (.deferred (some [])), blk w0.heap.size [v] 62, own v 5 1 (((gs 8 (zz n)).map enc1).map fun b => [yv b]), blk bg [.int .u64 (z1 : Int)] 215] w11 := hst
  refine hK5 _ _ ?_
  refine wc_seq_region fun K10 hK10 => ?_
  refine wlv hfr (v_load_blk1 (hst.get (k := 1) rfl) rfl (Tryz.isAgg62 _) rfl) fun a hfr => ?_
  refine wlv hfr (v_conv_sls (hst.ownAt (i := 2) rfl) rfl Tryz.underlying62 Tryz.underlying5 Tryz.underlying9) fun a hfr => wla hfr rfl fun a hfr => wla hfr rfl fun a hfr => ?_
  refine wl_nil (hK10 _ _ ?_)
  refine wc_ret ?_
  have hD := hst.get (k := 0) rfl
  replace hst := hst.unmark (i := 0) (o' := .deferred none) rfl
  replace hst : St No w0 [blk w0.heap.size [v] 62, own v 5 1 (((gs 8 (zz n)).map enc1).map fun b => [yv b]), blk bg [.int .u64 (z1 : Int)] 215] _ := hst
  refine fin_ret1 hfr hD Tryz.results125 (resAre_tmp rfl (resAre_tmp rfl resAre_nil)) ?_
  exact ⟨by rw [gs_vb 8 _ (zz_pow hs)]; rfl, hst.ext⟩
 ·rintro D c pre _ _ a w12 _ h
  exact h.elim
end Go.Proofs.YtmmfieceinmloaaGreatDoor
namespace Go.Proofs.YtmmfieceinmloaaGreatDoor
open Go.RowKit Go.PW
set_option linter.unusedVariables false
set_option linter.unusedSimpArgs false
set_option maxRecDepth 4000
def Wsh.nums (x : Wsh) : List Int := [1, x.signer, x.holder, x.rf, x.rt, x.carrier, x.serial, x.sf, x.st]
def Pxy.nums (x : Pxy) : List Int := [2, x.frm, x.to, x.rf, x.rt, x.sf, x.st]
def smalls (l : List Int) : Prop := ∀ n ∈ l, small n
theorem Wsh.smalls_of {x : Wsh} (h : x.ok = true) : smalls x.nums := by
 simp only [Wsh.ok, inB, isRangeB, isSpellB, Bool.and_eq_true, decide_eq_true_eq] at h
 intro n hn
 simp only [Wsh.nums, List.mem_cons, List.not_mem_nil, or_false] at hn
 unfold small
 rcases hn with rfl | rfl | rfl | rfl | rfl | rfl | rfl | rfl | rfl <;> omega
theorem Pxy.smalls_of {x : Pxy} (h : x.ok = true) : smalls x.nums := by
 simp only [Pxy.ok, inB, isRangeB, isSpellB, Bool.and_eq_true, decide_eq_true_eq] at h
 intro n hn
 simp only [Pxy.nums, List.mem_cons, List.not_mem_nil, or_false] at hn
 unfold small
 rcases hn with rfl | rfl | rfl | rfl | rfl | rfl | rfl <;> omega
theorem Wsh.content_len (x : Wsh) : x.content.length ≤ 81 := Nat.le_trans (puts_len _) (Nat.le_refl _)
theorem Pxy.content_len (x : Pxy) : x.content.length ≤ 63 := Nat.le_trans (puts_len _) (Nat.le_refl _)
theorem in_ok (n lo hi : Int) (w0 : World) :
  Ret Tryz.prog 86 #[iv n, iv lo, iv hi] w0 fun v w => v = .bool (inB n lo hi) ∧ Ext No w0 w := by
 refine ret_of Tryz.func86 rfl Tryz.ntmps86 (lb rfl) fun a hfr => ?_
 replace hfr : Fr 15 [(0, _), (1, _), (2, _)] [] a := hfr
 replace hst : St No w0 [] w0 := St.init w0
 refine wc_seq_region fun K1 hK1 => ?_
 refine wla hfr rfl fun a hfr => ?_
 refine wl_nil (hK1 _ _ ?_)
 refine wc_seq_region fun K2 hK2 => ?_
 refine wlm hfr rfl fun a hfr => wlm hfr rfl fun a hfr => ?_
 refine wlv hfr (v_ge rfl rfl) fun a hfr => wlm hfr rfl fun a hfr => ?_
 refine wl_join (N := 15) (df := []) 4 [(14, .bool ((decide (lo ≤ n)) && (decide (n ≤ hi)))), (0, iv n), (1, iv lo), (2, iv hi), (6, .bool false)] ?_ (fun hj => ?_)
 rotate_left
 ·rcases Bool.eq_false_or_eq_true (decide (lo ≤ n)) with hb1 | hb1
  ·rw [hb1] at hfr
   have hb1b := hb1
   try simp only [qz, Bool.and_eq_true, Bool.or_eq_true, Bool.and_eq_false_iff, Bool.or_eq_false_iff] at hb1
   refine wly hfr (v_move rfl) fun a hfr => wly hfr (v_move rfl) fun a hfr => wly hfr (v_le rfl rfl) fun a hfr => ?_
   refine wlv hfr (v_pick_t rfl rfl) fun a hfr => ?_
   refine hj _ ?_
   try rw [hb1b]
   exact hfr.pick [14, 0, 1, 2, 6]
  rw [hb1] at hfr
  have hb1b := hb1
  try simp only [qz, Bool.and_eq_true, Bool.or_eq_true, Bool.and_eq_false_iff, Bool.or_eq_false_iff] at hb1
  refine wln hfr fun a hfr => ?_
  refine wln hfr fun a hfr => ?_
  refine wln hfr fun a hfr => ?_
  refine wlv hfr (v_pick_f rfl rfl) fun a hfr => ?_
  refine hj _ ?_
  try rw [hb1b]
  exact hfr.pick [14, 0, 1, 2, 6]
 intro a hfr
 refine wla hfr rfl fun a hfr => ?_
 refine wl_nil (hK2 _ _ ?_)
 refine wc_ret ?_
 refine fin_ret hfr Tryz.results86 (resAre_tmp rfl resAre_nil) ?_
 exact ⟨by rfl, hst.ext⟩
theorem rrange_ok (b d : Int) (w0 : World) :
  Ret Tryz.prog 122 #[.agg #[iv b, iv d]] w0 fun v w => v = .bool (isRangeB b d) ∧ Ext No w0 w := by
 refine ret_of Tryz.func122 rfl Tryz.ntmps122 (lb rfl) fun a hfr => ?_
 replace hfr : Fr 18 [(0, _)] [] a := hfr
 replace hst : St No w0 [] w0 := St.init w0
 refine wc_seq_region fun K1 hK1 => ?_
 refine wl_box hfr hst (by decide) rfl (cs := [iv b, iv d]) rfl ?_
 clear hfr hst
 intro a w1 hfr hst
 refine wla hfr rfl fun a hfr => ?_
 refine wl_nil (hK1 _ _ ?_)
 refine wc_seq_region fun K2 hK2 => ?_
 refine wlv hfr (v_fieldAddr (v := .pointer (some ⟨w0.heap.size, 0, none⟩)) rfl (by kernel_rfl)) fun a hfr => ?_
 refine wlv hfr (v_load_blk1 (hst.get (k := 0) rfl) rfl (Tryz.isAgg3 _) rfl) fun a hfr => ?_
 refine wlv hfr (v_ge rfl rfl) fun a hfr => wlm hfr rfl fun a hfr => ?_
 refine wl_join (N := 18) (df := []) 6 [(12, .bool ((decide (0 ≤ b)) && (decide (b < d)))), (0, .agg #[iv b, iv d]), (1, .pointer (some ⟨w0.heap.size, 0, none⟩)), (2, .bool false)] ?_ (fun hj => ?_)
 rotate_left
 ·rcases Bool.eq_false_or_eq_true (decide (0 ≤ b)) with hb1 | hb1
  ·rw [hb1] at hfr
   have hb1b := hb1
   try simp only [qz, Bool.and_eq_true, Bool.or_eq_true, Bool.and_eq_false_iff, Bool.or_eq_false_iff] at hb1
   refine wly hfr (v_fieldAddr (v := .pointer (some ⟨w0.heap.size, 0, none⟩)) rfl (by kernel_rfl)) fun a hfr => wly hfr (v_load_blk1 (hst.get (k := 0) rfl) rfl (Tryz.isAgg3 _) rfl) fun a hfr => wly hfr (v_fieldAddr (v := .pointer (some ⟨w0.heap.size, 1, none⟩)) rfl (by kernel_rfl)) fun a hfr => wly hfr (v_load_blk1 (hst.get (k := 0) rfl) rfl (Tryz.isAgg3 _) rfl) fun a hfr => wly hfr (v_lt rfl rfl) fun a hfr => ?_
   refine wlv hfr (v_pick_t rfl rfl) fun a hfr => ?_
   refine hj _ ?_
   try rw [hb1b]
   exact hfr.pick [12, 0, 1, 2]
  rw [hb1] at hfr
  have hb1b := hb1
  try simp only [qz, Bool.and_eq_true, Bool.or_eq_true, Bool.and_eq_false_iff, Bool.or_eq_false_iff] at hb1
  refine wln hfr fun a hfr => ?_
  refine wln hfr fun a hfr => ?_
  refine wln hfr fun a hfr => ?_
  refine wln hfr fun a hfr => ?_
  refine wln hfr fun a hfr => ?_
  refine wlv hfr (v_pick_f rfl rfl) fun a hfr => ?_
  refine hj _ ?_
  try rw [hb1b]
  exact hfr.pick [12, 0, 1, 2]
 intro a hfr
 refine wlm hfr rfl fun a hfr => ?_
 refine wl_join (N := 18) (df := []) 4 [(17, .bool (((decide (0 ≤ b)) && (decide (b < d))) && (decide (d ≤ 100000000)))), (0, .agg #[iv b, iv d]), (1, .pointer (some ⟨w0.heap.size, 0, none⟩)), (2, .bool false)] ?_ (fun hj => ?_)
 rotate_left
 ·rcases Bool.eq_false_or_eq_true ((decide (0 ≤ b)) && (decide (b < d))) with hb2 | hb2
  ·rw [hb2] at hfr
   have hb2b := hb2
   try simp only [qz, Bool.and_eq_true, Bool.or_eq_true, Bool.and_eq_false_iff, Bool.or_eq_false_iff] at hb2
   refine wly hfr (v_fieldAddr (v := .pointer (some ⟨w0.heap.size, 1, none⟩)) rfl (by kernel_rfl)) fun a hfr => wly hfr (v_load_blk1 (hst.get (k := 0) rfl) rfl (Tryz.isAgg3 _) rfl) fun a hfr => wly hfr (v_le rfl rfl) fun a hfr => ?_
   refine wlv hfr (v_pick_t rfl rfl) fun a hfr => ?_
   refine hj _ ?_
   try rw [hb2b]
   exact hfr.pick [17, 0, 1, 2]
  rw [hb2] at hfr
  have hb2b := hb2
  try simp only [qz, Bool.and_eq_true, Bool.or_eq_true, Bool.and_eq_false_iff, Bool.or_eq_false_iff] at hb2
  refine wln hfr fun a hfr => ?_
  refine wln hfr fun a hfr => ?_
  refine wln hfr fun a hfr => ?_
  refine wlv hfr (v_pick_f rfl rfl) fun a hfr => ?_
  refine hj _ ?_
  try rw [hb2b]
  exact hfr.pick [17, 0, 1, 2]
 intro a hfr
 refine wla hfr rfl fun a hfr => ?_
 refine wl_nil (hK2 _ _ ?_)
 refine wc_ret ?_
 refine fin_ret hfr Tryz.results122 (resAre_tmp rfl resAre_nil) ?_
 exact ⟨by rfl, hst.ext⟩
theorem rspell_ok (b d : Int) (w0 : World) :
  Ret Tryz.prog 123 #[.agg #[iv b, iv d]] w0 fun v w => v = .bool (isSpellB b d) ∧ Ext No w0 w := by
 refine ret_of Tryz.func123 rfl Tryz.ntmps123 (lb rfl) fun a hfr => ?_
 replace hfr : Fr 18 [(0, _)] [] a := hfr
 replace hst : St No w0 [] w0 := St.init w0
 refine wc_seq_region fun K1 hK1 => ?_
 refine wl_box hfr hst (by decide) rfl (cs := [iv b, iv d]) rfl ?_
 clear hfr hst
 intro a w1 hfr hst
 refine wla hfr rfl fun a hfr => ?_
 refine wl_nil (hK1 _ _ ?_)
 refine wc_seq_region fun K2 hK2 => ?_
 refine wlv hfr (v_fieldAddr (v := .pointer (some ⟨w0.heap.size, 0, none⟩)) rfl (by kernel_rfl)) fun a hfr => ?_
 refine wlv hfr (v_load_blk1 (hst.get (k := 0) rfl) rfl (Tryz.isAgg3 _) rfl) fun a hfr => ?_
 refine wlv hfr (v_ge rfl rfl) fun a hfr => wlm hfr rfl fun a hfr => ?_
 refine wl_join (N := 18) (df := []) 6 [(12, .bool ((decide (0 ≤ b)) && (decide (b < d)))), (0, .agg #[iv b, iv d]), (1, .pointer (some ⟨w0.heap.size, 0, none⟩)), (2, .bool false)] ?_ (fun hj => ?_)
 rotate_left
 ·rcases Bool.eq_false_or_eq_true (decide (0 ≤ b)) with hb1 | hb1
  ·rw [hb1] at hfr
   have hb1b := hb1
   try simp only [qz, Bool.and_eq_true, Bool.or_eq_true, Bool.and_eq_false_iff, Bool.or_eq_false_iff] at hb1
   refine wly hfr (v_fieldAddr (v := .pointer (some ⟨w0.heap.size, 0, none⟩)) rfl (by kernel_rfl)) fun a hfr => wly hfr (v_load_blk1 (hst.get (k := 0) rfl) rfl (Tryz.isAgg3 _) rfl) fun a hfr => wly hfr (v_fieldAddr (v := .pointer (some ⟨w0.heap.size, 1, none⟩)) rfl (by kernel_rfl)) fun a hfr => wly hfr (v_load_blk1 (hst.get (k := 0) rfl) rfl (Tryz.isAgg3 _) rfl) fun a hfr => wly hfr (v_lt rfl rfl) fun a hfr => ?_
   refine wlv hfr (v_pick_t rfl rfl) fun a hfr => ?_
   refine hj _ ?_
   try rw [hb1b]
   exact hfr.pick [12, 0, 1, 2]
  rw [hb1] at hfr
  have hb1b := hb1
  try simp only [qz, Bool.and_eq_true, Bool.or_eq_true, Bool.and_eq_false_iff, Bool.or_eq_false_iff] at hb1
  refine wln hfr fun a hfr => ?_
  refine wln hfr fun a hfr => ?_
  refine wln hfr fun a hfr => ?_
  refine wln hfr fun a hfr => ?_
  refine wln hfr fun a hfr => ?_
  refine wlv hfr (v_pick_f rfl rfl) fun a hfr => ?_
  refine hj _ ?_
  try rw [hb1b]
  exact hfr.pick [12, 0, 1, 2]
 intro a hfr
 refine wlm hfr rfl fun a hfr => ?_
 refine wl_join (N := 18) (df := []) 4 [(17, .bool (((decide (0 ≤ b)) && (decide (b < d))) && (decide (d ≤ 10000001)))), (0, .agg #[iv b, iv d]), (1, .pointer (some ⟨w0.heap.size, 0, none⟩)), (2, .bool false)] ?_ (fun hj => ?_)
 rotate_left
 ·rcases Bool.eq_false_or_eq_true ((decide (0 ≤ b)) && (decide (b < d))) with hb2 | hb2
  ·rw [hb2] at hfr
   have hb2b := hb2
   try simp only [qz, Bool.and_eq_true, Bool.or_eq_true, Bool.and_eq_false_iff, Bool.or_eq_false_iff] at hb2
   refine wly hfr (v_fieldAddr (v := .pointer (some ⟨w0.heap.size, 1, none⟩)) rfl (by kernel_rfl)) fun a hfr => wly hfr (v_load_blk1 (hst.get (k := 0) rfl) rfl (Tryz.isAgg3 _) rfl) fun a hfr => wly hfr (v_le rfl rfl) fun a hfr => ?_
   refine wlv hfr (v_pick_t rfl rfl) fun a hfr => ?_
   refine hj _ ?_
   try rw [hb2b]
   exact hfr.pick [17, 0, 1, 2]
  rw [hb2] at hfr
  have hb2b := hb2
  try simp only [qz, Bool.and_eq_true, Bool.or_eq_true, Bool.and_eq_false_iff, Bool.or_eq_false_iff] at hb2
  refine wln hfr fun a hfr => ?_
  refine wln hfr fun a hfr => ?_
  refine wln hfr fun a hfr => ?_
  refine wlv hfr (v_pick_f rfl rfl) fun a hfr => ?_
  refine hj _ ?_
  try rw [hb2b]
  exact hfr.pick [17, 0, 1, 2]
 intro a hfr
 refine wla hfr rfl fun a hfr => ?_
 refine wl_nil (hK2 _ _ ?_)
 refine wc_ret ?_
 refine fin_ret hfr Tryz.results123 (resAre_tmp rfl resAre_nil) ?_
 exact ⟨by rfl, hst.ext⟩
set_option maxHeartbeats 4000000 in
theorem rwish_ok (x : Wsh) (w0 : World) :
  Ret Tryz.prog 68 #[.agg #[iv x.signer, iv x.holder, iv x.rf, iv x.rt, iv x.carrier, iv x.serial, iv x.sf, iv x.st, sv x.sig]] w0 fun v w => v = .bool x.ok ∧ Ext No w0 w := by
 refine ret_of Tryz.func68 rfl Tryz.ntmps68 (lb rfl) fun a hfr => ?_
 replace hfr : Fr 31 [(0, _)] [] a := hfr
 replace hst : St No w0 [] w0 := St.init w0
 refine wc_seq_region fun K1 hK1 => ?_
 refine wl_box hfr hst (by decide) rfl (cs := [iv x.signer, iv x.holder, iv x.rf, iv x.rt, iv x.carrier, iv x.serial, iv x.sf, iv x.st, sv x.sig]) rfl ?_
 clear hfr hst
 intro a w1 hfr hst
 refine wla hfr rfl fun a hfr => ?_
 refine wl_nil (hK1 _ _ ?_)
 refine wc_seq_region fun K2 hK2 => ?_
 refine wlv hfr (v_fieldAddr (v := .pointer (some ⟨w0.heap.size, 0, none⟩)) rfl (by kernel_rfl)) fun a hfr => ?_
 refine wlv hfr (v_load_blk1 (hst.get (k := 0) rfl) rfl (Tryz.isAgg3 _) rfl) fun a hfr => ?_
 refine wl_callp hfr hst (by decide) Tryz.call86 rfl (in_ok x.signer 0 63 _) ?_
 clear hfr hst
 intro a w2 hfr hst
 refine wlm hfr rfl fun a hfr => ?_
 rcases Bool.eq_false_or_eq_true (inB x.signer 0 63) with hb1 | hb1
 ·rw [hb1] at hfr
  try simp only [qz] at hb1
  refine wly hfr (v_fieldAddr (v := .pointer (some ⟨w0.heap.size, 1, none⟩)) rfl (by kernel_rfl)) fun a hfr => wly hfr (v_load_blk1 (hst.get (k := 0) rfl) rfl (Tryz.isAgg3 _) rfl) fun a hfr => ?_
  refine wl_callpy hfr hst (by decide) rfl (by decide) rfl Tryz.call86 rfl (in_ok x.holder 0 63 _) ?_
  clear hfr hst
  intro a w3 hfr hst
  refine wlv hfr (v_pick_t rfl rfl) fun a hfr => wlm hfr rfl fun a hfr => ?_
  rcases Bool.eq_false_or_eq_true (inB x.holder 0 63) with hb2 | hb2
  ·rw [hb2] at hfr
   try simp only [qz] at hb2
   refine wly hfr (v_fieldAddr (v := .pointer (some ⟨w0.heap.size, 2, none⟩)) rfl (by kernel_rfl)) fun a hfr => wly hfr (v_load_blk (ds := [iv x.rf, iv x.rt]) (hst.get (k := 0) rfl) rfl (Tryz.isAgg27 _) (Tryz.sizeOf27 _) rfl) fun a hfr => ?_
   refine wl_callpy hfr hst (by decide) rfl (by decide) rfl Tryz.call122 rfl (rrange_ok x.rf x.rt _) ?_
   clear hfr hst
   intro a w4 hfr hst
   refine wlv hfr (v_pick_t rfl rfl) fun a hfr => wlm hfr rfl fun a hfr => ?_
   rcases Bool.eq_false_or_eq_true (isRangeB x.rf x.rt) with hb3 | hb3
   ·rw [hb3] at hfr
    try simp only [qz] at hb3
    refine wly hfr (v_fieldAddr (v := .pointer (some ⟨w0.heap.size, 4, none⟩)) rfl (by kernel_rfl)) fun a hfr => wly hfr (v_load_blk1 (hst.get (k := 0) rfl) rfl (Tryz.isAgg3 _) rfl) fun a hfr => ?_
    refine wl_callpy hfr hst (by decide) rfl (by decide) rfl Tryz.call86 rfl (in_ok x.carrier 0 7 _) ?_
    clear hfr hst
    intro a w5 hfr hst
    refine wlv hfr (v_pick_t rfl rfl) fun a hfr => wlm hfr rfl fun a hfr => ?_
    rcases Bool.eq_false_or_eq_true (inB x.carrier 0 7) with hb4 | hb4
    ·rw [hb4] at hfr
     try simp only [qz] at hb4
     refine wly hfr (v_fieldAddr (v := .pointer (some ⟨w0.heap.size, 5, none⟩)) rfl (by kernel_rfl)) fun a hfr => wly hfr (v_load_blk1 (hst.get (k := 0) rfl) rfl (Tryz.isAgg3 _) rfl) fun a hfr => ?_
     refine wl_callpy hfr hst (by decide) rfl (by decide) rfl Tryz.call86 rfl (in_ok x.serial 0 1000000 _) ?_
     clear hfr hst
     intro a w6 hfr hst
     refine wlv hfr (v_pick_t rfl rfl) fun a hfr => wlm hfr rfl fun a hfr => ?_
     rcases Bool.eq_false_or_eq_true (inB x.serial 0 1000000) with hb5 | hb5
     ·rw [hb5] at hfr
      try simp only [qz] at hb5
      refine wly hfr (v_fieldAddr (v := .pointer (some ⟨w0.heap.size, 6, none⟩)) rfl (by kernel_rfl)) fun a hfr => wly hfr (v_load_blk (ds := [iv x.sf, iv x.st]) (hst.get (k := 0) rfl) rfl (Tryz.isAgg28 _) (Tryz.sizeOf28 _) rfl) fun a hfr => ?_
      refine wl_callpy hfr hst (by decide) rfl (by decide) rfl Tryz.call123 rfl (rspell_ok x.sf x.st _) ?_
      clear hfr hst
      intro a w7 hfr hst
      refine wlv hfr (v_pick_t rfl rfl) fun a hfr => wla hfr rfl fun a hfr => ?_
      refine wl_nil (hK2 _ _ ?_)
      replace hfr : Fr 31 [(2, _)] [] a := hfr.pick [2]
      replace hst : St No w0 [] w7 := hst.mask [false]
      refine wc_ret ?_
      refine fin_ret hfr Tryz.results68 (resAre_tmp rfl resAre_nil) ?_
      exact ⟨by simp only [retv]; unfold Wsh.ok; simp [hb1, hb2, hb3, hb4, hb5], hst.ext⟩
     rw [hb5] at hfr
     try simp only [qz] at hb5
     refine wln hfr fun a hfr => ?_
     refine wln hfr fun a hfr => ?_
     refine wln hfr fun a hfr => ?_
     refine wlv hfr (v_pick_f rfl rfl) fun a hfr => wla hfr rfl fun a hfr => ?_
     refine wl_nil (hK2 _ _ ?_)
     replace hfr : Fr 31 [(2, _)] [] a := hfr.pick [2]
     replace hst : St No w0 [] w6 := hst.mask [false]
     refine wc_ret ?_
     refine fin_ret hfr Tryz.results68 (resAre_tmp rfl resAre_nil) ?_
     exact ⟨by simp only [retv]; unfold Wsh.ok; simp [hb1, hb2, hb3, hb4, hb5], hst.ext⟩
    rw [hb4] at hfr
    try simp only [qz] at hb4
    refine wln hfr fun a hfr => ?_
    refine wln hfr fun a hfr => ?_
    refine wln hfr fun a hfr => ?_
    refine wlv hfr (v_pick_f rfl rfl) fun a hfr => wlm hfr rfl fun a hfr => ?_
    refine wln hfr fun a hfr => ?_
    refine wln hfr fun a hfr => ?_
    refine wln hfr fun a hfr => ?_
    refine wlv hfr (v_pick_f rfl rfl) fun a hfr => wla hfr rfl fun a hfr => ?_
    refine wl_nil (hK2 _ _ ?_)
    replace hfr : Fr 31 [(2, _)] [] a := hfr.pick [2]
    replace hst : St No w0 [] w5 := hst.mask [false]
    refine wc_ret ?_
    refine fin_ret hfr Tryz.results68 (resAre_tmp rfl resAre_nil) ?_
    exact ⟨by simp only [retv]; unfold Wsh.ok; simp [hb1, hb2, hb3, hb4], hst.ext⟩
   rw [hb3] at hfr
   try simp only [qz] at hb3
   refine wln hfr fun a hfr => ?_
   refine wln hfr fun a hfr => ?_
   refine wln hfr fun a hfr => ?_
   refine wlv hfr (v_pick_f rfl rfl) fun a hfr => wlm hfr rfl fun a hfr => ?_
   refine wln hfr fun a hfr => ?_
   refine wln hfr fun a hfr => ?_
   refine wln hfr fun a hfr => ?_
   refine wlv hfr (v_pick_f rfl rfl) fun a hfr => wlm hfr rfl fun a hfr => ?_
   refine wln hfr fun a hfr => ?_
   refine wln hfr fun a hfr => ?_
   refine wln hfr fun a hfr => ?_
   refine wlv hfr (v_pick_f rfl rfl) fun a hfr => wla hfr rfl fun a hfr => ?_
   refine wl_nil (hK2 _ _ ?_)
   replace hfr : Fr 31 [(2, _)] [] a := hfr.pick [2]
   replace hst : St No w0 [] w4 := hst.mask [false]
   refine wc_ret ?_
   refine fin_ret hfr Tryz.results68 (resAre_tmp rfl resAre_nil) ?_
   exact ⟨by simp only [retv]; unfold Wsh.ok; simp [hb1, hb2, hb3], hst.ext⟩
  rw [hb2] at hfr
  try simp only [qz] at hb2
  refine wln hfr fun a hfr => ?_
  refine wln hfr fun a hfr => ?_
  refine wln hfr fun a hfr => ?_
  refine wlv hfr (v_pick_f rfl rfl) fun a hfr => wlm hfr rfl fun a hfr => ?_
  refine wln hfr fun a hfr => ?_
  refine wln hfr fun a hfr => ?_
  refine wln hfr fun a hfr => ?_
  refine wlv hfr (v_pick_f rfl rfl) fun a hfr => wlm hfr rfl fun a hfr => ?_
  refine wln hfr fun a hfr => ?_
  refine wln hfr fun a hfr => ?_
  refine wln hfr fun a hfr => ?_
  refine wlv hfr (v_pick_f rfl rfl) fun a hfr => wlm hfr rfl fun a hfr => ?_
  refine wln hfr fun a hfr => ?_
  refine wln hfr fun a hfr => ?_
  refine wln hfr fun a hfr => ?_
  refine wlv hfr (v_pick_f rfl rfl) fun a hfr => wla hfr rfl fun a hfr => ?_
  refine wl_nil (hK2 _ _ ?_)
  replace hfr : Fr 31 [(2, _)] [] a := hfr.pick [2]
  replace hst : St No w0 [] w3 := hst.mask [false]
  refine wc_ret ?_
  refine fin_ret hfr Tryz.results68 (resAre_tmp rfl resAre_nil) ?_
  exact ⟨by simp only [retv]; unfold Wsh.ok; simp [hb1, hb2], hst.ext⟩
 rw [hb1] at hfr
 try simp only [qz] at hb1
 refine wln hfr fun a hfr => ?_
 refine wln hfr fun a hfr => ?_
 refine wln hfr fun a hfr => ?_
 refine wlv hfr (v_pick_f rfl rfl) fun a hfr => wlm hfr rfl fun a hfr => ?_
 refine wln hfr fun a hfr => ?_
 refine wln hfr fun a hfr => ?_
 refine wln hfr fun a hfr => ?_
 refine wlv hfr (v_pick_f rfl rfl) fun a hfr => wlm hfr rfl fun a hfr => ?_
 refine wln hfr fun a hfr => ?_
 refine wln hfr fun a hfr => ?_
 refine wln hfr fun a hfr => ?_
 refine wlv hfr (v_pick_f rfl rfl) fun a hfr => wlm hfr rfl fun a hfr => ?_
 refine wln hfr fun a hfr => ?_
 refine wln hfr fun a hfr => ?_
 refine wln hfr fun a hfr => ?_
 refine wlv hfr (v_pick_f rfl rfl) fun a hfr => wlm hfr rfl fun a hfr => ?_
 refine wln hfr fun a hfr => ?_
 refine wln hfr fun a hfr => ?_
 refine wln hfr fun a hfr => ?_
 refine wlv hfr (v_pick_f rfl rfl) fun a hfr => wla hfr rfl fun a hfr => ?_
 refine wl_nil (hK2 _ _ ?_)
 replace hfr : Fr 31 [(2, _)] [] a := hfr.pick [2]
 replace hst : St No w0 [] w2 := hst.mask [false]
 refine wc_ret ?_
 refine fin_ret hfr Tryz.results68 (resAre_tmp rfl resAre_nil) ?_
 exact ⟨by simp only [retv]; unfold Wsh.ok; simp [hb1], hst.ext⟩
set_option maxHeartbeats 4000000 in
theorem rproxy_ok (x : Pxy) (w0 : World) :
  Ret Tryz.prog 69 #[.agg #[iv x.frm, iv x.to, iv x.rf, iv x.rt, iv x.sf, iv x.st, sv x.sig]] w0 fun v w => v = .bool x.ok ∧ Ext No w0 w := by
 refine ret_of Tryz.func69 rfl Tryz.ntmps69 (lb rfl) fun a hfr => ?_
 replace hfr : Fr 28 [(0, _)] [] a := hfr
 replace hst : St No w0 [] w0 := St.init w0
 refine wc_seq_region fun K1 hK1 => ?_
 refine wl_box hfr hst (by decide) rfl (cs := [iv x.frm, iv x.to, iv x.rf, iv x.rt, iv x.sf, iv x.st, sv x.sig]) rfl ?_
 clear hfr hst
 intro a w1 hfr hst
 refine wla hfr rfl fun a hfr => ?_
 refine wl_nil (hK1 _ _ ?_)
 refine wc_seq_region fun K2 hK2 => ?_
 refine wlv hfr (v_fieldAddr (v := .pointer (some ⟨w0.heap.size, 0, none⟩)) rfl (by kernel_rfl)) fun a hfr => ?_
 refine wlv hfr (v_load_blk1 (hst.get (k := 0) rfl) rfl (Tryz.isAgg3 _) rfl) fun a hfr => ?_
 refine wl_callp hfr hst (by decide) Tryz.call86 rfl (in_ok x.frm 0 63 _) ?_
 clear hfr hst
 intro a w2 hfr hst
 refine wlm hfr rfl fun a hfr => ?_
 rcases Bool.eq_false_or_eq_true (inB x.frm 0 63) with hb1 | hb1
 ·rw [hb1] at hfr
  try simp only [qz] at hb1
  refine wly hfr (v_fieldAddr (v := .pointer (some ⟨w0.heap.size, 1, none⟩)) rfl (by kernel_rfl)) fun a hfr => wly hfr (v_load_blk1 (hst.get (k := 0) rfl) rfl (Tryz.isAgg3 _) rfl) fun a hfr => ?_
  refine wl_callpy hfr hst (by decide) rfl (by decide) rfl Tryz.call86 rfl (in_ok x.to 0 63 _) ?_
  clear hfr hst
  intro a w3 hfr hst
  refine wlv hfr (v_pick_t rfl rfl) fun a hfr => wlm hfr rfl fun a hfr => ?_
  rcases Bool.eq_false_or_eq_true (inB x.to 0 63) with hb2 | hb2
  ·rw [hb2] at hfr
   try simp only [qz] at hb2
   refine wly hfr (v_fieldAddr (v := .pointer (some ⟨w0.heap.size, 0, none⟩)) rfl (by kernel_rfl)) fun a hfr => wly hfr (v_load_blk1 (hst.get (k := 0) rfl) rfl (Tryz.isAgg3 _) rfl) fun a hfr => wly hfr (v_fieldAddr (v := .pointer (some ⟨w0.heap.size, 1, none⟩)) rfl (by kernel_rfl)) fun a hfr => wly hfr (v_load_blk1 (hst.get (k := 0) rfl) rfl (Tryz.isAgg3 _) rfl) fun a hfr => wly hfr (v_ne rfl rfl) fun a hfr => ?_
   refine wlv hfr (v_pick_t rfl rfl) fun a hfr => wlm hfr rfl fun a hfr => ?_
   rcases Bool.eq_false_or_eq_true (!decide (x.frm = x.to)) with hb3 | hb3
   ·rw [hb3] at hfr
    try simp only [qz] at hb3
    refine wly hfr (v_fieldAddr (v := .pointer (some ⟨w0.heap.size, 2, none⟩)) rfl (by kernel_rfl)) fun a hfr => wly hfr (v_load_blk (ds := [iv x.rf, iv x.rt]) (hst.get (k := 0) rfl) rfl (Tryz.isAgg27 _) (Tryz.sizeOf27 _) rfl) fun a hfr => ?_
    refine wl_callpy hfr hst (by decide) rfl (by decide) rfl Tryz.call122 rfl (rrange_ok x.rf x.rt _) ?_
    clear hfr hst
    intro a w4 hfr hst
    refine wlv hfr (v_pick_t rfl rfl) fun a hfr => wlm hfr rfl fun a hfr => ?_
    rcases Bool.eq_false_or_eq_true (isRangeB x.rf x.rt) with hb4 | hb4
    ·rw [hb4] at hfr
     try simp only [qz] at hb4
     refine wly hfr (v_fieldAddr (v := .pointer (some ⟨w0.heap.size, 4, none⟩)) rfl (by kernel_rfl)) fun a hfr => wly hfr (v_load_blk (ds := [iv x.sf, iv x.st]) (hst.get (k := 0) rfl) rfl (Tryz.isAgg28 _) (Tryz.sizeOf28 _) rfl) fun a hfr => ?_
     refine wl_callpy hfr hst (by decide) rfl (by decide) rfl Tryz.call123 rfl (rspell_ok x.sf x.st _) ?_
     clear hfr hst
     intro a w5 hfr hst
     refine wlv hfr (v_pick_t rfl rfl) fun a hfr => wla hfr rfl fun a hfr => ?_
     refine wl_nil (hK2 _ _ ?_)
     replace hfr : Fr 28 [(2, _)] [] a := hfr.pick [2]
     replace hst : St No w0 [] w5 := hst.mask [false]
     refine wc_ret ?_
     refine fin_ret hfr Tryz.results69 (resAre_tmp rfl resAre_nil) ?_
     exact ⟨by simp only [retv]; unfold Pxy.ok; simp [hb1, hb2, hb3, hb4], hst.ext⟩
    rw [hb4] at hfr
    try simp only [qz] at hb4
    refine wln hfr fun a hfr => ?_
    refine wln hfr fun a hfr => ?_
    refine wln hfr fun a hfr => ?_
    refine wlv hfr (v_pick_f rfl rfl) fun a hfr => wla hfr rfl fun a hfr => ?_
    refine wl_nil (hK2 _ _ ?_)
    replace hfr : Fr 28 [(2, _)] [] a := hfr.pick [2]
    replace hst : St No w0 [] w4 := hst.mask [false]
    refine wc_ret ?_
    refine fin_ret hfr Tryz.results69 (resAre_tmp rfl resAre_nil) ?_
    exact ⟨by simp only [retv]; unfold Pxy.ok; simp [hb1, hb2, hb3, hb4], hst.ext⟩
   rw [hb3] at hfr
   try simp only [qz] at hb3
   refine wln hfr fun a hfr => ?_
   refine wln hfr fun a hfr => ?_
   refine wln hfr fun a hfr => ?_
   refine wlv hfr (v_pick_f rfl rfl) fun a hfr => wlm hfr rfl fun a hfr => ?_
   refine wln hfr fun a hfr => ?_
   refine wln hfr fun a hfr => ?_
   refine wln hfr fun a hfr => ?_
   refine wlv hfr (v_pick_f rfl rfl) fun a hfr => wla hfr rfl fun a hfr => ?_
   refine wl_nil (hK2 _ _ ?_)
   replace hfr : Fr 28 [(2, _)] [] a := hfr.pick [2]
   replace hst : St No w0 [] w3 := hst.mask [false]
   refine wc_ret ?_
   refine fin_ret hfr Tryz.results69 (resAre_tmp rfl resAre_nil) ?_
   exact ⟨by simp only [retv]; unfold Pxy.ok; simp [hb1, hb2, hb3], hst.ext⟩
  rw [hb2] at hfr
  try simp only [qz] at hb2
  refine wln hfr fun a hfr => ?_
  refine wln hfr fun a hfr => ?_
  refine wln hfr fun a hfr => ?_
  refine wln hfr fun a hfr => ?_
  refine wln hfr fun a hfr => ?_
  refine wlv hfr (v_pick_f rfl rfl) fun a hfr => wlm hfr rfl fun a hfr => ?_
  refine wln hfr fun a hfr => ?_
  refine wln hfr fun a hfr => ?_
  refine wln hfr fun a hfr => ?_
  refine wlv hfr (v_pick_f rfl rfl) fun a hfr => wlm hfr rfl fun a hfr => ?_
  refine wln hfr fun a hfr => ?_
  refine wln hfr fun a hfr => ?_
  refine wln hfr fun a hfr => ?_
  refine wlv hfr (v_pick_f rfl rfl) fun a hfr => wla hfr rfl fun a hfr => ?_
  refine wl_nil (hK2 _ _ ?_)
  replace hfr : Fr 28 [(2, _)] [] a := hfr.pick [2]
  replace hst : St No w0 [] w3 := hst.mask [false]
  refine wc_ret ?_
  refine fin_ret hfr Tryz.results69 (resAre_tmp rfl resAre_nil) ?_
  exact ⟨by simp only [retv]; unfold Pxy.ok; simp [hb1, hb2], hst.ext⟩
 rw [hb1] at hfr
 try simp only [qz] at hb1
 refine wln hfr fun a hfr => ?_
 refine wln hfr fun a hfr => ?_
 refine wln hfr fun a hfr => ?_
 refine wlv hfr (v_pick_f rfl rfl) fun a hfr => wlm hfr rfl fun a hfr => ?_
 refine wln hfr fun a hfr => ?_
 refine wln hfr fun a hfr => ?_
 refine wln hfr fun a hfr => ?_
 refine wln hfr fun a hfr => ?_
 refine wln hfr fun a hfr => ?_
 refine wlv hfr (v_pick_f rfl rfl) fun a hfr => wlm hfr rfl fun a hfr => ?_
 refine wln hfr fun a hfr => ?_
 refine wln hfr fun a hfr => ?_
 refine wln hfr fun a hfr => ?_
 refine wlv hfr (v_pick_f rfl rfl) fun a hfr => wlm hfr rfl fun a hfr => ?_
 refine wln hfr fun a hfr => ?_
 refine wln hfr fun a hfr => ?_
 refine wln hfr fun a hfr => ?_
 refine wlv hfr (v_pick_f rfl rfl) fun a hfr => wla hfr rfl fun a hfr => ?_
 refine wl_nil (hK2 _ _ ?_)
 replace hfr : Fr 28 [(2, _)] [] a := hfr.pick [2]
 replace hst : St No w0 [] w2 := hst.mask [false]
 refine wc_ret ?_
 refine fin_ret hfr Tryz.results69 (resAre_tmp rfl resAre_nil) ?_
 exact ⟨by simp only [retv]; unfold Pxy.ok; simp [hb1], hst.ext⟩
theorem rputs_ok (ns : List Int) (lv : Value) (w0 : World) (hlv : SlAt w0 lv 1 ((ns).map fun n => [iv n])) (hns : smalls ns) (hnl : ns.length ≤ 1000) :
  Ret Tryz.prog 80 #[lv] w0 fun v w => v = sv (puts ns) ∧ Ext No w0 w := by
 refine ret_of Tryz.func80 rfl Tryz.ntmps80 (lb rfl) fun a hfr => ?_
 replace hfr : Fr 25 [(0, _)] [] a := hfr
 replace hst : St No w0 [] w0 := St.init w0
 refine wc_seq_region fun K1 hK1 => ?_
 refine wla hfr rfl fun a hfr => ?_
 refine wl_nil (hK1 _ _ ?_)
 refine wc_seq_region fun K2 hK2 => ?_
 refine wla hfr rfl fun a hfr => ?_
 refine wl_nil (hK2 _ _ ?_)
 refine wc_seq_k fun K3 hK3 => ?_
 refine wc_seq_region fun K4 hK4 => ?_
 refine wla hfr rfl fun a hfr => ?_
 refine wl_nil (hK4 _ _ ?_)
 refine wc_block ?_
 have hp0 : ([] : By) = puts (ns.take 0) := rfl
 rw [hp0] at hfr
 refine wc_loop (fun m a w => ∃ (k : Nat), m = ns.length - k ∧ (k ≤ ns.length) ∧ Fr 25 [(0, lv), (2, sv (puts (ns.take 0))), (4, iv (k : Int)), (3, sv (puts (ns.take k)))] [] a ∧ St No w0 [] w) _ ⟨0, rfl, Nat.zero_le _, hfr.pick [0, 2, 4, 3], hst.select [] (by decide)⟩ ?_
 rintro _ a w1 ⟨k, rfl, hk, hfr, hst⟩
 refine wc_seq_k fun K5 hK5 => ?_
 refine wc_seq_region fun K6 hK6 => ?_
 refine wlm hfr rfl fun a hfr => wlm hfr rfl fun a hfr => ?_
 refine wlv hfr ((v_len_sl (sT := 88) (hst.arg hlv) rfl rfl (Tryz.runUnderlying88 _)).asi (m' := (ns.length : Int)) (by rw [List.length_map])) fun a hfr => ?_
 refine wlv hfr (v_lt rfl rfl) fun a hfr => ?_
 refine wl_nil (hK6 _ _ ?_)
 refine wc_cond hfr rfl (fun hc1 => ?_) (fun hc1 => ?_)
 ·rw [hc1] at hfr
  try simp only [qz] at hc1
  refine wc_skip ?_
  refine hK5 _ _ ?_
  refine wc_seq_k fun K7 hK7 => ?_
  refine wc_block ?_
  refine wc_seq_region fun K8 hK8 => ?_
  refine wlm hfr rfl fun a hfr => wlm hfr rfl fun a hfr => ?_
  refine wlv hfr ((v_indexAddr_sl (i := (k : Int)) (sT := 88) (hst.arg hlv) rfl rfl (Tryz.runUnderlying88 _) (Tryz.sizeOf3 _) (by omega) (by rw [List.length_map]; omega)).as (v' := slAddr lv (k * 1)) rfl) fun a hfr => ?_
  refine wlv hfr (v_load_sl1 (u := iv (ns.getD k 0)) (i := k) (j := 0) (hst.arg hlv) (by rw [List.length_map]; omega) rfl (Tryz.isAgg3 _) (by rw [el_at (0 : Int)]; rfl)) fun a hfr => ?_
  refine wl_callp hfr hst (by decide) Tryz.call127 rfl (rputInt_ok (ns.getD k 0) _ (hns _ (getD_mem (by omega)))) ?_
  clear hfr hst
  intro a w2 hfr hst
  refine wlm hfr rfl fun a hfr => ?_
  refine wlv hfr (v_extract rfl rfl) fun a hfr => ?_
  refine wlv hfr (v_extract rfl rfl) fun a hfr => wla hfr rfl fun a hfr => wla hfr rfl fun a hfr => ?_
  refine wl_nil (hK8 _ _ ?_)
  replace hfr : Fr 25 [(0, _), (2, _), (4, _), (3, _), (5, _)] [] a := hfr.pick [0, 2, 4, 3, 5]
  refine wc_region ?_
  refine wlm hfr rfl fun a hfr => wlm hfr rfl fun a hfr => ?_
  refine wlv hfr (v_sadd rfl rfl (by have h1 := puts_len (ns.take k); have h2 := (putI_len (ns.getD k 0)).2; rw [List.length_take] at h1; omega)) fun a hfr => wla hfr rfl fun a hfr => ?_
  refine wl_nil ?_
  refine hK7 _ _ ?_
  refine wc_region ?_
  refine wlm hfr rfl fun a hfr => ?_
  refine wlv hfr (v_add rfl rfl ⟨by omega, by omega⟩) fun a hfr => wla hfr rfl fun a hfr => ?_
  refine wl_nil ?_
  rw [show puts (ns.take k) ++ putI (ns.getD k 0) = puts (ns.take (k + 1)) from by rw [take_snoc 0 (by omega), puts_snoc]] at hfr
  refine ⟨_, ?_, k + 1, rfl, (by omega), hfr.pick [0, 2, 4, 3], hst.select [] (by decide)⟩
  omega
 rw [hc1] at hfr
 try simp only [qz] at hc1
 obtain rfl : k = ns.length := by omega
 rw [List.take_length] at hfr
 refine wc_exit ?_
 refine hK3 _ _ ?_
 refine wc_seq_region fun K9 hK9 => ?_
 refine wlm hfr rfl fun a hfr => wla hfr rfl fun a hfr => ?_
 refine wl_nil (hK9 _ _ ?_)
 replace hfr : Fr 25 [(2, _)] [] a := hfr.pick [2]
 refine wc_ret ?_
 refine fin_ret hfr Tryz.results80 (resAre_tmp rfl resAre_nil) ?_
 exact ⟨rfl, hst.ext⟩
theorem rwcontent_ok (x : Wsh) (w0 : World) (hx : smalls x.nums) :
  Ret Tryz.prog 37 #[.agg #[iv x.signer, iv x.holder, iv x.rf, iv x.rt, iv x.carrier, iv x.serial, iv x.sf, iv x.st, sv x.sig]] w0 fun v w => v = sv x.content ∧ Ext No w0 w := by
 refine ret_of Tryz.func37 rfl Tryz.ntmps37 (lb rfl) fun a hfr => ?_
 replace hfr : Fr 25 [(0, _)] [] a := hfr
 replace hst : St No w0 [] w0 := St.init w0
 refine wc_seq_region fun K1 hK1 => ?_
 refine wl_box hfr hst (by decide) rfl (cs := [iv x.signer, iv x.holder, iv x.rf, iv x.rt, iv x.carrier, iv x.serial, iv x.sf, iv x.st, sv x.sig]) rfl ?_
 clear hfr hst
 intro a w1 hfr hst
 refine wla hfr rfl fun a hfr => ?_
 refine wl_nil (hK1 _ _ ?_)
 refine wc_seq_region fun K2 hK2 => ?_
 refine wlv hfr (v_fieldAddr (v := .pointer (some ⟨w0.heap.size, 0, none⟩)) rfl (by kernel_rfl)) fun a hfr => ?_
 refine wlv hfr (v_load_blk1 (hst.get (k := 0) rfl) rfl (Tryz.isAgg3 _) rfl) fun a hfr => ?_
 refine wlv hfr (v_fieldAddr (v := .pointer (some ⟨w0.heap.size, 1, none⟩)) rfl (by kernel_rfl)) fun a hfr => ?_
 refine wlv hfr (v_load_blk1 (hst.get (k := 0) rfl) rfl (Tryz.isAgg3 _) rfl) fun a hfr => ?_
 refine wlv hfr (v_fieldAddr (v := .pointer (some ⟨w0.heap.size, 2, none⟩)) rfl (by kernel_rfl)) fun a hfr => ?_
 refine wlv hfr (v_fieldAddr (v := .pointer (some ⟨w0.heap.size, 2, none⟩)) rfl (by kernel_rfl)) fun a hfr => ?_
 refine wlv hfr (v_load_blk1 (hst.get (k := 0) rfl) rfl (Tryz.isAgg3 _) rfl) fun a hfr => ?_
 refine wlv hfr (v_fieldAddr (v := .pointer (some ⟨w0.heap.size, 2, none⟩)) rfl (by kernel_rfl)) fun a hfr => ?_
 refine wlv hfr (v_fieldAddr (v := .pointer (some ⟨w0.heap.size, 3, none⟩)) rfl (by kernel_rfl)) fun a hfr => ?_
 refine wlv hfr (v_load_blk1 (hst.get (k := 0) rfl) rfl (Tryz.isAgg3 _) rfl) fun a hfr => ?_
 refine wlv hfr (v_fieldAddr (v := .pointer (some ⟨w0.heap.size, 4, none⟩)) rfl (by kernel_rfl)) fun a hfr => ?_
 refine wlv hfr (v_load_blk1 (hst.get (k := 0) rfl) rfl (Tryz.isAgg3 _) rfl) fun a hfr => ?_
 refine wlv hfr (v_fieldAddr (v := .pointer (some ⟨w0.heap.size, 5, none⟩)) rfl (by kernel_rfl)) fun a hfr => ?_
 refine wlv hfr (v_load_blk1 (hst.get (k := 0) rfl) rfl (Tryz.isAgg3 _) rfl) fun a hfr => ?_
 refine wlv hfr (v_fieldAddr (v := .pointer (some ⟨w0.heap.size, 6, none⟩)) rfl (by kernel_rfl)) fun a hfr => ?_
 refine wlv hfr (v_fieldAddr (v := .pointer (some ⟨w0.heap.size, 6, none⟩)) rfl (by kernel_rfl)) fun a hfr => ?_
 refine wlv hfr (v_load_blk1 (hst.get (k := 0) rfl) rfl (Tryz.isAgg3 _) rfl) fun a hfr => ?_
 refine wlv hfr (v_fieldAddr (v := .pointer (some ⟨w0.heap.size, 6, none⟩)) rfl (by kernel_rfl)) fun a hfr => ?_
 refine wlv hfr (v_fieldAddr (v := .pointer (some ⟨w0.heap.size, 7, none⟩)) rfl (by kernel_rfl)) fun a hfr => ?_
 refine wlv hfr (v_load_blk1 (hst.get (k := 0) rfl) rfl (Tryz.isAgg3 _) rfl) fun a hfr => ?_
 refine wl_buildSlice (E := 3) (sz := 1) rfl [[iv 1], [iv x.signer], [iv x.holder], [iv x.rf], [iv x.rt], [iv x.carrier], [iv x.serial], [iv x.sf], [iv x.st]] (by kernel_rfl) (by simp) rfl (by decide) (by decide) hfr hst ?_
 clear hfr hst
 intro a w2 hfr hst
 refine wl_callp hfr hst (by decide) Tryz.call80 rfl (rputs_ok [1, x.signer, x.holder, x.rf, x.rt, x.carrier, x.serial, x.sf, x.st] (.slice (some ⟨w1.heap.size, 0, none⟩) 9 9) _ (hst.ownAt (i := 0) rfl) (hx) (by simp)) ?_
 clear hfr hst
 intro a w3 hfr hst
 refine wla hfr rfl fun a hfr => ?_
 refine wl_nil (hK2 _ _ ?_)
 replace hfr : Fr 25 [(2, _)] [] a := hfr.pick [2]
 replace hst : St No w0 [] w3 := hst.mask [false, false]
 refine wc_ret ?_
 refine fin_ret hfr Tryz.results37 (resAre_tmp rfl resAre_nil) ?_
 exact ⟨by rfl, hst.ext⟩
theorem rpcontent_ok (x : Pxy) (w0 : World) (hx : smalls x.nums) :
  Ret Tryz.prog 38 #[.agg #[iv x.frm, iv x.to, iv x.rf, iv x.rt, iv x.sf, iv x.st, sv x.sig]] w0 fun v w => v = sv x.content ∧ Ext No w0 w := by
 refine ret_of Tryz.func38 rfl Tryz.ntmps38 (lb rfl) fun a hfr => ?_
 replace hfr : Fr 21 [(0, _)] [] a := hfr
 replace hst : St No w0 [] w0 := St.init w0
 refine wc_seq_region fun K1 hK1 => ?_
 refine wl_box hfr hst (by decide) rfl (cs := [iv x.frm, iv x.to, iv x.rf, iv x.rt, iv x.sf, iv x.st, sv x.sig]) rfl ?_
 clear hfr hst
 intro a w1 hfr hst
 refine wla hfr rfl fun a hfr => ?_
 refine wl_nil (hK1 _ _ ?_)
 refine wc_seq_region fun K2 hK2 => ?_
 refine wlv hfr (v_fieldAddr (v := .pointer (some ⟨w0.heap.size, 0, none⟩)) rfl (by kernel_rfl)) fun a hfr => ?_
 refine wlv hfr (v_load_blk1 (hst.get (k := 0) rfl) rfl (Tryz.isAgg3 _) rfl) fun a hfr => ?_
 refine wlv hfr (v_fieldAddr (v := .pointer (some ⟨w0.heap.size, 1, none⟩)) rfl (by kernel_rfl)) fun a hfr => ?_
 refine wlv hfr (v_load_blk1 (hst.get (k := 0) rfl) rfl (Tryz.isAgg3 _) rfl) fun a hfr => ?_
 refine wlv hfr (v_fieldAddr (v := .pointer (some ⟨w0.heap.size, 2, none⟩)) rfl (by kernel_rfl)) fun a hfr => ?_
 refine wlv hfr (v_fieldAddr (v := .pointer (some ⟨w0.heap.size, 2, none⟩)) rfl (by kernel_rfl)) fun a hfr => ?_
 refine wlv hfr (v_load_blk1 (hst.get (k := 0) rfl) rfl (Tryz.isAgg3 _) rfl) fun a hfr => ?_
 refine wlv hfr (v_fieldAddr (v := .pointer (some ⟨w0.heap.size, 2, none⟩)) rfl (by kernel_rfl)) fun a hfr => ?_
 refine wlv hfr (v_fieldAddr (v := .pointer (some ⟨w0.heap.size, 3, none⟩)) rfl (by kernel_rfl)) fun a hfr => ?_
 refine wlv hfr (v_load_blk1 (hst.get (k := 0) rfl) rfl (Tryz.isAgg3 _) rfl) fun a hfr => ?_
 refine wlv hfr (v_fieldAddr (v := .pointer (some ⟨w0.heap.size, 4, none⟩)) rfl (by kernel_rfl)) fun a hfr => ?_
 refine wlv hfr (v_fieldAddr (v := .pointer (some ⟨w0.heap.size, 4, none⟩)) rfl (by kernel_rfl)) fun a hfr => ?_
 refine wlv hfr (v_load_blk1 (hst.get (k := 0) rfl) rfl (Tryz.isAgg3 _) rfl) fun a hfr => ?_
 refine wlv hfr (v_fieldAddr (v := .pointer (some ⟨w0.heap.size, 4, none⟩)) rfl (by kernel_rfl)) fun a hfr => ?_
 refine wlv hfr (v_fieldAddr (v := .pointer (some ⟨w0.heap.size, 5, none⟩)) rfl (by kernel_rfl)) fun a hfr => ?_
 refine wlv hfr (v_load_blk1 (hst.get (k := 0) rfl) rfl (Tryz.isAgg3 _) rfl) fun a hfr => ?_
 refine wl_buildSlice (E := 3) (sz := 1) rfl [[iv 2], [iv x.frm], [iv x.to], [iv x.rf], [iv x.rt], [iv x.sf], [iv x.st]] (by kernel_rfl) (by simp) rfl (by decide) (by decide) hfr hst ?_
 clear hfr hst
 intro a w2 hfr hst
 refine wl_callp hfr hst (by decide) Tryz.call80 rfl (rputs_ok [2, x.frm, x.to, x.rf, x.rt, x.sf, x.st] (.slice (some ⟨w1.heap.size, 0, none⟩) 7 7) _ (hst.ownAt (i := 0) rfl) (hx) (by simp)) ?_
 clear hfr hst
 intro a w3 hfr hst
 refine wla hfr rfl fun a hfr => ?_
 refine wl_nil (hK2 _ _ ?_)
 replace hfr : Fr 21 [(2, _)] [] a := hfr.pick [2]
 replace hst : St No w0 [] w3 := hst.mask [false, false]
 refine wc_ret ?_
 refine fin_ret hfr Tryz.results38 (resAre_tmp rfl resAre_nil) ?_
 exact ⟨by rfl, hst.ext⟩
theorem racontent_ok (b d : Int) (w0 : World) (hx : smalls [3, b, d]) :
  Ret Tryz.prog 90 #[iv b, iv d] w0 fun v w => v = sv (puts [3, b, d]) ∧ Ext No w0 w := by
 refine ret_of Tryz.func90 rfl Tryz.ntmps90 (lb rfl) fun a hfr => ?_
 replace hfr : Fr 9 [(0, _), (1, _)] [] a := hfr
 replace hst : St No w0 [] w0 := St.init w0
 refine wc_seq_region fun K1 hK1 => ?_
 refine wla hfr rfl fun a hfr => ?_
 refine wl_nil (hK1 _ _ ?_)
 refine wc_seq_region fun K2 hK2 => ?_
 refine wlm hfr rfl fun a hfr => wlm hfr rfl fun a hfr => ?_
 refine wl_buildSlice (E := 3) (sz := 1) rfl [[iv 3], [iv b], [iv d]] (by kernel_rfl) (by simp) rfl (by decide) (by decide) hfr hst ?_
 clear hfr hst
 intro a w1 hfr hst
 refine wl_callp hfr hst (by decide) Tryz.call80 rfl (rputs_ok [3, b, d] (.slice (some ⟨w0.heap.size, 0, none⟩) 3 3) _ (hst.ownAt (i := 0) rfl) (hx) (by simp)) ?_
 clear hfr hst
 intro a w2 hfr hst
 refine wla hfr rfl fun a hfr => ?_
 refine wl_nil (hK2 _ _ ?_)
 replace hfr : Fr 9 [(4, _)] [] a := hfr.pick [4]
 replace hst : St No w0 [] w2 := hst.mask [false]
 refine wc_ret ?_
 refine fin_ret hfr Tryz.results90 (resAre_tmp rfl resAre_nil) ?_
 exact ⟨by rfl, hst.ext⟩
theorem rseal_ok (key s : By) (w0 : World) (hk : key.length ≤ 40000000) (hs : s.length ≤ 40000000) :
  Ret Tryz.prog 71 #[sv key, sv s] w0 fun v w => v = sv (sealH key s) ∧ Ext No w0 w := by
 refine ret_of Tryz.func71 rfl Tryz.ntmps71 (lb rfl) fun a hfr => ?_
 replace hfr : Fr 9 [(0, _), (1, _)] [] a := hfr
 replace hst : St No w0 [] w0 := St.init w0
 refine wc_seq_region fun K1 hK1 => ?_
 refine wla hfr rfl fun a hfr => ?_
 refine wl_nil (hK1 _ _ ?_)
 refine wc_seq_region fun K2 hK2 => ?_
 refine wlm hfr rfl fun a hfr => wlm hfr rfl fun a hfr => ?_
 refine wl_callp hfr hst (by decide) Tryz.call92 rfl (rleaf_ok s _ (by omega)) ?_
 clear hfr hst
 intro a w1 hfr hst
 refine wl_callp hfr hst (by decide) Tryz.call124 rfl (rnode_ok key (leafH sha s) _ (by omega) (by rw [leaf_len sha_len]; decide)) ?_
 clear hfr hst
 intro a w2 hfr hst
 refine wla hfr rfl fun a hfr => ?_
 refine wl_nil (hK2 _ _ ?_)
 replace hfr : Fr 9 [(4, _)] [] a := hfr.pick [4]
 refine wc_ret ?_
 refine fin_ret hfr Tryz.results71 (resAre_tmp rfl resAre_nil) ?_
 exact ⟨by rfl, hst.ext⟩
end Go.Proofs.YtmmfieceinmloaaGreatDoor
namespace Go.Proofs.YtmmfieceinmloaaGreatDoor
open Go.RowKit Go.PW
set_option linter.unusedVariables false
set_option linter.unusedSimpArgs false
set_option maxRecDepth 4000
theorem v_conv_iy2 {P : Program} {w : World} {L : List (Nat × Value)} {dst : Option Tmp} {T T' ty : TypeId} {pos : String} {af : Array Edge} {gd : Option (Nat × Bool)} {x : Operand} {n : Int} (hx : ev L x = some (iv n)) (hs : (P.underlying T).isSome = true) (hd : P.underlying T' = some (.int .u8)) : OpV P ⟨dst, .convert T T' x, ty, pos, af, gd⟩ L w (yv (UInt8.ofNat (n % 256).toNat)) :=
 (v_iconv hx hs hd).as (by
  have h1 : 0 ≤ n % 256 := Int.emod_nonneg _ (by decide)
  have h2 : n % 256 < 256 := Int.emod_lt_of_pos _ (by decide)
  have e : ((UInt8.ofNat (n % 256).toNat).toNat : Int) = n % 256 := by rw [ofNat_lt (by omega)]; omega
  unfold yv
  rw [e]
  simp [IntKind.wrap, IntKind.signed, IntKind.bits])
def kfill (b : UInt8) (k : Nat) : By := List.replicate k b ++ List.replicate (32 - k) 0
theorem kfill_set {b : UInt8} {k : Nat} (h : k < 32) : (kfill b k).set k b = kfill b (k + 1) := by
 unfold kfill
 rw [List.set_append_right _ _ (by simp), List.length_replicate, Nat.sub_self, show 32 - k = (32 - (k + 1)) + 1 from by omega, List.replicate_succ, List.set_cons_zero, List.replicate_succ']
 simp
theorem kfill_len {b : UInt8} {k : Nat} (h : k ≤ 32) : (kfill b k).length = 32 := by simp [kfill]; omega
theorem kfill_all (b : UInt8) : kfill b 32 = List.replicate 32 b := by simp [kfill]
theorem pick15_ok (n m : Int) (w0 : World) (hn : -9223372036854775808 ≤ n ∧ n ≤ 9223372036854775807) (hm : 0 < m ∧ m ≤ 9223372036854775807) :
  Ret Tryz.prog 53 #[iv n, iv m] w0 fun v w => v = iv (pickI n m) ∧ Ext No w0 w := by
 refine ret_of Tryz.func53 rfl Tryz.ntmps53 (lb rfl) fun a hfr => ?_
 replace hfr : Fr 13 [(0, _), (1, _)] [] a := hfr
 replace hst : St No w0 [] w0 := St.init w0
 refine wc_seq_region fun K1 hK1 => ?_
 refine wla hfr rfl fun a hfr => ?_
 refine wl_nil (hK1 _ _ ?_)
 refine wc_seq_k fun K2 hK2 => ?_
 refine wc_seq_region fun K3 hK3 => ?_
 refine wlm hfr rfl fun a hfr => ?_
 refine wlv hfr (v_lt rfl rfl) fun a hfr => ?_
 refine wl_nil (hK3 _ _ ?_)
 refine wc_cond hfr rfl (fun hc1 => ?_) (fun hc1 => ?_)
 ·rw [hc1] at hfr
  try simp only [qz] at hc1
  refine wc_region ?_
  refine wlm hfr rfl fun a hfr => ?_
  refine wlv hfr (v_add rfl rfl ⟨by omega, by omega⟩) fun a hfr => ?_
  refine wlv hfr (v_neg rfl (by omega) (by omega)) fun a hfr => wla hfr rfl fun a hfr => ?_
  refine wl_nil ?_
  refine hK2 _ _ ?_
  refine wc_seq_region fun K4 hK4 => ?_
  refine wlm hfr rfl fun a hfr => wlm hfr rfl fun a hfr => ?_
  refine wlv hfr (v_rem rfl rfl (by omega) (by omega)) fun a hfr => wla hfr rfl fun a hfr => ?_
  refine wl_nil (hK4 _ _ ?_)
  replace hfr : Fr 13 [(4, _)] [] a := hfr.pick [4]
  refine wc_ret ?_
  refine fin_ret hfr Tryz.results53 (resAre_tmp rfl resAre_nil) ?_
  exact ⟨by simp only [retv, pickI]; simp [hc1], hst.ext⟩
 rw [hc1] at hfr
 try simp only [qz] at hc1
 refine wc_skip ?_
 refine hK2 _ _ ?_
 refine wc_seq_region fun K5 hK5 => ?_
 refine wlm hfr rfl fun a hfr => wlm hfr rfl fun a hfr => ?_
 refine wlv hfr (v_rem rfl rfl (by omega) (by omega)) fun a hfr => wla hfr rfl fun a hfr => ?_
 refine wl_nil (hK5 _ _ ?_)
 replace hfr : Fr 13 [(4, _)] [] a := hfr.pick [4]
 refine wc_ret ?_
 refine fin_ret hfr Tryz.results53 (resAre_tmp rfl resAre_nil) ?_
 exact ⟨by simp only [retv, pickI]; simp [hc1], hst.ext⟩
theorem key_ok (h : Int) (w0 : World) :
  Ret Tryz.prog 21 #[iv h] w0 fun v w => v = sv (keyH h) ∧ Ext No w0 w := by
 refine ret_of Tryz.func21 rfl Tryz.ntmps21 (lb rfl) fun a hfr => ?_
 replace hfr : Fr 19 [(0, _)] [] a := hfr
 replace hst : St No w0 [] w0 := St.init w0
 refine wc_seq_region fun K1 hK1 => ?_
 refine wla hfr rfl fun a hfr => ?_
 refine wl_nil (hK1 _ _ ?_)
 refine wc_seq_region fun K2 hK2 => ?_
 refine wl_makeSlice (n := 32) (E := 5) (sz := 1) rfl rfl ((kfill (UInt8.ofNat (h % 256).toNat) 0).map fun b => [yv b]) (by kernel_rfl) (by intro e he; first | (simp at he; simp [he]; done) | (obtain ⟨_, _, rfl⟩ := List.mem_map.1 he; rfl)) (by simp [kfill]) (by decide) (by decide) hfr hst ?_
 clear hfr hst
 intro a w1 hfr hst
 refine wla hfr rfl fun a hfr => ?_
 refine wl_nil (hK2 _ _ ?_)
 refine wc_seq_k fun K3 hK3 => ?_
 refine wc_seq_region fun K4 hK4 => ?_
 refine wla hfr rfl fun a hfr => ?_
 refine wl_nil (hK4 _ _ ?_)
 refine wc_block ?_
 refine wc_loop (fun m a w => ∃ (k : Nat), m = 32 - k ∧ (k ≤ 32) ∧ Fr 19 [(0, iv h), (2, sv ([])), (3, (.slice (some ⟨w0.heap.size, 0, none⟩) 32 32)), (4, iv (k : Int))] [] a ∧ St No w0 [own (.slice (some ⟨w0.heap.size, 0, none⟩) 32 32) 5 1 ((kfill (UInt8.ofNat (h % 256).toNat) k).map fun b => [yv b])] w) _ ⟨0, rfl, Nat.zero_le _, hfr.pick [0, 2, 3, 4], hst⟩ ?_
 rintro _ a w2 ⟨k, rfl, hk, hfr, hst⟩
 refine wc_seq_k fun K5 hK5 => ?_
 refine wc_seq_region fun K6 hK6 => ?_
 refine wlm hfr rfl fun a hfr => wlm hfr rfl fun a hfr => ?_
 refine wlv hfr ((v_len_sl (sT := 62) (hst.ownAt (i := 0) rfl) rfl rfl (Tryz.runUnderlying62 _)).asi (m' := 32) (by rw [List.length_map, kfill_len (by omega)]; rfl)) fun a hfr => ?_
 refine wlv hfr (v_lt rfl rfl) fun a hfr => ?_
 refine wl_nil (hK6 _ _ ?_)
 refine wc_cond hfr rfl (fun hc1 => ?_) (fun hc1 => ?_)
 ·rw [hc1] at hfr
  try simp only [qz] at hc1
  have hk2 : k < 32 := by omega
  refine wc_skip ?_
  refine hK5 _ _ ?_
  refine wc_seq_k fun K7 hK7 => ?_
  refine wc_block ?_
  refine wc_region ?_
  refine wlm hfr rfl fun a hfr => wlm hfr rfl fun a hfr => wlm hfr rfl fun a hfr => ?_
  refine wlv hfr (v_conv_iy2 (n := h) rfl (by kernel_rfl) Tryz.underlying5) fun a hfr => ?_
  refine wlv hfr ((v_indexAddr_sl (i := (k : Int)) (sT := 62) (hst.ownAt (i := 0) rfl) rfl rfl (Tryz.runUnderlying62 _) (Tryz.sizeOf5 _) (by omega) (by rw [List.length_map, kfill_len (by omega)]; omega)).as (v' := slAddr (.slice (some ⟨w0.heap.size, 0, none⟩) 32 32) (k * 1)) rfl) fun a hfr => ?_
  refine wl_store_el (k := k) (us := [yv (UInt8.ofNat (h % 256).toNat)]) 0 hfr hst rfl rfl rfl (by rw [List.length_map, kfill_len (by omega)]; omega) (by omega) (Tryz.sizeOf5 _) rfl (by first | rfl | simp [Value.oneCell', yv, wv, sv]) rfl rfl ?_
  clear hfr hst
  intro a w3 hfr hst
  refine wl_nil ?_
  refine hK7 _ _ ?_
  replace hfr : Fr 19 [(0, _), (2, _), (3, _), (4, _)] [] a := hfr.pick [0, 2, 3, 4]
  refine wc_region ?_
  refine wlm hfr rfl fun a hfr => ?_
  refine wlv hfr (v_add rfl rfl ⟨by omega, by omega⟩) fun a hfr => wla hfr rfl fun a hfr => ?_
  refine wl_nil ?_
  rw [show ((kfill (UInt8.ofNat (h % 256).toNat) k).map fun b => [yv b]).set k [yv (UInt8.ofNat (h % 256).toNat)] = ((kfill (UInt8.ofNat (h % 256).toNat) (k + 1)).map fun b => [yv b]) from by rw [← kfill_set hk2, List.map_set]] at hst
  refine ⟨_, ?_, k + 1, rfl, (by omega), hfr.pick [0, 2, 3, 4], hst⟩
  omega
 rw [hc1] at hfr
 try simp only [qz] at hc1
 obtain rfl : k = 32 := by omega
 refine wc_exit ?_
 refine hK3 _ _ ?_
 refine wc_seq_region fun K8 hK8 => ?_
 refine wlm hfr rfl fun a hfr => ?_
 refine wlv hfr (v_conv_sls (hst.ownAt (i := 0) rfl) rfl Tryz.underlying62 Tryz.underlying5 Tryz.underlying9) fun a hfr => wla hfr rfl fun a hfr => ?_
 refine wl_nil (hK8 _ _ ?_)
 replace hfr : Fr 19 [(2, _)] [] a := hfr.pick [2]
 replace hst : St No w0 [] w2 := hst.mask [false]
 refine wc_ret ?_
 refine fin_ret hfr Tryz.results21 (resAre_tmp rfl resAre_nil) ?_
 exact ⟨by rw [kfill_all]; rfl, hst.ext⟩
def keysTo (k : Nat) : List By := (List.range k).map fun h : Nat => keyH (h : Int)
theorem keysTo_succ (k : Nat) : keysTo (k + 1) = keysTo k ++ [keyH (k : Int)] := by simp [keysTo, List.range_succ]
theorem keysTo_len (k : Nat) : (keysTo k).length = k := by simp [keysTo]
theorem keys_ok (w0 : World) :
  Ret Tryz.prog 13 #[] w0 (MemR w0 (fun v : Value => v) (fun v => [own v 9 1 (keysH.map fun s => [sv s])]) (fun _ => True)) := by
 refine ret_of Tryz.func13 rfl Tryz.ntmps13 (lb rfl) fun a hfr => ?_
 replace hfr : Fr 13 [] [] a := hfr
 replace hst : St No w0 [] w0 := St.init w0
 refine wc_seq_region fun K1 hK1 => ?_
 refine wla hfr rfl fun a hfr => ?_
 refine wl_nil (hK1 _ _ ?_)
 refine wc_seq_region fun K2 hK2 => ?_
 refine wla hfr rfl fun a hfr => ?_
 refine wl_nil (hK2 _ _ ?_)
 refine wc_seq_k fun K3 hK3 => ?_
 refine wc_seq_region fun K4 hK4 => ?_
 refine wla hfr rfl fun a hfr => ?_
 refine wl_nil (hK4 _ _ ?_)
 refine wc_block ?_
 replace hst : St No w0 [own (.slice none 0 0) 9 1 ((keysTo 0).map fun s => [sv s])] w0 := hst.nil_own
 refine wc_loop (fun m a w => ∃ (k : Nat) (v : Value), m = 10 - k ∧ (k ≤ 10) ∧ Fr 13 [(0, .slice none 0 0), (1, v), (2, iv (k : Int))] [] a ∧ St No w0 [own v 9 1 ((keysTo k).map fun s => [sv s])] w) _ ⟨0, .slice none 0 0, rfl, Nat.zero_le _, hfr.pick [0, 1, 2], hst⟩ ?_
 rintro _ a w1 ⟨k, v, rfl, hk, hfr, hst⟩
 refine wc_seq_k fun K5 hK5 => ?_
 refine wc_seq_region fun K6 hK6 => ?_
 refine wlm hfr rfl fun a hfr => ?_
 refine wlv hfr (v_lt rfl rfl) fun a hfr => ?_
 refine wl_nil (hK6 _ _ ?_)
 refine wc_cond hfr rfl (fun hc1 => ?_) (fun hc1 => ?_)
 ·rw [hc1] at hfr
  try simp only [qz] at hc1
  refine wc_skip ?_
  refine hK5 _ _ ?_
  refine wc_seq_k fun K7 hK7 => ?_
  refine wc_block ?_
  refine wc_region ?_
  refine wlm hfr rfl fun a hfr => wlm hfr rfl fun a hfr => ?_
  refine wl_callp hfr hst (by decide) Tryz.call21 rfl (key_ok (k : Int) _) ?_
  clear hfr hst
  intro a w2 hfr hst
  refine wl_buildSlice (E := 9) (sz := 1) rfl [[sv (keyH (k : Int))]] (by kernel_rfl) (by simp) rfl (by decide) (by decide) hfr hst ?_
  clear hfr hst
  intro a w3 hfr hst
  refine wl_append (i := 1) (sT := 32) (inf := Tryz.t9) (z := .string (⟨#[]⟩)) (b := 0) (off := 0) (m := 0) (c := 0) rfl rfl rfl (hst.ownAt (i := 0) rfl) (by simp) Tryz.underlying32 rfl rfl rfl rfl (by decide) (by simp [Value.oneCell', yv, wv, sv]) (by have hby : Tryz.t9.bytes = 16 := rfl; simp [big, hby, keysTo_len] <;> omega) (by have hby : Tryz.t9.bytes = 16 := rfl; simp [big, hby, keysTo_len] <;> omega) (by decide) hfr hst fun a w4 s2 hfr hst _ => ?_
  rw [show ((keysTo k).map fun s => [sv s]) ++ ([[sv (keyH (k : Int))]]) = ((keysTo (k + 1)).map fun s => [sv s]) from by rw [keysTo_succ]; simp] at hst
  refine wla hfr rfl fun a hfr => ?_
  refine wl_nil ?_
  refine hK7 _ _ ?_
  replace hfr : Fr 13 [(0, _), (2, _), (1, _)] [] a := hfr.pick [0, 2, 1]
  replace hst : St No w0 [_] w4 := hst.mask [false, true]
  refine wc_region ?_
  refine wlm hfr rfl fun a hfr => ?_
  refine wlv hfr (v_add rfl rfl ⟨by omega, by omega⟩) fun a hfr => wla hfr rfl fun a hfr => ?_
  refine wl_nil ?_
  refine ⟨_, ?_, k + 1, s2, rfl, (by omega), hfr.pick [0, 1, 2], hst⟩
  omega
 rw [hc1] at hfr
 try simp only [qz] at hc1
 obtain rfl : k = 10 := by omega
 refine wc_exit ?_
 refine hK3 _ _ ?_
 refine wc_seq_region fun K8 hK8 => ?_
 refine wlm hfr rfl fun a hfr => wla hfr rfl fun a hfr => ?_
 refine wl_nil (hK8 _ _ ?_)
 refine wc_ret ?_
 refine fin_ret hfr Tryz.results13 (resAre_tmp rfl resAre_nil) ?_
 exact ⟨v, rfl, trivial, hst.ext, St.out (E := [own v 9 1 (keysH.map fun s => [sv s])]) (H := []) hst⟩
theorem narrowed_ok (b d l r : Int) (w0 : World) (hb : 0 ≤ b) (hbd : b < d) (hd : d ≤ 1000000000) (hl : (-9223372036854775808 ≤ l ∧ l ≤ 9223372036854775807)) (hr : (-9223372036854775808 ≤ r ∧ r ≤ 9223372036854775807)) :
  Ret Tryz.prog 54 #[iv b, iv d, iv l, iv r] w0 fun v w => v = .tuple #[iv (b + pickI l (d - b)), iv (d - pickI r (d - (b + pickI l (d - b))))] ∧ Ext No w0 w := by
 refine ret_of Tryz.func54 rfl Tryz.ntmps54 (lb rfl) fun a hfr => ?_
 replace hfr : Fr 26 [(0, _), (1, _), (2, _), (3, _)] [] a := hfr
 replace hst : St No w0 [] w0 := St.init w0
 have hp1 := pickI_lt l (n := d - b) (by omega)
 refine wc_seq_region fun K1 hK1 => ?_
 refine wla hfr rfl fun a hfr => wla hfr rfl fun a hfr => ?_
 refine wl_nil (hK1 _ _ ?_)
 refine wc_seq_region fun K2 hK2 => ?_
 refine wlm hfr rfl fun a hfr => wlm hfr rfl fun a hfr => wlm hfr rfl fun a hfr => wlm hfr rfl fun a hfr => ?_
 refine wlv hfr (v_sub rfl rfl ⟨by omega, by omega⟩) fun a hfr => ?_
 refine wl_callp hfr hst (by decide) Tryz.call53 rfl (pick15_ok l (d - b) _ (by omega) (by omega)) ?_
 clear hfr hst
 intro a w1 hfr hst
 refine wlv hfr (v_add rfl rfl ⟨by omega, by omega⟩) fun a hfr => wla hfr rfl fun a hfr => ?_
 refine wl_nil (hK2 _ _ ?_)
 replace hfr : Fr 26 [(1, _), (3, _), (8, _), (9, _), (10, _)] [] a := hfr.pick [1, 3, 8, 9, 10]
 have hp2 := pickI_lt r (n := d - (b + pickI l (d - b))) (by omega)
 refine wc_seq_region fun K3 hK3 => ?_
 refine wlm hfr rfl fun a hfr => wlm hfr rfl fun a hfr => wlm hfr rfl fun a hfr => wlm hfr rfl fun a hfr => wlm hfr rfl fun a hfr => ?_
 refine wlv hfr (v_sub rfl rfl ⟨by omega, by omega⟩) fun a hfr => ?_
 refine wl_callp hfr hst (by decide) Tryz.call53 rfl (pick15_ok r (d - (b + (pickI l (d - b)))) _ (by omega) (by omega)) ?_
 clear hfr hst
 intro a w2 hfr hst
 refine wlv hfr (v_sub rfl rfl ⟨by omega, by omega⟩) fun a hfr => wla hfr rfl fun a hfr => wla hfr rfl fun a hfr => ?_
 refine wl_nil (hK3 _ _ ?_)
 replace hfr : Fr 26 [(8, _), (9, _)] [] a := hfr.pick [8, 9]
 refine wc_ret ?_
 refine fin_ret hfr Tryz.results54 (resAre_tmp rfl (resAre_tmp rfl resAre_nil)) ?_
 exact ⟨by rfl, hst.ext⟩
theorem rsignwish_ok (key : By) (x : Wsh) (w0 : World) (hk : key.length = 32) (hok : x.ok = true) :
  Ret Tryz.prog 23 #[sv key, .agg #[iv x.signer, iv x.holder, iv x.rf, iv x.rt, iv x.carrier, iv x.serial, iv x.sf, iv x.st, sv x.sig]] w0 fun v w => v = .tuple #[.agg #[iv x.signer, iv x.holder, iv x.rf, iv x.rt, iv x.carrier, iv x.serial, iv x.sf, iv x.st, sv (sealH key x.content)], iv 0] ∧ Ext No w0 w := by
 refine ret_of Tryz.func23 rfl Tryz.ntmps23 (lb rfl) fun a hfr => ?_
 replace hfr : Fr 21 [(0, _), (1, _)] [] a := hfr
 replace hst : St No w0 [] w0 := St.init w0
 refine wc_seq_region fun K1 hK1 => ?_
 refine wl_box hfr hst (by decide) rfl (cs := [iv x.signer, iv x.holder, iv x.rf, iv x.rt, iv x.carrier, iv x.serial, iv x.sf, iv x.st, sv x.sig]) rfl ?_
 clear hfr hst
 intro a w1 hfr hst
 refine wl_alloc hfr hst (by decide) (Tryz.zeroValue30 _) (cs := [iv 0, iv 0, iv 0, iv 0, iv 0, iv 0, iv 0, iv 0, .string (⟨#[]⟩)]) rfl ?_
 clear hfr hst
 intro a w2 hfr hst
 refine wla hfr rfl fun a hfr => ?_
 refine wl_nil (hK1 _ _ ?_)
 refine wc_seq_k fun K2 hK2 => ?_
 refine wc_seq_region fun K3 hK3 => ?_
 refine wlm hfr rfl fun a hfr => ?_
 refine wlv hfr (v_len_str rfl rfl (Tryz.runUnderlying9 _)) fun a hfr => ?_
 refine wlv hfr ((v_ne rfl rfl).asb (b' := false) (by simp [hk])) fun a hfr => wlm hfr rfl fun a hfr => wly hfr (v_load_all (hst.get (k := 1) rfl) rfl (Tryz.isAgg30 _) (Tryz.sizeOf30 _)) fun a hfr => ?_
 refine wl_callpy hfr hst (by decide) rfl (by decide) rfl Tryz.call68 rfl (rwish_ok x _) ?_
 clear hfr hst
 intro a w3 hfr hst
 refine wly hfr (v_not rfl) fun a hfr => ?_
 refine wlv hfr (v_pick_f rfl rfl) fun a hfr => ?_
 refine wl_nil (hK3 _ _ ?_)
 replace hfr : Fr 21 [(0, _), (3, _), (4, _), (5, _), (13, _)] [] a := hfr.pick [0, 3, 4, 5, 13]
 refine wc_cond hfr rfl (fun hc1 => ?_) (fun hc1 => ?_)
 ·rw [hc1] at hfr
  try simp only [qz] at hc1
  simp [hok] at hc1
 rw [hc1] at hfr
 try simp only [qz] at hc1
 refine wc_skip ?_
 refine hK2 _ _ ?_
 refine wc_seq_region fun K4 hK4 => ?_
 refine wlm hfr rfl fun a hfr => ?_
 refine wlv hfr (v_load_all (hst.get (k := 1) rfl) rfl (Tryz.isAgg30 _) (Tryz.sizeOf30 _)) fun a hfr => ?_
 refine wl_callp hfr hst (by decide) Tryz.call37 rfl (rwcontent_ok x _ (Wsh.smalls_of hok)) ?_
 clear hfr hst
 intro a w4 hfr hst
 refine wl_callp hfr hst (by decide) Tryz.call71 rfl (rseal_ok key x.content _ (by omega) (Nat.le_trans x.content_len (by decide))) ?_
 clear hfr hst
 intro a w5 hfr hst
 refine wlv hfr (v_fieldAddr (v := .pointer (some ⟨w0.heap.size, 8, none⟩)) rfl (by kernel_rfl)) fun a hfr => ?_
 refine wl_store 1 hfr hst rfl rfl rfl (Tryz.sizeOf9 _) rfl (lb rfl) (ds := [iv x.signer, iv x.holder, iv x.rf, iv x.rt, iv x.carrier, iv x.serial, iv x.sf, iv x.st, sv (sealH key x.content)]) rfl rfl ?_
 clear hfr hst
 intro a w6 hfr hst
 refine wl_nil (hK4 _ _ ?_)
 replace hfr : Fr 21 [(3, _), (4, _), (5, _)] [] a := hfr.pick [3, 4, 5]
 refine wc_seq_region fun K5 hK5 => ?_
 refine wlv hfr (v_load_all (hst.get (k := 1) rfl) rfl (Tryz.isAgg30 _) (Tryz.sizeOf30 _)) fun a hfr => ?_
 refine wl_store 0 hfr hst rfl rfl rfl (Tryz.sizeOf30 _) rfl (lb rfl) (ds := [iv x.signer, iv x.holder, iv x.rf, iv x.rt, iv x.carrier, iv x.serial, iv x.sf, iv x.st, sv (sealH key x.content)]) rfl rfl ?_
 clear hfr hst
 intro a w7 hfr hst
 refine wla hfr rfl fun a hfr => ?_
 refine wl_nil (hK5 _ _ ?_)
 refine wc_ret ?_
 refine fin_ret hfr Tryz.results23 (resAre_cell rfl (res_all (hst.get (k := 0) rfl) (Tryz.isAgg30 _) (Tryz.sizeOf30 _)) (resAre_tmp rfl resAre_nil)) ?_
 exact ⟨by rfl, hst.ext⟩
theorem rsignproxy_ok (key : By) (x : Pxy) (w0 : World) (hk : key.length = 32) (hok : x.ok = true) :
  Ret Tryz.prog 25 #[sv key, .agg #[iv x.frm, iv x.to, iv x.rf, iv x.rt, iv x.sf, iv x.st, sv x.sig]] w0 fun v w => v = .tuple #[.agg #[iv x.frm, iv x.to, iv x.rf, iv x.rt, iv x.sf, iv x.st, sv (sealH key x.content)], iv 0] ∧ Ext No w0 w := by
 refine ret_of Tryz.func25 rfl Tryz.ntmps25 (lb rfl) fun a hfr => ?_
 replace hfr : Fr 21 [(0, _), (1, _)] [] a := hfr
 replace hst : St No w0 [] w0 := St.init w0
 refine wc_seq_region fun K1 hK1 => ?_
 refine wl_box hfr hst (by decide) rfl (cs := [iv x.frm, iv x.to, iv x.rf, iv x.rt, iv x.sf, iv x.st, sv x.sig]) rfl ?_
 clear hfr hst
 intro a w1 hfr hst
 refine wl_alloc hfr hst (by decide) (Tryz.zeroValue40 _) (cs := [iv 0, iv 0, iv 0, iv 0, iv 0, iv 0, .string (⟨#[]⟩)]) rfl ?_
 clear hfr hst
 intro a w2 hfr hst
 refine wla hfr rfl fun a hfr => ?_
 refine wl_nil (hK1 _ _ ?_)
 refine wc_seq_k fun K2 hK2 => ?_
 refine wc_seq_region fun K3 hK3 => ?_
 refine wlm hfr rfl fun a hfr => ?_
 refine wlv hfr (v_len_str rfl rfl (Tryz.runUnderlying9 _)) fun a hfr => ?_
 refine wlv hfr ((v_ne rfl rfl).asb (b' := false) (by simp [hk])) fun a hfr => wlm hfr rfl fun a hfr => wly hfr (v_load_all (hst.get (k := 1) rfl) rfl (Tryz.isAgg40 _) (Tryz.sizeOf40 _)) fun a hfr => ?_
 refine wl_callpy hfr hst (by decide) rfl (by decide) rfl Tryz.call69 rfl (rproxy_ok x _) ?_
 clear hfr hst
 intro a w3 hfr hst
 refine wly hfr (v_not rfl) fun a hfr => ?_
 refine wlv hfr (v_pick_f rfl rfl) fun a hfr => ?_
 refine wl_nil (hK3 _ _ ?_)
 replace hfr : Fr 21 [(0, _), (3, _), (4, _), (5, _), (13, _)] [] a := hfr.pick [0, 3, 4, 5, 13]
 refine wc_cond hfr rfl (fun hc1 => ?_) (fun hc1 => ?_)
 ·rw [hc1] at hfr
  try simp only [qz] at hc1
  simp [hok] at hc1
 rw [hc1] at hfr
 try simp only [qz] at hc1
 refine wc_skip ?_
 refine hK2 _ _ ?_
 refine wc_seq_region fun K4 hK4 => ?_
 refine wlm hfr rfl fun a hfr => ?_
 refine wlv hfr (v_load_all (hst.get (k := 1) rfl) rfl (Tryz.isAgg40 _) (Tryz.sizeOf40 _)) fun a hfr => ?_
 refine wl_callp hfr hst (by decide) Tryz.call38 rfl (rpcontent_ok x _ (Pxy.smalls_of hok)) ?_
 clear hfr hst
 intro a w4 hfr hst
 refine wl_callp hfr hst (by decide) Tryz.call71 rfl (rseal_ok key x.content _ (by omega) (Nat.le_trans x.content_len (by decide))) ?_
 clear hfr hst
 intro a w5 hfr hst
 refine wlv hfr (v_fieldAddr (v := .pointer (some ⟨w0.heap.size, 6, none⟩)) rfl (by kernel_rfl)) fun a hfr => ?_
 refine wl_store 1 hfr hst rfl rfl rfl (Tryz.sizeOf9 _) rfl (lb rfl) (ds := [iv x.frm, iv x.to, iv x.rf, iv x.rt, iv x.sf, iv x.st, sv (sealH key x.content)]) rfl rfl ?_
 clear hfr hst
 intro a w6 hfr hst
 refine wl_nil (hK4 _ _ ?_)
 replace hfr : Fr 21 [(3, _), (4, _), (5, _)] [] a := hfr.pick [3, 4, 5]
 refine wc_seq_region fun K5 hK5 => ?_
 refine wlv hfr (v_load_all (hst.get (k := 1) rfl) rfl (Tryz.isAgg40 _) (Tryz.sizeOf40 _)) fun a hfr => ?_
 refine wl_store 0 hfr hst rfl rfl rfl (Tryz.sizeOf40 _) rfl (lb rfl) (ds := [iv x.frm, iv x.to, iv x.rf, iv x.rt, iv x.sf, iv x.st, sv (sealH key x.content)]) rfl rfl ?_
 clear hfr hst
 intro a w7 hfr hst
 refine wla hfr rfl fun a hfr => ?_
 refine wl_nil (hK5 _ _ ?_)
 refine wc_ret ?_
 refine fin_ret hfr Tryz.results25 (resAre_cell rfl (res_all (hst.get (k := 0) rfl) (Tryz.isAgg40 _) (Tryz.sizeOf40 _)) (resAre_tmp rfl resAre_nil)) ?_
 exact ⟨by rfl, hst.ext⟩
end Go.Proofs.YtmmfieceinmloaaGreatDoor
namespace Go.Proofs.YtmmfieceinmloaaGreatDoor
open Go.RowKit Go.PW
set_option linter.unusedVariables false
set_option linter.unusedSimpArgs false
set_option maxRecDepth 4000
def Pxy.cells (x : Pxy) : List Value := [iv x.frm, iv x.to, iv x.rf, iv x.rt, iv x.sf, iv x.st, sv x.sig]
def Pxy.z : Pxy := ⟨0, 0, 0, 0, 0, 0, []⟩
def Wsh.cells (x : Wsh) : List Value := [iv x.signer, iv x.holder, iv x.rf, iv x.rt, iv x.carrier, iv x.serial, iv x.sf, iv x.st, sv x.sig]
def Cin.cells (y : Cin) : List Value := [iv y.y0, iv y.y1, iv y.y2, iv y.y3, iv y.y4]
def Cin.z : Cin := ⟨0, 0, 0, 0, 0⟩
def i64 (n : Int) : Prop := -9223372036854775808 ≤ n ∧ n ≤ 9223372036854775807
def Cin.wt (y : Cin) : Prop := i64 y.y0 ∧ i64 y.y1 ∧ i64 y.y2 ∧ i64 y.y3 ∧ i64 y.y4
theorem leftOf_snoc : ∀ (l : List Cin) (o : Left) (y : Cin), leftOf o (l ++ [y]) = (leftOf o l).next y
 | [], o, y => rfl
 | x :: l, o, y => leftOf_snoc l (o.next x) y
theorem pxysOf_snoc : ∀ (l : List Cin) (o : Left) (y : Cin), pxysOf o (l ++ [y]) = pxysOf o l ++ [(leftOf o l).pxy y]
 | [], o, y => rfl
 | x :: l, o, y => by rw [List.cons_append, pxysOf, pxysOf_snoc l (o.next x) y]; rfl
theorem bareW_ok {o : Left} (h : o.ok) (holder carrier serial : Int) : (bareW o holder carrier serial).ok = true := by
 obtain ⟨a1, a2, a3, a4, a5, a6, a7, a8⟩ := h
 have h1 := pickI_lt holder (n := 10) (by omega)
 have h2 := pickI_lt carrier (n := 8) (by omega)
 have h3 := pickI_lt serial (n := 1000) (by omega)
 show (Wsh.mk o.who (pickI holder 10) o.rf o.rt (pickI carrier 8) (pickI serial 1000) o.sf o.st []).ok = true
 simp only [Wsh.ok, inB, isRangeB, isSpellB, Bool.and_eq_true, decide_eq_true_eq]
 omega
theorem take_min4 {α : Type} (l : List α) : l.take (min 4 l.length) = l.take 4 := by
 rw [Nat.min_def]
 split
 ·rfl
 ·rw [List.take_of_length_le (Nat.le_refl _), List.take_of_length_le (by omega)]
set_option maxHeartbeats 4000000 in
theorem made_ok (holder r0 r1 s0 s1 carrier serial : Int) (cv : Value) (ys : List Cin) (w0 : World) (hcv : SlAt w0 cv 5 (ys.map Cin.cells)) (hys : ∀ y ∈ ys, y.wt) (h0 : i64 holder) (h1 : i64 r0) (h2 : i64 r1) (h3 : i64 s0) (h4 : i64 s1) (h5 : i64 carrier) (h6 : i64 serial) :
  Ret Tryz.prog 9 #[.agg #[iv holder, iv r0, iv r1, iv s0, iv s1, iv carrier, iv serial, cv]] w0 (MemR w0 (fun v : Value => .tuple #[.agg (madeW holder r0 r1 s0 s1 carrier serial ys).cells.toArray, v]) (fun v => [own v 40 7 ((madeL holder r0 r1 s0 s1 ys).map Pxy.cells)]) (fun _ => True)) := by
 have hp0 := pickI_lt holder (n := 10) (by omega)
 have hp1 := pickI_lt r0 (n := 10000) (by omega)
 have hp2 := pickI_lt r1 (n := 1000) (by omega)
 have hp3 := pickI_lt s0 (n := 10000) (by omega)
 have hp4 := pickI_lt s1 (n := 1000) (by omega)
 have hp5 := pickI_lt carrier (n := 8) (by omega)
 have hp6 := pickI_lt serial (n := 1000) (by omega)
 refine ret_of Tryz.func9 rfl Tryz.ntmps9 (lb rfl) fun a hfr => ?_
 replace hfr : Fr 138 [(0, _)] [] a := hfr
 replace hst : St No w0 [] w0 := St.init w0
 refine wc_seq_region fun K1 hK1 => ?_
 refine wl_box hfr hst (by decide) rfl (cs := [iv holder, iv r0, iv r1, iv s0, iv s1, iv carrier, iv serial, cv]) rfl ?_
 clear hfr hst
 intro a w1 hfr hst
 refine wl_alloc hfr hst (by decide) (Tryz.zeroValue30 _) (cs := [iv 0, iv 0, iv 0, iv 0, iv 0, iv 0, iv 0, iv 0, .string (⟨#[]⟩)]) rfl ?_
 clear hfr hst
 intro a w2 hfr hst
 refine wla hfr rfl fun a hfr => ?_
 refine wl_nil (hK1 _ _ ?_)
 refine wc_seq_region fun K2 hK2 => ?_
 refine wlv hfr (v_fieldAddr (v := .pointer (some ⟨w0.heap.size, 1, none⟩)) rfl (by kernel_rfl)) fun a hfr => ?_
 refine wlv hfr (v_indexAddr (v := .pointer (some ⟨w0.heap.size, 1, none⟩)) rfl rfl (by kernel_rfl)) fun a hfr => ?_
 refine wlv hfr (v_load_blk1 (hst.get (k := 1) rfl) rfl (Tryz.isAgg3 _) rfl) fun a hfr => ?_
 refine wl_callp hfr hst (by decide) Tryz.call53 rfl (pick15_ok r0 10000 _ (by first | assumption | omega) (by omega)) ?_
 clear hfr hst
 intro a w3 hfr hst
 refine wla hfr rfl fun a hfr => ?_
 refine wl_nil (hK2 _ _ ?_)
 refine wc_seq_region fun K3 hK3 => ?_
 refine wlm hfr rfl fun a hfr => wlm hfr rfl fun a hfr => ?_
 refine wlv hfr (v_add rfl rfl ⟨by omega, by omega⟩) fun a hfr => ?_
 refine wlv hfr (v_fieldAddr (v := .pointer (some ⟨w0.heap.size, 1, none⟩)) rfl (by kernel_rfl)) fun a hfr => ?_
 refine wlv hfr (v_indexAddr (v := .pointer (some ⟨w0.heap.size, 2, none⟩)) rfl rfl (by kernel_rfl)) fun a hfr => ?_
 refine wlv hfr (v_load_blk1 (hst.get (k := 1) rfl) rfl (Tryz.isAgg3 _) rfl) fun a hfr => ?_
 refine wl_callp hfr hst (by decide) Tryz.call53 rfl (pick15_ok r1 1000 _ (by first | assumption | omega) (by omega)) ?_
 clear hfr hst
 intro a w4 hfr hst
 refine wlv hfr (v_add rfl rfl ⟨by omega, by omega⟩) fun a hfr => ?_
 refine wlv hfr (v_build (v := .agg #[iv (pickI r0 10000), iv (((pickI r0 10000) + 1) + (pickI r1 1000))]) rfl (by kernel_rfl)) fun a hfr => ?_
 refine wl_alloc hfr hst (by decide) (Tryz.zeroValue27 _) (cs := [iv 0, iv 0]) rfl ?_
 clear hfr hst
 intro a w5 hfr hst
 refine wl_store 0 hfr hst rfl rfl rfl (Tryz.sizeOf27 _) rfl (lb rfl) (ds := [iv (pickI r0 10000), iv (((pickI r0 10000) + 1) + (pickI r1 1000))]) rfl rfl ?_
 clear hfr hst
 intro a w6 hfr hst
 refine wl_nil (hK3 _ _ ?_)
 replace hfr : Fr 138 [(1, _), (2, _), (3, _), (5, _)] [] a := hfr.pick [1, 2, 3, 5]
 refine wc_seq_region fun K4 hK4 => ?_
 refine wlv hfr (v_fieldAddr (v := .pointer (some ⟨w0.heap.size, 3, none⟩)) rfl (by kernel_rfl)) fun a hfr => ?_
 refine wlv hfr (v_indexAddr (v := .pointer (some ⟨w0.heap.size, 3, none⟩)) rfl rfl (by kernel_rfl)) fun a hfr => ?_
 refine wlv hfr (v_load_blk1 (hst.get (k := 2) rfl) rfl (Tryz.isAgg3 _) rfl) fun a hfr => ?_
 refine wl_callp hfr hst (by decide) Tryz.call53 rfl (pick15_ok s0 10000 _ (by first | assumption | omega) (by omega)) ?_
 clear hfr hst
 intro a w7 hfr hst
 refine wla hfr rfl fun a hfr => ?_
 refine wl_nil (hK4 _ _ ?_)
 refine wc_seq_region fun K5 hK5 => ?_
 refine wlm hfr rfl fun a hfr => wlm hfr rfl fun a hfr => ?_
 refine wlv hfr (v_add rfl rfl ⟨by omega, by omega⟩) fun a hfr => ?_
 refine wlv hfr (v_fieldAddr (v := .pointer (some ⟨w0.heap.size, 3, none⟩)) rfl (by kernel_rfl)) fun a hfr => ?_
 refine wlv hfr (v_indexAddr (v := .pointer (some ⟨w0.heap.size, 4, none⟩)) rfl rfl (by kernel_rfl)) fun a hfr => ?_
 refine wlv hfr (v_load_blk1 (hst.get (k := 2) rfl) rfl (Tryz.isAgg3 _) rfl) fun a hfr => ?_
 refine wl_callp hfr hst (by decide) Tryz.call53 rfl (pick15_ok s1 1000 _ (by first | assumption | omega) (by omega)) ?_
 clear hfr hst
 intro a w8 hfr hst
 refine wlv hfr (v_add rfl rfl ⟨by omega, by omega⟩) fun a hfr => ?_
 refine wlv hfr (v_build (v := .agg #[iv (pickI s0 10000), iv (((pickI s0 10000) + 1) + (pickI s1 1000))]) rfl (by kernel_rfl)) fun a hfr => ?_
 refine wl_alloc hfr hst (by decide) (Tryz.zeroValue28 _) (cs := [iv 0, iv 0]) rfl ?_
 clear hfr hst
 intro a w9 hfr hst
 refine wl_store 0 hfr hst rfl rfl rfl (Tryz.sizeOf28 _) rfl (lb rfl) (ds := [iv (pickI s0 10000), iv (((pickI s0 10000) + 1) + (pickI s1 1000))]) rfl rfl ?_
 clear hfr hst
 intro a w10 hfr hst
 refine wl_nil (hK5 _ _ ?_)
 replace hfr : Fr 138 [(1, _), (2, _), (3, _), (5, _), (7, _)] [] a := hfr.pick [1, 2, 3, 5, 7]
 refine wc_seq_region fun K6 hK6 => ?_
 refine wlv hfr (v_fieldAddr (v := .pointer (some ⟨w0.heap.size, 0, none⟩)) rfl (by kernel_rfl)) fun a hfr => ?_
 refine wlv hfr (v_load_blk1 (hst.get (k := 3) rfl) rfl (Tryz.isAgg3 _) rfl) fun a hfr => ?_
 refine wl_callp hfr hst (by decide) Tryz.call53 rfl (pick15_ok holder 10 _ (by first | assumption | omega) (by omega)) ?_
 clear hfr hst
 intro a w11 hfr hst
 refine wla hfr rfl fun a hfr => ?_
 refine wl_nil (hK6 _ _ ?_)
 refine wc_seq_k fun K7 hK7 => ?_
 refine wc_of_dr (by kernel_rfl) (dr_of_wd (by kernel_rfl) fun w12 hxz => ?_)
 replace hst := hst.grow hxz
 refine wd_sub (k := 0) 9 [7, 8] hfr (by kernel_rfl) (by kernel_rfl) (by kernel_rfl) (by rfl) ?_
 replace hfr : Fr 138 [(1, _), (2, _), (3, _), (5, _), (7, _), (44, _), (45, _), (46, _), (8, _)] [] a := hfr.pick [1, 2, 3, 5, 7, 44, 45, 46, 8]
 refine wc_phases_q [8] (fun i => match i with | 8 => pm (fun b : Nat => .pointer (some ⟨b, 0, none⟩)) (fun b => [blk b [iv 0, iv 0, iv 0, iv 0, iv 0, iv 0, iv 0, iv 0, .string (⟨#[]⟩)] 30]) (fun _ => True) | _ => fun _ _ => False) 9 [[], [], [1], [2], [], [4], [5], [0, 3, 6], []] [iv (pickI holder 10), .pointer (some ⟨w0.heap.size, 5, none⟩), iv carrier, iv (pickI carrier 8), .pointer (some ⟨w0.heap.size, 6, none⟩), iv serial, iv (pickI serial 1000), .agg #[iv 0, iv (pickI holder 10), iv 0, iv 0, iv (pickI carrier 8), iv (pickI serial 1000), iv 0, iv 0, .string (⟨#[]⟩)], undef] hfr hst (by kernel_rfl) (by kernel_rfl) (by kernel_rfl) ?_ ?_ ?_
 ·intro i hi hiq
  match i, hi, hiq with
  | 0, _, _ =>
   intro w hst
   exact OpV.g (v_move rfl)
  | 1, _, _ =>
   intro w hst
   exact OpV.g (v_fieldAddr (v := .pointer (some ⟨w0.heap.size, 5, none⟩)) rfl (by kernel_rfl))
  | 2, _, _ =>
   intro w hst
   exact OpV.g (v_load_blk1 (hst.get (k := 3) rfl) rfl (Tryz.isAgg3 _) rfl)
  | 3, _, _ =>
   intro w hst
   exact g_callp Tryz.call53 rfl (pick15_ok carrier 8 _ (by first | assumption | omega) (by omega))
  | 4, _, _ =>
   intro w hst
   exact OpV.g (v_fieldAddr (v := .pointer (some ⟨w0.heap.size, 6, none⟩)) rfl (by kernel_rfl))
  | 5, _, _ =>
   intro w hst
   exact OpV.g (v_load_blk1 (hst.get (k := 3) rfl) rfl (Tryz.isAgg3 _) rfl)
  | 6, _, _ =>
   intro w hst
   exact g_callp Tryz.call53 rfl (pick15_ok serial 1000 _ (by first | assumption | omega) (by omega))
  | 7, _, _ =>
   intro w hst
   exact OpV.g (v_build (v := .agg #[iv 0, iv (pickI holder 10), iv 0, iv 0, iv (pickI carrier 8), iv (pickI serial 1000), iv 0, iv 0, .string (⟨#[]⟩)]) rfl (by kernel_rfl))
  | 8, _, h => exact absurd (by simp) h
 ·intro i hi
  simp only [List.mem_cons, List.not_mem_nil, or_false] at hi
  subst hi
  ·intro w hst
   exact g_alloc (Tryz.zeroValue30 _) (cs := [iv 0, iv 0, iv 0, iv 0, iv 0, iv 0, iv 0, iv 0, .string (⟨#[]⟩)]) rfl
 clear hfr hst
 rintro _ _ ⟨b1, rfl, -, rfl⟩ a w13 hfr hst
 replace hfr : Fr 138 [(47, iv (pickI holder 10)), (48, .pointer (some ⟨w0.heap.size, 5, none⟩)), (49, iv carrier), (50, iv (pickI carrier 8)), (51, .pointer (some ⟨w0.heap.size, 6, none⟩)), (52, iv serial), (53, iv (pickI serial 1000)), (54, .agg #[iv 0, iv (pickI holder 10), iv 0, iv 0, iv (pickI carrier 8), iv (pickI serial 1000), iv 0, iv 0, .string (⟨#[]⟩)]), (9, _), (1, _), (2, _), (3, _), (5, _), (7, _), (44, _), (45, _), (46, _), (8, _)] [] a := hfr
 replace hst : St No w0 [_, _, _, _, _] w13 := hst
 refine wl_nil ?_
 refine wd_lin (k := 9) 10 [9] (by kernel_rfl) (by kernel_rfl) (by kernel_rfl) ?_
 refine wl_store 0 hfr hst rfl rfl rfl (Tryz.sizeOf30 _) rfl (lb rfl) (ds := [iv 0, iv (pickI holder 10), iv 0, iv 0, iv (pickI carrier 8), iv (pickI serial 1000), iv 0, iv 0, .string (⟨#[]⟩)]) rfl rfl ?_
 clear hfr hst
 intro a w14 hfr hst
 refine wl_nil ?_
 refine wd_end (by kernel_rfl) ?_
 refine hK7 _ _ ?_
 replace hfr : Fr 138 [(1, _), (2, _), (3, _), (5, _), (7, _), (8, _), (9, _)] [] a := hfr.pick [1, 2, 3, 5, 7, 8, 9]
 refine wc_seq_region fun K8 hK8 => ?_
 refine wla hfr rfl fun a hfr => ?_
 refine wl_nil (hK8 _ _ ?_)
 refine wc_seq_k fun K9 hK9 => ?_
 refine wc_seq_region fun K10 hK10 => ?_
 refine wla hfr rfl fun a hfr => ?_
 refine wl_nil (hK10 _ _ ?_)
 refine wc_block ?_
 replace hst : St No w0 [own (.slice none 0 0) 40 7 ((pxysOf (firstOf holder r0 r1 s0 s1) (ys.take 0)).map Pxy.cells), blk b1 [iv 0, iv (pickI holder 10), iv 0, iv 0, iv (pickI carrier 8), iv (pickI serial 1000), iv 0, iv 0, .string (⟨#[]⟩)] 30, blk w8.heap.size [iv (pickI s0 10000), iv (((pickI s0 10000) + 1) + (pickI s1 1000))] 28, blk w4.heap.size [iv (pickI r0 10000), iv (((pickI r0 10000) + 1) + (pickI r1 1000))] 27, blk w1.heap.size [iv 0, iv 0, iv 0, iv 0, iv 0, iv 0, iv 0, iv 0, .string (⟨#[]⟩)] 30, blk w0.heap.size [iv holder, iv r0, iv r1, iv s0, iv s1, iv carrier, iv serial, cv] 25] w14 := hst.nil_own
 refine wc_loop (fun m a w => ∃ (k : Nat) (o : Left) (v : Value), m = 4 - k ∧ (k ≤ min 4 ys.length) ∧ (leftOf (firstOf holder r0 r1 s0 s1) (ys.take k) = o) ∧ (o.ok) ∧ Fr 138 [(1, .pointer (some ⟨w0.heap.size, 0, none⟩)), (2, .pointer (some ⟨w1.heap.size, 0, none⟩)), (3, .slice none 0 0), (5, .pointer (some ⟨w4.heap.size, 0, none⟩)), (7, .pointer (some ⟨w8.heap.size, 0, none⟩)), (9, .pointer (some ⟨b1, 0, none⟩)), (8, iv o.who), (10, v), (11, iv (k : Int))] [] a ∧ St No w0 [blk w0.heap.size [iv holder, iv r0, iv r1, iv s0, iv s1, iv carrier, iv serial, cv] 25, blk w1.heap.size [iv 0, iv 0, iv 0, iv 0, iv 0, iv 0, iv 0, iv 0, .string (⟨#[]⟩)] 30, blk w4.heap.size [iv o.rf, iv o.rt] 27, blk w8.heap.size [iv o.sf, iv o.st] 28, blk b1 [iv 0, iv (pickI holder 10), iv 0, iv 0, iv (pickI carrier 8), iv (pickI serial 1000), iv 0, iv 0, .string (⟨#[]⟩)] 30, own v 40 7 ((pxysOf (firstOf holder r0 r1 s0 s1) (ys.take k)).map Pxy.cells)] w) _ ⟨0, (firstOf holder r0 r1 s0 s1), .slice none 0 0, rfl, (Nat.zero_le _), rfl, firstOf_ok _ _ _ _ _, hfr.pick [1, 2, 3, 5, 7, 9, 8, 10, 11], hst.select [5, 4, 3, 2, 1, 0] (by decide)⟩ ?_
 rintro _ a w15 ⟨k, o, v, rfl, hk, ho, hok, hfr, hst⟩
 refine wc_seq_k fun K11 hK11 => ?_
 refine wc_seq_region fun K12 hK12 => ?_
 refine wlm hfr rfl fun a hfr => ?_
 refine wlv hfr (v_fieldAddr (v := .pointer (some ⟨w0.heap.size, 7, none⟩)) rfl (by kernel_rfl)) fun a hfr => ?_
 refine wlv hfr (v_load_blk1 (hst.get (k := 0) rfl) rfl (Tryz.isAgg23 _) rfl) fun a hfr => ?_
 refine wlv hfr ((v_len_sl (sT := 23) (hst.arg hcv) rfl rfl (Tryz.runUnderlying23 _)).asi (m' := (ys.length : Int)) (by rw [List.length_map])) fun a hfr => ?_
 refine wlv hfr (v_lt rfl rfl) fun a hfr => wlm hfr rfl fun a hfr => ?_
 rcases Bool.eq_false_or_eq_true (decide ((k : Int) < (ys.length : Int))) with hb2 | hb2
 ·rw [hb2] at hfr
  try simp only [qz] at hb2
  have hky : k < ys.length := by omega
  obtain ⟨y, hy⟩ : ∃ y, ys.getD k Cin.z = y := ⟨_, rfl⟩
  obtain ⟨hy0, hy1, hy2, hy3, hy4⟩ : y.wt := by rw [← hy]; exact hys _ (getD_mem hky)
  obtain ⟨ho1, ho2, ho3, ho4, ho5, ho6, ho7, ho8⟩ := id hok
  have hp9 := pickI_lt y.y0 (n := 9) (by omega)
  refine wly hfr (v_move rfl) fun a hfr => wly hfr (v_lt rfl rfl) fun a hfr => ?_
  refine wlv hfr (v_pick_t rfl rfl) fun a hfr => ?_
  refine wl_nil (hK12 _ _ ?_)
  replace hfr : Fr 138 [(1, _), (2, _), (3, _), (5, _), (7, _), (9, _), (8, _), (10, _), (11, _), (63, _)] [] a := hfr.pick [1, 2, 3, 5, 7, 9, 8, 10, 11, 63]
  refine wc_cond hfr rfl (fun hc3 => ?_) (fun hc3 => ?_)
  ·rw [hc3] at hfr
   try simp only [qz] at hc3
   refine wc_skip ?_
   refine hK11 _ _ ?_
   refine wc_seq_k fun K13 hK13 => ?_
   refine wc_block ?_
   refine wc_seq_region fun K14 hK14 => ?_
   refine wlv hfr (v_fieldAddr (v := .pointer (some ⟨w0.heap.size, 7, none⟩)) rfl (by kernel_rfl)) fun a hfr => ?_
   refine wlv hfr (v_load_blk1 (hst.get (k := 0) rfl) rfl (Tryz.isAgg23 _) rfl) fun a hfr => wlm hfr rfl fun a hfr => ?_
   refine wlv hfr ((v_indexAddr_sl (i := (k : Int)) (sT := 23) (hst.arg hcv) rfl rfl (Tryz.runUnderlying23 _) (Tryz.sizeOf108 _) (by omega) (by rw [List.length_map]; exact hky)).as (v' := slAddr cv (k * 5)) rfl) fun a hfr => ?_
   refine wlv hfr ((v_load_sl (hst.arg hcv) (i := k) (by rw [List.length_map]; exact hky) rfl (Tryz.isAgg108 _) (Tryz.sizeOf108 _)).as (v' := .agg #[iv y.y0, iv y.y1, iv y.y2, iv y.y3, iv y.y4]) (by rw [el_at Cin.z, hy]; rfl)) fun a hfr => ?_
   refine wl_alloc hfr hst (by decide) (Tryz.zeroValue108 _) (cs := [iv 0, iv 0, iv 0, iv 0, iv 0]) rfl ?_
   clear hfr hst
   intro a w16 hfr hst
   refine wl_store 0 hfr hst rfl rfl rfl (Tryz.sizeOf108 _) rfl (lb rfl) (ds := [iv y.y0, iv y.y1, iv y.y2, iv y.y3, iv y.y4]) rfl rfl ?_
   clear hfr hst
   intro a w17 hfr hst
   refine wl_nil (hK14 _ _ ?_)
   replace hfr : Fr 138 [(1, _), (2, _), (3, _), (5, _), (7, _), (9, _), (8, _), (10, _), (11, _), (12, _)] [] a := hfr.pick [1, 2, 3, 5, 7, 9, 8, 10, 11, 12]
   refine wc_seq_k fun K15 hK15 => ?_
   refine wc_of_dr (by kernel_rfl) (dr_of_wd (by kernel_rfl) fun w18 hxz => ?_)
   replace hst := hst.grow hxz
   refine wd_sub (k := 0) 12 [10, 11] hfr (by kernel_rfl) (by kernel_rfl) (by kernel_rfl) (by rfl) ?_
   replace hfr : Fr 138 [(1, _), (2, _), (3, _), (5, _), (7, _), (9, _), (8, _), (10, _), (11, _), (12, _)] [] a := hfr.pick [1, 2, 3, 5, 7, 9, 8, 10, 11, 12]
   refine wc_phases_q [11] (fun i => match i with | 11 => pm (fun b : Nat => .pointer (some ⟨b, 0, none⟩)) (fun b => [blk b [iv 0, iv 0, iv 0, iv 0, iv 0, iv 0, .string (⟨#[]⟩)] 40]) (fun _ => True) | _ => fun _ _ => False) 12 [[], [], [1], [], [3], [4], [2, 5], [6], [], [], [0, 7, 8, 9], []] [iv o.who, iv o.who, iv (o.who + 1), .pointer (some ⟨w15.heap.size, 0, none⟩), iv y.y0, iv (pickI y.y0 9), iv ((o.who + 1) + (pickI y.y0 9)), iv (((o.who + 1) + (pickI y.y0 9)) % 10), .agg #[iv o.rf, iv o.rt], .agg #[iv o.sf, iv o.st], .agg #[iv o.who, iv (((o.who + 1) + (pickI y.y0 9)) % 10), iv o.rf, iv o.rt, iv o.sf, iv o.st, .string (⟨#[]⟩)], undef] hfr hst (by kernel_rfl) (by kernel_rfl) (by kernel_rfl) ?_ ?_ ?_
   ·intro i hi hiq
    match i, hi, hiq with
    | 0, _, _ =>
     intro w hst
     exact OpV.g (v_move rfl)
    | 1, _, _ =>
     intro w hst
     exact OpV.g (v_move rfl)
    | 2, _, _ =>
     intro w hst
     exact OpV.g (v_add rfl rfl ⟨by omega, by omega⟩)
    | 3, _, _ =>
     intro w hst
     exact OpV.g (v_indexAddr (v := .pointer (some ⟨w15.heap.size, 0, none⟩)) rfl rfl (by kernel_rfl))
    | 4, _, _ =>
     intro w hst
     exact OpV.g (v_load_blk1 (hst.get (k := 0) rfl) rfl (Tryz.isAgg3 _) rfl)
    | 5, _, _ =>
     intro w hst
     exact g_callp Tryz.call53 rfl (pick15_ok y.y0 9 _ (by first | assumption | omega) (by omega))
    | 6, _, _ =>
     intro w hst
     exact OpV.g (v_add rfl rfl ⟨by omega, by omega⟩)
    | 7, _, _ =>
     intro w hst
     exact OpV.g (v_rem rfl rfl (by omega) (by omega))
    | 8, _, _ =>
     intro w hst
     exact OpV.g (v_load_all (hst.get (k := 3) rfl) rfl (Tryz.isAgg27 _) (Tryz.sizeOf27 _))
    | 9, _, _ =>
     intro w hst
     exact OpV.g (v_load_all (hst.get (k := 4) rfl) rfl (Tryz.isAgg28 _) (Tryz.sizeOf28 _))
    | 10, _, _ =>
     intro w hst
     exact OpV.g (v_build (v := .agg #[iv o.who, iv (((o.who + 1) + (pickI y.y0 9)) % 10), iv o.rf, iv o.rt, iv o.sf, iv o.st, .string (⟨#[]⟩)]) rfl (by kernel_rfl))
    | 11, _, h => exact absurd (by simp) h
    | i + 12, h, _ => exact absurd h (by omega)
   ·intro i hi
    simp only [List.mem_cons, List.not_mem_nil, or_false] at hi
    subst hi
    ·intro w hst
     exact g_alloc (Tryz.zeroValue40 _) (cs := [iv 0, iv 0, iv 0, iv 0, iv 0, iv 0, .string (⟨#[]⟩)]) rfl
   clear hfr hst
   rintro _ _ ⟨b4, rfl, -, rfl⟩ a w19 hfr hst
   replace hfr : Fr 138 [(71, iv o.who), (72, iv o.who), (73, iv (o.who + 1)), (74, .pointer (some ⟨w15.heap.size, 0, none⟩)), (75, iv y.y0), (76, iv (pickI y.y0 9)), (77, iv ((o.who + 1) + (pickI y.y0 9))), (78, iv (((o.who + 1) + (pickI y.y0 9)) % 10)), (79, .agg #[iv o.rf, iv o.rt]), (80, .agg #[iv o.sf, iv o.st]), (81, .agg #[iv o.who, iv (((o.who + 1) + (pickI y.y0 9)) % 10), iv o.rf, iv o.rt, iv o.sf, iv o.st, .string (⟨#[]⟩)]), (13, _), (1, _), (2, _), (3, _), (5, _), (7, _), (9, _), (8, _), (10, _), (11, _), (12, _)] [] a := hfr
   replace hst : St No w0 [_, _, _, _, _, _, _, _] w19 := hst
   refine wl_nil ?_
   refine wd_lin (k := 12) 13 [12] (by kernel_rfl) (by kernel_rfl) (by kernel_rfl) ?_
   refine wl_store 0 hfr hst rfl rfl rfl (Tryz.sizeOf40 _) rfl (lb rfl) (ds := [iv o.who, iv (((o.who + 1) + (pickI y.y0 9)) % 10), iv o.rf, iv o.rt, iv o.sf, iv o.st, .string (⟨#[]⟩)]) rfl rfl ?_
   clear hfr hst
   intro a w20 hfr hst
   refine wl_nil ?_
   refine wd_end (by kernel_rfl) ?_
   refine hK15 _ _ ?_
   replace hfr : Fr 138 [(1, _), (2, _), (3, _), (5, _), (7, _), (9, _), (8, _), (10, _), (11, _), (12, _), (13, _)] [] a := hfr.pick [1, 2, 3, 5, 7, 9, 8, 10, 11, 12, 13]
   refine wc_seq_k fun K16 hK16 => ?_
   refine wc_of_dr (by kernel_rfl) (dr_of_wd (by kernel_rfl) fun w21 hxz => ?_)
   replace hst := hst.grow hxz
   refine wd_sub (k := 0) 9 [6, 8] hfr (by kernel_rfl) (by kernel_rfl) (by kernel_rfl) (by rfl) ?_
   replace hfr : Fr 138 [(1, _), (2, _), (3, _), (5, _), (7, _), (9, _), (8, _), (10, _), (11, _), (12, _), (13, _)] [] a := hfr.pick [1, 2, 3, 5, 7, 9, 8, 10, 11, 12, 13]
   refine wc_phases_new 7 8 40 [iv 0, iv 0, iv 0, iv 0, iv 0, iv 0, .string (⟨#[]⟩)] [iv o.who, iv ((o.who + 1 + pickI y.y0 9) % 10), iv o.rf, iv o.rt, iv o.sf, iv o.st, sv (sealH (keyH o.who) (o.bare y).content)] 9 [[], [0], [], [1, 2], [3], [4], [4], [], [5, 7]] (fun i => match i with | 0 => pv (iv o.who) | 1 => pv (sv (keyH o.who)) | 2 => pv (.agg #[iv o.who, iv (((o.who + 1) + (pickI y.y0 9)) % 10), iv o.rf, iv o.rt, iv o.sf, iv o.st, .string (⟨#[]⟩)]) | 3 => pv (.tuple #[.agg #[iv o.who, iv ((o.who + 1 + pickI y.y0 9) % 10), iv o.rf, iv o.rt, iv o.sf, iv o.st, sv (sealH (keyH o.who) (o.bare y).content)], iv 0]) | 4 => pv (.tuple #[.agg #[iv o.who, iv ((o.who + 1 + pickI y.y0 9) % 10), iv o.rf, iv o.rt, iv o.sf, iv o.st, sv (sealH (keyH o.who) (o.bare y).content)], iv 0]) | 5 => pv (.agg #[iv o.who, iv ((o.who + 1 + pickI y.y0 9) % 10), iv o.rf, iv o.rt, iv o.sf, iv o.st, sv (sealH (keyH o.who) (o.bare y).content)]) | 6 => pv (iv 0) | 7 => fun v E => ∃ b, v = ptr b ∧ E = [] | 8 => fun v E => v = undef ∧ E = [] | _ => fun _ _ => False) hfr (H := [blk b4 [iv o.who, iv (((o.who + 1) + (pickI y.y0 9)) % 10), iv o.rf, iv o.rt, iv o.sf, iv o.st, .string (⟨#[]⟩)] 40, blk w15.heap.size [iv y.y0, iv y.y1, iv y.y2, iv y.y3, iv y.y4] 108, blk w0.heap.size [iv holder, iv r0, iv r1, iv s0, iv s1, iv carrier, iv serial, cv] 25, blk w1.heap.size [iv 0, iv 0, iv 0, iv 0, iv 0, iv 0, iv 0, iv 0, .string (⟨#[]⟩)] 30, blk w4.heap.size [iv o.rf, iv o.rt] 27, blk w8.heap.size [iv o.sf, iv o.st] 28, blk b1 [iv 0, iv (pickI holder 10), iv 0, iv 0, iv (pickI carrier 8), iv (pickI serial 1000), iv 0, iv 0, .string (⟨#[]⟩)] 30, own v 40 7 ((pxysOf (firstOf holder r0 r1 s0 s1) (ys.take k)).map Pxy.cells)]) hst (by kernel_rfl) (by kernel_rfl) (by kernel_rfl) (by kernel_rfl) (by decide) (by decide) (by decide) (by decide) (by decide) ?_ (fun v E h => h) ⟨rfl, rfl⟩ (fun v E => Iff.rfl) ?_ ?_ ?_ ?_
   ·intro i v E h
    match i, h with
    | 0, _ => exact by decide
    | 1, _ => exact by decide
    | 2, _ => exact by decide
    | 3, _ => exact by decide
    | 4, _ => exact by decide
    | 5, _ => exact by decide
    | 6, _ => exact by decide
    | 7, _ => exact by decide
    | 8, _ => exact by decide
    | i + 9, h => exact h.elim
   ·intro i hi hia hij e
    match i, hi, hia, hij with
    | 0, _, _, _ =>
     intro w hst
     exact OpV.g (v_move rfl)
    | 1, _, _, _ =>
     rintro _ _ ⟨rfl, rfl⟩
     intro w hst
     exact g_callp Tryz.call21 rfl (key_ok o.who _)
    | 2, _, _, _ =>
     intro w hst
     exact OpV.g (v_load_all (hst.get (k := 1) rfl) rfl (Tryz.isAgg40 _) (Tryz.sizeOf40 _))
    | 3, _, _, _ =>
     rintro _ _ ⟨rfl, rfl⟩ _ _ ⟨rfl, rfl⟩
     intro w hst
     exact g_callp Tryz.call25 rfl (rsignproxy_ok (keyH o.who) (o.bare y) _ (keyH_len _) (Left.pxy_ok hok y))
    | 4, _, _, _ =>
     rintro _ _ ⟨rfl, rfl⟩
     intro w hst
     exact OpV.g (v_move rfl)
    | 5, _, _, _ =>
     rintro _ _ ⟨rfl, rfl⟩
     intro w hst
     exact OpV.g (v_extract rfl rfl)
    | 6, _, _, _ =>
     rintro _ _ ⟨rfl, rfl⟩
     intro w hst
     exact OpV.g (v_extract rfl rfl)
    | 7, _, h, _ => exact absurd rfl h
    | 8, _, _, h => exact absurd rfl h
   ·exact fun Lv w => r_alloc (Tryz.zeroValue40 _)
   ·rintro _ _ ⟨rfl, rfl⟩ _ _ ⟨b5, rfl, rfl⟩
    intro b hb w h
    have hb : some (ptr b5) = some (ptr b) := hb
    cases hb
    exact r_storeU rfl rfl h (Tryz.sizeOf40 _) rfl (lb rfl) rfl
   clear hfr hst
   rintro bq _ _ ⟨⟨rfl, rfl⟩, -⟩ _ _ ⟨⟨rfl, rfl⟩, -⟩ _ _ ⟨⟨rfl, rfl⟩, -⟩ _ _ ⟨⟨rfl, rfl⟩, -⟩ _ _ ⟨⟨rfl, rfl⟩, -⟩ _ _ ⟨⟨rfl, rfl⟩, -⟩ _ _ ⟨⟨rfl, rfl⟩, -⟩ _ _ ⟨⟨b5, rfl, rfl⟩, hva⟩ a w22 hfr hst
   obtain rfl : b5 = bq := ptr_inj (hva rfl)
   replace hfr : Fr 138 [(83, _), (84, _), (85, _), (86, _), (82, _), (87, _), (88, _), (14, _), (1, _), (2, _), (3, _), (5, _), (7, _), (9, _), (8, _), (10, _), (11, _), (12, _), (13, _)] [] a := hfr
   replace hst : St No w0 [blk b5 [iv o.who, iv ((o.who + 1 + pickI y.y0 9) % 10), iv o.rf, iv o.rt, iv o.sf, iv o.st, sv (sealH (keyH o.who) (o.bare y).content)] 40, blk b4 [iv o.who, iv (((o.who + 1) + (pickI y.y0 9)) % 10), iv o.rf, iv o.rt, iv o.sf, iv o.st, .string (⟨#[]⟩)] 40, blk w15.heap.size [iv y.y0, iv y.y1, iv y.y2, iv y.y3, iv y.y4] 108, blk w0.heap.size [iv holder, iv r0, iv r1, iv s0, iv s1, iv carrier, iv serial, cv] 25, blk w1.heap.size [iv 0, iv 0, iv 0, iv 0, iv 0, iv 0, iv 0, iv 0, .string (⟨#[]⟩)] 30, blk w4.heap.size [iv o.rf, iv o.rt] 27, blk w8.heap.size [iv o.sf, iv o.st] 28, blk b1 [iv 0, iv (pickI holder 10), iv 0, iv 0, iv (pickI carrier 8), iv (pickI serial 1000), iv 0, iv 0, .string (⟨#[]⟩)] 30, own v 40 7 ((pxysOf (firstOf holder r0 r1 s0 s1) (ys.take k)).map Pxy.cells)] w22 := hst
   refine wl_nil ?_
   refine wd_lin (k := 9) 10 [9] (by kernel_rfl) (by kernel_rfl) (by kernel_rfl) ?_
   refine wla hfr rfl fun a hfr => ?_
   refine wl_nil ?_
   refine wd_end (by kernel_rfl) ?_
   refine hK16 _ _ ?_
   replace hfr : Fr 138 [(1, _), (2, _), (3, _), (5, _), (7, _), (9, _), (10, _), (11, _), (12, _), (13, _), (14, _)] [] a := hfr.pick [1, 2, 3, 5, 7, 9, 10, 11, 12, 13, 14]
   refine wc_seq_region fun K17 hK17 => ?_
   refine wlm hfr rfl fun a hfr => ?_
   refine wlv hfr (v_load_all (hst.get (k := 0) rfl) rfl (Tryz.isAgg40 _) (Tryz.sizeOf40 _)) fun a hfr => ?_
   refine wl_buildSlice (E := 40) (sz := 7) rfl [[iv o.who, iv ((o.who + 1 + pickI y.y0 9) % 10), iv o.rf, iv o.rt, iv o.sf, iv o.st, sv (sealH (keyH o.who) (o.bare y).content)]] (by kernel_rfl) (by simp) rfl (by decide) (by decide) hfr hst ?_
   clear hfr hst
   intro a w23 hfr hst
   refine wl_append (i := 9) (sT := 31) (inf := Tryz.t40) (z := .agg #[iv 0, iv 0, iv 0, iv 0, iv 0, iv 0, .string (⟨#[]⟩)]) (b := 0) (off := 0) (m := 0) (c := 0) rfl rfl rfl (hst.ownAt (i := 0) rfl) (by simp) Tryz.underlying31 rfl rfl rfl rfl (by decide) (by simp [Value.oneCell', yv, wv, sv]) (by have hby : Tryz.t40.bytes = 64 := rfl; simp [big, hby, pxys_len] <;> omega) (by have hby : Tryz.t40.bytes = 64 := rfl; simp [big, hby, pxys_len] <;> omega) (by decide) hfr hst fun a w24 s6 hfr hst _ => ?_
   rw [show ((pxysOf (firstOf holder r0 r1 s0 s1) (ys.take k)).map Pxy.cells) ++ ([[iv o.who, iv ((o.who + 1 + pickI y.y0 9) % 10), iv o.rf, iv o.rt, iv o.sf, iv o.st, sv (sealH (keyH o.who) (o.bare y).content)]]) = ((pxysOf (firstOf holder r0 r1 s0 s1) (ys.take (k + 1))).map Pxy.cells) from by rw [take_snoc Cin.z hky, pxysOf_snoc, ho, hy, List.map_append]; rfl] at hst
   refine wla hfr rfl fun a hfr => ?_
   refine wl_nil (hK17 _ _ ?_)
   refine wc_seq_region fun K18 hK18 => ?_
   refine wlv hfr (v_fieldAddr (v := .pointer (some ⟨b4, 1, none⟩)) rfl (by kernel_rfl)) fun a hfr => ?_
   refine wlv hfr (v_load_blk1 (hst.get (k := 2) rfl) rfl (Tryz.isAgg3 _) rfl) fun a hfr => wla hfr rfl fun a hfr => ?_
   refine wl_nil (hK18 _ _ ?_)
   replace hfr : Fr 138 [(1, _), (2, _), (3, _), (5, _), (7, _), (9, _), (11, _), (12, _), (10, _), (8, _)] [] a := hfr.pick [1, 2, 3, 5, 7, 9, 11, 12, 10, 8]
   replace hst : St No w0 [_, _, _, _, _, _, _] w24 := hst.mask [false, false, false, true, true, true, true, true, true, true]
   refine wc_seq_region fun K19 hK19 => ?_
   refine wlv hfr (v_fieldAddr (v := .pointer (some ⟨w4.heap.size, 0, none⟩)) rfl (by kernel_rfl)) fun a hfr => ?_
   refine wlv hfr (v_load_blk1 (hst.get (k := 3) rfl) rfl (Tryz.isAgg3 _) rfl) fun a hfr => ?_
   refine wlv hfr (v_fieldAddr (v := .pointer (some ⟨w4.heap.size, 1, none⟩)) rfl (by kernel_rfl)) fun a hfr => ?_
   refine wlv hfr (v_load_blk1 (hst.get (k := 3) rfl) rfl (Tryz.isAgg3 _) rfl) fun a hfr => ?_
   refine wlv hfr (v_indexAddr (v := .pointer (some ⟨w15.heap.size, 1, none⟩)) rfl rfl (by kernel_rfl)) fun a hfr => ?_
   refine wlv hfr (v_load_blk1 (hst.get (k := 0) rfl) rfl (Tryz.isAgg3 _) rfl) fun a hfr => ?_
   refine wlv hfr (v_indexAddr (v := .pointer (some ⟨w15.heap.size, 2, none⟩)) rfl rfl (by kernel_rfl)) fun a hfr => ?_
   refine wlv hfr (v_load_blk1 (hst.get (k := 0) rfl) rfl (Tryz.isAgg3 _) rfl) fun a hfr => ?_
   refine wl_callp hfr hst (by decide) Tryz.call54 rfl (narrowed_ok o.rf o.rt y.y1 y.y2 _ (by omega) (by omega) (by omega) (by assumption) (by assumption)) ?_
   clear hfr hst
   intro a w25 hfr hst
   refine wlm hfr rfl fun a hfr => ?_
   refine wlv hfr (v_extract rfl rfl) fun a hfr => ?_
   refine wlv hfr (v_extract rfl rfl) fun a hfr => ?_
   refine wlv hfr (v_fieldAddr (v := .pointer (some ⟨w4.heap.size, 0, none⟩)) rfl (by kernel_rfl)) fun a hfr => ?_
   refine wl_store 3 hfr hst rfl rfl rfl (Tryz.sizeOf3 _) rfl (lb rfl) (ds := [iv (o.rf + pickI y.y1 (o.rt - o.rf)), iv o.rt]) rfl rfl ?_
   clear hfr hst
   intro a w26 hfr hst
   refine wlv hfr (v_fieldAddr (v := .pointer (some ⟨w4.heap.size, 1, none⟩)) rfl (by kernel_rfl)) fun a hfr => ?_
   refine wl_store 3 hfr hst rfl rfl rfl (Tryz.sizeOf3 _) rfl (lb rfl) (ds := [iv (o.rf + pickI y.y1 (o.rt - o.rf)), iv (o.rt - pickI y.y2 (o.rt - (o.rf + pickI y.y1 (o.rt - o.rf))))]) rfl rfl ?_
   clear hfr hst
   intro a w27 hfr hst
   refine wl_nil (hK19 _ _ ?_)
   replace hfr : Fr 138 [(1, _), (2, _), (3, _), (5, _), (7, _), (9, _), (11, _), (12, _), (10, _), (8, _)] [] a := hfr.pick [1, 2, 3, 5, 7, 9, 11, 12, 10, 8]
   refine wc_region ?_
   refine wlv hfr (v_fieldAddr (v := .pointer (some ⟨w8.heap.size, 0, none⟩)) rfl (by kernel_rfl)) fun a hfr => ?_
   refine wlv hfr (v_load_blk1 (hst.get (k := 4) rfl) rfl (Tryz.isAgg3 _) rfl) fun a hfr => ?_
   refine wlv hfr (v_fieldAddr (v := .pointer (some ⟨w8.heap.size, 1, none⟩)) rfl (by kernel_rfl)) fun a hfr => ?_
   refine wlv hfr (v_load_blk1 (hst.get (k := 4) rfl) rfl (Tryz.isAgg3 _) rfl) fun a hfr => ?_
   refine wlv hfr (v_indexAddr (v := .pointer (some ⟨w15.heap.size, 3, none⟩)) rfl rfl (by kernel_rfl)) fun a hfr => ?_
   refine wlv hfr (v_load_blk1 (hst.get (k := 0) rfl) rfl (Tryz.isAgg3 _) rfl) fun a hfr => ?_
   refine wlv hfr (v_indexAddr (v := .pointer (some ⟨w15.heap.size, 4, none⟩)) rfl rfl (by kernel_rfl)) fun a hfr => ?_
   refine wlv hfr (v_load_blk1 (hst.get (k := 0) rfl) rfl (Tryz.isAgg3 _) rfl) fun a hfr => ?_
   refine wl_callp hfr hst (by decide) Tryz.call54 rfl (narrowed_ok o.sf o.st y.y3 y.y4 _ (by omega) (by omega) (by omega) (by assumption) (by assumption)) ?_
   clear hfr hst
   intro a w28 hfr hst
   refine wlm hfr rfl fun a hfr => ?_
   refine wlv hfr (v_extract rfl rfl) fun a hfr => ?_
   refine wlv hfr (v_extract rfl rfl) fun a hfr => ?_
   refine wlv hfr (v_fieldAddr (v := .pointer (some ⟨w8.heap.size, 0, none⟩)) rfl (by kernel_rfl)) fun a hfr => ?_
   refine wl_store 4 hfr hst rfl rfl rfl (Tryz.sizeOf3 _) rfl (lb rfl) (ds := [iv (o.sf + pickI y.y3 (o.st - o.sf)), iv o.st]) rfl rfl ?_
   clear hfr hst
   intro a w29 hfr hst
   refine wlv hfr (v_fieldAddr (v := .pointer (some ⟨w8.heap.size, 1, none⟩)) rfl (by kernel_rfl)) fun a hfr => ?_
   refine wl_store 4 hfr hst rfl rfl rfl (Tryz.sizeOf3 _) rfl (lb rfl) (ds := [iv (o.sf + pickI y.y3 (o.st - o.sf)), iv (o.st - pickI y.y4 (o.st - (o.sf + pickI y.y3 (o.st - o.sf))))]) rfl rfl ?_
   clear hfr hst
   intro a w30 hfr hst
   refine wl_nil ?_
   refine hK13 _ _ ?_
   replace hfr : Fr 138 [(1, _), (2, _), (3, _), (5, _), (7, _), (9, _), (11, _), (10, _), (8, _)] [] a := hfr.pick [1, 2, 3, 5, 7, 9, 11, 10, 8]
   replace hst : St No w0 [_, _, _, _, _, _] w30 := hst.mask [false, true, true, true, true, true, true]
   refine wc_region ?_
   refine wlm hfr rfl fun a hfr => ?_
   refine wlv hfr (v_add rfl rfl ⟨by omega, by omega⟩) fun a hfr => wla hfr rfl fun a hfr => ?_
   refine wl_nil ?_
   refine ⟨_, ?_, k + 1, o.next y, s6, rfl, (by omega), (by rw [take_snoc Cin.z hky, leftOf_snoc, ho, hy]), (Left.next_ok hok y).1, hfr.pick [1, 2, 3, 5, 7, 9, 8, 10, 11], hst.select [0, 1, 2, 3, 4, 5] (by decide)⟩
   omega
  rw [hc3] at hfr
  try simp only [qz] at hc3
  refine wc_exit ?_
  refine hK9 _ _ ?_
  obtain ⟨ho1, ho2, ho3, ho4, ho5, ho6, ho7, ho8⟩ := id hok
  have hwok := bareW_ok hok holder carrier serial
  have hkm : k = min 4 ys.length := by omega
  have hk4 : ys.take k = ys.take 4 := by rw [hkm]; exact take_min4 ys
  refine wc_seq_region fun K20 hK20 => ?_
  refine wlm hfr rfl fun a hfr => ?_
  refine wlv hfr (v_fieldAddr (v := .pointer (some ⟨b1, 0, none⟩)) rfl (by kernel_rfl)) fun a hfr => ?_
  refine wl_store 4 hfr hst rfl rfl rfl (Tryz.sizeOf3 _) rfl (lb rfl) (ds := [iv o.who, iv (pickI holder 10), iv 0, iv 0, iv (pickI carrier 8), iv (pickI serial 1000), iv 0, iv 0, .string (⟨#[]⟩)]) rfl rfl ?_
  clear hfr hst
  intro a w31 hfr hst
  refine wl_nil (hK20 _ _ ?_)
  refine wc_seq_region fun K21 hK21 => ?_
  refine wlv hfr (v_load_all (hst.get (k := 2) rfl) rfl (Tryz.isAgg27 _) (Tryz.sizeOf27 _)) fun a hfr => ?_
  refine wlv hfr (v_fieldAddr (v := .pointer (some ⟨b1, 2, none⟩)) rfl (by kernel_rfl)) fun a hfr => ?_
  refine wl_store 4 hfr hst rfl rfl rfl (Tryz.sizeOf27 _) rfl (lb rfl) (ds := [iv o.who, iv (pickI holder 10), iv o.rf, iv o.rt, iv (pickI carrier 8), iv (pickI serial 1000), iv 0, iv 0, .string (⟨#[]⟩)]) rfl rfl ?_
  clear hfr hst
  intro a w32 hfr hst
  refine wl_nil (hK21 _ _ ?_)
  replace hfr : Fr 138 [(2, _), (3, _), (7, _), (9, _), (8, _), (10, _)] [] a := hfr.pick [2, 3, 7, 9, 8, 10]
  replace hst : St No w0 [_, _, _, _] w32 := hst.mask [false, true, false, true, true, true]
  refine wc_seq_region fun K22 hK22 => ?_
  refine wlv hfr (v_load_all (hst.get (k := 1) rfl) rfl (Tryz.isAgg28 _) (Tryz.sizeOf28 _)) fun a hfr => ?_
  refine wlv hfr (v_fieldAddr (v := .pointer (some ⟨b1, 6, none⟩)) rfl (by kernel_rfl)) fun a hfr => ?_
  refine wl_store 2 hfr hst rfl rfl rfl (Tryz.sizeOf28 _) rfl (lb rfl) (ds := [iv o.who, iv (pickI holder 10), iv o.rf, iv o.rt, iv (pickI carrier 8), iv (pickI serial 1000), iv o.sf, iv o.st, .string (⟨#[]⟩)]) rfl rfl ?_
  clear hfr hst
  intro a w33 hfr hst
  refine wl_nil (hK22 _ _ ?_)
  refine wc_seq_k fun K23 hK23 => ?_
  refine wc_of_dr (by kernel_rfl) (dr_of_wd (by kernel_rfl) fun w34 hxz => ?_)
  replace hst := hst.grow hxz
  refine wd_sub (k := 0) 9 [6, 8] hfr (by kernel_rfl) (by kernel_rfl) (by kernel_rfl) (by rfl) ?_
  replace hfr : Fr 138 [(2, _), (3, _), (7, _), (9, _), (8, _), (10, _), (127, _), (128, _)] [] a := hfr.pick [2, 3, 7, 9, 8, 10, 127, 128]
  refine wc_phases_new 7 8 30 [iv 0, iv 0, iv 0, iv 0, iv 0, iv 0, iv 0, iv 0, .string (⟨#[]⟩)] [iv o.who, iv (pickI holder 10), iv o.rf, iv o.rt, iv (pickI carrier 8), iv (pickI serial 1000), iv o.sf, iv o.st, sv (sealH (keyH o.who) (bareW o holder carrier serial).content)] 9 [[], [0], [], [1, 2], [3], [4], [4], [], [5, 7]] (fun i => match i with | 0 => pv (iv o.who) | 1 => pv (sv (keyH o.who)) | 2 => pv (.agg #[iv o.who, iv (pickI holder 10), iv o.rf, iv o.rt, iv (pickI carrier 8), iv (pickI serial 1000), iv o.sf, iv o.st, .string (⟨#[]⟩)]) | 3 => pv (.tuple #[.agg #[iv o.who, iv (pickI holder 10), iv o.rf, iv o.rt, iv (pickI carrier 8), iv (pickI serial 1000), iv o.sf, iv o.st, sv (sealH (keyH o.who) (bareW o holder carrier serial).content)], iv 0]) | 4 => pv (.tuple #[.agg #[iv o.who, iv (pickI holder 10), iv o.rf, iv o.rt, iv (pickI carrier 8), iv (pickI serial 1000), iv o.sf, iv o.st, sv (sealH (keyH o.who) (bareW o holder carrier serial).content)], iv 0]) | 5 => pv (.agg #[iv o.who, iv (pickI holder 10), iv o.rf, iv o.rt, iv (pickI carrier 8), iv (pickI serial 1000), iv o.sf, iv o.st, sv (sealH (keyH o.who) (bareW o holder carrier serial).content)]) | 6 => pv (iv 0) | 7 => fun v E => ∃ b, v = ptr b ∧ E = [] | 8 => fun v E => v = undef ∧ E = [] | _ => fun _ _ => False) hfr (H := [blk w1.heap.size [iv 0, iv 0, iv 0, iv 0, iv 0, iv 0, iv 0, iv 0, .string (⟨#[]⟩)] 30, blk w8.heap.size [iv o.sf, iv o.st] 28, blk b1 [iv o.who, iv (pickI holder 10), iv o.rf, iv o.rt, iv (pickI carrier 8), iv (pickI serial 1000), iv o.sf, iv o.st, .string (⟨#[]⟩)] 30, own v 40 7 ((pxysOf (firstOf holder r0 r1 s0 s1) (ys.take k)).map Pxy.cells)]) hst (by kernel_rfl) (by kernel_rfl) (by kernel_rfl) (by kernel_rfl) (by decide) (by decide) (by decide) (by decide) (by decide) ?_ (fun v E h => h) ⟨rfl, rfl⟩ (fun v E => Iff.rfl) ?_ ?_ ?_ ?_
  ·intro i v E h
   match i, h with
   | 0, _ => exact by decide
   | 1, _ => exact by decide
   | 2, _ => exact by decide
   | 3, _ => exact by decide
   | 4, _ => exact by decide
   | 5, _ => exact by decide
   | 6, _ => exact by decide
   | 7, _ => exact by decide
   | 8, _ => exact by decide
   | i + 9, h => exact h.elim
  ·intro i hi hia hij e
   match i, hi, hia, hij with
   | 0, _, _, _ =>
    intro w hst
    exact OpV.g (v_move rfl)
   | 1, _, _, _ =>
    rintro _ _ ⟨rfl, rfl⟩
    intro w hst
    exact g_callp Tryz.call21 rfl (key_ok o.who _)
   | 2, _, _, _ =>
    intro w hst
    exact OpV.g (v_load_all (hst.get (k := 3) rfl) rfl (Tryz.isAgg30 _) (Tryz.sizeOf30 _))
   | 3, _, _, _ =>
    rintro _ _ ⟨rfl, rfl⟩ _ _ ⟨rfl, rfl⟩
    intro w hst
    exact g_callp Tryz.call23 rfl (rsignwish_ok (keyH o.who) (bareW o holder carrier serial) _ (keyH_len _) hwok)
   | 4, _, _, _ =>
    rintro _ _ ⟨rfl, rfl⟩
    intro w hst
    exact OpV.g (v_move rfl)
   | 5, _, _, _ =>
    rintro _ _ ⟨rfl, rfl⟩
    intro w hst
    exact OpV.g (v_extract rfl rfl)
   | 6, _, _, _ =>
    rintro _ _ ⟨rfl, rfl⟩
    intro w hst
    exact OpV.g (v_extract rfl rfl)
   | 7, _, h, _ => exact absurd rfl h
   | 8, _, _, h => exact absurd rfl h
  ·exact fun Lv w => r_alloc (Tryz.zeroValue30 _)
  ·rintro _ _ ⟨rfl, rfl⟩ _ _ ⟨b7, rfl, rfl⟩
   intro b hb w h
   have hb : some (ptr b7) = some (ptr b) := hb
   cases hb
   exact r_storeU rfl rfl h (Tryz.sizeOf30 _) rfl (lb rfl) rfl
  clear hfr hst
  rintro bq _ _ ⟨⟨rfl, rfl⟩, -⟩ _ _ ⟨⟨rfl, rfl⟩, -⟩ _ _ ⟨⟨rfl, rfl⟩, -⟩ _ _ ⟨⟨rfl, rfl⟩, -⟩ _ _ ⟨⟨rfl, rfl⟩, -⟩ _ _ ⟨⟨rfl, rfl⟩, -⟩ _ _ ⟨⟨rfl, rfl⟩, -⟩ _ _ ⟨⟨b7, rfl, rfl⟩, hva⟩ a w35 hfr hst
  obtain rfl : b7 = bq := ptr_inj (hva rfl)
  replace hfr : Fr 138 [(130, _), (131, _), (132, _), (133, _), (129, _), (134, _), (135, _), (16, _), (2, _), (3, _), (7, _), (9, _), (8, _), (10, _), (127, _), (128, _)] [] a := hfr
  replace hst : St No w0 [blk b7 [iv o.who, iv (pickI holder 10), iv o.rf, iv o.rt, iv (pickI carrier 8), iv (pickI serial 1000), iv o.sf, iv o.st, sv (sealH (keyH o.who) (bareW o holder carrier serial).content)] 30, blk w1.heap.size [iv 0, iv 0, iv 0, iv 0, iv 0, iv 0, iv 0, iv 0, .string (⟨#[]⟩)] 30, blk w8.heap.size [iv o.sf, iv o.st] 28, blk b1 [iv o.who, iv (pickI holder 10), iv o.rf, iv o.rt, iv (pickI carrier 8), iv (pickI serial 1000), iv o.sf, iv o.st, .string (⟨#[]⟩)] 30, own v 40 7 ((pxysOf (firstOf holder r0 r1 s0 s1) (ys.take k)).map Pxy.cells)] w35 := hst
  refine wl_nil ?_
  refine wd_lin (k := 9) 10 [9] (by kernel_rfl) (by kernel_rfl) (by kernel_rfl) ?_
  refine wla hfr rfl fun a hfr => ?_
  refine wl_nil ?_
  refine wd_end (by kernel_rfl) ?_
  refine hK23 _ _ ?_
  replace hfr : Fr 138 [(2, _), (3, _), (10, _), (16, _)] [] a := hfr.pick [2, 3, 10, 16]
  replace hst : St No w0 [_, _, _] w35 := hst.mask [true, true, false, false, true]
  refine wc_seq_region fun K24 hK24 => ?_
  refine wlv hfr (v_load_all (hst.get (k := 0) rfl) rfl (Tryz.isAgg30 _) (Tryz.sizeOf30 _)) fun a hfr => wlm hfr rfl fun a hfr => ?_
  refine wl_store 1 hfr hst rfl rfl rfl (Tryz.sizeOf30 _) rfl (lb rfl) (ds := [iv o.who, iv (pickI holder 10), iv o.rf, iv o.rt, iv (pickI carrier 8), iv (pickI serial 1000), iv o.sf, iv o.st, sv (sealH (keyH o.who) (bareW o holder carrier serial).content)]) rfl rfl ?_
  clear hfr hst
  intro a w36 hfr hst
  refine wla hfr rfl fun a hfr => ?_
  refine wl_nil (hK24 _ _ ?_)
  refine wc_ret ?_
  refine fin_ret hfr Tryz.results9 (resAre_cell rfl (res_all (hst.get (k := 1) rfl) (Tryz.isAgg30 _) (Tryz.sizeOf30 _)) (resAre_tmp rfl resAre_nil)) ?_
  rw [hk4] at hst ho
  subst ho
  exact ⟨v, rfl, trivial, hst.ext, St.out (E := [own v 40 7 ((madeL holder r0 r1 s0 s1 ys).map Pxy.cells)]) (H := []) (hst.select [2] (by decide))⟩
 rw [hb2] at hfr
 try simp only [qz] at hb2
 refine wln hfr fun a hfr => ?_
 refine wln hfr fun a hfr => ?_
 refine wlv hfr (v_pick_f rfl rfl) fun a hfr => ?_
 refine wl_nil (hK12 _ _ ?_)
 replace hfr : Fr 138 [(1, _), (2, _), (3, _), (5, _), (7, _), (9, _), (8, _), (10, _), (11, _), (63, _)] [] a := hfr.pick [1, 2, 3, 5, 7, 9, 8, 10, 11, 63]
 refine wc_cond_f hfr rfl ?_
 refine wc_exit ?_
 refine hK9 _ _ ?_
 obtain ⟨ho1, ho2, ho3, ho4, ho5, ho6, ho7, ho8⟩ := id hok
 have hwok := bareW_ok hok holder carrier serial
 have hkm : k = min 4 ys.length := by omega
 have hk4 : ys.take k = ys.take 4 := by rw [hkm]; exact take_min4 ys
 refine wc_seq_region fun K25 hK25 => ?_
 refine wlm hfr rfl fun a hfr => ?_
 refine wlv hfr (v_fieldAddr (v := .pointer (some ⟨b1, 0, none⟩)) rfl (by kernel_rfl)) fun a hfr => ?_
 refine wl_store 4 hfr hst rfl rfl rfl (Tryz.sizeOf3 _) rfl (lb rfl) (ds := [iv o.who, iv (pickI holder 10), iv 0, iv 0, iv (pickI carrier 8), iv (pickI serial 1000), iv 0, iv 0, .string (⟨#[]⟩)]) rfl rfl ?_
 clear hfr hst
 intro a w37 hfr hst
 refine wl_nil (hK25 _ _ ?_)
 refine wc_seq_region fun K26 hK26 => ?_
 refine wlv hfr (v_load_all (hst.get (k := 2) rfl) rfl (Tryz.isAgg27 _) (Tryz.sizeOf27 _)) fun a hfr => ?_
 refine wlv hfr (v_fieldAddr (v := .pointer (some ⟨b1, 2, none⟩)) rfl (by kernel_rfl)) fun a hfr => ?_
 refine wl_store 4 hfr hst rfl rfl rfl (Tryz.sizeOf27 _) rfl (lb rfl) (ds := [iv o.who, iv (pickI holder 10), iv o.rf, iv o.rt, iv (pickI carrier 8), iv (pickI serial 1000), iv 0, iv 0, .string (⟨#[]⟩)]) rfl rfl ?_
 clear hfr hst
 intro a w38 hfr hst
 refine wl_nil (hK26 _ _ ?_)
 replace hfr : Fr 138 [(2, _), (3, _), (7, _), (9, _), (8, _), (10, _)] [] a := hfr.pick [2, 3, 7, 9, 8, 10]
 replace hst : St No w0 [_, _, _, _] w38 := hst.mask [false, true, false, true, true, true]
 refine wc_seq_region fun K27 hK27 => ?_
 refine wlv hfr (v_load_all (hst.get (k := 1) rfl) rfl (Tryz.isAgg28 _) (Tryz.sizeOf28 _)) fun a hfr => ?_
 refine wlv hfr (v_fieldAddr (v := .pointer (some ⟨b1, 6, none⟩)) rfl (by kernel_rfl)) fun a hfr => ?_
 refine wl_store 2 hfr hst rfl rfl rfl (Tryz.sizeOf28 _) rfl (lb rfl) (ds := [iv o.who, iv (pickI holder 10), iv o.rf, iv o.rt, iv (pickI carrier 8), iv (pickI serial 1000), iv o.sf, iv o.st, .string (⟨#[]⟩)]) rfl rfl ?_
 clear hfr hst
 intro a w39 hfr hst
 refine wl_nil (hK27 _ _ ?_)
 refine wc_seq_k fun K28 hK28 => ?_
 refine wc_of_dr (by kernel_rfl) (dr_of_wd (by kernel_rfl) fun w40 hxz => ?_)
 replace hst := hst.grow hxz
 refine wd_sub (k := 0) 9 [6, 8] hfr (by kernel_rfl) (by kernel_rfl) (by kernel_rfl) (by rfl) ?_
 replace hfr : Fr 138 [(2, _), (3, _), (7, _), (9, _), (8, _), (10, _), (127, _), (128, _)] [] a := hfr.pick [2, 3, 7, 9, 8, 10, 127, 128]
 refine wc_phases_new 7 8 30 [iv 0, iv 0, iv 0, iv 0, iv 0, iv 0, iv 0, iv 0, .string (⟨#[]⟩)] [iv o.who, iv (pickI holder 10), iv o.rf, iv o.rt, iv (pickI carrier 8), iv (pickI serial 1000), iv o.sf, iv o.st, sv (sealH (keyH o.who) (bareW o holder carrier serial).content)] 9 [[], [0], [], [1, 2], [3], [4], [4], [], [5, 7]] (fun i => match i with | 0 => pv (iv o.who) | 1 => pv (sv (keyH o.who)) | 2 => pv (.agg #[iv o.who, iv (pickI holder 10), iv o.rf, iv o.rt, iv (pickI carrier 8), iv (pickI serial 1000), iv o.sf, iv o.st, .string (⟨#[]⟩)]) | 3 => pv (.tuple #[.agg #[iv o.who, iv (pickI holder 10), iv o.rf, iv o.rt, iv (pickI carrier 8), iv (pickI serial 1000), iv o.sf, iv o.st, sv (sealH (keyH o.who) (bareW o holder carrier serial).content)], iv 0]) | 4 => pv (.tuple #[.agg #[iv o.who, iv (pickI holder 10), iv o.rf, iv o.rt, iv (pickI carrier 8), iv (pickI serial 1000), iv o.sf, iv o.st, sv (sealH (keyH o.who) (bareW o holder carrier serial).content)], iv 0]) | 5 => pv (.agg #[iv o.who, iv (pickI holder 10), iv o.rf, iv o.rt, iv (pickI carrier 8), iv (pickI serial 1000), iv o.sf, iv o.st, sv (sealH (keyH o.who) (bareW o holder carrier serial).content)]) | 6 => pv (iv 0) | 7 => fun v E => ∃ b, v = ptr b ∧ E = [] | 8 => fun v E => v = undef ∧ E = [] | _ => fun _ _ => False) hfr (H := [blk w1.heap.size [iv 0, iv 0, iv 0, iv 0, iv 0, iv 0, iv 0, iv 0, .string (⟨#[]⟩)] 30, blk w8.heap.size [iv o.sf, iv o.st] 28, blk b1 [iv o.who, iv (pickI holder 10), iv o.rf, iv o.rt, iv (pickI carrier 8), iv (pickI serial 1000), iv o.sf, iv o.st, .string (⟨#[]⟩)] 30, own v 40 7 ((pxysOf (firstOf holder r0 r1 s0 s1) (ys.take k)).map Pxy.cells)]) hst (by kernel_rfl) (by kernel_rfl) (by kernel_rfl) (by kernel_rfl) (by decide) (by decide) (by decide) (by decide) (by decide) ?_ (fun v E h => h) ⟨rfl, rfl⟩ (fun v E => Iff.rfl) ?_ ?_ ?_ ?_
 ·intro i v E h
  match i, h with
  | 0, _ => exact by decide
  | 1, _ => exact by decide
  | 2, _ => exact by decide
  | 3, _ => exact by decide
  | 4, _ => exact by decide
  | 5, _ => exact by decide
  | 6, _ => exact by decide
  | 7, _ => exact by decide
  | 8, _ => exact by decide
  | i + 9, h => exact h.elim
 ·intro i hi hia hij e
  match i, hi, hia, hij with
  | 0, _, _, _ =>
   intro w hst
   exact OpV.g (v_move rfl)
  | 1, _, _, _ =>
   rintro _ _ ⟨rfl, rfl⟩
   intro w hst
   exact g_callp Tryz.call21 rfl (key_ok o.who _)
  | 2, _, _, _ =>
   intro w hst
   exact OpV.g (v_load_all (hst.get (k := 3) rfl) rfl (Tryz.isAgg30 _) (Tryz.sizeOf30 _))
  | 3, _, _, _ =>
   rintro _ _ ⟨rfl, rfl⟩ _ _ ⟨rfl, rfl⟩
   intro w hst
   exact g_callp Tryz.call23 rfl (rsignwish_ok (keyH o.who) (bareW o holder carrier serial) _ (keyH_len _) hwok)
  | 4, _, _, _ =>
   rintro _ _ ⟨rfl, rfl⟩
   intro w hst
   exact OpV.g (v_move rfl)
  | 5, _, _, _ =>
   rintro _ _ ⟨rfl, rfl⟩
   intro w hst
   exact OpV.g (v_extract rfl rfl)
  | 6, _, _, _ =>
   rintro _ _ ⟨rfl, rfl⟩
   intro w hst
   exact OpV.g (v_extract rfl rfl)
  | 7, _, h, _ => exact absurd rfl h
  | 8, _, _, h => exact absurd rfl h
 ·exact fun Lv w => r_alloc (Tryz.zeroValue30 _)
 ·rintro _ _ ⟨rfl, rfl⟩ _ _ ⟨b8, rfl, rfl⟩
  intro b hb w h
  have hb : some (ptr b8) = some (ptr b) := hb
  cases hb
  exact r_storeU rfl rfl h (Tryz.sizeOf30 _) rfl (lb rfl) rfl
 clear hfr hst
 rintro bq _ _ ⟨⟨rfl, rfl⟩, -⟩ _ _ ⟨⟨rfl, rfl⟩, -⟩ _ _ ⟨⟨rfl, rfl⟩, -⟩ _ _ ⟨⟨rfl, rfl⟩, -⟩ _ _ ⟨⟨rfl, rfl⟩, -⟩ _ _ ⟨⟨rfl, rfl⟩, -⟩ _ _ ⟨⟨rfl, rfl⟩, -⟩ _ _ ⟨⟨b8, rfl, rfl⟩, hva⟩ a w41 hfr hst
 obtain rfl : b8 = bq := ptr_inj (hva rfl)
 replace hfr : Fr 138 [(130, _), (131, _), (132, _), (133, _), (129, _), (134, _), (135, _), (16, _), (2, _), (3, _), (7, _), (9, _), (8, _), (10, _), (127, _), (128, _)] [] a := hfr
 replace hst : St No w0 [blk b8 [iv o.who, iv (pickI holder 10), iv o.rf, iv o.rt, iv (pickI carrier 8), iv (pickI serial 1000), iv o.sf, iv o.st, sv (sealH (keyH o.who) (bareW o holder carrier serial).content)] 30, blk w1.heap.size [iv 0, iv 0, iv 0, iv 0, iv 0, iv 0, iv 0, iv 0, .string (⟨#[]⟩)] 30, blk w8.heap.size [iv o.sf, iv o.st] 28, blk b1 [iv o.who, iv (pickI holder 10), iv o.rf, iv o.rt, iv (pickI carrier 8), iv (pickI serial 1000), iv o.sf, iv o.st, .string (⟨#[]⟩)] 30, own v 40 7 ((pxysOf (firstOf holder r0 r1 s0 s1) (ys.take k)).map Pxy.cells)] w41 := hst
 refine wl_nil ?_
 refine wd_lin (k := 9) 10 [9] (by kernel_rfl) (by kernel_rfl) (by kernel_rfl) ?_
 refine wla hfr rfl fun a hfr => ?_
 refine wl_nil ?_
 refine wd_end (by kernel_rfl) ?_
 refine hK28 _ _ ?_
 replace hfr : Fr 138 [(2, _), (3, _), (10, _), (16, _)] [] a := hfr.pick [2, 3, 10, 16]
 replace hst : St No w0 [_, _, _] w41 := hst.mask [true, true, false, false, true]
 refine wc_seq_region fun K29 hK29 => ?_
 refine wlv hfr (v_load_all (hst.get (k := 0) rfl) rfl (Tryz.isAgg30 _) (Tryz.sizeOf30 _)) fun a hfr => wlm hfr rfl fun a hfr => ?_
 refine wl_store 1 hfr hst rfl rfl rfl (Tryz.sizeOf30 _) rfl (lb rfl) (ds := [iv o.who, iv (pickI holder 10), iv o.rf, iv o.rt, iv (pickI carrier 8), iv (pickI serial 1000), iv o.sf, iv o.st, sv (sealH (keyH o.who) (bareW o holder carrier serial).content)]) rfl rfl ?_
 clear hfr hst
 intro a w42 hfr hst
 refine wla hfr rfl fun a hfr => ?_
 refine wl_nil (hK29 _ _ ?_)
 refine wc_ret ?_
 refine fin_ret hfr Tryz.results9 (resAre_cell rfl (res_all (hst.get (k := 1) rfl) (Tryz.isAgg30 _) (Tryz.sizeOf30 _)) (resAre_tmp rfl resAre_nil)) ?_
 rw [hk4] at hst ho
 subst ho
 exact ⟨v, rfl, trivial, hst.ext, St.out (E := [own v 40 7 ((madeL holder r0 r1 s0 s1 ys).map Pxy.cells)]) (H := []) (hst.select [2] (by decide))⟩
end Go.Proofs.YtmmfieceinmloaaGreatDoor
namespace Go.Proofs.YtmmfieceinmloaaGreatDoor
open Go.RowKit Go.PW
set_option linter.unusedVariables false
set_option linter.unusedSimpArgs false
set_option maxRecDepth 4000
theorem eqF_cons {P : Program} {w : World} {d : Nat} {xs ys : Array Value} {f : Field} {fs : List Field} {a b : Value} {r r' : Bool} (hn : f.name ≠ "_") (h1 : (part f.type xs f.offset).run P w = .ok a w) (h2 : (part f.type ys f.offset).run P w = .ok b w)
  (h3 : (Op.equalIn d f.type a b).run P w = .ok r w) (h4 : (Op.eqFields d xs ys fs).run P w = .ok r' w) : (Op.eqFields d xs ys (f :: fs)).run P w = .ok (r && r') w := by
 simp only [Op.eqFields, hn, ne_eq, not_false_eq_true, if_true, Sem.run_bind, h1, h2, h3, Result.andThen_ok]
 cases r
 ·simp
 ·simpa using h4
theorem eqF_nil {P : Program} {w : World} {d : Nat} {xs ys : Array Value} : (Op.eqFields d xs ys []).run P w = .ok true w := by simp [Op.eqFields]
theorem eqI {w : World} (d : Nat) (a b : Int) : (Op.equalIn (d + 1) 3 (iv a) (iv b)).run Tryz.prog w = .ok (decide (a = b)) w := by
 rw [run_equalIn_int w d 3 .i64 .i64 a b Tryz.underlying3]; congr 1
theorem eqS {w : World} (d : Nat) (a b : By) : (Op.equalIn (d + 1) 9 (sv a) (sv b)).run Tryz.prog w = .ok (decide (a = b)) w := by
 unfold sv
 rw [run_equalIn_string w d 9 _ _ Tryz.underlying9, ByteArray.toList_mk, ByteArray.toList_mk]; congr 1
 rw [Bool.eq_iff_iff]; simp
theorem eqRange {w : World} (d : Nat) (a0 a1 c0 c1 : Int) : (Op.equalIn (d + 1 + 1) 27 (.agg #[iv a0, iv a1]) (.agg #[iv c0, iv c1])).run Tryz.prog w = .ok (decide (a0 = c0) && (decide (a1 = c1) && true)) w := by
 rw [run_equalIn_struct w (d + 1) 27 _ _ (by kernel_rfl) (by kernel_rfl)]
 simp only [Program.fieldsOf, Tryz.underlying27]
 refine eqF_cons (a := iv a0) (b := iv c0) (r := decide (a0 = c0)) (by decide) (by simp [part, Tryz.isAgg3, sv]) (by simp [part, Tryz.isAgg3, sv]) (eqI _ _ _) ?_
 refine eqF_cons (a := iv a1) (b := iv c1) (r := decide (a1 = c1)) (by decide) (by simp [part, Tryz.isAgg3, sv]) (by simp [part, Tryz.isAgg3, sv]) (eqI _ _ _) ?_
 exact eqF_nil
theorem eqSpell {w : World} (d : Nat) (a0 a1 c0 c1 : Int) : (Op.equalIn (d + 1 + 1) 28 (.agg #[iv a0, iv a1]) (.agg #[iv c0, iv c1])).run Tryz.prog w = .ok (decide (a0 = c0) && (decide (a1 = c1) && true)) w := by
 rw [run_equalIn_struct w (d + 1) 28 _ _ (by kernel_rfl) (by kernel_rfl)]
 simp only [Program.fieldsOf, Tryz.underlying28]
 refine eqF_cons (a := iv a0) (b := iv c0) (r := decide (a0 = c0)) (by decide) (by simp [part, Tryz.isAgg3, sv]) (by simp [part, Tryz.isAgg3, sv]) (eqI _ _ _) ?_
 refine eqF_cons (a := iv a1) (b := iv c1) (r := decide (a1 = c1)) (by decide) (by simp [part, Tryz.isAgg3, sv]) (by simp [part, Tryz.isAgg3, sv]) (eqI _ _ _) ?_
 exact eqF_nil
theorem eqWsh (a0 a1 a2 a3 a4 a5 a6 a7 : Int) (a8 : By) (c0 c1 c2 c3 c4 c5 c6 c7 : Int) (c8 : By) (w : World) : (Op.equal 30 (.agg #[iv a0, iv a1, iv a2, iv a3, iv a4, iv a5, iv a6, iv a7, sv a8]) (.agg #[iv c0, iv c1, iv c2, iv c3, iv c4, iv c5, iv c6, iv c7, sv c8])).run Tryz.prog w = .ok (decide (Wsh.mk a0 a1 a2 a3 a4 a5 a6 a7 a8 = Wsh.mk c0 c1 c2 c3 c4 c5 c6 c7 c8)) w := by
 have e : decide (Wsh.mk a0 a1 a2 a3 a4 a5 a6 a7 a8 = Wsh.mk c0 c1 c2 c3 c4 c5 c6 c7 c8) = (decide (a0 = c0) && (decide (a1 = c1) && ((decide (a2 = c2) && (decide (a3 = c3) && true)) && (decide (a4 = c4) && (decide (a5 = c5) && ((decide (a6 = c6) && (decide (a7 = c7) && true)) && (decide (a8 = c8) && true))))))) := by
  rw [Bool.eq_iff_iff]; simp [and_assoc]
 rw [e]
 unfold Op.equal Op.maxDepth
 obtain ⟨dd, hd⟩ : ∃ dd, 10000 = dd + 1 + 1 + 1 := ⟨9997, rfl⟩
 rw [hd, run_equalIn_struct w (dd + 1 + 1) 30 _ _ (by kernel_rfl) (by kernel_rfl)]
 simp only [Program.fieldsOf, Tryz.underlying30]
 refine eqF_cons (a := iv a0) (b := iv c0) (r := decide (a0 = c0)) (by decide) (by simp [part, Tryz.isAgg3, sv]) (by simp [part, Tryz.isAgg3, sv]) (eqI _ _ _) ?_
 refine eqF_cons (a := iv a1) (b := iv c1) (r := decide (a1 = c1)) (by decide) (by simp [part, Tryz.isAgg3, sv]) (by simp [part, Tryz.isAgg3, sv]) (eqI _ _ _) ?_
 refine eqF_cons (a := .agg #[iv a2, iv a3]) (b := .agg #[iv c2, iv c3]) (r := (decide (a2 = c2) && (decide (a3 = c3) && true))) (by decide) (by simp [part, Tryz.isAgg27, Tryz.sizeOf27]) (by simp [part, Tryz.isAgg27, Tryz.sizeOf27]) (eqRange _ _ _ _ _) ?_
 refine eqF_cons (a := iv a4) (b := iv c4) (r := decide (a4 = c4)) (by decide) (by simp [part, Tryz.isAgg3, sv]) (by simp [part, Tryz.isAgg3, sv]) (eqI _ _ _) ?_
 refine eqF_cons (a := iv a5) (b := iv c5) (r := decide (a5 = c5)) (by decide) (by simp [part, Tryz.isAgg3, sv]) (by simp [part, Tryz.isAgg3, sv]) (eqI _ _ _) ?_
 refine eqF_cons (a := .agg #[iv a6, iv a7]) (b := .agg #[iv c6, iv c7]) (r := (decide (a6 = c6) && (decide (a7 = c7) && true))) (by decide) (by simp [part, Tryz.isAgg28, Tryz.sizeOf28]) (by simp [part, Tryz.isAgg28, Tryz.sizeOf28]) (eqSpell _ _ _ _ _) ?_
 refine eqF_cons (a := sv a8) (b := sv c8) (r := decide (a8 = c8)) (by decide) (by simp [part, Tryz.isAgg9, sv]) (by simp [part, Tryz.isAgg9, sv]) (eqS _ _ _) ?_
 exact eqF_nil
theorem eqPxy (a0 a1 a2 a3 a4 a5 : Int) (a6 : By) (c0 c1 c2 c3 c4 c5 : Int) (c6 : By) (w : World) : (Op.equal 40 (.agg #[iv a0, iv a1, iv a2, iv a3, iv a4, iv a5, sv a6]) (.agg #[iv c0, iv c1, iv c2, iv c3, iv c4, iv c5, sv c6])).run Tryz.prog w = .ok (decide (Pxy.mk a0 a1 a2 a3 a4 a5 a6 = Pxy.mk c0 c1 c2 c3 c4 c5 c6)) w := by
 have e : decide (Pxy.mk a0 a1 a2 a3 a4 a5 a6 = Pxy.mk c0 c1 c2 c3 c4 c5 c6) = (decide (a0 = c0) && (decide (a1 = c1) && ((decide (a2 = c2) && (decide (a3 = c3) && true)) && ((decide (a4 = c4) && (decide (a5 = c5) && true)) && (decide (a6 = c6) && true))))) := by
  rw [Bool.eq_iff_iff]; simp [and_assoc]
 rw [e]
 unfold Op.equal Op.maxDepth
 obtain ⟨dd, hd⟩ : ∃ dd, 10000 = dd + 1 + 1 + 1 := ⟨9997, rfl⟩
 rw [hd, run_equalIn_struct w (dd + 1 + 1) 40 _ _ (by kernel_rfl) (by kernel_rfl)]
 simp only [Program.fieldsOf, Tryz.underlying40]
 refine eqF_cons (a := iv a0) (b := iv c0) (r := decide (a0 = c0)) (by decide) (by simp [part, Tryz.isAgg3, sv]) (by simp [part, Tryz.isAgg3, sv]) (eqI _ _ _) ?_
 refine eqF_cons (a := iv a1) (b := iv c1) (r := decide (a1 = c1)) (by decide) (by simp [part, Tryz.isAgg3, sv]) (by simp [part, Tryz.isAgg3, sv]) (eqI _ _ _) ?_
 refine eqF_cons (a := .agg #[iv a2, iv a3]) (b := .agg #[iv c2, iv c3]) (r := (decide (a2 = c2) && (decide (a3 = c3) && true))) (by decide) (by simp [part, Tryz.isAgg27, Tryz.sizeOf27]) (by simp [part, Tryz.isAgg27, Tryz.sizeOf27]) (eqRange _ _ _ _ _) ?_
 refine eqF_cons (a := .agg #[iv a4, iv a5]) (b := .agg #[iv c4, iv c5]) (r := (decide (a4 = c4) && (decide (a5 = c5) && true))) (by decide) (by simp [part, Tryz.isAgg28, Tryz.sizeOf28]) (by simp [part, Tryz.isAgg28, Tryz.sizeOf28]) (eqSpell _ _ _ _ _) ?_
 refine eqF_cons (a := sv a6) (b := sv c6) (r := decide (a6 = c6)) (by decide) (by simp [part, Tryz.isAgg9, sv]) (by simp [part, Tryz.isAgg9, sv]) (eqS _ _ _) ?_
 exact eqF_nil
theorem same_end {α : Type} {d : α} {xs ys : List α} {k : Nat} (hl : xs.length = ys.length) (hk : xs.length ≤ k) (h : ∀ j, j < k → xs.getD j d = ys.getD j d) : xs = ys := by
 refine List.ext_getElem hl fun j h1 h2 => ?_
 have := h j (by omega)
 simpa [List.getD_eq_getElem?_getD, h1, h2] using this
theorem same_ne {α : Type} {d : α} {xs ys : List α} {k : Nat} (h : xs.getD k d ≠ ys.getD k d) : xs ≠ ys := fun e => h (by rw [e])
def bentW (x : Wsh) (how n : Int) : Wsh :=
 if pickI how 9 = 0 then { x with signer := n } else if pickI how 9 = 1 then { x with holder := n } else if pickI how 9 = 2 then { x with rf := n } else if pickI how 9 = 3 then { x with rt := n } else
 if pickI how 9 = 4 then { x with carrier := n } else if pickI how 9 = 5 then { x with serial := n } else if pickI how 9 = 6 then { x with sf := n } else if pickI how 9 = 7 then { x with st := n } else { x with rt := x.rt + 1 }
theorem samep_ok (av bv : Value) (xs ys : List Pxy) (w0 : World) (hav : SlAt w0 av 7 (xs.map Pxy.cells)) (hbv : SlAt w0 bv 7 (ys.map Pxy.cells)) :
  Ret Tryz.prog 30 #[av, bv] w0 fun v w => v = .bool (decide (xs = ys)) ∧ Ext No w0 w := by
 have hxb := hav.2.1
 have hyb := hbv.2.1
 simp only [List.length_map, big] at hxb hyb
 refine ret_of Tryz.func30 rfl Tryz.ntmps30 (lb rfl) fun a hfr => ?_
 replace hfr : Fr 26 [(0, _), (1, _)] [] a := hfr
 replace hst : St No w0 [] w0 := St.init w0
 refine wc_seq_region fun K1 hK1 => ?_
 refine wla hfr rfl fun a hfr => ?_
 refine wl_nil (hK1 _ _ ?_)
 refine wc_seq_k fun K2 hK2 => ?_
 refine wc_seq_region fun K3 hK3 => ?_
 refine wlm hfr rfl fun a hfr => ?_
 refine wlv hfr ((v_len_sl (sT := 31) (hst.arg hav) rfl rfl (Tryz.runUnderlying31 _)).asi (m' := (xs.length : Int)) (by rw [List.length_map])) fun a hfr => wlm hfr rfl fun a hfr => ?_
 refine wlv hfr ((v_len_sl (sT := 31) (hst.arg hbv) rfl rfl (Tryz.runUnderlying31 _)).asi (m' := (ys.length : Int)) (by rw [List.length_map])) fun a hfr => ?_
 refine wlv hfr (v_ne rfl rfl) fun a hfr => ?_
 refine wl_nil (hK3 _ _ ?_)
 refine wc_cond hfr rfl (fun hc1 => ?_) (fun hc1 => ?_)
 ·rw [hc1] at hfr
  try simp only [qz] at hc1
  refine wc_seq_region fun K4 hK4 => ?_
  refine wla hfr rfl fun a hfr => ?_
  refine wl_nil (hK4 _ _ ?_)
  refine wc_ret ?_
  refine fin_ret hfr Tryz.results30 (resAre_tmp rfl resAre_nil) ?_
  exact ⟨by simp only [retv]; congr 1; refine (decide_eq_false fun h => ?_).symm; subst h; simp at hc1, hst.ext⟩
 rw [hc1] at hfr
 try simp only [qz] at hc1
 have hlen : xs.length = ys.length := by omega
 refine wc_skip ?_
 refine hK2 _ _ ?_
 refine wc_seq_k fun K5 hK5 => ?_
 refine wc_seq_region fun K6 hK6 => ?_
 refine wla hfr rfl fun a hfr => ?_
 refine wl_nil (hK6 _ _ ?_)
 refine wc_block ?_
 refine wc_loop (fun m a w => ∃ (k : Nat), m = xs.length - k ∧ (k ≤ xs.length) ∧ (∀ j, j < k → xs.getD j Pxy.z = ys.getD j Pxy.z) ∧ Fr 26 [(0, av), (1, bv), (5, iv (k : Int))] [] a ∧ St No w0 [] w) _ ⟨0, rfl, Nat.zero_le _, (fun j h => absurd h (Nat.not_lt_zero _)), hfr.pick [0, 1, 5], hst.select [] (by decide)⟩ ?_
 rintro _ a w1 ⟨k, rfl, hk, hsame, hfr, hst⟩
 refine wc_seq_k fun K7 hK7 => ?_
 refine wc_seq_region fun K8 hK8 => ?_
 refine wlm hfr rfl fun a hfr => wlm hfr rfl fun a hfr => ?_
 refine wlv hfr ((v_len_sl (sT := 31) (hst.arg hav) rfl rfl (Tryz.runUnderlying31 _)).asi (m' := (xs.length : Int)) (by rw [List.length_map])) fun a hfr => ?_
 refine wlv hfr (v_lt rfl rfl) fun a hfr => ?_
 refine wl_nil (hK8 _ _ ?_)
 refine wc_cond hfr rfl (fun hc2 => ?_) (fun hc2 => ?_)
 ·rw [hc2] at hfr
  try simp only [qz] at hc2
  have hkx : k < xs.length := by omega
  have hky : k < ys.length := by omega
  refine wc_skip ?_
  refine hK7 _ _ ?_
  refine wc_seq_k fun K9 hK9 => ?_
  refine wc_block ?_
  refine wc_seq_k fun K10 hK10 => ?_
  refine wc_of_dr (by kernel_rfl) (dr_of_wd (by kernel_rfl) fun w2 hxz => ?_)
  replace hst := hst.grow hxz
  refine wd_sub (k := 0) 8 [3, 7] hfr (by kernel_rfl) (by kernel_rfl) (by kernel_rfl) (by rfl) ?_
  replace hfr : Fr 26 [(0, _), (1, _), (5, _), (11, _), (12, _), (13, _), (14, _)] [] a := hfr.pick [0, 1, 5, 11, 12, 13, 14]
  refine wc_phases_q [] (fun i => match i with | _ => fun _ _ => False) 8 [[], [], [0, 1], [2], [], [], [4, 5], [6]] [av, iv (k : Int), slAddr av (k * 7), .agg #[iv ((xs.getD k Pxy.z).frm), iv ((xs.getD k Pxy.z).to), iv ((xs.getD k Pxy.z).rf), iv ((xs.getD k Pxy.z).rt), iv ((xs.getD k Pxy.z).sf), iv ((xs.getD k Pxy.z).st), sv ((xs.getD k Pxy.z).sig)], bv, iv (k : Int), slAddr bv (k * 7), .agg #[iv ((ys.getD k Pxy.z).frm), iv ((ys.getD k Pxy.z).to), iv ((ys.getD k Pxy.z).rf), iv ((ys.getD k Pxy.z).rt), iv ((ys.getD k Pxy.z).sf), iv ((ys.getD k Pxy.z).st), sv ((ys.getD k Pxy.z).sig)]] hfr hst (by kernel_rfl) (by kernel_rfl) (by kernel_rfl) ?_ ?_ ?_
  ·intro i hi hiq
   match i, hi, hiq with
   | 0, _, _ =>
    intro w hst
    exact OpV.g (v_move rfl)
   | 1, _, _ =>
    intro w hst
    exact OpV.g (v_move rfl)
   | 2, _, _ =>
    intro w hst
    exact OpV.g ((v_indexAddr_sl (i := (k : Int)) (sT := 31) (hst.arg hav) rfl rfl (Tryz.runUnderlying31 _) (Tryz.sizeOf40 _) (by omega) (by rw [List.length_map]; exact hkx)).as (v' := slAddr av (k * 7)) rfl)
   | 3, _, _ =>
    intro w hst
    exact OpV.g ((v_load_sl (hst.arg hav) (i := k) (by rw [List.length_map]; exact hkx) rfl (Tryz.isAgg40 _) (Tryz.sizeOf40 _)).as (v' := .agg #[iv ((xs.getD k Pxy.z).frm), iv ((xs.getD k Pxy.z).to), iv ((xs.getD k Pxy.z).rf), iv ((xs.getD k Pxy.z).rt), iv ((xs.getD k Pxy.z).sf), iv ((xs.getD k Pxy.z).st), sv ((xs.getD k Pxy.z).sig)]) (by rw [el_at Pxy.z]; rfl))
   | 4, _, _ =>
    intro w hst
    exact OpV.g (v_move rfl)
   | 5, _, _ =>
    intro w hst
    exact OpV.g (v_move rfl)
   | 6, _, _ =>
    intro w hst
    exact OpV.g ((v_indexAddr_sl (i := (k : Int)) (sT := 31) (hst.arg hbv) rfl rfl (Tryz.runUnderlying31 _) (Tryz.sizeOf40 _) (by omega) (by rw [List.length_map]; exact hky)).as (v' := slAddr bv (k * 7)) rfl)
   | 7, _, _ =>
    intro w hst
    exact OpV.g ((v_load_sl (hst.arg hbv) (i := k) (by rw [List.length_map]; exact hky) rfl (Tryz.isAgg40 _) (Tryz.sizeOf40 _)).as (v' := .agg #[iv ((ys.getD k Pxy.z).frm), iv ((ys.getD k Pxy.z).to), iv ((ys.getD k Pxy.z).rf), iv ((ys.getD k Pxy.z).rt), iv ((ys.getD k Pxy.z).sf), iv ((ys.getD k Pxy.z).st), sv ((ys.getD k Pxy.z).sig)]) (by rw [el_at Pxy.z]; rfl))
  ·intro i hi
   exact absurd hi (by simp)
  clear hfr hst
  intro  a w3 hfr hst
  replace hfr : Fr 26 [(17, av), (18, iv (k : Int)), (19, slAddr av (k * 7)), (20, .agg #[iv ((xs.getD k Pxy.z).frm), iv ((xs.getD k Pxy.z).to), iv ((xs.getD k Pxy.z).rf), iv ((xs.getD k Pxy.z).rt), iv ((xs.getD k Pxy.z).sf), iv ((xs.getD k Pxy.z).st), sv ((xs.getD k Pxy.z).sig)]), (21, bv), (22, iv (k : Int)), (23, slAddr bv (k * 7)), (24, .agg #[iv ((ys.getD k Pxy.z).frm), iv ((ys.getD k Pxy.z).to), iv ((ys.getD k Pxy.z).rf), iv ((ys.getD k Pxy.z).rt), iv ((ys.getD k Pxy.z).sf), iv ((ys.getD k Pxy.z).st), sv ((ys.getD k Pxy.z).sig)]), (0, _), (1, _), (5, _), (11, _), (12, _), (13, _), (14, _)] [] a := hfr
  refine wl_nil ?_
  refine wd_lin (k := 8) 9 [8] (by kernel_rfl) (by kernel_rfl) (by kernel_rfl) ?_
  refine wlv hfr ((v_ne_agg rfl rfl (by kernel_rfl) (eqPxy ((xs.getD k Pxy.z).frm) ((xs.getD k Pxy.z).to) ((xs.getD k Pxy.z).rf) ((xs.getD k Pxy.z).rt) ((xs.getD k Pxy.z).sf) ((xs.getD k Pxy.z).st) ((xs.getD k Pxy.z).sig) ((ys.getD k Pxy.z).frm) ((ys.getD k Pxy.z).to) ((ys.getD k Pxy.z).rf) ((ys.getD k Pxy.z).rt) ((ys.getD k Pxy.z).sf) ((ys.getD k Pxy.z).st) ((ys.getD k Pxy.z).sig) _)).asb (b' := !(decide ((xs.getD k Pxy.z) = (ys.getD k Pxy.z)))) (by rfl)) fun a hfr => ?_
  refine wl_nil ?_
  refine wd_end (by kernel_rfl) ?_
  refine hK10 _ _ ?_
  replace hfr : Fr 26 [(0, _), (1, _), (5, _), (25, _)] [] a := hfr.pick [0, 1, 5, 25]
  refine wc_cond hfr rfl (fun hc3 => ?_) (fun hc3 => ?_)
  ·rw [hc3] at hfr
   try simp only [qz] at hc3
   refine wc_seq_region fun K11 hK11 => ?_
   refine wla hfr rfl fun a hfr => ?_
   refine wl_nil (hK11 _ _ ?_)
   refine wc_ret ?_
   refine fin_ret hfr Tryz.results30 (resAre_tmp rfl resAre_nil) ?_
   exact ⟨by simp only [retv]; congr 1; exact (decide_eq_false (same_ne (d := Pxy.z) (k := k) (by simpa using hc3))).symm, hst.ext⟩
  rw [hc3] at hfr
  try simp only [qz] at hc3
  refine wc_skip ?_
  refine hK9 _ _ ?_
  refine wc_region ?_
  refine wlm hfr rfl fun a hfr => ?_
  refine wlv hfr (v_add rfl rfl ⟨by omega, by omega⟩) fun a hfr => wla hfr rfl fun a hfr => ?_
  refine wl_nil ?_
  refine ⟨_, ?_, k + 1, rfl, (by omega), (fun j h => by rcases Nat.lt_succ_iff_lt_or_eq.1 h with h | rfl; exact hsame j h; simpa using hc3), hfr.pick [0, 1, 5], hst.select [] (by decide)⟩
  omega
 rw [hc2] at hfr
 try simp only [qz] at hc2
 refine wc_exit ?_
 refine hK5 _ _ ?_
 refine wc_seq_region fun K12 hK12 => ?_
 refine wla hfr rfl fun a hfr => ?_
 refine wl_nil (hK12 _ _ ?_)
 replace hfr : Fr 26 [(4, _)] [] a := hfr.pick [4]
 refine wc_ret ?_
 refine fin_ret hfr Tryz.results30 (resAre_tmp rfl resAre_nil) ?_
 exact ⟨by simp only [retv]; congr 1; exact (decide_eq_true (same_end hlen (by omega) hsame)).symm, hst.ext⟩
set_option maxHeartbeats 4000000 in
theorem bent_ok (x : Wsh) (how n : Int) (w0 : World) (hh : -9223372036854775808 ≤ how ∧ how ≤ 9223372036854775807) (hx : x.rt < 9223372036854775807) (hx2 : -9223372036854775808 ≤ x.rt) :
  Ret Tryz.prog 10 #[.agg #[iv x.signer, iv x.holder, iv x.rf, iv x.rt, iv x.carrier, iv x.serial, iv x.sf, iv x.st, sv x.sig], iv how, iv n] w0 fun v w => v = .tuple #[.agg (bentW x how n).cells.toArray, .bool (!(decide (bentW x how n = x)))] ∧ Ext No w0 w := by
 refine ret_of Tryz.func10 rfl Tryz.ntmps10 (lb rfl) fun a hfr => ?_
 replace hfr : Fr 58 [(0, _), (1, _), (2, _)] [] a := hfr
 replace hst : St No w0 [] w0 := St.init w0
 refine wc_seq_region fun K1 hK1 => ?_
 refine wl_box hfr hst (by decide) rfl (cs := [iv x.signer, iv x.holder, iv x.rf, iv x.rt, iv x.carrier, iv x.serial, iv x.sf, iv x.st, sv x.sig]) rfl ?_
 clear hfr hst
 intro a w1 hfr hst
 refine wl_alloc hfr hst (by decide) (Tryz.zeroValue30 _) (cs := [iv 0, iv 0, iv 0, iv 0, iv 0, iv 0, iv 0, iv 0, .string (⟨#[]⟩)]) rfl ?_
 clear hfr hst
 intro a w2 hfr hst
 refine wla hfr rfl fun a hfr => ?_
 refine wl_nil (hK1 _ _ ?_)
 refine wc_seq_region fun K2 hK2 => ?_
 refine wlv hfr (v_load_all (hst.get (k := 1) rfl) rfl (Tryz.isAgg30 _) (Tryz.sizeOf30 _)) fun a hfr => ?_
 refine wl_alloc hfr hst (by decide) (Tryz.zeroValue30 _) (cs := [iv 0, iv 0, iv 0, iv 0, iv 0, iv 0, iv 0, iv 0, .string (⟨#[]⟩)]) rfl ?_
 clear hfr hst
 intro a w3 hfr hst
 refine wl_store 0 hfr hst rfl rfl rfl (Tryz.sizeOf30 _) rfl (lb rfl) (ds := [iv x.signer, iv x.holder, iv x.rf, iv x.rt, iv x.carrier, iv x.serial, iv x.sf, iv x.st, sv x.sig]) rfl rfl ?_
 clear hfr hst
 intro a w4 hfr hst
 refine wl_nil (hK2 _ _ ?_)
 refine wc_seq_k fun K3 hK3 => ?_
 refine wc_seq_region fun K4 hK4 => ?_
 refine wlm hfr rfl fun a hfr => ?_
 refine wl_callp hfr hst (by decide) Tryz.call53 rfl (pick15_ok how 9 _ (by first | assumption | omega) (by omega)) ?_
 clear hfr hst
 intro a w5 hfr hst
 refine wl_nil (hK4 _ _ ?_)
 refine wc_meet (fun a w => ∃ (o : Wsh), (bentW x how n = o) ∧ Fr 58 [(3, .pointer (some ⟨w0.heap.size, 0, none⟩)), (6, .pointer (some ⟨w1.heap.size, 0, none⟩)), (7, .bool false), (8, .pointer (some ⟨w2.heap.size, 0, none⟩))] [] a ∧ St No w0 [blk w2.heap.size [iv o.signer, iv o.holder, iv o.rf, iv o.rt, iv o.carrier, iv o.serial, iv o.sf, iv o.st, sv o.sig] 30, blk w1.heap.size [iv 0, iv 0, iv 0, iv 0, iv 0, iv 0, iv 0, iv 0, .string (⟨#[]⟩)] 30, blk w0.heap.size [iv x.signer, iv x.holder, iv x.rf, iv x.rt, iv x.carrier, iv x.serial, iv x.sf, iv x.st, sv x.sig] 30] w) ?_ ?_
 ·refine wc_block ?_
  refine wc_seq_region fun K5 hK5 => ?_
  refine wlv hfr (v_eq rfl rfl) fun a hfr => wla hfr rfl fun a hfr => ?_
  refine wl_nil (hK5 _ _ ?_)
  refine wc_cond hfr rfl (fun hc1 => ?_) (fun hc1 => ?_)
  ·rw [hc1] at hfr
   try simp only [qz] at hc1
   refine wc_region ?_
   refine wlm hfr rfl fun a hfr => ?_
   refine wlv hfr (v_fieldAddr (v := .pointer (some ⟨w2.heap.size, 0, none⟩)) rfl (by kernel_rfl)) fun a hfr => ?_
   refine wl_store 0 hfr hst rfl rfl rfl (Tryz.sizeOf3 _) rfl (lb rfl) (ds := [iv n, iv x.holder, iv x.rf, iv x.rt, iv x.carrier, iv x.serial, iv x.sf, iv x.st, sv x.sig]) rfl rfl ?_
   clear hfr hst
   intro a w6 hfr hst
   refine wl_nil ?_
   exact ⟨⟨n, x.holder, x.rf, x.rt, x.carrier, x.serial, x.sf, x.st, x.sig⟩, (by unfold bentW; simp [hc1]), hfr.pick [3, 6, 7, 8], hst.select [0, 1, 2] (by decide)⟩
  rw [hc1] at hfr
  try simp only [qz] at hc1
  refine wc_seq_region fun K6 hK6 => ?_
  refine wlv hfr (v_eq rfl rfl) fun a hfr => wla hfr rfl fun a hfr => ?_
  refine wl_nil (hK6 _ _ ?_)
  replace hfr : Fr 58 [(2, _), (3, _), (6, _), (7, _), (8, _), (11, _), (22, _)] [] a := hfr.pick [2, 3, 6, 7, 8, 11, 22]
  refine wc_cond hfr rfl (fun hc2 => ?_) (fun hc2 => ?_)
  ·rw [hc2] at hfr
   try simp only [qz] at hc2
   refine wc_region ?_
   refine wlm hfr rfl fun a hfr => ?_
   refine wlv hfr (v_fieldAddr (v := .pointer (some ⟨w2.heap.size, 1, none⟩)) rfl (by kernel_rfl)) fun a hfr => ?_
   refine wl_store 0 hfr hst rfl rfl rfl (Tryz.sizeOf3 _) rfl (lb rfl) (ds := [iv x.signer, iv n, iv x.rf, iv x.rt, iv x.carrier, iv x.serial, iv x.sf, iv x.st, sv x.sig]) rfl rfl ?_
   clear hfr hst
   intro a w7 hfr hst
   refine wl_nil ?_
   exact ⟨⟨x.signer, n, x.rf, x.rt, x.carrier, x.serial, x.sf, x.st, x.sig⟩, (by unfold bentW; simp [hc1, hc2]), hfr.pick [3, 6, 7, 8], hst.select [0, 1, 2] (by decide)⟩
  rw [hc2] at hfr
  try simp only [qz] at hc2
  refine wc_seq_region fun K7 hK7 => ?_
  refine wlv hfr (v_eq rfl rfl) fun a hfr => wla hfr rfl fun a hfr => ?_
  refine wl_nil (hK7 _ _ ?_)
  refine wc_cond hfr rfl (fun hc3 => ?_) (fun hc3 => ?_)
  ·rw [hc3] at hfr
   try simp only [qz] at hc3
   refine wc_region ?_
   refine wlm hfr rfl fun a hfr => ?_
   refine wlv hfr (v_fieldAddr (v := .pointer (some ⟨w2.heap.size, 2, none⟩)) rfl (by kernel_rfl)) fun a hfr => ?_
   refine wlv hfr (v_fieldAddr (v := .pointer (some ⟨w2.heap.size, 2, none⟩)) rfl (by kernel_rfl)) fun a hfr => ?_
   refine wl_store 0 hfr hst rfl rfl rfl (Tryz.sizeOf3 _) rfl (lb rfl) (ds := [iv x.signer, iv x.holder, iv n, iv x.rt, iv x.carrier, iv x.serial, iv x.sf, iv x.st, sv x.sig]) rfl rfl ?_
   clear hfr hst
   intro a w8 hfr hst
   refine wl_nil ?_
   exact ⟨⟨x.signer, x.holder, n, x.rt, x.carrier, x.serial, x.sf, x.st, x.sig⟩, (by unfold bentW; simp [hc1, hc2, hc3]), hfr.pick [3, 6, 7, 8], hst.select [0, 1, 2] (by decide)⟩
  rw [hc3] at hfr
  try simp only [qz] at hc3
  refine wc_seq_region fun K8 hK8 => ?_
  refine wlv hfr (v_eq rfl rfl) fun a hfr => wla hfr rfl fun a hfr => ?_
  refine wl_nil (hK8 _ _ ?_)
  refine wc_cond hfr rfl (fun hc4 => ?_) (fun hc4 => ?_)
  ·rw [hc4] at hfr
   try simp only [qz] at hc4
   refine wc_region ?_
   refine wlm hfr rfl fun a hfr => ?_
   refine wlv hfr (v_fieldAddr (v := .pointer (some ⟨w2.heap.size, 2, none⟩)) rfl (by kernel_rfl)) fun a hfr => ?_
   refine wlv hfr (v_fieldAddr (v := .pointer (some ⟨w2.heap.size, 3, none⟩)) rfl (by kernel_rfl)) fun a hfr => ?_
   refine wl_store 0 hfr hst rfl rfl rfl (Tryz.sizeOf3 _) rfl (lb rfl) (ds := [iv x.signer, iv x.holder, iv x.rf, iv n, iv x.carrier, iv x.serial, iv x.sf, iv x.st, sv x.sig]) rfl rfl ?_
   clear hfr hst
   intro a w9 hfr hst
   refine wl_nil ?_
   exact ⟨⟨x.signer, x.holder, x.rf, n, x.carrier, x.serial, x.sf, x.st, x.sig⟩, (by unfold bentW; simp [hc1, hc2, hc3, hc4]), hfr.pick [3, 6, 7, 8], hst.select [0, 1, 2] (by decide)⟩
  rw [hc4] at hfr
  try simp only [qz] at hc4
  refine wc_seq_region fun K9 hK9 => ?_
  refine wlv hfr (v_eq rfl rfl) fun a hfr => wla hfr rfl fun a hfr => ?_
  refine wl_nil (hK9 _ _ ?_)
  replace hfr : Fr 58 [(2, _), (3, _), (6, _), (7, _), (8, _), (11, _), (36, _)] [] a := hfr.pick [2, 3, 6, 7, 8, 11, 36]
  refine wc_cond hfr rfl (fun hc5 => ?_) (fun hc5 => ?_)
  ·rw [hc5] at hfr
   try simp only [qz] at hc5
   refine wc_region ?_
   refine wlm hfr rfl fun a hfr => ?_
   refine wlv hfr (v_fieldAddr (v := .pointer (some ⟨w2.heap.size, 4, none⟩)) rfl (by kernel_rfl)) fun a hfr => ?_
   refine wl_store 0 hfr hst rfl rfl rfl (Tryz.sizeOf3 _) rfl (lb rfl) (ds := [iv x.signer, iv x.holder, iv x.rf, iv x.rt, iv n, iv x.serial, iv x.sf, iv x.st, sv x.sig]) rfl rfl ?_
   clear hfr hst
   intro a w10 hfr hst
   refine wl_nil ?_
   exact ⟨⟨x.signer, x.holder, x.rf, x.rt, n, x.serial, x.sf, x.st, x.sig⟩, (by unfold bentW; simp [hc1, hc2, hc3, hc4, hc5]), hfr.pick [3, 6, 7, 8], hst.select [0, 1, 2] (by decide)⟩
  rw [hc5] at hfr
  try simp only [qz] at hc5
  refine wc_seq_region fun K10 hK10 => ?_
  refine wlv hfr (v_eq rfl rfl) fun a hfr => wla hfr rfl fun a hfr => ?_
  refine wl_nil (hK10 _ _ ?_)
  refine wc_cond hfr rfl (fun hc6 => ?_) (fun hc6 => ?_)
  ·rw [hc6] at hfr
   try simp only [qz] at hc6
   refine wc_region ?_
   refine wlm hfr rfl fun a hfr => ?_
   refine wlv hfr (v_fieldAddr (v := .pointer (some ⟨w2.heap.size, 5, none⟩)) rfl (by kernel_rfl)) fun a hfr => ?_
   refine wl_store 0 hfr hst rfl rfl rfl (Tryz.sizeOf3 _) rfl (lb rfl) (ds := [iv x.signer, iv x.holder, iv x.rf, iv x.rt, iv x.carrier, iv n, iv x.sf, iv x.st, sv x.sig]) rfl rfl ?_
   clear hfr hst
   intro a w11 hfr hst
   refine wl_nil ?_
   exact ⟨⟨x.signer, x.holder, x.rf, x.rt, x.carrier, n, x.sf, x.st, x.sig⟩, (by unfold bentW; simp [hc1, hc2, hc3, hc4, hc5, hc6]), hfr.pick [3, 6, 7, 8], hst.select [0, 1, 2] (by decide)⟩
  rw [hc6] at hfr
  try simp only [qz] at hc6
  refine wc_seq_region fun K11 hK11 => ?_
  refine wlv hfr (v_eq rfl rfl) fun a hfr => wla hfr rfl fun a hfr => ?_
  refine wl_nil (hK11 _ _ ?_)
  refine wc_cond hfr rfl (fun hc7 => ?_) (fun hc7 => ?_)
  ·rw [hc7] at hfr
   try simp only [qz] at hc7
   refine wc_region ?_
   refine wlm hfr rfl fun a hfr => ?_
   refine wlv hfr (v_fieldAddr (v := .pointer (some ⟨w2.heap.size, 6, none⟩)) rfl (by kernel_rfl)) fun a hfr => ?_
   refine wlv hfr (v_fieldAddr (v := .pointer (some ⟨w2.heap.size, 6, none⟩)) rfl (by kernel_rfl)) fun a hfr => ?_
   refine wl_store 0 hfr hst rfl rfl rfl (Tryz.sizeOf3 _) rfl (lb rfl) (ds := [iv x.signer, iv x.holder, iv x.rf, iv x.rt, iv x.carrier, iv x.serial, iv n, iv x.st, sv x.sig]) rfl rfl ?_
   clear hfr hst
   intro a w12 hfr hst
   refine wl_nil ?_
   exact ⟨⟨x.signer, x.holder, x.rf, x.rt, x.carrier, x.serial, n, x.st, x.sig⟩, (by unfold bentW; simp [hc1, hc2, hc3, hc4, hc5, hc6, hc7]), hfr.pick [3, 6, 7, 8], hst.select [0, 1, 2] (by decide)⟩
  rw [hc7] at hfr
  try simp only [qz] at hc7
  refine wc_seq_region fun K12 hK12 => ?_
  refine wlv hfr (v_eq rfl rfl) fun a hfr => wla hfr rfl fun a hfr => ?_
  refine wl_nil (hK12 _ _ ?_)
  replace hfr : Fr 58 [(2, _), (3, _), (6, _), (7, _), (8, _), (49, _)] [] a := hfr.pick [2, 3, 6, 7, 8, 49]
  refine wc_cond hfr rfl (fun hc8 => ?_) (fun hc8 => ?_)
  ·rw [hc8] at hfr
   try simp only [qz] at hc8
   refine wc_region ?_
   refine wlm hfr rfl fun a hfr => ?_
   refine wlv hfr (v_fieldAddr (v := .pointer (some ⟨w2.heap.size, 6, none⟩)) rfl (by kernel_rfl)) fun a hfr => ?_
   refine wlv hfr (v_fieldAddr (v := .pointer (some ⟨w2.heap.size, 7, none⟩)) rfl (by kernel_rfl)) fun a hfr => ?_
   refine wl_store 0 hfr hst rfl rfl rfl (Tryz.sizeOf3 _) rfl (lb rfl) (ds := [iv x.signer, iv x.holder, iv x.rf, iv x.rt, iv x.carrier, iv x.serial, iv x.sf, iv n, sv x.sig]) rfl rfl ?_
   clear hfr hst
   intro a w13 hfr hst
   refine wl_nil ?_
   exact ⟨⟨x.signer, x.holder, x.rf, x.rt, x.carrier, x.serial, x.sf, n, x.sig⟩, (by unfold bentW; simp [hc1, hc2, hc3, hc4, hc5, hc6, hc7, hc8]), hfr.pick [3, 6, 7, 8], hst.select [0, 1, 2] (by decide)⟩
  rw [hc8] at hfr
  try simp only [qz] at hc8
  refine wc_region ?_
  refine wlv hfr (v_fieldAddr (v := .pointer (some ⟨w2.heap.size, 2, none⟩)) rfl (by kernel_rfl)) fun a hfr => ?_
  refine wlv hfr (v_fieldAddr (v := .pointer (some ⟨w2.heap.size, 3, none⟩)) rfl (by kernel_rfl)) fun a hfr => ?_
  refine wlv hfr (v_load_blk1 (hst.get (k := 0) rfl) rfl (Tryz.isAgg3 _) rfl) fun a hfr => ?_
  refine wlv hfr (v_add rfl rfl ⟨by omega, by omega⟩) fun a hfr => ?_
  refine wlv hfr (v_fieldAddr (v := .pointer (some ⟨w2.heap.size, 2, none⟩)) rfl (by kernel_rfl)) fun a hfr => ?_
  refine wlv hfr (v_fieldAddr (v := .pointer (some ⟨w2.heap.size, 3, none⟩)) rfl (by kernel_rfl)) fun a hfr => ?_
  refine wl_store 0 hfr hst rfl rfl rfl (Tryz.sizeOf3 _) rfl (lb rfl) (ds := [iv x.signer, iv x.holder, iv x.rf, iv (x.rt + 1), iv x.carrier, iv x.serial, iv x.sf, iv x.st, sv x.sig]) rfl rfl ?_
  clear hfr hst
  intro a w14 hfr hst
  refine wl_nil ?_
  exact ⟨⟨x.signer, x.holder, x.rf, x.rt + 1, x.carrier, x.serial, x.sf, x.st, x.sig⟩, (by unfold bentW; simp [hc1, hc2, hc3, hc4, hc5, hc6, hc7, hc8]), hfr.pick [3, 6, 7, 8], hst.select [0, 1, 2] (by decide)⟩
 rintro a w15 ⟨o, ho, hfr, hst⟩
 refine hK3 _ _ ?_
 refine wc_seq_k fun K13 hK13 => ?_
 refine wc_of_dr (by kernel_rfl) (dr_of_wd (by kernel_rfl) fun w16 hxz => ?_)
 replace hst := hst.grow hxz
 refine wd_sub (k := 0) 5 [3, 4] hfr (by kernel_rfl) (by kernel_rfl) (by kernel_rfl) (by rfl) ?_
 replace hfr : Fr 58 [(3, _), (6, _), (7, _), (8, _)] [] a := hfr.pick [3, 6, 7, 8]
 replace hst : St No w0 [blk w1.heap.size [iv 0, iv 0, iv 0, iv 0, iv 0, iv 0, iv 0, iv 0, .string (⟨#[]⟩)] 30, blk w2.heap.size [iv o.signer, iv o.holder, iv o.rf, iv o.rt, iv o.carrier, iv o.serial, iv o.sf, iv o.st, sv o.sig] 30, blk w0.heap.size [iv x.signer, iv x.holder, iv x.rf, iv x.rt, iv x.carrier, iv x.serial, iv x.sf, iv x.st, sv x.sig] 30] w16 := hst.select [1, 0, 2] (by decide)
 refine wc_phases_set [4] (fun q => if q = 4 then blk w1.heap.size [iv 0, iv 0, iv 0, iv 0, iv 0, iv 0, iv 0, iv 0, .string (⟨#[]⟩)] 30 else join []) (fun q => if q = 4 then blk w1.heap.size [iv o.signer, iv o.holder, iv o.rf, iv o.rt, iv o.carrier, iv o.serial, iv o.sf, iv o.st, sv o.sig] 30 else join []) 5 [[], [], [], [1, 2], [0]] (fun i => match i with | 0 => pv (.agg #[iv o.signer, iv o.holder, iv o.rf, iv o.rt, iv o.carrier, iv o.serial, iv o.sf, iv o.st, sv o.sig]) | 1 => pv (.agg #[iv o.signer, iv o.holder, iv o.rf, iv o.rt, iv o.carrier, iv o.serial, iv o.sf, iv o.st, sv o.sig]) | 2 => pv (.agg #[iv x.signer, iv x.holder, iv x.rf, iv x.rt, iv x.carrier, iv x.serial, iv x.sf, iv x.st, sv x.sig]) | 3 => pv (.bool (!(decide (o = x)))) | 4 => fun v E => v = undef ∧ E = [] | _ => fun _ _ => False) (by intro q; by_cases h4 : q = 4; (subst h4; rfl); simp only [h4, if_false]) hfr (H := [blk w2.heap.size [iv o.signer, iv o.holder, iv o.rf, iv o.rt, iv o.carrier, iv o.serial, iv o.sf, iv o.st, sv o.sig] 30, blk w0.heap.size [iv x.signer, iv x.holder, iv x.rf, iv x.rt, iv x.carrier, iv x.serial, iv x.sf, iv x.st, sv x.sig] 30]) hst (by kernel_rfl) (by kernel_rfl) (by kernel_rfl) (by kernel_rfl) (by decide) (by decide) ?_ ?_ ?_ ?_ ?_ ?_
 ·intro i v E h
  match i, h with
  | 0, _ => exact by decide
  | 1, _ => exact by decide
  | 2, _ => exact by decide
  | 3, _ => exact by decide
  | 4, _ => exact by decide
  | i + 5, h => exact h.elim
 ·intro q v E hq h
  simp only [List.mem_cons, List.not_mem_nil, or_false] at hq
  rcases hq with rfl <;> exact h
 ·intro q hq
  simp only [List.mem_cons, List.not_mem_nil, or_false] at hq
  rcases hq with rfl <;> exact ⟨rfl, rfl⟩
 ·intro i hi hiq e
  match i, hi, hiq with
  | 0, _, _ =>
   intro w hst
   exact OpV.g (v_load_all (hst.get (k := 1) rfl) rfl (Tryz.isAgg30 _) (Tryz.sizeOf30 _))
  | 1, _, _ =>
   intro w hst
   exact OpV.g (v_load_all (hst.get (k := 1) rfl) rfl (Tryz.isAgg30 _) (Tryz.sizeOf30 _))
  | 2, _, _ =>
   intro w hst
   exact OpV.g (v_load_all (hst.get (k := 2) rfl) rfl (Tryz.isAgg30 _) (Tryz.sizeOf30 _))
  | 3, _, _ =>
   rintro _ _ ⟨rfl, rfl⟩ _ _ ⟨rfl, rfl⟩
   intro w hst
   exact OpV.g ((v_ne_agg rfl rfl (by kernel_rfl) (eqWsh o.signer o.holder o.rf o.rt o.carrier o.serial o.sf o.st o.sig x.signer x.holder x.rf x.rt x.carrier x.serial x.sf x.st x.sig _)).asb (b' := !(decide (o = x))) (by rfl))
  | 4, _, h => exact absurd (by decide) h
 ·intro q hq
  simp only [List.mem_cons, List.not_mem_nil, or_false] at hq
  rcases hq with rfl
  ·rintro _ _ ⟨rfl, rfl⟩
   intro w h
   exact r_storeU (cs := [iv 0, iv 0, iv 0, iv 0, iv 0, iv 0, iv 0, iv 0, .string (⟨#[]⟩)]) (ds := [iv o.signer, iv o.holder, iv o.rf, iv o.rt, iv o.carrier, iv o.serial, iv o.sf, iv o.st, sv o.sig]) rfl rfl h (Tryz.sizeOf30 _) rfl (lb rfl) rfl
 clear hfr hst
 rintro _ _ ⟨rfl, rfl⟩ _ _ ⟨rfl, rfl⟩ _ _ ⟨rfl, rfl⟩ _ _ ⟨rfl, rfl⟩ a w17 hfr hst
 replace hfr : Fr 58 [(54, _), (55, _), (56, _), (57, _), (3, _), (6, _), (7, _), (8, _)] [] a := hfr
 replace hst : St No w0 [blk w1.heap.size [iv o.signer, iv o.holder, iv o.rf, iv o.rt, iv o.carrier, iv o.serial, iv o.sf, iv o.st, sv o.sig] 30, blk w2.heap.size [iv o.signer, iv o.holder, iv o.rf, iv o.rt, iv o.carrier, iv o.serial, iv o.sf, iv o.st, sv o.sig] 30, blk w0.heap.size [iv x.signer, iv x.holder, iv x.rf, iv x.rt, iv x.carrier, iv x.serial, iv x.sf, iv x.st, sv x.sig] 30] w17 := hst
 refine wl_nil ?_
 refine wd_lin (k := 5) 6 [5] (by kernel_rfl) (by kernel_rfl) (by kernel_rfl) ?_
 refine wla hfr rfl fun a hfr => ?_
 refine wl_nil ?_
 refine wd_end (by kernel_rfl) ?_
 refine hK13 _ _ ?_
 replace hfr : Fr 58 [(6, _), (7, _)] [] a := hfr.pick [6, 7]
 replace hst : St No w0 [_] w17 := hst.mask [true, false, false]
 refine wc_ret ?_
 refine fin_ret hfr Tryz.results10 (resAre_cell rfl (res_all (hst.get (k := 0) rfl) (Tryz.isAgg30 _) (Tryz.sizeOf30 _)) (resAre_tmp rfl resAre_nil)) ?_
 rw [ho]
 exact ⟨rfl, hst.ext⟩
end Go.Proofs.YtmmfieceinmloaaGreatDoor
namespace Go.Proofs.YtmmfieceinmloaaGreatDoor
open Go.RowKit Go.PW
set_option linter.unusedVariables false
set_option linter.unusedSimpArgs false
set_option maxRecDepth 4000
def bld (T : TypeId) (b : Nat) (ad v : Value) (bs : By) : Ent := join [blk b [ad, v] T, own v 5 1 ((bs).map fun b => [yv b])]
theorem bld_open {M : Nat → Prop} {w0 w : World} {T : TypeId} {b : Nat} {ad v : Value} {bs : By} {H : List Ent} (h : St M w0 (bld T b ad v bs :: H) w) : St M w0 ([blk b [ad, v] T, own v 5 1 ((bs).map fun b => [yv b])] ++ H) w := St.unjoin _ _ h
theorem check_fresh (T : TypeId) (b : Nat) (v : Value) (w0 : World) (hlie : liesAt Tryz.prog Tryz.prog.depth T (2 / Tryz.prog.cellsOf T) 0 131 1 = true) (hb : (blk b [.pointer none, v] T).ok w0) :
  Ret Tryz.prog 126 #[.pointer (some ⟨b, 0, none⟩)] w0 fun u w => u = .tuple #[] ∧ Ext (· = b) w0 w ∧ (blk b [.pointer (some ⟨b, 0, none⟩), v] T).ok w := by
 refine ret_of Tryz.func126 rfl Tryz.ntmps126 (lb rfl) fun a hfr => ?_
 replace hfr : Fr 20 [(0, _)] [] a := hfr
 replace hst : St (· = b) w0 [blk b [.pointer none, v] T] w0 := St.one hb
 refine wc_seq_region fun K1 hK1 => ?_
 refine wlm hfr rfl fun a hfr => ?_
 refine wlv hfr (v_nilCheck rfl) fun a hfr => ?_
 refine wlv hfr (v_fieldAddr (v := .pointer (some ⟨b, 0, none⟩)) rfl (by kernel_rfl)) fun a hfr => ?_
 refine wlv hfr (v_load_blk1 (hst.get (k := 0) rfl) rfl (Tryz.isAgg129 _) rfl) fun a hfr => ?_
 refine wlv hfr (v_nilp rfl rfl Tryz.underlying129) fun a hfr => ?_
 refine wl_nil (hK1 _ _ ?_)
 refine wc_cond_t hfr rfl ?_
 refine wc_region ?_
 refine wlm hfr rfl fun a hfr => wlm hfr rfl fun a hfr => ?_
 refine wlv hfr (v_tounsafe (j := Tryz.t131) (hst.get (k := 0) rfl) rfl Tryz.underlying129 Tryz.underlying216 rfl rfl (by simp)) fun a hfr => ?_
 refine wlv hfr (v_noescape Tryz.func147 (by kernel_rfl) (by kernel_rfl) (by kernel_rfl) (by kernel_rfl) rfl) fun a hfr => ?_
 refine wlv hfr (v_fromunsafe (j := Tryz.t131) (hst.get (k := 0) rfl) rfl Tryz.underlying216 Tryz.underlying129 rfl hlie) fun a hfr => ?_
 refine wlv hfr (v_nilCheck rfl) fun a hfr => ?_
 refine wlv hfr (v_fieldAddr (v := .pointer (some ⟨b, 0, none⟩)) rfl (by kernel_rfl)) fun a hfr => ?_
 refine wl_store 0 hfr hst rfl rfl rfl (Tryz.sizeOf129 _) rfl (lb rfl) (ds := [.pointer (some ⟨b, 0, none⟩), v]) rfl rfl ?_
 clear hfr hst
 intro a w2 hfr hst
 refine wl_nil ?_
 refine fin_end hfr Tryz.results126 resAre_nil ?_
 exact ⟨rfl, hst.ext, hst.get (k := 0) rfl⟩
theorem check_used (T : TypeId) (b : Nat) (v : Value) (w0 : World) (hlie : liesAt Tryz.prog Tryz.prog.depth T (2 / Tryz.prog.cellsOf T) 0 131 1 = true) (hb : (blk b [.pointer (some ⟨b, 0, none⟩), v] T).ok w0) :
  Ret Tryz.prog 126 #[.pointer (some ⟨b, 0, none⟩)] w0 fun u w => u = .tuple #[] ∧ Ext (· = b) w0 w ∧ (blk b [.pointer (some ⟨b, 0, none⟩), v] T).ok w := by
 refine ret_of Tryz.func126 rfl Tryz.ntmps126 (lb rfl) fun a hfr => ?_
 replace hfr : Fr 20 [(0, _)] [] a := hfr
 replace hst : St (· = b) w0 [blk b [.pointer (some ⟨b, 0, none⟩), v] T] w0 := St.one hb
 refine wc_seq_region fun K1 hK1 => ?_
 refine wlm hfr rfl fun a hfr => ?_
 refine wlv hfr (v_nilCheck rfl) fun a hfr => ?_
 refine wlv hfr (v_fieldAddr (v := .pointer (some ⟨b, 0, none⟩)) rfl (by kernel_rfl)) fun a hfr => ?_
 refine wlv hfr (v_load_blk1 (hst.get (k := 0) rfl) rfl (Tryz.isAgg129 _) rfl) fun a hfr => ?_
 refine wlv hfr (v_ptrnil rfl rfl Tryz.underlying129) fun a hfr => ?_
 refine wl_nil (hK1 _ _ ?_)
 refine wc_cond_f hfr rfl ?_
 refine wc_seq_region fun K2 hK2 => ?_
 refine wlm hfr rfl fun a hfr => ?_
 refine wlv hfr (v_nilCheck rfl) fun a hfr => ?_
 refine wlv hfr (v_fieldAddr (v := .pointer (some ⟨b, 0, none⟩)) rfl (by kernel_rfl)) fun a hfr => ?_
 refine wlv hfr (v_load_blk1 (hst.get (k := 0) rfl) rfl (Tryz.isAgg129 _) rfl) fun a hfr => wlm hfr rfl fun a hfr => ?_
 refine wlv hfr (v_ptrne (j := Tryz.t131) rfl rfl Tryz.underlying129 rfl) fun a hfr => ?_
 refine wl_nil (hK2 _ _ ?_)
 replace hfr : Fr 20 [(19, _)] [] a := hfr.pick [19]
 refine wc_cond_f hfr rfl ?_
 refine wc_skip ?_
 refine fin_end hfr Tryz.results126 resAre_nil ?_
 exact ⟨rfl, hst.ext, hst.get (k := 0) rfl⟩
theorem wstr_fresh {M : Nat → Prop} {w0 : World} (T : TypeId) (b : Nat) (v : Value) (bs : By) (s : By) (ws : World) (hlie : liesAt Tryz.prog Tryz.prog.depth T (2 / Tryz.prog.cellsOf T) 0 131 1 = true) (hne : s ≠ []) (hbn : bs.length + s.length ≤ 1000000000) (hst : St M w0 [bld T b (.pointer none) v bs] ws) :
  Ret Tryz.prog 78 #[.pointer (some ⟨b, 0, none⟩), sv s] ws fun u w => u = .tuple #[iv (s.length : Int), .nilIface] ∧ ∃ v2, St M w0 [bld T b (.pointer (some ⟨b, 0, none⟩)) v2 (bs ++ s)] w := by
 refine ret_of Tryz.func78 rfl Tryz.ntmps78 (lb rfl) fun a hfr => ?_
 replace hfr : Fr 19 [(0, _), (1, _)] [] a := hfr
 replace hst : St M w0 [blk b [.pointer none, v] T, own v 5 1 ((bs).map fun b => [yv b])] ws := bld_open hst
 refine wc_seq_region fun K1 hK1 => ?_
 refine wla hfr rfl fun a hfr => wla hfr rfl fun a hfr => ?_
 refine wl_nil (hK1 _ _ ?_)
 refine wc_seq_region fun K2 hK2 => ?_
 refine wlm hfr rfl fun a hfr => ?_
 refine wl_callw 0 hfr hst (by decide) Tryz.call126 rfl rfl (check_fresh T b _ _ hlie (hst.get (k := 0) rfl)) rfl ?_
 clear hfr hst
 intro a w1 hfr hst
 refine wl_nil (hK2 _ _ ?_)
 refine wc_seq_region fun K3 hK3 => ?_
 refine wlm hfr rfl fun a hfr => wlm hfr rfl fun a hfr => ?_
 refine wlv hfr (v_nilCheck rfl) fun a hfr => ?_
 refine wlv hfr (v_fieldAddr (v := .pointer (some ⟨b, 1, none⟩)) rfl (by kernel_rfl)) fun a hfr => ?_
 refine wlv hfr (v_load_blk1 (hst.get (k := 0) rfl) rfl (Tryz.isAgg62 _) rfl) fun a hfr => wlm hfr rfl fun a hfr => ?_
 refine wl_append_str (i := 1) (sT := 62) (uT := 9) (inf := Tryz.t5) (bs := bs) (s := s) rfl rfl rfl hne Tryz.underlying62 Tryz.underlying9 rfl rfl rfl rfl (by omega) (by decide) hfr hst ?_
 clear hfr hst
 intro a w2 s1 hfr hst
 refine wlv hfr (v_nilCheck rfl) fun a hfr => ?_
 refine wlv hfr (v_fieldAddr (v := .pointer (some ⟨b, 1, none⟩)) rfl (by kernel_rfl)) fun a hfr => ?_
 refine wl_store_sl 0 hfr hst (hst.ownAt (i := 1) rfl) rfl rfl rfl (Tryz.sizeOf62 _) (lb rfl) (ds := [.pointer (some ⟨b, 0, none⟩), s1]) rfl rfl ?_
 clear hfr hst
 intro a w3 hfr hst
 refine wl_nil (hK3 _ _ ?_)
 replace hfr : Fr 19 [(1, _), (4, _), (5, _)] [] a := hfr.pick [1, 4, 5]
 refine wc_seq_region fun K4 hK4 => ?_
 refine wlm hfr rfl fun a hfr => ?_
 refine wlv hfr (v_len_str rfl rfl (Tryz.runUnderlying9 _)) fun a hfr => wla hfr rfl fun a hfr => wla hfr rfl fun a hfr => ?_
 refine wl_nil (hK4 _ _ ?_)
 refine wc_ret ?_
 refine fin_ret hfr Tryz.results78 (resAre_tmp rfl (resAre_tmp rfl resAre_nil)) ?_
 replace hst : St M w0 [blk b [.pointer (some ⟨b, 0, none⟩), s1] T, own s1 5 1 ((bs ++ s).map fun b => [yv b])] _ := hst.select [0, 1] (by decide)
 exact ⟨rfl, s1, St.join [blk b [.pointer (some ⟨b, 0, none⟩), s1] T, own s1 5 1 ((bs ++ s).map fun b => [yv b])] [] hst⟩
theorem wbyte_fresh {M : Nat → Prop} {w0 : World} (T : TypeId) (b : Nat) (v : Value) (bs : By) (z : UInt8) (ws : World) (hlie : liesAt Tryz.prog Tryz.prog.depth T (2 / Tryz.prog.cellsOf T) 0 131 1 = true) (hbn : bs.length + 1 ≤ 1000000000) (hst : St M w0 [bld T b (.pointer none) v bs] ws) :
  Ret Tryz.prog 88 #[.pointer (some ⟨b, 0, none⟩), yv z] ws fun u w => u = .nilIface ∧ ∃ v2, St M w0 [bld T b (.pointer (some ⟨b, 0, none⟩)) v2 (bs ++ [z])] w := by
 refine ret_of Tryz.func88 rfl Tryz.ntmps88 (lb rfl) fun a hfr => ?_
 replace hfr : Fr 17 [(0, _), (1, _)] [] a := hfr
 replace hst : St M w0 [blk b [.pointer none, v] T, own v 5 1 ((bs).map fun b => [yv b])] ws := bld_open hst
 refine wc_seq_region fun K1 hK1 => ?_
 refine wla hfr rfl fun a hfr => ?_
 refine wl_nil (hK1 _ _ ?_)
 refine wc_seq_region fun K2 hK2 => ?_
 refine wlm hfr rfl fun a hfr => ?_
 refine wl_callw 0 hfr hst (by decide) Tryz.call126 rfl rfl (check_fresh T b _ _ hlie (hst.get (k := 0) rfl)) rfl ?_
 clear hfr hst
 intro a w1 hfr hst
 refine wl_nil (hK2 _ _ ?_)
 refine wc_seq_region fun K3 hK3 => ?_
 refine wlm hfr rfl fun a hfr => wlm hfr rfl fun a hfr => ?_
 refine wlv hfr (v_nilCheck rfl) fun a hfr => ?_
 refine wlv hfr (v_fieldAddr (v := .pointer (some ⟨b, 1, none⟩)) rfl (by kernel_rfl)) fun a hfr => ?_
 refine wlv hfr (v_load_blk1 (hst.get (k := 0) rfl) rfl (Tryz.isAgg62 _) rfl) fun a hfr => wlm hfr rfl fun a hfr => ?_
 refine wl_buildSlice (E := 5) (sz := 1) rfl [[yv z]] (by kernel_rfl) (by simp) rfl (by decide) (by decide) hfr hst ?_
 clear hfr hst
 intro a w2 hfr hst
 refine wl_append (i := 2) (sT := 62) (inf := Tryz.t5) (z := yv (0 : UInt8)) (b := 0) (off := 0) (m := 0) (c := 0) rfl rfl rfl (hst.ownAt (i := 0) rfl) (by simp) Tryz.underlying62 rfl rfl rfl rfl (by decide) (by simp [Value.oneCell', yv, wv, sv]) (by have hby : Tryz.t5.bytes = 1 := rfl; simp [big, hby] <;> omega) (by have hby : Tryz.t5.bytes = 1 := rfl; simp [big, hby] <;> omega) (by decide) hfr hst fun a w3 s1 hfr hst _ => ?_
 rw [show ((bs).map fun b => [yv b]) ++ ([[yv z]]) = ((bs ++ [z]).map fun b => [yv b]) from by simp] at hst
 refine wlv hfr (v_nilCheck rfl) fun a hfr => ?_
 refine wlv hfr (v_fieldAddr (v := .pointer (some ⟨b, 1, none⟩)) rfl (by kernel_rfl)) fun a hfr => ?_
 refine wl_store_sl 1 hfr hst (hst.ownAt (i := 2) rfl) rfl rfl rfl (Tryz.sizeOf62 _) (lb rfl) (ds := [.pointer (some ⟨b, 0, none⟩), s1]) rfl rfl ?_
 clear hfr hst
 intro a w4 hfr hst
 refine wl_nil (hK3 _ _ ?_)
 replace hfr : Fr 17 [(4, _)] [] a := hfr.pick [4]
 replace hst : St M w0 [_, _] w4 := hst.mask [false, true, true]
 refine wc_seq_region fun K4 hK4 => ?_
 refine wla hfr rfl fun a hfr => ?_
 refine wl_nil (hK4 _ _ ?_)
 refine wc_ret ?_
 refine fin_ret hfr Tryz.results88 (resAre_tmp rfl resAre_nil) ?_
 replace hst : St M w0 [blk b [.pointer (some ⟨b, 0, none⟩), s1] T, own s1 5 1 ((bs ++ [z]).map fun b => [yv b])] _ := hst.select [0, 1] (by decide)
 exact ⟨rfl, s1, St.join [blk b [.pointer (some ⟨b, 0, none⟩), s1] T, own s1 5 1 ((bs ++ [z]).map fun b => [yv b])] [] hst⟩
theorem wstr_used {M : Nat → Prop} {w0 : World} (T : TypeId) (b : Nat) (v : Value) (bs : By) (s : By) (ws : World) (hlie : liesAt Tryz.prog Tryz.prog.depth T (2 / Tryz.prog.cellsOf T) 0 131 1 = true) (hne : s ≠ []) (hbn : bs.length + s.length ≤ 1000000000) (hst : St M w0 [bld T b (.pointer (some ⟨b, 0, none⟩)) v bs] ws) :
  Ret Tryz.prog 78 #[.pointer (some ⟨b, 0, none⟩), sv s] ws fun u w => u = .tuple #[iv (s.length : Int), .nilIface] ∧ ∃ v2, St M w0 [bld T b (.pointer (some ⟨b, 0, none⟩)) v2 (bs ++ s)] w := by
 refine ret_of Tryz.func78 rfl Tryz.ntmps78 (lb rfl) fun a hfr => ?_
 replace hfr : Fr 19 [(0, _), (1, _)] [] a := hfr
 replace hst : St M w0 [blk b [.pointer (some ⟨b, 0, none⟩), v] T, own v 5 1 ((bs).map fun b => [yv b])] ws := bld_open hst
 refine wc_seq_region fun K1 hK1 => ?_
 refine wla hfr rfl fun a hfr => wla hfr rfl fun a hfr => ?_
 refine wl_nil (hK1 _ _ ?_)
 refine wc_seq_region fun K2 hK2 => ?_
 refine wlm hfr rfl fun a hfr => ?_
 refine wl_callw 0 hfr hst (by decide) Tryz.call126 rfl rfl (check_used T b _ _ hlie (hst.get (k := 0) rfl)) rfl ?_
 clear hfr hst
 intro a w1 hfr hst
 refine wl_nil (hK2 _ _ ?_)
 refine wc_seq_region fun K3 hK3 => ?_
 refine wlm hfr rfl fun a hfr => wlm hfr rfl fun a hfr => ?_
 refine wlv hfr (v_nilCheck rfl) fun a hfr => ?_
 refine wlv hfr (v_fieldAddr (v := .pointer (some ⟨b, 1, none⟩)) rfl (by kernel_rfl)) fun a hfr => ?_
 refine wlv hfr (v_load_blk1 (hst.get (k := 0) rfl) rfl (Tryz.isAgg62 _) rfl) fun a hfr => wlm hfr rfl fun a hfr => ?_
 refine wl_append_str (i := 1) (sT := 62) (uT := 9) (inf := Tryz.t5) (bs := bs) (s := s) rfl rfl rfl hne Tryz.underlying62 Tryz.underlying9 rfl rfl rfl rfl (by omega) (by decide) hfr hst ?_
 clear hfr hst
 intro a w2 s1 hfr hst
 refine wlv hfr (v_nilCheck rfl) fun a hfr => ?_
 refine wlv hfr (v_fieldAddr (v := .pointer (some ⟨b, 1, none⟩)) rfl (by kernel_rfl)) fun a hfr => ?_
 refine wl_store_sl 0 hfr hst (hst.ownAt (i := 1) rfl) rfl rfl rfl (Tryz.sizeOf62 _) (lb rfl) (ds := [.pointer (some ⟨b, 0, none⟩), s1]) rfl rfl ?_
 clear hfr hst
 intro a w3 hfr hst
 refine wl_nil (hK3 _ _ ?_)
 replace hfr : Fr 19 [(1, _), (4, _), (5, _)] [] a := hfr.pick [1, 4, 5]
 refine wc_seq_region fun K4 hK4 => ?_
 refine wlm hfr rfl fun a hfr => ?_
 refine wlv hfr (v_len_str rfl rfl (Tryz.runUnderlying9 _)) fun a hfr => wla hfr rfl fun a hfr => wla hfr rfl fun a hfr => ?_
 refine wl_nil (hK4 _ _ ?_)
 refine wc_ret ?_
 refine fin_ret hfr Tryz.results78 (resAre_tmp rfl (resAre_tmp rfl resAre_nil)) ?_
 replace hst : St M w0 [blk b [.pointer (some ⟨b, 0, none⟩), s1] T, own s1 5 1 ((bs ++ s).map fun b => [yv b])] _ := hst.select [0, 1] (by decide)
 exact ⟨rfl, s1, St.join [blk b [.pointer (some ⟨b, 0, none⟩), s1] T, own s1 5 1 ((bs ++ s).map fun b => [yv b])] [] hst⟩
theorem wbyte_used {M : Nat → Prop} {w0 : World} (T : TypeId) (b : Nat) (v : Value) (bs : By) (z : UInt8) (ws : World) (hlie : liesAt Tryz.prog Tryz.prog.depth T (2 / Tryz.prog.cellsOf T) 0 131 1 = true) (hbn : bs.length + 1 ≤ 1000000000) (hst : St M w0 [bld T b (.pointer (some ⟨b, 0, none⟩)) v bs] ws) :
  Ret Tryz.prog 88 #[.pointer (some ⟨b, 0, none⟩), yv z] ws fun u w => u = .nilIface ∧ ∃ v2, St M w0 [bld T b (.pointer (some ⟨b, 0, none⟩)) v2 (bs ++ [z])] w := by
 refine ret_of Tryz.func88 rfl Tryz.ntmps88 (lb rfl) fun a hfr => ?_
 replace hfr : Fr 17 [(0, _), (1, _)] [] a := hfr
 replace hst : St M w0 [blk b [.pointer (some ⟨b, 0, none⟩), v] T, own v 5 1 ((bs).map fun b => [yv b])] ws := bld_open hst
 refine wc_seq_region fun K1 hK1 => ?_
 refine wla hfr rfl fun a hfr => ?_
 refine wl_nil (hK1 _ _ ?_)
 refine wc_seq_region fun K2 hK2 => ?_
 refine wlm hfr rfl fun a hfr => ?_
 refine wl_callw 0 hfr hst (by decide) Tryz.call126 rfl rfl (check_used T b _ _ hlie (hst.get (k := 0) rfl)) rfl ?_
 clear hfr hst
 intro a w1 hfr hst
 refine wl_nil (hK2 _ _ ?_)
 refine wc_seq_region fun K3 hK3 => ?_
 refine wlm hfr rfl fun a hfr => wlm hfr rfl fun a hfr => ?_
 refine wlv hfr (v_nilCheck rfl) fun a hfr => ?_
 refine wlv hfr (v_fieldAddr (v := .pointer (some ⟨b, 1, none⟩)) rfl (by kernel_rfl)) fun a hfr => ?_
 refine wlv hfr (v_load_blk1 (hst.get (k := 0) rfl) rfl (Tryz.isAgg62 _) rfl) fun a hfr => wlm hfr rfl fun a hfr => ?_
 refine wl_buildSlice (E := 5) (sz := 1) rfl [[yv z]] (by kernel_rfl) (by simp) rfl (by decide) (by decide) hfr hst ?_
 clear hfr hst
 intro a w2 hfr hst
 refine wl_append (i := 2) (sT := 62) (inf := Tryz.t5) (z := yv (0 : UInt8)) (b := 0) (off := 0) (m := 0) (c := 0) rfl rfl rfl (hst.ownAt (i := 0) rfl) (by simp) Tryz.underlying62 rfl rfl rfl rfl (by decide) (by simp [Value.oneCell', yv, wv, sv]) (by have hby : Tryz.t5.bytes = 1 := rfl; simp [big, hby] <;> omega) (by have hby : Tryz.t5.bytes = 1 := rfl; simp [big, hby] <;> omega) (by decide) hfr hst fun a w3 s1 hfr hst _ => ?_
 rw [show ((bs).map fun b => [yv b]) ++ ([[yv z]]) = ((bs ++ [z]).map fun b => [yv b]) from by simp] at hst
 refine wlv hfr (v_nilCheck rfl) fun a hfr => ?_
 refine wlv hfr (v_fieldAddr (v := .pointer (some ⟨b, 1, none⟩)) rfl (by kernel_rfl)) fun a hfr => ?_
 refine wl_store_sl 1 hfr hst (hst.ownAt (i := 2) rfl) rfl rfl rfl (Tryz.sizeOf62 _) (lb rfl) (ds := [.pointer (some ⟨b, 0, none⟩), s1]) rfl rfl ?_
 clear hfr hst
 intro a w4 hfr hst
 refine wl_nil (hK3 _ _ ?_)
 replace hfr : Fr 17 [(4, _)] [] a := hfr.pick [4]
 replace hst : St M w0 [_, _] w4 := hst.mask [false, true, true]
 refine wc_seq_region fun K4 hK4 => ?_
 refine wla hfr rfl fun a hfr => ?_
 refine wl_nil (hK4 _ _ ?_)
 refine wc_ret ?_
 refine fin_ret hfr Tryz.results88 (resAre_tmp rfl resAre_nil) ?_
 replace hst : St M w0 [blk b [.pointer (some ⟨b, 0, none⟩), s1] T, own s1 5 1 ((bs ++ [z]).map fun b => [yv b])] _ := hst.select [0, 1] (by decide)
 exact ⟨rfl, s1, St.join [blk b [.pointer (some ⟨b, 0, none⟩), s1] T, own s1 5 1 ((bs ++ [z]).map fun b => [yv b])] [] hst⟩
theorem own_lit {w : World} {E : TypeId} {v : Value} {bs : By} (h : (own v E 1 ((bs).map fun b => [yv b])).ok w) (hne : bs ≠ []) : ∃ g cap, v = .slice (some ⟨g, 0, none⟩) bs.length cap ∧ cap ≠ 0 := by
 obtain ⟨h1, h2, h3, h4⟩ := h
 have hn : bs.length ≠ 0 := by simpa using hne
 rcases h4 with ⟨_, h0⟩ | ⟨g, cap, cur, fz, hv, _, _, hnc, _⟩
 ·rw [List.length_map] at h0; exact absurd h0 hn
 ·rw [List.length_map] at hv hnc; exact ⟨g, cap, hv, by omega⟩
theorem bstring_lit {M : Nat → Prop} {w0 : World} (T : TypeId) (b g cap : Nat) (bs : By) (ws : World) (hne : bs ≠ []) (hcap : cap ≠ 0) (hst : St M w0 [blk b [.pointer (some ⟨b, 0, none⟩), .slice (some ⟨g, 0, none⟩) bs.length cap] T, own (.slice (some ⟨g, 0, none⟩) bs.length cap) 5 1 ((bs).map fun b => [yv b])] ws) :
  Ret Tryz.prog 79 #[.pointer (some ⟨b, 0, none⟩)] ws fun u w => u = sv bs ∧ St M w0 [blk b [.pointer (some ⟨b, 0, none⟩), .slice (some ⟨g, 0, none⟩) bs.length cap] T] w := by
 refine ret_of Tryz.func79 rfl Tryz.ntmps79 (lb rfl) fun a hfr => ?_
 replace hfr : Fr 14 [(0, _)] [] a := hfr
 skip
 refine wc_seq_region fun K1 hK1 => ?_
 refine wla hfr rfl fun a hfr => ?_
 refine wl_nil (hK1 _ _ ?_)
 refine wc_seq_k fun K2 hK2 => ?_
 refine wc_of_dr (by kernel_rfl) ?_
 replace hfr : Fr 14 [(0, _), (2, _)] [] a := hfr.pick [0, 2]
 replace hst : St M w0 (own (.slice (some ⟨g, 0, none⟩) bs.length cap) 5 1 ((bs).map fun b => [yv b]) :: [blk b [.pointer (some ⟨b, 0, none⟩), .slice (some ⟨g, 0, none⟩) bs.length cap] T]) ws := hst.front (i := 1) rfl
 refine wc_phases_one 10 (own (.slice (some ⟨g, 0, none⟩) bs.length cap) 5 1 ((bs).map fun b => [yv b])) (fun _ => sl (.slice (some ⟨g, 0, none⟩) bs.length cap) 1 ((bs).map fun b => [yv b])) 11 [[], [0], [1], [2], [3], [], [5], [6], [7], [8], [4, 9]] (fun i => match i with | 0 => pv (.pointer (some ⟨b, 0, none⟩)) | 1 => pv (.pointer (some ⟨b, 0, none⟩)) | 2 => pv (.pointer (some ⟨b, 1, none⟩)) | 3 => pv (.slice (some ⟨g, 0, none⟩) bs.length cap) | 4 => pv (.pointer (some ⟨g, 0, none⟩)) | 5 => pv (.pointer (some ⟨b, 0, none⟩)) | 6 => pv (.pointer (some ⟨b, 0, none⟩)) | 7 => pv (.pointer (some ⟨b, 1, none⟩)) | 8 => pv (.slice (some ⟨g, 0, none⟩) bs.length cap) | 9 => pv (iv (bs.length : Int)) | 10 => fun v E => v = sv bs ∧ E = [] | _ => fun _ _ => False) hfr hst (by kernel_rfl) (by kernel_rfl) (by kernel_rfl) (by decide) ?_ ?_ ?_ ?_
 ·intro i v E h
  match i, h with
  | 0, _ => exact by decide
  | 1, _ => exact by decide
  | 2, _ => exact by decide
  | 3, _ => exact by decide
  | 4, _ => exact by decide
  | 5, _ => exact by decide
  | 6, _ => exact by decide
  | 7, _ => exact by decide
  | 8, _ => exact by decide
  | 9, _ => exact by decide
  | 10, _ => exact by decide
  | i + 11, h => exact h.elim
 ·intro i hi hiq e
  match i, hi, hiq with
  | 0, _, _ =>
   intro w hst
   exact OpV.g (v_move rfl)
  | 1, _, _ =>
   rintro _ _ ⟨rfl, rfl⟩
   intro w hst
   exact OpV.g (v_nilCheck rfl)
  | 2, _, _ =>
   rintro _ _ ⟨rfl, rfl⟩
   intro w hst
   exact OpV.g (v_fieldAddr (v := .pointer (some ⟨b, 1, none⟩)) rfl (by kernel_rfl))
  | 3, _, _ =>
   rintro _ _ ⟨rfl, rfl⟩
   intro w hst
   exact OpV.g (v_load_blk1 (hst.get (k := 1) rfl) rfl (Tryz.isAgg62 _) rfl)
  | 4, _, _ =>
   rintro _ _ ⟨rfl, rfl⟩
   intro w hst
   exact OpV.g (v_sliceData rfl hcap)
  | 5, _, _ =>
   intro w hst
   exact OpV.g (v_move rfl)
  | 6, _, _ =>
   rintro _ _ ⟨rfl, rfl⟩
   intro w hst
   exact OpV.g (v_nilCheck rfl)
  | 7, _, _ =>
   rintro _ _ ⟨rfl, rfl⟩
   intro w hst
   exact OpV.g (v_fieldAddr (v := .pointer (some ⟨b, 1, none⟩)) rfl (by kernel_rfl))
  | 8, _, _ =>
   rintro _ _ ⟨rfl, rfl⟩
   intro w hst
   exact OpV.g (v_load_blk1 (hst.get (k := 1) rfl) rfl (Tryz.isAgg62 _) rfl)
  | 9, _, _ =>
   rintro _ _ ⟨rfl, rfl⟩
   intro w hst
   exact OpV.g ((v_builtin (v := iv (bs.length : Int)) (vs := [.slice (some ⟨g, 0, none⟩) bs.length cap]) (by simp [evs]; rfl) (by simp [builtin, Builtin.len_, Tryz.runUnderlying62]; rfl)).as rfl)
  | 10, _, h => exact absurd rfl h
 ·rintro _ _ ⟨rfl, rfl⟩ _ _ ⟨rfl, rfl⟩
  intro w hst
  exact (r_unsafeString (hst.get (k := 0) rfl) hne rfl rfl Tryz.underlying188 (by kernel_rfl)).mono fun v w' ⟨h1, h2, h3, h4⟩ => ⟨h2, h3, h4, ⟨h1, rfl⟩⟩
 clear hfr hst
 rintro vq _ _ ⟨⟨rfl, rfl⟩, -⟩ _ _ ⟨⟨rfl, rfl⟩, -⟩ _ _ ⟨⟨rfl, rfl⟩, -⟩ _ _ ⟨⟨rfl, rfl⟩, -⟩ _ _ ⟨⟨rfl, rfl⟩, -⟩ _ _ ⟨⟨rfl, rfl⟩, -⟩ _ _ ⟨⟨rfl, rfl⟩, -⟩ _ _ ⟨⟨rfl, rfl⟩, -⟩ _ _ ⟨⟨rfl, rfl⟩, -⟩ _ _ ⟨⟨rfl, rfl⟩, -⟩ _ _ ⟨⟨rfl, rfl⟩, -⟩ a w1 hfr hst
 replace hfr : Fr 14 [(3, _), (4, _), (5, _), (6, _), (7, _), (8, _), (9, _), (10, _), (11, _), (12, _), (13, _), (0, _), (2, _)] [] a := hfr
 replace hst : St M w0 [(fun _ => sl (.slice (some ⟨g, 0, none⟩) bs.length cap) 1 ((bs).map fun b => [yv b])) vq, blk b [.pointer (some ⟨b, 0, none⟩), .slice (some ⟨g, 0, none⟩) bs.length cap] T] w1 := hst
 refine wla hfr rfl fun a hfr => ?_
 refine wl_nil ?_
 refine hK2 _ _ ?_
 replace hfr : Fr 14 [(2, _)] [] a := hfr.pick [2]
 refine wc_ret ?_
 refine fin_ret hfr Tryz.results79 (resAre_tmp rfl resAre_nil) ?_
 exact ⟨rfl, hst.select [1] (by decide)⟩
theorem bstring_ok {M : Nat → Prop} {w0 : World} (T : TypeId) (b : Nat) (v : Value) (bs : By) (ws : World) (hne : bs ≠ []) (hst : St M w0 [bld T b (.pointer (some ⟨b, 0, none⟩)) v bs] ws) :
  Ret Tryz.prog 79 #[.pointer (some ⟨b, 0, none⟩)] ws fun u w => u = sv bs ∧ St M w0 [blk b [.pointer (some ⟨b, 0, none⟩), v] T] w := by
 have hst : St M w0 [blk b [.pointer (some ⟨b, 0, none⟩), v] T, own v 5 1 ((bs).map fun b => [yv b])] ws := bld_open hst
 obtain ⟨g, cap, rfl, hcap⟩ := own_lit (hst.get (k := 1) rfl) hne
 exact bstring_lit T b g cap bs ws hne hcap hst
end Go.Proofs.YtmmfieceinmloaaGreatDoor
namespace Go.Proofs.YtmmfieceinmloaaGreatDoor
open Go.RowKit Go.PW
set_option linter.unusedVariables false
set_option linter.unusedSimpArgs false
set_option maxRecDepth 4000
theorem wstr_any {M : Nat → Prop} {w0 : World} (T : TypeId) (b : Nat) (ad v : Value) (bs s : By) (ws : World) (hlie : liesAt Tryz.prog Tryz.prog.depth T (2 / Tryz.prog.cellsOf T) 0 131 1 = true) (had : ad = .pointer none ∨ ad = .pointer (some ⟨b, 0, none⟩)) (hne : s ≠ []) (hbn : bs.length + s.length ≤ 1000000000) (hst : St M w0 [bld T b ad v bs] ws) :
  Ret Tryz.prog 78 #[.pointer (some ⟨b, 0, none⟩), sv s] ws fun u w => u = .tuple #[iv (s.length : Int), .nilIface] ∧ ∃ v2, St M w0 [bld T b (.pointer (some ⟨b, 0, none⟩)) v2 (bs ++ s)] w := by
 rcases had with rfl | rfl
 ·exact wstr_fresh T b v bs s ws hlie hne hbn hst
 ·exact wstr_used T b v bs s ws hlie hne hbn hst
theorem putI_ne (n : Int) : putI n ≠ [] := fun h => by have := (putI_len n).1; rw [h] at this; simp at this
theorem numbers_ok {M : Nat → Prop} {w0 : World} (T : TypeId) (b : Nat) (ad v lv : Value) (bs : By) (ns : List Int) (ws : World) (hlie : liesAt Tryz.prog Tryz.prog.depth T (2 / Tryz.prog.cellsOf T) 0 131 1 = true) (had : ad = .pointer none ∨ ad = .pointer (some ⟨b, 0, none⟩)) (hns : smalls ns) (hnn : ns ≠ []) (hbn : bs.length + 9 * ns.length ≤ 1000000000) (hst : St M w0 [bld T b (ad) v bs, own lv 3 1 ((ns).map fun n => [iv n])] ws) :
  Ret Tryz.prog 77 #[.pointer (some ⟨b, 0, none⟩), lv] ws fun u w => u = .tuple #[] ∧ ∃ v2, St M w0 [bld T b (.pointer (some ⟨b, 0, none⟩)) v2 (bs ++ puts ns)] w := by
 refine ret_of Tryz.func77 rfl Tryz.ntmps77 (lb rfl) fun a hfr => ?_
 replace hfr : Fr 25 [(0, _), (1, _)] [] a := hfr
 skip
 refine wc_seq_region fun K1 hK1 => ?_
 refine wlm hfr rfl fun a hfr => ?_
 refine wlv hfr ((v_len_sl (sT := 88) (hst.ownAt (i := 1) rfl) rfl rfl (Tryz.runUnderlying88 _)).asi (m' := (ns.length : Int)) (by rw [List.length_map])) fun a hfr => wlm hfr rfl fun a hfr => ?_
 refine wl_nil (hK1 _ _ ?_)
 refine wc_block ?_
 replace hst : St M w0 [bld T b ad v (bs ++ puts (ns.take 0)), own lv 3 1 ((ns).map fun n => [iv n])] ws := by rw [show bs ++ puts (ns.take 0) = bs from by simp [puts]]; exact hst
 refine wc_loop (fun m a w => ∃ (k : Nat) (ad : Value) (v : Value), m = ns.length - k ∧ (k ≤ ns.length) ∧ (ad = .pointer none ∨ ad = .pointer (some ⟨b, 0, none⟩)) ∧ (0 < k → ad = .pointer (some ⟨b, 0, none⟩)) ∧ Fr 25 [(0, .pointer (some ⟨b, 0, none⟩)), (8, lv), (9, iv (ns.length : Int)), (10, iv (k : Int))] [] a ∧ St M w0 [bld T b (ad) v (bs ++ puts (ns.take k)), own lv 3 1 ((ns).map fun n => [iv n])] w) _ ⟨0, ad, v, rfl, Nat.zero_le _, had, (fun h => absurd h (Nat.lt_irrefl 0)), hfr.pick [0, 8, 9, 10], hst⟩ ?_
 rintro _ a w1 ⟨k, ad, v, rfl, hk, had, hak, hfr, hst⟩
 refine wc_seq_region fun K2 hK2 => ?_
 refine wlv hfr (v_lt rfl rfl) fun a hfr => ?_
 refine wl_nil (hK2 _ _ ?_)
 refine wc_seq_k fun K3 hK3 => ?_
 refine wc_cond hfr rfl (fun hc1 => ?_) (fun hc1 => ?_)
 ·rw [hc1] at hfr
  try simp only [qz] at hc1
  refine wc_skip ?_
  refine hK3 _ _ ?_
  refine wc_seq_k fun K4 hK4 => ?_
  refine wc_block ?_
  refine wc_seq_region fun K5 hK5 => ?_
  refine wlv hfr ((v_indexAddr_sl (i := (k : Int)) (sT := 88) (hst.ownAt (i := 1) rfl) rfl rfl (Tryz.runUnderlying88 _) (Tryz.sizeOf3 _) (by omega) (by rw [List.length_map]; omega)).as (v' := slAddr lv (k * 1)) rfl) fun a hfr => ?_
  refine wlv hfr (v_load_sl1 (u := iv (ns.getD k 0)) (i := k) (j := 0) (hst.ownAt (i := 1) rfl) (by rw [List.length_map]; omega) rfl (Tryz.isAgg3 _) (by rw [el_at (0 : Int)]; rfl)) fun a hfr => wla hfr rfl fun a hfr => ?_
  refine wl_nil (hK5 _ _ ?_)
  refine wc_seq_region fun K6 hK6 => ?_
  refine wlm hfr rfl fun a hfr => ?_
  refine wl_callp hfr hst (by decide) Tryz.call125 rfl (putInt_ok (ns.getD k 0) _ (hns _ (getD_mem (by omega)))) ?_
  clear hfr hst
  intro a w2 hfr hst
  refine wlm hfr rfl fun a hfr => ?_
  refine wlv hfr (v_extract rfl rfl) fun a hfr => ?_
  refine wlv hfr (v_extract rfl rfl) fun a hfr => wla hfr rfl fun a hfr => wla hfr rfl fun a hfr => ?_
  refine wl_nil (hK6 _ _ ?_)
  replace hfr : Fr 25 [(0, _), (8, _), (9, _), (10, _), (6, _)] [] a := hfr.pick [0, 8, 9, 10, 6]
  refine wc_region ?_
  refine wlm hfr rfl fun a hfr => ?_
  refine wlv hfr (v_nilCheck rfl) fun a hfr => ?_
  refine wlv hfr (v_fieldAddr (v := .pointer (some ⟨b, 0, none⟩)) rfl (by kernel_rfl)) fun a hfr => wlm hfr rfl fun a hfr => ?_
  refine wl_callE (R := fun u e' => u = .tuple #[iv ((putI (ns.getD k 0)).length : Int), .nilIface] ∧ ∃ v2, e' = bld T b (.pointer (some ⟨b, 0, none⟩)) v2 ((bs ++ puts (ns.take k)) ++ (putI (ns.getD k 0)))) 0 hfr hst rfl (by decide) Tryz.call78 rfl (fun h => (wstr_any T b _ _ _ _ _ hlie (had) (putI_ne _) (by have h1 := puts_len (ns.take k); have h2 := (putI_len (ns.getD k 0)).2; rw [List.length_take] at h1; rw [List.length_append]; omega) h).mono fun u w ⟨h1, v2, h2⟩ => ⟨_, ⟨h1, v2, rfl⟩, h2⟩) ?_
  clear hfr hst
  rintro a w3 _ _ ⟨rfl, v2, rfl⟩ hfr hst
  replace hst : St M w0 [bld T b (.pointer (some ⟨b, 0, none⟩)) v2 ((bs ++ puts (ns.take k)) ++ (putI (ns.getD k 0))), own lv 3 1 ((ns).map fun n => [iv n])] w3 := hst
  refine wl_nil ?_
  refine hK4 _ _ ?_
  replace hfr : Fr 25 [(0, _), (8, _), (9, _), (10, _)] [] a := hfr.pick [0, 8, 9, 10]
  refine wc_region ?_
  refine wlv hfr (v_add rfl rfl ⟨by omega, by omega⟩) fun a hfr => wlm hfr rfl fun a hfr => ?_
  refine wl_nil ?_
  replace hst : St M w0 [bld T b (.pointer (some ⟨b, 0, none⟩)) v2 (bs ++ puts (ns.take (k + 1))), own lv 3 1 ((ns).map fun n => [iv n])] w3 := by rw [show bs ++ puts (ns.take (k + 1)) = (bs ++ puts (ns.take k)) ++ (putI (ns.getD k 0)) from by rw [take_snoc 0 (by omega), puts_snoc, List.append_assoc]]; exact hst
  refine ⟨_, ?_, k + 1, .pointer (some ⟨b, 0, none⟩), v2, rfl, (by omega), (.inr rfl), (fun _ => rfl), hfr.pick [0, 8, 9, 10], hst⟩
  omega
 rw [hc1] at hfr
 try simp only [qz] at hc1
 obtain rfl : k = ns.length := by omega
 rw [List.take_length] at hst
 obtain rfl := hak (List.length_pos_iff.2 hnn)
 refine wc_exit ?_
 refine fin_end hfr Tryz.results77 resAre_nil ?_
 exact ⟨rfl, _, hst.select [0] (by decide)⟩
theorem wwish_ok {M : Nat → Prop} {w0 : World} (T : TypeId) (b : Nat) (ad v : Value) (bs : By) (x : Wsh) (ws : World) (hlie : liesAt Tryz.prog Tryz.prog.depth T (2 / Tryz.prog.cellsOf T) 0 131 1 = true) (had : ad = .pointer none ∨ ad = .pointer (some ⟨b, 0, none⟩)) (hx : smalls x.nums) (hbn : bs.length ≤ 1000000) (hst : St M w0 [bld T b (ad) v bs] ws) :
  Ret Tryz.prog 67 #[.pointer (some ⟨b, 0, none⟩), .agg #[iv x.signer, iv x.holder, iv x.rf, iv x.rt, iv x.carrier, iv x.serial, iv x.sf, iv x.st, sv x.sig]] ws fun u w => u = .tuple #[] ∧ ∃ v2, St M w0 [bld T b (.pointer (some ⟨b, 0, none⟩)) v2 (bs ++ x.content)] w := by
 refine ret_of Tryz.func67 rfl Tryz.ntmps67 (lb rfl) fun a hfr => ?_
 replace hfr : Fr 27 [(0, _), (1, _)] [] a := hfr
 skip
 refine wc_seq_region fun K1 hK1 => ?_
 refine wl_box hfr hst (by decide) rfl (cs := [iv x.signer, iv x.holder, iv x.rf, iv x.rt, iv x.carrier, iv x.serial, iv x.sf, iv x.st, sv x.sig]) rfl ?_
 clear hfr hst
 intro a w1 hfr hst
 refine wl_nil (hK1 _ _ ?_)
 refine wc_region ?_
 refine wlm hfr rfl fun a hfr => ?_
 refine wlv hfr (v_fieldAddr (v := .pointer (some ⟨ws.heap.size, 0, none⟩)) rfl (by kernel_rfl)) fun a hfr => ?_
 refine wlv hfr (v_load_blk1 (hst.get (k := 0) rfl) rfl (Tryz.isAgg3 _) rfl) fun a hfr => ?_
 refine wlv hfr (v_fieldAddr (v := .pointer (some ⟨ws.heap.size, 1, none⟩)) rfl (by kernel_rfl)) fun a hfr => ?_
 refine wlv hfr (v_load_blk1 (hst.get (k := 0) rfl) rfl (Tryz.isAgg3 _) rfl) fun a hfr => ?_
 refine wlv hfr (v_fieldAddr (v := .pointer (some ⟨ws.heap.size, 2, none⟩)) rfl (by kernel_rfl)) fun a hfr => ?_
 refine wlv hfr (v_fieldAddr (v := .pointer (some ⟨ws.heap.size, 2, none⟩)) rfl (by kernel_rfl)) fun a hfr => ?_
 refine wlv hfr (v_load_blk1 (hst.get (k := 0) rfl) rfl (Tryz.isAgg3 _) rfl) fun a hfr => ?_
 refine wlv hfr (v_fieldAddr (v := .pointer (some ⟨ws.heap.size, 2, none⟩)) rfl (by kernel_rfl)) fun a hfr => ?_
 refine wlv hfr (v_fieldAddr (v := .pointer (some ⟨ws.heap.size, 3, none⟩)) rfl (by kernel_rfl)) fun a hfr => ?_
 refine wlv hfr (v_load_blk1 (hst.get (k := 0) rfl) rfl (Tryz.isAgg3 _) rfl) fun a hfr => ?_
 refine wlv hfr (v_fieldAddr (v := .pointer (some ⟨ws.heap.size, 4, none⟩)) rfl (by kernel_rfl)) fun a hfr => ?_
 refine wlv hfr (v_load_blk1 (hst.get (k := 0) rfl) rfl (Tryz.isAgg3 _) rfl) fun a hfr => ?_
 refine wlv hfr (v_fieldAddr (v := .pointer (some ⟨ws.heap.size, 5, none⟩)) rfl (by kernel_rfl)) fun a hfr => ?_
 refine wlv hfr (v_load_blk1 (hst.get (k := 0) rfl) rfl (Tryz.isAgg3 _) rfl) fun a hfr => ?_
 refine wlv hfr (v_fieldAddr (v := .pointer (some ⟨ws.heap.size, 6, none⟩)) rfl (by kernel_rfl)) fun a hfr => ?_
 refine wlv hfr (v_fieldAddr (v := .pointer (some ⟨ws.heap.size, 6, none⟩)) rfl (by kernel_rfl)) fun a hfr => ?_
 refine wlv hfr (v_load_blk1 (hst.get (k := 0) rfl) rfl (Tryz.isAgg3 _) rfl) fun a hfr => ?_
 refine wlv hfr (v_fieldAddr (v := .pointer (some ⟨ws.heap.size, 6, none⟩)) rfl (by kernel_rfl)) fun a hfr => ?_
 refine wlv hfr (v_fieldAddr (v := .pointer (some ⟨ws.heap.size, 7, none⟩)) rfl (by kernel_rfl)) fun a hfr => ?_
 refine wlv hfr (v_load_blk1 (hst.get (k := 0) rfl) rfl (Tryz.isAgg3 _) rfl) fun a hfr => ?_
 refine wl_buildSlice (E := 3) (sz := 1) rfl [[iv 1], [iv x.signer], [iv x.holder], [iv x.rf], [iv x.rt], [iv x.carrier], [iv x.serial], [iv x.sf], [iv x.st]] (by kernel_rfl) (by simp) rfl (by decide) (by decide) hfr hst ?_
 clear hfr hst
 intro a w2 hfr hst
 replace hst : St M w0 [bld T b (ad) v bs, own (.slice (some ⟨w1.heap.size, 0, none⟩) 9 9) 3 1 ([[iv 1], [iv x.signer], [iv x.holder], [iv x.rf], [iv x.rt], [iv x.carrier], [iv x.serial], [iv x.sf], [iv x.st]]), blk ws.heap.size [iv x.signer, iv x.holder, iv x.rf, iv x.rt, iv x.carrier, iv x.serial, iv x.sf, iv x.st, sv x.sig] 30] w2 := hst.select [2, 0, 1] (by decide)
 replace hst := St.join [bld T b (ad) v bs, own (.slice (some ⟨w1.heap.size, 0, none⟩) 9 9) 3 1 ([[iv 1], [iv x.signer], [iv x.holder], [iv x.rf], [iv x.rt], [iv x.carrier], [iv x.serial], [iv x.sf], [iv x.st]])] [blk ws.heap.size [iv x.signer, iv x.holder, iv x.rf, iv x.rt, iv x.carrier, iv x.serial, iv x.sf, iv x.st, sv x.sig] 30] hst
 refine wl_callE (R := fun u e' => u = .tuple #[] ∧ ∃ v2, e' = bld T b (.pointer (some ⟨b, 0, none⟩)) v2 (bs ++ puts [1, x.signer, x.holder, x.rf, x.rt, x.carrier, x.serial, x.sf, x.st])) 0 hfr hst rfl (by decide) Tryz.call77 rfl (fun h => (numbers_ok T b _ _ _ _ [1, x.signer, x.holder, x.rf, x.rt, x.carrier, x.serial, x.sf, x.st] _ hlie (had) (hx) (by simp) (by simp <;> omega) (St.unjoin [bld T b (ad) v bs, own (.slice (some ⟨w1.heap.size, 0, none⟩) 9 9) 3 1 ([[iv 1], [iv x.signer], [iv x.holder], [iv x.rf], [iv x.rt], [iv x.carrier], [iv x.serial], [iv x.sf], [iv x.st]])] [] h)).mono fun u w ⟨h1, v2, h2⟩ => ⟨_, ⟨h1, v2, rfl⟩, h2⟩) ?_
 clear hfr hst
 rintro a w3 _ _ ⟨rfl, v1, rfl⟩ hfr hst
 replace hst : St M w0 [bld T b (.pointer (some ⟨b, 0, none⟩)) v1 (bs ++ puts [1, x.signer, x.holder, x.rf, x.rt, x.carrier, x.serial, x.sf, x.st]), blk ws.heap.size [iv x.signer, iv x.holder, iv x.rf, iv x.rt, iv x.carrier, iv x.serial, iv x.sf, iv x.st, sv x.sig] 30] w3 := hst
 refine wl_nil ?_
 refine fin_end hfr Tryz.results67 resAre_nil ?_
 exact ⟨rfl, _, hst.select [0] (by decide)⟩
theorem wproxy_ok {M : Nat → Prop} {w0 : World} (T : TypeId) (b : Nat) (ad v : Value) (bs : By) (x : Pxy) (ws : World) (hlie : liesAt Tryz.prog Tryz.prog.depth T (2 / Tryz.prog.cellsOf T) 0 131 1 = true) (had : ad = .pointer none ∨ ad = .pointer (some ⟨b, 0, none⟩)) (hx : smalls x.nums) (hbn : bs.length ≤ 1000000) (hst : St M w0 [bld T b (ad) v bs] ws) :
  Ret Tryz.prog 65 #[.pointer (some ⟨b, 0, none⟩), .agg #[iv x.frm, iv x.to, iv x.rf, iv x.rt, iv x.sf, iv x.st, sv x.sig]] ws fun u w => u = .tuple #[] ∧ ∃ v2, St M w0 [bld T b (.pointer (some ⟨b, 0, none⟩)) v2 (bs ++ x.content)] w := by
 refine ret_of Tryz.func65 rfl Tryz.ntmps65 (lb rfl) fun a hfr => ?_
 replace hfr : Fr 23 [(0, _), (1, _)] [] a := hfr
 skip
 refine wc_seq_region fun K1 hK1 => ?_
 refine wl_box hfr hst (by decide) rfl (cs := [iv x.frm, iv x.to, iv x.rf, iv x.rt, iv x.sf, iv x.st, sv x.sig]) rfl ?_
 clear hfr hst
 intro a w1 hfr hst
 refine wl_nil (hK1 _ _ ?_)
 refine wc_region ?_
 refine wlm hfr rfl fun a hfr => ?_
 refine wlv hfr (v_fieldAddr (v := .pointer (some ⟨ws.heap.size, 0, none⟩)) rfl (by kernel_rfl)) fun a hfr => ?_
 refine wlv hfr (v_load_blk1 (hst.get (k := 0) rfl) rfl (Tryz.isAgg3 _) rfl) fun a hfr => ?_
 refine wlv hfr (v_fieldAddr (v := .pointer (some ⟨ws.heap.size, 1, none⟩)) rfl (by kernel_rfl)) fun a hfr => ?_
 refine wlv hfr (v_load_blk1 (hst.get (k := 0) rfl) rfl (Tryz.isAgg3 _) rfl) fun a hfr => ?_
 refine wlv hfr (v_fieldAddr (v := .pointer (some ⟨ws.heap.size, 2, none⟩)) rfl (by kernel_rfl)) fun a hfr => ?_
 refine wlv hfr (v_fieldAddr (v := .pointer (some ⟨ws.heap.size, 2, none⟩)) rfl (by kernel_rfl)) fun a hfr => ?_
 refine wlv hfr (v_load_blk1 (hst.get (k := 0) rfl) rfl (Tryz.isAgg3 _) rfl) fun a hfr => ?_
 refine wlv hfr (v_fieldAddr (v := .pointer (some ⟨ws.heap.size, 2, none⟩)) rfl (by kernel_rfl)) fun a hfr => ?_
 refine wlv hfr (v_fieldAddr (v := .pointer (some ⟨ws.heap.size, 3, none⟩)) rfl (by kernel_rfl)) fun a hfr => ?_
 refine wlv hfr (v_load_blk1 (hst.get (k := 0) rfl) rfl (Tryz.isAgg3 _) rfl) fun a hfr => ?_
 refine wlv hfr (v_fieldAddr (v := .pointer (some ⟨ws.heap.size, 4, none⟩)) rfl (by kernel_rfl)) fun a hfr => ?_
 refine wlv hfr (v_fieldAddr (v := .pointer (some ⟨ws.heap.size, 4, none⟩)) rfl (by kernel_rfl)) fun a hfr => ?_
 refine wlv hfr (v_load_blk1 (hst.get (k := 0) rfl) rfl (Tryz.isAgg3 _) rfl) fun a hfr => ?_
 refine wlv hfr (v_fieldAddr (v := .pointer (some ⟨ws.heap.size, 4, none⟩)) rfl (by kernel_rfl)) fun a hfr => ?_
 refine wlv hfr (v_fieldAddr (v := .pointer (some ⟨ws.heap.size, 5, none⟩)) rfl (by kernel_rfl)) fun a hfr => ?_
 refine wlv hfr (v_load_blk1 (hst.get (k := 0) rfl) rfl (Tryz.isAgg3 _) rfl) fun a hfr => ?_
 refine wl_buildSlice (E := 3) (sz := 1) rfl [[iv 2], [iv x.frm], [iv x.to], [iv x.rf], [iv x.rt], [iv x.sf], [iv x.st]] (by kernel_rfl) (by simp) rfl (by decide) (by decide) hfr hst ?_
 clear hfr hst
 intro a w2 hfr hst
 replace hst : St M w0 [bld T b (ad) v bs, own (.slice (some ⟨w1.heap.size, 0, none⟩) 7 7) 3 1 ([[iv 2], [iv x.frm], [iv x.to], [iv x.rf], [iv x.rt], [iv x.sf], [iv x.st]]), blk ws.heap.size [iv x.frm, iv x.to, iv x.rf, iv x.rt, iv x.sf, iv x.st, sv x.sig] 40] w2 := hst.select [2, 0, 1] (by decide)
 replace hst := St.join [bld T b (ad) v bs, own (.slice (some ⟨w1.heap.size, 0, none⟩) 7 7) 3 1 ([[iv 2], [iv x.frm], [iv x.to], [iv x.rf], [iv x.rt], [iv x.sf], [iv x.st]])] [blk ws.heap.size [iv x.frm, iv x.to, iv x.rf, iv x.rt, iv x.sf, iv x.st, sv x.sig] 40] hst
 refine wl_callE (R := fun u e' => u = .tuple #[] ∧ ∃ v2, e' = bld T b (.pointer (some ⟨b, 0, none⟩)) v2 (bs ++ puts [2, x.frm, x.to, x.rf, x.rt, x.sf, x.st])) 0 hfr hst rfl (by decide) Tryz.call77 rfl (fun h => (numbers_ok T b _ _ _ _ [2, x.frm, x.to, x.rf, x.rt, x.sf, x.st] _ hlie (had) (hx) (by simp) (by simp <;> omega) (St.unjoin [bld T b (ad) v bs, own (.slice (some ⟨w1.heap.size, 0, none⟩) 7 7) 3 1 ([[iv 2], [iv x.frm], [iv x.to], [iv x.rf], [iv x.rt], [iv x.sf], [iv x.st]])] [] h)).mono fun u w ⟨h1, v2, h2⟩ => ⟨_, ⟨h1, v2, rfl⟩, h2⟩) ?_
 clear hfr hst
 rintro a w3 _ _ ⟨rfl, v1, rfl⟩ hfr hst
 replace hst : St M w0 [bld T b (.pointer (some ⟨b, 0, none⟩)) v1 (bs ++ puts [2, x.frm, x.to, x.rf, x.rt, x.sf, x.st]), blk ws.heap.size [iv x.frm, iv x.to, iv x.rf, iv x.rt, iv x.sf, iv x.st, sv x.sig] 40] w3 := hst
 refine wl_nil ?_
 refine fin_end hfr Tryz.results65 resAre_nil ?_
 exact ⟨rfl, _, hst.select [0] (by decide)⟩
theorem seal_ok {M : Nat → Prop} {w0 : World} (key content : By) (g : FuncId) (caps : List Value) (ec : Ent) (ws : World) (hen : ∀ args w, (callFunc g args).run Tryz.prog w = .ok (.enter g args) w)
  (hc : ∀ {M : Nat → Prop} {w0 : World} (b : Nat) (v : Value) (ws : World), St M w0 [bld 133 b (.pointer none) v [], ec] ws → Ret Tryz.prog g ([Value.pointer (some ⟨b, 0, none⟩)] ++ caps).toArray ws fun u w => u = .tuple #[] ∧ ∃ v2, St M w0 [bld 133 b (.pointer (some ⟨b, 0, none⟩)) v2 content, ec] w)
  (hne : content ≠ []) (hkl : key.length ≤ 40000000) (hcl : content.length ≤ 40000000) (hst : St M w0 [blk 0 (kOf.map wv) 239, ec] ws) :
  Ret Tryz.prog 63 #[sv key, .func (.func g) #[] caps.toArray] ws fun u w => u = sv (sealH key content) ∧ St M w0 [blk 0 (kOf.map wv) 239, ec] w := by
 refine ret_of Tryz.func63 rfl Tryz.ntmps63 (lb rfl) fun a hfr => ?_
 replace hfr : Fr 13 [(0, _), (1, _)] [] a := hfr
 skip
 refine wc_seq_region fun K1 hK1 => ?_
 refine wla hfr rfl fun a hfr => ?_
 refine wl_nil (hK1 _ _ ?_)
 refine wc_seq_region fun K2 hK2 => ?_
 refine wl_alloc hfr hst (by decide) (Tryz.zeroValue133 _) (cs := [.pointer none, .slice none 0 0]) rfl ?_
 clear hfr hst
 intro a w1 hfr hst
 refine wl_nil (hK2 _ _ ?_)
 refine wc_seq_region fun K3 hK3 => ?_
 refine wlm hfr rfl fun a hfr => ?_
 replace hst : St M w0 (own (.slice none 0 0) 5 1 [] :: [blk ws.heap.size [.pointer none, .slice none 0 0] 133, blk 0 (kOf.map wv) 239, ec]) w1 := hst.nil_own
 replace hst : St M w0 [blk ws.heap.size [.pointer none, .slice none 0 0] 133, own (.slice none 0 0) 5 1 ([]), ec, blk 0 (kOf.map wv) 239] w1 := hst.select [1, 0, 3, 2] (by decide)
 replace hst : St M w0 ([bld 133 (ws.heap.size) (.pointer none) (.slice none 0 0) [], ec] ++ [blk 0 (kOf.map wv) 239]) w1 := St.join [blk ws.heap.size [.pointer none, .slice none 0 0] 133, own (.slice none 0 0) 5 1 ([])] [ec, blk 0 (kOf.map wv) 239] hst
 replace hst := St.join _ _ hst
 refine wl_callEv (R := fun u e' => u = .tuple #[] ∧ ∃ v2, e' = join [bld 133 (ws.heap.size) (.pointer (some ⟨ws.heap.size, 0, none⟩)) v2 content, ec]) 0 hfr hst rfl (by decide) rfl hen rfl (fun h => (hc (ws.heap.size) _ _ (St.unjoin [bld 133 (ws.heap.size) (.pointer none) (.slice none 0 0) [], ec] [] h)).mono fun u w ⟨h1, v2, h2⟩ => ⟨_, ⟨h1, v2, rfl⟩, St.join _ [] h2⟩) ?_
 clear hfr hst
 rintro a w2 _ _ ⟨rfl, v1, rfl⟩ hfr hst
 replace hst : St M w0 [bld 133 (ws.heap.size) (.pointer (some ⟨ws.heap.size, 0, none⟩)) v1 content, ec, blk 0 (kOf.map wv) 239] w2 := St.unjoin [bld 133 (ws.heap.size) (.pointer (some ⟨ws.heap.size, 0, none⟩)) v1 content, ec] [blk 0 (kOf.map wv) 239] hst
 refine wl_nil (hK3 _ _ ?_)
 refine wc_seq_region fun K4 hK4 => ?_
 refine wlm hfr rfl fun a hfr => ?_
 refine wlv hfr (v_fieldAddr (v := .pointer (some ⟨ws.heap.size, 0, none⟩)) rfl (by kernel_rfl)) fun a hfr => ?_
 refine wl_callE (R := fun u e' => u = sv (content) ∧ e' = blk (ws.heap.size) [.pointer (some ⟨ws.heap.size, 0, none⟩), v1] 133) 0 hfr hst rfl (by decide) Tryz.call79 rfl (fun h => (bstring_ok 133 (ws.heap.size) _ _ _ hne h).mono fun u w ⟨h1, h2⟩ => ⟨_, ⟨h1, rfl⟩, h2⟩) ?_
 clear hfr hst
 rintro a w3 _ _ ⟨rfl, rfl⟩ hfr hst
 replace hst : St M w0 [blk (ws.heap.size) [.pointer (some ⟨ws.heap.size, 0, none⟩), v1] 133, ec, blk 0 (kOf.map wv) 239] w3 := hst
 refine wl_callp hfr hst (by decide) Tryz.call121 rfl (leaf_ok content _ (by omega) (hst.get (k := 2) rfl)) ?_
 clear hfr hst
 intro a w4 hfr hst
 refine wl_callp hfr hst (by decide) Tryz.call120 rfl (node_ok key (leafH sha content) _ (by omega) (by rw [leaf_len sha_len]; decide) (hst.get (k := 2) rfl)) ?_
 clear hfr hst
 intro a w5 hfr hst
 refine wla hfr rfl fun a hfr => ?_
 refine wl_nil (hK4 _ _ ?_)
 replace hfr : Fr 13 [(4, _)] [] a := hfr.pick [4]
 refine wc_ret ?_
 refine fin_ret hfr Tryz.results63 (resAre_tmp rfl resAre_nil) ?_
 exact ⟨rfl, hst.select [2, 1] (by decide)⟩
end Go.Proofs.YtmmfieceinmloaaGreatDoor
namespace Go.Proofs.YtmmfieceinmloaaGreatDoor
open Go.RowKit Go.PW
set_option linter.unusedVariables false
set_option linter.unusedSimpArgs false
set_option maxRecDepth 4000
theorem isKey_ok (s : By) (w0 : World) :
  Ret Tryz.prog 56 #[sv s] w0 fun v w => v = .bool (decide ((s.length : Int) = 32)) ∧ Ext No w0 w := by
 refine ret_of Tryz.func56 rfl Tryz.ntmps56 (lb rfl) fun a hfr => ?_
 replace hfr : Fr 6 [(0, _)] [] a := hfr
 replace hst : St No w0 [] w0 := St.init w0
 refine wc_seq_region fun K1 hK1 => ?_
 refine wla hfr rfl fun a hfr => ?_
 refine wl_nil (hK1 _ _ ?_)
 refine wc_seq_region fun K2 hK2 => ?_
 refine wlm hfr rfl fun a hfr => ?_
 refine wlv hfr (v_len_str rfl rfl (Tryz.runUnderlying9 _)) fun a hfr => ?_
 refine wlv hfr (v_eq rfl rfl) fun a hfr => wla hfr rfl fun a hfr => ?_
 refine wl_nil (hK2 _ _ ?_)
 refine wc_ret ?_
 refine fin_ret hfr Tryz.results56 (resAre_tmp rfl resAre_nil) ?_
 exact ⟨by rfl, hst.ext⟩
theorem isWithin_ok (n lo hi : Int) (w0 : World) :
  Ret Tryz.prog 60 #[iv n, iv lo, iv hi] w0 fun v w => v = .bool (inB n lo hi) ∧ Ext No w0 w := by
 refine ret_of Tryz.func60 rfl Tryz.ntmps60 (lb rfl) fun a hfr => ?_
 replace hfr : Fr 15 [(0, _), (1, _), (2, _)] [] a := hfr
 replace hst : St No w0 [] w0 := St.init w0
 refine wc_seq_region fun K1 hK1 => ?_
 refine wla hfr rfl fun a hfr => ?_
 refine wl_nil (hK1 _ _ ?_)
 refine wc_seq_region fun K2 hK2 => ?_
 refine wlm hfr rfl fun a hfr => wlm hfr rfl fun a hfr => ?_
 refine wlv hfr (v_le rfl rfl) fun a hfr => wlm hfr rfl fun a hfr => ?_
 refine wl_join (N := 15) (df := []) 4 [(14, .bool ((decide (lo ≤ n)) && (decide (n ≤ hi)))), (0, iv n), (1, iv lo), (2, iv hi), (6, .bool false)] ?_ (fun hj => ?_)
 rotate_left
 ·rcases Bool.eq_false_or_eq_true (decide (lo ≤ n)) with hb1 | hb1
  ·rw [hb1] at hfr
   have hb1b := hb1
   try simp only [qz, Bool.and_eq_true, Bool.or_eq_true, Bool.and_eq_false_iff, Bool.or_eq_false_iff] at hb1
   refine wly hfr (v_move rfl) fun a hfr => wly hfr (v_move rfl) fun a hfr => wly hfr (v_le rfl rfl) fun a hfr => ?_
   refine wlv hfr (v_pick_t rfl rfl) fun a hfr => ?_
   refine hj _ ?_
   try rw [hb1b]
   exact hfr.pick [14, 0, 1, 2, 6]
  rw [hb1] at hfr
  have hb1b := hb1
  try simp only [qz, Bool.and_eq_true, Bool.or_eq_true, Bool.and_eq_false_iff, Bool.or_eq_false_iff] at hb1
  refine wln hfr fun a hfr => ?_
  refine wln hfr fun a hfr => ?_
  refine wln hfr fun a hfr => ?_
  refine wlv hfr (v_pick_f rfl rfl) fun a hfr => ?_
  refine hj _ ?_
  try rw [hb1b]
  exact hfr.pick [14, 0, 1, 2, 6]
 intro a hfr
 refine wla hfr rfl fun a hfr => ?_
 refine wl_nil (hK2 _ _ ?_)
 refine wc_ret ?_
 refine fin_ret hfr Tryz.results60 (resAre_tmp rfl resAre_nil) ?_
 exact ⟨by rfl, hst.ext⟩
theorem isRange_ok (b d : Int) (w0 : World) :
  Ret Tryz.prog 114 #[.agg #[iv b, iv d]] w0 fun v w => v = .bool (isRangeB b d) ∧ Ext No w0 w := by
 refine ret_of Tryz.func114 rfl Tryz.ntmps114 (lb rfl) fun a hfr => ?_
 replace hfr : Fr 18 [(0, _)] [] a := hfr
 replace hst : St No w0 [] w0 := St.init w0
 refine wc_seq_region fun K1 hK1 => ?_
 refine wl_box hfr hst (by decide) rfl (cs := [iv b, iv d]) rfl ?_
 clear hfr hst
 intro a w1 hfr hst
 refine wla hfr rfl fun a hfr => ?_
 refine wl_nil (hK1 _ _ ?_)
 refine wc_seq_region fun K2 hK2 => ?_
 refine wlv hfr (v_fieldAddr (v := .pointer (some ⟨w0.heap.size, 0, none⟩)) rfl (by kernel_rfl)) fun a hfr => ?_
 refine wlv hfr (v_load_blk1 (hst.get (k := 0) rfl) rfl (Tryz.isAgg3 _) rfl) fun a hfr => ?_
 refine wlv hfr (v_le rfl rfl) fun a hfr => wlm hfr rfl fun a hfr => ?_
 refine wl_join (N := 18) (df := []) 6 [(12, .bool ((decide (0 ≤ b)) && (decide (b < d)))), (0, .agg #[iv b, iv d]), (1, .pointer (some ⟨w0.heap.size, 0, none⟩)), (2, .bool false)] ?_ (fun hj => ?_)
 rotate_left
 ·rcases Bool.eq_false_or_eq_true (decide (0 ≤ b)) with hb1 | hb1
  ·rw [hb1] at hfr
   have hb1b := hb1
   try simp only [qz, Bool.and_eq_true, Bool.or_eq_true, Bool.and_eq_false_iff, Bool.or_eq_false_iff] at hb1
   refine wly hfr (v_fieldAddr (v := .pointer (some ⟨w0.heap.size, 0, none⟩)) rfl (by kernel_rfl)) fun a hfr => wly hfr (v_load_blk1 (hst.get (k := 0) rfl) rfl (Tryz.isAgg3 _) rfl) fun a hfr => wly hfr (v_fieldAddr (v := .pointer (some ⟨w0.heap.size, 1, none⟩)) rfl (by kernel_rfl)) fun a hfr => wly hfr (v_load_blk1 (hst.get (k := 0) rfl) rfl (Tryz.isAgg3 _) rfl) fun a hfr => wly hfr (v_lt rfl rfl) fun a hfr => ?_
   refine wlv hfr (v_pick_t rfl rfl) fun a hfr => ?_
   refine hj _ ?_
   try rw [hb1b]
   exact hfr.pick [12, 0, 1, 2]
  rw [hb1] at hfr
  have hb1b := hb1
  try simp only [qz, Bool.and_eq_true, Bool.or_eq_true, Bool.and_eq_false_iff, Bool.or_eq_false_iff] at hb1
  refine wln hfr fun a hfr => ?_
  refine wln hfr fun a hfr => ?_
  refine wln hfr fun a hfr => ?_
  refine wln hfr fun a hfr => ?_
  refine wln hfr fun a hfr => ?_
  refine wlv hfr (v_pick_f rfl rfl) fun a hfr => ?_
  refine hj _ ?_
  try rw [hb1b]
  exact hfr.pick [12, 0, 1, 2]
 intro a hfr
 refine wlm hfr rfl fun a hfr => ?_
 refine wl_join (N := 18) (df := []) 4 [(17, .bool (((decide (0 ≤ b)) && (decide (b < d))) && (decide (d ≤ 100000000)))), (0, .agg #[iv b, iv d]), (1, .pointer (some ⟨w0.heap.size, 0, none⟩)), (2, .bool false)] ?_ (fun hj => ?_)
 rotate_left
 ·rcases Bool.eq_false_or_eq_true ((decide (0 ≤ b)) && (decide (b < d))) with hb2 | hb2
  ·rw [hb2] at hfr
   have hb2b := hb2
   try simp only [qz, Bool.and_eq_true, Bool.or_eq_true, Bool.and_eq_false_iff, Bool.or_eq_false_iff] at hb2
   refine wly hfr (v_fieldAddr (v := .pointer (some ⟨w0.heap.size, 1, none⟩)) rfl (by kernel_rfl)) fun a hfr => wly hfr (v_load_blk1 (hst.get (k := 0) rfl) rfl (Tryz.isAgg3 _) rfl) fun a hfr => wly hfr (v_le rfl rfl) fun a hfr => ?_
   refine wlv hfr (v_pick_t rfl rfl) fun a hfr => ?_
   refine hj _ ?_
   try rw [hb2b]
   exact hfr.pick [17, 0, 1, 2]
  rw [hb2] at hfr
  have hb2b := hb2
  try simp only [qz, Bool.and_eq_true, Bool.or_eq_true, Bool.and_eq_false_iff, Bool.or_eq_false_iff] at hb2
  refine wln hfr fun a hfr => ?_
  refine wln hfr fun a hfr => ?_
  refine wln hfr fun a hfr => ?_
  refine wlv hfr (v_pick_f rfl rfl) fun a hfr => ?_
  refine hj _ ?_
  try rw [hb2b]
  exact hfr.pick [17, 0, 1, 2]
 intro a hfr
 refine wla hfr rfl fun a hfr => ?_
 refine wl_nil (hK2 _ _ ?_)
 refine wc_ret ?_
 refine fin_ret hfr Tryz.results114 (resAre_tmp rfl resAre_nil) ?_
 exact ⟨by rfl, hst.ext⟩
theorem isSpell_ok (b d : Int) (w0 : World) :
  Ret Tryz.prog 115 #[.agg #[iv b, iv d]] w0 fun v w => v = .bool (isSpellB b d) ∧ Ext No w0 w := by
 refine ret_of Tryz.func115 rfl Tryz.ntmps115 (lb rfl) fun a hfr => ?_
 replace hfr : Fr 18 [(0, _)] [] a := hfr
 replace hst : St No w0 [] w0 := St.init w0
 refine wc_seq_region fun K1 hK1 => ?_
 refine wl_box hfr hst (by decide) rfl (cs := [iv b, iv d]) rfl ?_
 clear hfr hst
 intro a w1 hfr hst
 refine wla hfr rfl fun a hfr => ?_
 refine wl_nil (hK1 _ _ ?_)
 refine wc_seq_region fun K2 hK2 => ?_
 refine wlv hfr (v_fieldAddr (v := .pointer (some ⟨w0.heap.size, 0, none⟩)) rfl (by kernel_rfl)) fun a hfr => ?_
 refine wlv hfr (v_load_blk1 (hst.get (k := 0) rfl) rfl (Tryz.isAgg3 _) rfl) fun a hfr => ?_
 refine wlv hfr (v_le rfl rfl) fun a hfr => wlm hfr rfl fun a hfr => ?_
 refine wl_join (N := 18) (df := []) 6 [(12, .bool ((decide (0 ≤ b)) && (decide (b < d)))), (0, .agg #[iv b, iv d]), (1, .pointer (some ⟨w0.heap.size, 0, none⟩)), (2, .bool false)] ?_ (fun hj => ?_)
 rotate_left
 ·rcases Bool.eq_false_or_eq_true (decide (0 ≤ b)) with hb1 | hb1
  ·rw [hb1] at hfr
   have hb1b := hb1
   try simp only [qz, Bool.and_eq_true, Bool.or_eq_true, Bool.and_eq_false_iff, Bool.or_eq_false_iff] at hb1
   refine wly hfr (v_fieldAddr (v := .pointer (some ⟨w0.heap.size, 0, none⟩)) rfl (by kernel_rfl)) fun a hfr => wly hfr (v_load_blk1 (hst.get (k := 0) rfl) rfl (Tryz.isAgg3 _) rfl) fun a hfr => wly hfr (v_fieldAddr (v := .pointer (some ⟨w0.heap.size, 1, none⟩)) rfl (by kernel_rfl)) fun a hfr => wly hfr (v_load_blk1 (hst.get (k := 0) rfl) rfl (Tryz.isAgg3 _) rfl) fun a hfr => wly hfr (v_lt rfl rfl) fun a hfr => ?_
   refine wlv hfr (v_pick_t rfl rfl) fun a hfr => ?_
   refine hj _ ?_
   try rw [hb1b]
   exact hfr.pick [12, 0, 1, 2]
  rw [hb1] at hfr
  have hb1b := hb1
  try simp only [qz, Bool.and_eq_true, Bool.or_eq_true, Bool.and_eq_false_iff, Bool.or_eq_false_iff] at hb1
  refine wln hfr fun a hfr => ?_
  refine wln hfr fun a hfr => ?_
  refine wln hfr fun a hfr => ?_
  refine wln hfr fun a hfr => ?_
  refine wln hfr fun a hfr => ?_
  refine wlv hfr (v_pick_f rfl rfl) fun a hfr => ?_
  refine hj _ ?_
  try rw [hb1b]
  exact hfr.pick [12, 0, 1, 2]
 intro a hfr
 refine wlm hfr rfl fun a hfr => ?_
 refine wl_join (N := 18) (df := []) 4 [(17, .bool (((decide (0 ≤ b)) && (decide (b < d))) && (decide (d ≤ 10000001)))), (0, .agg #[iv b, iv d]), (1, .pointer (some ⟨w0.heap.size, 0, none⟩)), (2, .bool false)] ?_ (fun hj => ?_)
 rotate_left
 ·rcases Bool.eq_false_or_eq_true ((decide (0 ≤ b)) && (decide (b < d))) with hb2 | hb2
  ·rw [hb2] at hfr
   have hb2b := hb2
   try simp only [qz, Bool.and_eq_true, Bool.or_eq_true, Bool.and_eq_false_iff, Bool.or_eq_false_iff] at hb2
   refine wly hfr (v_fieldAddr (v := .pointer (some ⟨w0.heap.size, 1, none⟩)) rfl (by kernel_rfl)) fun a hfr => wly hfr (v_load_blk1 (hst.get (k := 0) rfl) rfl (Tryz.isAgg3 _) rfl) fun a hfr => wly hfr (v_le rfl rfl) fun a hfr => ?_
   refine wlv hfr (v_pick_t rfl rfl) fun a hfr => ?_
   refine hj _ ?_
   try rw [hb2b]
   exact hfr.pick [17, 0, 1, 2]
  rw [hb2] at hfr
  have hb2b := hb2
  try simp only [qz, Bool.and_eq_true, Bool.or_eq_true, Bool.and_eq_false_iff, Bool.or_eq_false_iff] at hb2
  refine wln hfr fun a hfr => ?_
  refine wln hfr fun a hfr => ?_
  refine wln hfr fun a hfr => ?_
  refine wlv hfr (v_pick_f rfl rfl) fun a hfr => ?_
  refine hj _ ?_
  try rw [hb2b]
  exact hfr.pick [17, 0, 1, 2]
 intro a hfr
 refine wla hfr rfl fun a hfr => ?_
 refine wl_nil (hK2 _ _ ?_)
 refine wc_ret ?_
 refine fin_ret hfr Tryz.results115 (resAre_tmp rfl resAre_nil) ?_
 exact ⟨by rfl, hst.ext⟩
set_option maxHeartbeats 4000000 in
theorem isWish_ok (x : Wsh) (w0 : World) :
  Ret Tryz.prog 58 #[.agg #[iv x.signer, iv x.holder, iv x.rf, iv x.rt, iv x.carrier, iv x.serial, iv x.sf, iv x.st, sv x.sig]] w0 fun v w => v = .bool x.ok ∧ Ext No w0 w := by
 refine ret_of Tryz.func58 rfl Tryz.ntmps58 (lb rfl) fun a hfr => ?_
 replace hfr : Fr 33 [(0, _)] [] a := hfr
 replace hst : St No w0 [] w0 := St.init w0
 refine wc_seq_region fun K1 hK1 => ?_
 refine wl_box hfr hst (by decide) rfl (cs := [iv x.signer, iv x.holder, iv x.rf, iv x.rt, iv x.carrier, iv x.serial, iv x.sf, iv x.st, sv x.sig]) rfl ?_
 clear hfr hst
 intro a w1 hfr hst
 refine wla hfr rfl fun a hfr => ?_
 refine wl_nil (hK1 _ _ ?_)
 refine wc_seq_region fun K2 hK2 => ?_
 refine wlv hfr (v_fieldAddr (v := .pointer (some ⟨w0.heap.size, 0, none⟩)) rfl (by kernel_rfl)) fun a hfr => ?_
 refine wlv hfr (v_load_blk1 (hst.get (k := 0) rfl) rfl (Tryz.isAgg3 _) rfl) fun a hfr => ?_
 refine wl_callp hfr hst (by decide) Tryz.call60 rfl (isWithin_ok x.signer 0 63 _) ?_
 clear hfr hst
 intro a w2 hfr hst
 refine wlm hfr rfl fun a hfr => ?_
 rcases Bool.eq_false_or_eq_true (inB x.signer 0 63) with hb1 | hb1
 ·rw [hb1] at hfr
  try simp only [qz] at hb1
  refine wly hfr (v_fieldAddr (v := .pointer (some ⟨w0.heap.size, 1, none⟩)) rfl (by kernel_rfl)) fun a hfr => wly hfr (v_load_blk1 (hst.get (k := 0) rfl) rfl (Tryz.isAgg3 _) rfl) fun a hfr => ?_
  refine wl_callpy hfr hst (by decide) rfl (by decide) rfl Tryz.call60 rfl (isWithin_ok x.holder 0 63 _) ?_
  clear hfr hst
  intro a w3 hfr hst
  refine wlv hfr (v_pick_t rfl rfl) fun a hfr => wla hfr rfl fun a hfr => ?_
  refine wl_nil (hK2 _ _ ?_)
  replace hfr : Fr 33 [(1, _), (2, _), (3, _)] [] a := hfr.pick [1, 2, 3]
  refine wc_seq_region fun K3 hK3 => ?_
  refine wlm hfr rfl fun a hfr => wlm hfr rfl fun a hfr => ?_
  rcases Bool.eq_false_or_eq_true (inB x.holder 0 63) with hb2 | hb2
  ·rw [hb2] at hfr
   try simp only [qz] at hb2
   refine wly hfr (v_fieldAddr (v := .pointer (some ⟨w0.heap.size, 2, none⟩)) rfl (by kernel_rfl)) fun a hfr => wly hfr (v_load_blk (ds := [iv x.rf, iv x.rt]) (hst.get (k := 0) rfl) rfl (Tryz.isAgg27 _) (Tryz.sizeOf27 _) rfl) fun a hfr => ?_
   refine wl_callpy hfr hst (by decide) rfl (by decide) rfl Tryz.call114 rfl (isRange_ok x.rf x.rt _) ?_
   clear hfr hst
   intro a w4 hfr hst
   refine wlv hfr (v_pick_t rfl rfl) fun a hfr => wlm hfr rfl fun a hfr => ?_
   rcases Bool.eq_false_or_eq_true (isRangeB x.rf x.rt) with hb3 | hb3
   ·rw [hb3] at hfr
    try simp only [qz] at hb3
    refine wly hfr (v_fieldAddr (v := .pointer (some ⟨w0.heap.size, 4, none⟩)) rfl (by kernel_rfl)) fun a hfr => wly hfr (v_load_blk1 (hst.get (k := 0) rfl) rfl (Tryz.isAgg3 _) rfl) fun a hfr => ?_
    refine wl_callpy hfr hst (by decide) rfl (by decide) rfl Tryz.call60 rfl (isWithin_ok x.carrier 0 7 _) ?_
    clear hfr hst
    intro a w5 hfr hst
    refine wlv hfr (v_pick_t rfl rfl) fun a hfr => wlm hfr rfl fun a hfr => ?_
    rcases Bool.eq_false_or_eq_true (inB x.carrier 0 7) with hb4 | hb4
    ·rw [hb4] at hfr
     try simp only [qz] at hb4
     refine wly hfr (v_fieldAddr (v := .pointer (some ⟨w0.heap.size, 5, none⟩)) rfl (by kernel_rfl)) fun a hfr => wly hfr (v_load_blk1 (hst.get (k := 0) rfl) rfl (Tryz.isAgg3 _) rfl) fun a hfr => ?_
     refine wl_callpy hfr hst (by decide) rfl (by decide) rfl Tryz.call60 rfl (isWithin_ok x.serial 0 1000000 _) ?_
     clear hfr hst
     intro a w6 hfr hst
     refine wlv hfr (v_pick_t rfl rfl) fun a hfr => wlm hfr rfl fun a hfr => ?_
     rcases Bool.eq_false_or_eq_true (inB x.serial 0 1000000) with hb5 | hb5
     ·rw [hb5] at hfr
      try simp only [qz] at hb5
      refine wly hfr (v_fieldAddr (v := .pointer (some ⟨w0.heap.size, 6, none⟩)) rfl (by kernel_rfl)) fun a hfr => wly hfr (v_load_blk (ds := [iv x.sf, iv x.st]) (hst.get (k := 0) rfl) rfl (Tryz.isAgg28 _) (Tryz.sizeOf28 _) rfl) fun a hfr => ?_
      refine wl_callpy hfr hst (by decide) rfl (by decide) rfl Tryz.call115 rfl (isSpell_ok x.sf x.st _) ?_
      clear hfr hst
      intro a w7 hfr hst
      refine wlv hfr (v_pick_t rfl rfl) fun a hfr => wla hfr rfl fun a hfr => ?_
      refine wl_nil (hK3 _ _ ?_)
      replace hfr : Fr 33 [(2, _)] [] a := hfr.pick [2]
      replace hst : St No w0 [] w7 := hst.mask [false]
      refine wc_ret ?_
      refine fin_ret hfr Tryz.results58 (resAre_tmp rfl resAre_nil) ?_
      exact ⟨by simp only [retv]; unfold Wsh.ok; simp [hb1, hb2, hb3, hb4, hb5], hst.ext⟩
     rw [hb5] at hfr
     try simp only [qz] at hb5
     refine wln hfr fun a hfr => ?_
     refine wln hfr fun a hfr => ?_
     refine wln hfr fun a hfr => ?_
     refine wlv hfr (v_pick_f rfl rfl) fun a hfr => wla hfr rfl fun a hfr => ?_
     refine wl_nil (hK3 _ _ ?_)
     replace hfr : Fr 33 [(2, _)] [] a := hfr.pick [2]
     replace hst : St No w0 [] w6 := hst.mask [false]
     refine wc_ret ?_
     refine fin_ret hfr Tryz.results58 (resAre_tmp rfl resAre_nil) ?_
     exact ⟨by simp only [retv]; unfold Wsh.ok; simp [hb1, hb2, hb3, hb4, hb5], hst.ext⟩
    rw [hb4] at hfr
    try simp only [qz] at hb4
    refine wln hfr fun a hfr => ?_
    refine wln hfr fun a hfr => ?_
    refine wln hfr fun a hfr => ?_
    refine wlv hfr (v_pick_f rfl rfl) fun a hfr => wlm hfr rfl fun a hfr => ?_
    refine wln hfr fun a hfr => ?_
    refine wln hfr fun a hfr => ?_
    refine wln hfr fun a hfr => ?_
    refine wlv hfr (v_pick_f rfl rfl) fun a hfr => wla hfr rfl fun a hfr => ?_
    refine wl_nil (hK3 _ _ ?_)
    replace hfr : Fr 33 [(2, _)] [] a := hfr.pick [2]
    replace hst : St No w0 [] w5 := hst.mask [false]
    refine wc_ret ?_
    refine fin_ret hfr Tryz.results58 (resAre_tmp rfl resAre_nil) ?_
    exact ⟨by simp only [retv]; unfold Wsh.ok; simp [hb1, hb2, hb3, hb4], hst.ext⟩
   rw [hb3] at hfr
   try simp only [qz] at hb3
   refine wln hfr fun a hfr => ?_
   refine wln hfr fun a hfr => ?_
   refine wln hfr fun a hfr => ?_
   refine wlv hfr (v_pick_f rfl rfl) fun a hfr => wlm hfr rfl fun a hfr => ?_
   refine wln hfr fun a hfr => ?_
   refine wln hfr fun a hfr => ?_
   refine wln hfr fun a hfr => ?_
   refine wlv hfr (v_pick_f rfl rfl) fun a hfr => wlm hfr rfl fun a hfr => ?_
   refine wln hfr fun a hfr => ?_
   refine wln hfr fun a hfr => ?_
   refine wln hfr fun a hfr => ?_
   refine wlv hfr (v_pick_f rfl rfl) fun a hfr => wla hfr rfl fun a hfr => ?_
   refine wl_nil (hK3 _ _ ?_)
   replace hfr : Fr 33 [(2, _)] [] a := hfr.pick [2]
   replace hst : St No w0 [] w4 := hst.mask [false]
   refine wc_ret ?_
   refine fin_ret hfr Tryz.results58 (resAre_tmp rfl resAre_nil) ?_
   exact ⟨by simp only [retv]; unfold Wsh.ok; simp [hb1, hb2, hb3], hst.ext⟩
  rw [hb2] at hfr
  try simp only [qz] at hb2
  refine wln hfr fun a hfr => ?_
  refine wln hfr fun a hfr => ?_
  refine wln hfr fun a hfr => ?_
  refine wlv hfr (v_pick_f rfl rfl) fun a hfr => wlm hfr rfl fun a hfr => ?_
  refine wln hfr fun a hfr => ?_
  refine wln hfr fun a hfr => ?_
  refine wln hfr fun a hfr => ?_
  refine wlv hfr (v_pick_f rfl rfl) fun a hfr => wlm hfr rfl fun a hfr => ?_
  refine wln hfr fun a hfr => ?_
  refine wln hfr fun a hfr => ?_
  refine wln hfr fun a hfr => ?_
  refine wlv hfr (v_pick_f rfl rfl) fun a hfr => wlm hfr rfl fun a hfr => ?_
  refine wln hfr fun a hfr => ?_
  refine wln hfr fun a hfr => ?_
  refine wln hfr fun a hfr => ?_
  refine wlv hfr (v_pick_f rfl rfl) fun a hfr => wla hfr rfl fun a hfr => ?_
  refine wl_nil (hK3 _ _ ?_)
  replace hfr : Fr 33 [(2, _)] [] a := hfr.pick [2]
  replace hst : St No w0 [] w3 := hst.mask [false]
  refine wc_ret ?_
  refine fin_ret hfr Tryz.results58 (resAre_tmp rfl resAre_nil) ?_
  exact ⟨by simp only [retv]; unfold Wsh.ok; simp [hb1, hb2], hst.ext⟩
 rw [hb1] at hfr
 try simp only [qz] at hb1
 refine wln hfr fun a hfr => ?_
 refine wln hfr fun a hfr => ?_
 refine wln hfr fun a hfr => ?_
 refine wlv hfr (v_pick_f rfl rfl) fun a hfr => wla hfr rfl fun a hfr => ?_
 refine wl_nil (hK2 _ _ ?_)
 replace hfr : Fr 33 [(1, _), (2, _), (3, _)] [] a := hfr.pick [1, 2, 3]
 refine wc_seq_region fun K4 hK4 => ?_
 refine wlm hfr rfl fun a hfr => wlm hfr rfl fun a hfr => ?_
 refine wln hfr fun a hfr => ?_
 refine wln hfr fun a hfr => ?_
 refine wln hfr fun a hfr => ?_
 refine wlv hfr (v_pick_f rfl rfl) fun a hfr => wlm hfr rfl fun a hfr => ?_
 refine wln hfr fun a hfr => ?_
 refine wln hfr fun a hfr => ?_
 refine wln hfr fun a hfr => ?_
 refine wlv hfr (v_pick_f rfl rfl) fun a hfr => wlm hfr rfl fun a hfr => ?_
 refine wln hfr fun a hfr => ?_
 refine wln hfr fun a hfr => ?_
 refine wln hfr fun a hfr => ?_
 refine wlv hfr (v_pick_f rfl rfl) fun a hfr => wlm hfr rfl fun a hfr => ?_
 refine wln hfr fun a hfr => ?_
 refine wln hfr fun a hfr => ?_
 refine wln hfr fun a hfr => ?_
 refine wlv hfr (v_pick_f rfl rfl) fun a hfr => wla hfr rfl fun a hfr => ?_
 refine wl_nil (hK4 _ _ ?_)
 replace hfr : Fr 33 [(2, _)] [] a := hfr.pick [2]
 replace hst : St No w0 [] w2 := hst.mask [false]
 refine wc_ret ?_
 refine fin_ret hfr Tryz.results58 (resAre_tmp rfl resAre_nil) ?_
 exact ⟨by simp only [retv]; unfold Wsh.ok; simp [hb1], hst.ext⟩
set_option maxHeartbeats 4000000 in
theorem isProxy_ok (x : Pxy) (w0 : World) :
  Ret Tryz.prog 73 #[.agg #[iv x.frm, iv x.to, iv x.rf, iv x.rt, iv x.sf, iv x.st, sv x.sig]] w0 fun v w => v = .bool x.ok ∧ Ext No w0 w := by
 refine ret_of Tryz.func73 rfl Tryz.ntmps73 (lb rfl) fun a hfr => ?_
 replace hfr : Fr 30 [(0, _)] [] a := hfr
 replace hst : St No w0 [] w0 := St.init w0
 refine wc_seq_region fun K1 hK1 => ?_
 refine wl_box hfr hst (by decide) rfl (cs := [iv x.frm, iv x.to, iv x.rf, iv x.rt, iv x.sf, iv x.st, sv x.sig]) rfl ?_
 clear hfr hst
 intro a w1 hfr hst
 refine wla hfr rfl fun a hfr => ?_
 refine wl_nil (hK1 _ _ ?_)
 refine wc_seq_region fun K2 hK2 => ?_
 refine wlv hfr (v_fieldAddr (v := .pointer (some ⟨w0.heap.size, 0, none⟩)) rfl (by kernel_rfl)) fun a hfr => ?_
 refine wlv hfr (v_load_blk1 (hst.get (k := 0) rfl) rfl (Tryz.isAgg3 _) rfl) fun a hfr => ?_
 refine wl_callp hfr hst (by decide) Tryz.call60 rfl (isWithin_ok x.frm 0 63 _) ?_
 clear hfr hst
 intro a w2 hfr hst
 refine wlm hfr rfl fun a hfr => ?_
 rcases Bool.eq_false_or_eq_true (inB x.frm 0 63) with hb1 | hb1
 ·rw [hb1] at hfr
  try simp only [qz] at hb1
  refine wly hfr (v_fieldAddr (v := .pointer (some ⟨w0.heap.size, 1, none⟩)) rfl (by kernel_rfl)) fun a hfr => wly hfr (v_load_blk1 (hst.get (k := 0) rfl) rfl (Tryz.isAgg3 _) rfl) fun a hfr => ?_
  refine wl_callpy hfr hst (by decide) rfl (by decide) rfl Tryz.call60 rfl (isWithin_ok x.to 0 63 _) ?_
  clear hfr hst
  intro a w3 hfr hst
  refine wlv hfr (v_pick_t rfl rfl) fun a hfr => wlm hfr rfl fun a hfr => ?_
  rcases Bool.eq_false_or_eq_true (inB x.to 0 63) with hb2 | hb2
  ·rw [hb2] at hfr
   try simp only [qz] at hb2
   refine wly hfr (v_fieldAddr (v := .pointer (some ⟨w0.heap.size, 0, none⟩)) rfl (by kernel_rfl)) fun a hfr => wly hfr (v_load_blk1 (hst.get (k := 0) rfl) rfl (Tryz.isAgg3 _) rfl) fun a hfr => wly hfr (v_fieldAddr (v := .pointer (some ⟨w0.heap.size, 1, none⟩)) rfl (by kernel_rfl)) fun a hfr => wly hfr (v_load_blk1 (hst.get (k := 0) rfl) rfl (Tryz.isAgg3 _) rfl) fun a hfr => wly hfr (v_ne rfl rfl) fun a hfr => ?_
   refine wlv hfr (v_pick_t rfl rfl) fun a hfr => wla hfr rfl fun a hfr => ?_
   refine wl_nil (hK2 _ _ ?_)
   replace hfr : Fr 30 [(1, _), (2, _), (3, _)] [] a := hfr.pick [1, 2, 3]
   refine wc_seq_region fun K3 hK3 => ?_
   refine wlm hfr rfl fun a hfr => wlm hfr rfl fun a hfr => ?_
   rcases Bool.eq_false_or_eq_true (!decide (x.frm = x.to)) with hb3 | hb3
   ·rw [hb3] at hfr
    try simp only [qz] at hb3
    refine wly hfr (v_fieldAddr (v := .pointer (some ⟨w0.heap.size, 2, none⟩)) rfl (by kernel_rfl)) fun a hfr => wly hfr (v_load_blk (ds := [iv x.rf, iv x.rt]) (hst.get (k := 0) rfl) rfl (Tryz.isAgg27 _) (Tryz.sizeOf27 _) rfl) fun a hfr => ?_
    refine wl_callpy hfr hst (by decide) rfl (by decide) rfl Tryz.call114 rfl (isRange_ok x.rf x.rt _) ?_
    clear hfr hst
    intro a w4 hfr hst
    refine wlv hfr (v_pick_t rfl rfl) fun a hfr => wlm hfr rfl fun a hfr => ?_
    rcases Bool.eq_false_or_eq_true (isRangeB x.rf x.rt) with hb4 | hb4
    ·rw [hb4] at hfr
     try simp only [qz] at hb4
     refine wly hfr (v_fieldAddr (v := .pointer (some ⟨w0.heap.size, 4, none⟩)) rfl (by kernel_rfl)) fun a hfr => wly hfr (v_load_blk (ds := [iv x.sf, iv x.st]) (hst.get (k := 0) rfl) rfl (Tryz.isAgg28 _) (Tryz.sizeOf28 _) rfl) fun a hfr => ?_
     refine wl_callpy hfr hst (by decide) rfl (by decide) rfl Tryz.call115 rfl (isSpell_ok x.sf x.st _) ?_
     clear hfr hst
     intro a w5 hfr hst
     refine wlv hfr (v_pick_t rfl rfl) fun a hfr => wla hfr rfl fun a hfr => ?_
     refine wl_nil (hK3 _ _ ?_)
     replace hfr : Fr 30 [(2, _)] [] a := hfr.pick [2]
     replace hst : St No w0 [] w5 := hst.mask [false]
     refine wc_ret ?_
     refine fin_ret hfr Tryz.results73 (resAre_tmp rfl resAre_nil) ?_
     exact ⟨by simp only [retv]; unfold Pxy.ok; simp [hb1, hb2, hb3, hb4], hst.ext⟩
    rw [hb4] at hfr
    try simp only [qz] at hb4
    refine wln hfr fun a hfr => ?_
    refine wln hfr fun a hfr => ?_
    refine wln hfr fun a hfr => ?_
    refine wlv hfr (v_pick_f rfl rfl) fun a hfr => wla hfr rfl fun a hfr => ?_
    refine wl_nil (hK3 _ _ ?_)
    replace hfr : Fr 30 [(2, _)] [] a := hfr.pick [2]
    replace hst : St No w0 [] w4 := hst.mask [false]
    refine wc_ret ?_
    refine fin_ret hfr Tryz.results73 (resAre_tmp rfl resAre_nil) ?_
    exact ⟨by simp only [retv]; unfold Pxy.ok; simp [hb1, hb2, hb3, hb4], hst.ext⟩
   rw [hb3] at hfr
   try simp only [qz] at hb3
   refine wln hfr fun a hfr => ?_
   refine wln hfr fun a hfr => ?_
   refine wln hfr fun a hfr => ?_
   refine wlv hfr (v_pick_f rfl rfl) fun a hfr => wlm hfr rfl fun a hfr => ?_
   refine wln hfr fun a hfr => ?_
   refine wln hfr fun a hfr => ?_
   refine wln hfr fun a hfr => ?_
   refine wlv hfr (v_pick_f rfl rfl) fun a hfr => wla hfr rfl fun a hfr => ?_
   refine wl_nil (hK3 _ _ ?_)
   replace hfr : Fr 30 [(2, _)] [] a := hfr.pick [2]
   replace hst : St No w0 [] w3 := hst.mask [false]
   refine wc_ret ?_
   refine fin_ret hfr Tryz.results73 (resAre_tmp rfl resAre_nil) ?_
   exact ⟨by simp only [retv]; unfold Pxy.ok; simp [hb1, hb2, hb3], hst.ext⟩
  rw [hb2] at hfr
  try simp only [qz] at hb2
  refine wln hfr fun a hfr => ?_
  refine wln hfr fun a hfr => ?_
  refine wln hfr fun a hfr => ?_
  refine wln hfr fun a hfr => ?_
  refine wln hfr fun a hfr => ?_
  refine wlv hfr (v_pick_f rfl rfl) fun a hfr => wla hfr rfl fun a hfr => ?_
  refine wl_nil (hK2 _ _ ?_)
  replace hfr : Fr 30 [(1, _), (2, _), (3, _)] [] a := hfr.pick [1, 2, 3]
  refine wc_seq_region fun K4 hK4 => ?_
  refine wlm hfr rfl fun a hfr => wlm hfr rfl fun a hfr => ?_
  refine wln hfr fun a hfr => ?_
  refine wln hfr fun a hfr => ?_
  refine wln hfr fun a hfr => ?_
  refine wlv hfr (v_pick_f rfl rfl) fun a hfr => wlm hfr rfl fun a hfr => ?_
  refine wln hfr fun a hfr => ?_
  refine wln hfr fun a hfr => ?_
  refine wln hfr fun a hfr => ?_
  refine wlv hfr (v_pick_f rfl rfl) fun a hfr => wla hfr rfl fun a hfr => ?_
  refine wl_nil (hK4 _ _ ?_)
  replace hfr : Fr 30 [(2, _)] [] a := hfr.pick [2]
  replace hst : St No w0 [] w3 := hst.mask [false]
  refine wc_ret ?_
  refine fin_ret hfr Tryz.results73 (resAre_tmp rfl resAre_nil) ?_
  exact ⟨by simp only [retv]; unfold Pxy.ok; simp [hb1, hb2], hst.ext⟩
 rw [hb1] at hfr
 try simp only [qz] at hb1
 refine wln hfr fun a hfr => ?_
 refine wln hfr fun a hfr => ?_
 refine wln hfr fun a hfr => ?_
 refine wlv hfr (v_pick_f rfl rfl) fun a hfr => wlm hfr rfl fun a hfr => ?_
 refine wln hfr fun a hfr => ?_
 refine wln hfr fun a hfr => ?_
 refine wln hfr fun a hfr => ?_
 refine wln hfr fun a hfr => ?_
 refine wln hfr fun a hfr => ?_
 refine wlv hfr (v_pick_f rfl rfl) fun a hfr => wla hfr rfl fun a hfr => ?_
 refine wl_nil (hK2 _ _ ?_)
 replace hfr : Fr 30 [(1, _), (2, _), (3, _)] [] a := hfr.pick [1, 2, 3]
 refine wc_seq_region fun K5 hK5 => ?_
 refine wlm hfr rfl fun a hfr => wlm hfr rfl fun a hfr => ?_
 refine wln hfr fun a hfr => ?_
 refine wln hfr fun a hfr => ?_
 refine wln hfr fun a hfr => ?_
 refine wlv hfr (v_pick_f rfl rfl) fun a hfr => wlm hfr rfl fun a hfr => ?_
 refine wln hfr fun a hfr => ?_
 refine wln hfr fun a hfr => ?_
 refine wln hfr fun a hfr => ?_
 refine wlv hfr (v_pick_f rfl rfl) fun a hfr => wla hfr rfl fun a hfr => ?_
 refine wl_nil (hK5 _ _ ?_)
 replace hfr : Fr 30 [(2, _)] [] a := hfr.pick [2]
 replace hst : St No w0 [] w2 := hst.mask [false]
 refine wc_ret ?_
 refine fin_ret hfr Tryz.results73 (resAre_tmp rfl resAre_nil) ?_
 exact ⟨by simp only [retv]; unfold Pxy.ok; simp [hb1], hst.ext⟩
theorem sw1_run {M : Nat → Prop} {w0 : World} (b bx : Nat) (v : Value) (x : Wsh) (ws : World) (hx : smalls x.nums) (hst : St M w0 [bld 133 b (.pointer none) v ([] : By), blk bx [iv x.signer, iv x.holder, iv x.rf, iv x.rt, iv x.carrier, iv x.serial, iv x.sf, iv x.st, sv x.sig] 30] ws) :
  Ret Tryz.prog 72 #[.pointer (some ⟨b, 0, none⟩), .pointer (some ⟨bx, 0, none⟩)] ws fun u w => u = .tuple #[] ∧ ∃ v2, St M w0 [bld 133 b (.pointer (some ⟨b, 0, none⟩)) v2 x.content, blk bx [iv x.signer, iv x.holder, iv x.rf, iv x.rt, iv x.carrier, iv x.serial, iv x.sf, iv x.st, sv x.sig] 30] w := by
 refine ret_of Tryz.func72 rfl Tryz.ntmps72 (lb rfl) fun a hfr => ?_
 replace hfr : Fr 6 [(0, _), (1, _)] [] a := hfr
 skip
 refine wc_region ?_
 refine wlm hfr rfl fun a hfr => ?_
 refine wlv hfr (v_load_all (hst.get (k := 1) rfl) rfl (Tryz.isAgg30 _) (Tryz.sizeOf30 _)) fun a hfr => ?_
 refine wl_callE (R := fun u e' => u = .tuple #[] ∧ ∃ v2, e' = bld 133 b (.pointer (some ⟨b, 0, none⟩)) v2 (([] : By) ++ x.content)) 0 hfr hst rfl (by decide) Tryz.call67 rfl (fun h => (wwish_ok 133 b _ _ _ x _ (by kernel_rfl) (.inl rfl) hx (by simp) h).mono fun u w ⟨h1, v2, h2⟩ => ⟨_, ⟨h1, v2, rfl⟩, h2⟩) ?_
 clear hfr hst
 rintro a w1 _ _ ⟨rfl, v1, rfl⟩ hfr hst
 replace hst : St M w0 [bld 133 b (.pointer (some ⟨b, 0, none⟩)) v1 (([] : By) ++ x.content), blk bx [iv x.signer, iv x.holder, iv x.rf, iv x.rt, iv x.carrier, iv x.serial, iv x.sf, iv x.st, sv x.sig] 30] w1 := hst
 refine wl_nil ?_
 refine fin_end hfr Tryz.results72 resAre_nil ?_
 exact ⟨rfl, _, hst.select [0, 1] (by decide)⟩
theorem sp1_run {M : Nat → Prop} {w0 : World} (b bx : Nat) (v : Value) (x : Pxy) (ws : World) (hx : smalls x.nums) (hst : St M w0 [bld 133 b (.pointer none) v ([] : By), blk bx [iv x.frm, iv x.to, iv x.rf, iv x.rt, iv x.sf, iv x.st, sv x.sig] 40] ws) :
  Ret Tryz.prog 74 #[.pointer (some ⟨b, 0, none⟩), .pointer (some ⟨bx, 0, none⟩)] ws fun u w => u = .tuple #[] ∧ ∃ v2, St M w0 [bld 133 b (.pointer (some ⟨b, 0, none⟩)) v2 x.content, blk bx [iv x.frm, iv x.to, iv x.rf, iv x.rt, iv x.sf, iv x.st, sv x.sig] 40] w := by
 refine ret_of Tryz.func74 rfl Tryz.ntmps74 (lb rfl) fun a hfr => ?_
 replace hfr : Fr 6 [(0, _), (1, _)] [] a := hfr
 skip
 refine wc_region ?_
 refine wlm hfr rfl fun a hfr => ?_
 refine wlv hfr (v_load_all (hst.get (k := 1) rfl) rfl (Tryz.isAgg40 _) (Tryz.sizeOf40 _)) fun a hfr => ?_
 refine wl_callE (R := fun u e' => u = .tuple #[] ∧ ∃ v2, e' = bld 133 b (.pointer (some ⟨b, 0, none⟩)) v2 (([] : By) ++ x.content)) 0 hfr hst rfl (by decide) Tryz.call65 rfl (fun h => (wproxy_ok 133 b _ _ _ x _ (by kernel_rfl) (.inl rfl) hx (by simp) h).mono fun u w ⟨h1, v2, h2⟩ => ⟨_, ⟨h1, v2, rfl⟩, h2⟩) ?_
 clear hfr hst
 rintro a w1 _ _ ⟨rfl, v1, rfl⟩ hfr hst
 replace hst : St M w0 [bld 133 b (.pointer (some ⟨b, 0, none⟩)) v1 (([] : By) ++ x.content), blk bx [iv x.frm, iv x.to, iv x.rf, iv x.rt, iv x.sf, iv x.st, sv x.sig] 40] w1 := hst
 refine wl_nil ?_
 refine fin_end hfr Tryz.results74 resAre_nil ?_
 exact ⟨rfl, _, hst.select [0, 1] (by decide)⟩
theorem wp2_run {M : Nat → Prop} {w0 : World} (b bx : Nat) (v : Value) (x : Pxy) (ws : World) (hx : smalls x.nums) (hst : St M w0 [bld 133 b (.pointer none) v ([] : By), blk bx [iv x.frm, iv x.to, iv x.rf, iv x.rt, iv x.sf, iv x.st, sv x.sig] 40] ws) :
  Ret Tryz.prog 64 #[.pointer (some ⟨b, 0, none⟩), .pointer (some ⟨bx, 0, none⟩)] ws fun u w => u = .tuple #[] ∧ ∃ v2, St M w0 [bld 133 b (.pointer (some ⟨b, 0, none⟩)) v2 x.content, blk bx [iv x.frm, iv x.to, iv x.rf, iv x.rt, iv x.sf, iv x.st, sv x.sig] 40] w := by
 refine ret_of Tryz.func64 rfl Tryz.ntmps64 (lb rfl) fun a hfr => ?_
 replace hfr : Fr 6 [(0, _), (1, _)] [] a := hfr
 skip
 refine wc_region ?_
 refine wlm hfr rfl fun a hfr => ?_
 refine wlv hfr (v_load_all (hst.get (k := 1) rfl) rfl (Tryz.isAgg40 _) (Tryz.sizeOf40 _)) fun a hfr => ?_
 refine wl_callE (R := fun u e' => u = .tuple #[] ∧ ∃ v2, e' = bld 133 b (.pointer (some ⟨b, 0, none⟩)) v2 (([] : By) ++ x.content)) 0 hfr hst rfl (by decide) Tryz.call65 rfl (fun h => (wproxy_ok 133 b _ _ _ x _ (by kernel_rfl) (.inl rfl) hx (by simp) h).mono fun u w ⟨h1, v2, h2⟩ => ⟨_, ⟨h1, v2, rfl⟩, h2⟩) ?_
 clear hfr hst
 rintro a w1 _ _ ⟨rfl, v1, rfl⟩ hfr hst
 replace hst : St M w0 [bld 133 b (.pointer (some ⟨b, 0, none⟩)) v1 (([] : By) ++ x.content), blk bx [iv x.frm, iv x.to, iv x.rf, iv x.rt, iv x.sf, iv x.st, sv x.sig] 40] w1 := hst
 refine wl_nil ?_
 refine fin_end hfr Tryz.results64 resAre_nil ?_
 exact ⟨rfl, _, hst.select [0, 1] (by decide)⟩
theorem ww3_run {M : Nat → Prop} {w0 : World} (b bx : Nat) (v : Value) (x : Wsh) (ws : World) (hx : smalls x.nums) (hst : St M w0 [bld 133 b (.pointer none) v ([] : By), blk bx [iv x.signer, iv x.holder, iv x.rf, iv x.rt, iv x.carrier, iv x.serial, iv x.sf, iv x.st, sv x.sig] 30] ws) :
  Ret Tryz.prog 66 #[.pointer (some ⟨b, 0, none⟩), .pointer (some ⟨bx, 0, none⟩)] ws fun u w => u = .tuple #[] ∧ ∃ v2, St M w0 [bld 133 b (.pointer (some ⟨b, 0, none⟩)) v2 x.content, blk bx [iv x.signer, iv x.holder, iv x.rf, iv x.rt, iv x.carrier, iv x.serial, iv x.sf, iv x.st, sv x.sig] 30] w := by
 refine ret_of Tryz.func66 rfl Tryz.ntmps66 (lb rfl) fun a hfr => ?_
 replace hfr : Fr 6 [(0, _), (1, _)] [] a := hfr
 skip
 refine wc_region ?_
 refine wlm hfr rfl fun a hfr => ?_
 refine wlv hfr (v_load_all (hst.get (k := 1) rfl) rfl (Tryz.isAgg30 _) (Tryz.sizeOf30 _)) fun a hfr => ?_
 refine wl_callE (R := fun u e' => u = .tuple #[] ∧ ∃ v2, e' = bld 133 b (.pointer (some ⟨b, 0, none⟩)) v2 (([] : By) ++ x.content)) 0 hfr hst rfl (by decide) Tryz.call67 rfl (fun h => (wwish_ok 133 b _ _ _ x _ (by kernel_rfl) (.inl rfl) hx (by simp) h).mono fun u w ⟨h1, v2, h2⟩ => ⟨_, ⟨h1, v2, rfl⟩, h2⟩) ?_
 clear hfr hst
 rintro a w1 _ _ ⟨rfl, v1, rfl⟩ hfr hst
 replace hst : St M w0 [bld 133 b (.pointer (some ⟨b, 0, none⟩)) v1 (([] : By) ++ x.content), blk bx [iv x.signer, iv x.holder, iv x.rf, iv x.rt, iv x.carrier, iv x.serial, iv x.sf, iv x.st, sv x.sig] 30] w1 := hst
 refine wl_nil ?_
 refine fin_end hfr Tryz.results66 resAre_nil ?_
 exact ⟨rfl, _, hst.select [0, 1] (by decide)⟩
theorem puts_ne {n : Int} {l : List Int} : puts (n :: l) ≠ [] := fun h => by
 have := (putI_len n).1
 simp only [puts, List.flatMap_cons, List.append_eq_nil_iff] at h
 rw [h.1] at this; simp at this
theorem signwish_ok (key : By) (x : Wsh) (w0 : World) (hk : key.length = 32) (hok : x.ok = true) (hk0 : (blk 0 (kOf.map wv) 239).ok w0) :
  Ret Tryz.prog 22 #[sv key, .agg #[iv x.signer, iv x.holder, iv x.rf, iv x.rt, iv x.carrier, iv x.serial, iv x.sf, iv x.st, sv x.sig]] w0 fun v w => v = .tuple #[.agg (x.sealed key).cells.toArray, iv 0] ∧ Ext No w0 w := by
 refine ret_of Tryz.func22 rfl Tryz.ntmps22 (lb rfl) fun a hfr => ?_
 replace hfr : Fr 20 [(0, _), (1, _)] [] a := hfr
 replace hst : St (· = 0) w0 [blk 0 (kOf.map wv) 239] w0 := St.one hk0
 refine wc_seq_region fun K1 hK1 => ?_
 refine wl_box hfr hst (by decide) rfl (cs := [iv x.signer, iv x.holder, iv x.rf, iv x.rt, iv x.carrier, iv x.serial, iv x.sf, iv x.st, sv x.sig]) rfl ?_
 clear hfr hst
 intro a w1 hfr hst
 refine wl_alloc hfr hst (by decide) (Tryz.zeroValue30 _) (cs := [iv 0, iv 0, iv 0, iv 0, iv 0, iv 0, iv 0, iv 0, .string (⟨#[]⟩)]) rfl ?_
 clear hfr hst
 intro a w2 hfr hst
 refine wla hfr rfl fun a hfr => ?_
 refine wl_nil (hK1 _ _ ?_)
 refine wc_seq_k fun K2 hK2 => ?_
 refine wc_seq_region fun K3 hK3 => ?_
 refine wlm hfr rfl fun a hfr => ?_
 refine wl_callp hfr hst (by decide) Tryz.call56 rfl (isKey_ok key _) ?_
 clear hfr hst
 intro a w3 hfr hst
 refine wlv hfr (v_not rfl) fun a hfr => wlm hfr rfl fun a hfr => ?_
 rcases Bool.eq_false_or_eq_true (!(decide ((key.length : Int) = 32))) with hb1 | hb1
 ·rw [hb1] at hfr
  try simp only [qz] at hb1
  exfalso; omega
 rw [hb1] at hfr
 try simp only [qz] at hb1
 refine wly hfr (v_load_all (hst.get (k := 1) rfl) rfl (Tryz.isAgg30 _) (Tryz.sizeOf30 _)) fun a hfr => ?_
 refine wl_callpy hfr hst (by decide) rfl (by decide) rfl Tryz.call58 rfl (isWish_ok x _) ?_
 clear hfr hst
 intro a w4 hfr hst
 refine wly hfr (v_not rfl) fun a hfr => ?_
 refine wlv hfr (v_pick_f rfl rfl) fun a hfr => ?_
 refine wl_nil (hK3 _ _ ?_)
 replace hfr : Fr 20 [(0, _), (3, _), (4, _), (5, _), (13, _)] [] a := hfr.pick [0, 3, 4, 5, 13]
 refine wc_cond hfr rfl (fun hc2 => ?_) (fun hc2 => ?_)
 ·rw [hc2] at hfr
  try simp only [qz] at hc2
  simp [hok] at hc2
 rw [hc2] at hfr
 try simp only [qz] at hc2
 refine wc_skip ?_
 refine hK2 _ _ ?_
 refine wc_seq_region fun K4 hK4 => ?_
 refine wlm hfr rfl fun a hfr => ?_
 refine wlv hfr (v_makeFunc rfl rfl) fun a hfr => ?_
 replace hst : St (· = 0) w0 [blk 0 (kOf.map wv) 239, blk w0.heap.size [iv x.signer, iv x.holder, iv x.rf, iv x.rt, iv x.carrier, iv x.serial, iv x.sf, iv x.st, sv x.sig] 30, blk w1.heap.size [iv 0, iv 0, iv 0, iv 0, iv 0, iv 0, iv 0, iv 0, .string (⟨#[]⟩)] 30] w4 := hst.select [2, 1, 0] (by decide)
 replace hst := St.join [blk 0 (kOf.map wv) 239, blk w0.heap.size [iv x.signer, iv x.holder, iv x.rf, iv x.rt, iv x.carrier, iv x.serial, iv x.sf, iv x.st, sv x.sig] 30] [blk w1.heap.size [iv 0, iv 0, iv 0, iv 0, iv 0, iv 0, iv 0, iv 0, .string (⟨#[]⟩)] 30] hst
 refine wl_callE (R := fun u e' => u = sv (sealH key x.content) ∧ e' = join [blk 0 (kOf.map wv) 239, blk w0.heap.size [iv x.signer, iv x.holder, iv x.rf, iv x.rt, iv x.carrier, iv x.serial, iv x.sf, iv x.st, sv x.sig] 30]) 0 hfr hst rfl (by decide) Tryz.call63 rfl (fun h => (seal_ok key x.content 72 [.pointer (some ⟨w0.heap.size, 0, none⟩)] (blk w0.heap.size [iv x.signer, iv x.holder, iv x.rf, iv x.rt, iv x.carrier, iv x.serial, iv x.sf, iv x.st, sv x.sig] 30) _ Tryz.call72 (fun b v ws h => sw1_run b _ v x ws (Wsh.smalls_of hok) h) puts_ne (by omega) (Nat.le_trans x.content_len (by decide)) (St.unjoin [blk 0 (kOf.map wv) 239, blk w0.heap.size [iv x.signer, iv x.holder, iv x.rf, iv x.rt, iv x.carrier, iv x.serial, iv x.sf, iv x.st, sv x.sig] 30] [] h)).mono fun u w ⟨h1, h2⟩ => ⟨_, ⟨h1, rfl⟩, St.join _ [] h2⟩) ?_
 clear hfr hst
 rintro a w5 _ _ ⟨rfl, rfl⟩ hfr hst
 replace hst : St (· = 0) w0 [blk 0 (kOf.map wv) 239, blk w0.heap.size [iv x.signer, iv x.holder, iv x.rf, iv x.rt, iv x.carrier, iv x.serial, iv x.sf, iv x.st, sv x.sig] 30, blk w1.heap.size [iv 0, iv 0, iv 0, iv 0, iv 0, iv 0, iv 0, iv 0, .string (⟨#[]⟩)] 30] w5 := St.unjoin [blk 0 (kOf.map wv) 239, blk w0.heap.size [iv x.signer, iv x.holder, iv x.rf, iv x.rt, iv x.carrier, iv x.serial, iv x.sf, iv x.st, sv x.sig] 30] [blk w1.heap.size [iv 0, iv 0, iv 0, iv 0, iv 0, iv 0, iv 0, iv 0, .string (⟨#[]⟩)] 30] hst
 refine wlv hfr (v_fieldAddr (v := .pointer (some ⟨w0.heap.size, 8, none⟩)) rfl (by kernel_rfl)) fun a hfr => ?_
 refine wl_store 1 hfr hst rfl rfl rfl (Tryz.sizeOf9 _) rfl (lb rfl) (ds := [iv x.signer, iv x.holder, iv x.rf, iv x.rt, iv x.carrier, iv x.serial, iv x.sf, iv x.st, sv (sealH key x.content)]) rfl rfl ?_
 clear hfr hst
 intro a w6 hfr hst
 refine wl_nil (hK4 _ _ ?_)
 replace hfr : Fr 20 [(3, _), (4, _), (5, _)] [] a := hfr.pick [3, 4, 5]
 refine wc_seq_region fun K5 hK5 => ?_
 refine wlv hfr (v_load_all (hst.get (k := 1) rfl) rfl (Tryz.isAgg30 _) (Tryz.sizeOf30 _)) fun a hfr => ?_
 refine wl_store 2 hfr hst rfl rfl rfl (Tryz.sizeOf30 _) rfl (lb rfl) (ds := [iv x.signer, iv x.holder, iv x.rf, iv x.rt, iv x.carrier, iv x.serial, iv x.sf, iv x.st, sv (sealH key x.content)]) rfl rfl ?_
 clear hfr hst
 intro a w7 hfr hst
 refine wla hfr rfl fun a hfr => ?_
 refine wl_nil (hK5 _ _ ?_)
 refine wc_ret ?_
 refine fin_ret hfr Tryz.results22 (resAre_cell rfl (res_all (hst.get (k := 2) rfl) (Tryz.isAgg30 _) (Tryz.sizeOf30 _)) (resAre_tmp rfl resAre_nil)) ?_
 exact ⟨rfl, hst.ext.const hk0 (hst.get (k := 0) rfl)⟩
theorem signproxy_ok (key : By) (x : Pxy) (w0 : World) (hk : key.length = 32) (hok : x.ok = true) (hk0 : (blk 0 (kOf.map wv) 239).ok w0) :
  Ret Tryz.prog 24 #[sv key, .agg #[iv x.frm, iv x.to, iv x.rf, iv x.rt, iv x.sf, iv x.st, sv x.sig]] w0 fun v w => v = .tuple #[.agg (x.sealed key).cells.toArray, iv 0] ∧ Ext No w0 w := by
 refine ret_of Tryz.func24 rfl Tryz.ntmps24 (lb rfl) fun a hfr => ?_
 replace hfr : Fr 20 [(0, _), (1, _)] [] a := hfr
 replace hst : St (· = 0) w0 [blk 0 (kOf.map wv) 239] w0 := St.one hk0
 refine wc_seq_region fun K1 hK1 => ?_
 refine wl_box hfr hst (by decide) rfl (cs := [iv x.frm, iv x.to, iv x.rf, iv x.rt, iv x.sf, iv x.st, sv x.sig]) rfl ?_
 clear hfr hst
 intro a w1 hfr hst
 refine wl_alloc hfr hst (by decide) (Tryz.zeroValue40 _) (cs := [iv 0, iv 0, iv 0, iv 0, iv 0, iv 0, .string (⟨#[]⟩)]) rfl ?_
 clear hfr hst
 intro a w2 hfr hst
 refine wla hfr rfl fun a hfr => ?_
 refine wl_nil (hK1 _ _ ?_)
 refine wc_seq_k fun K2 hK2 => ?_
 refine wc_seq_region fun K3 hK3 => ?_
 refine wlm hfr rfl fun a hfr => ?_
 refine wl_callp hfr hst (by decide) Tryz.call56 rfl (isKey_ok key _) ?_
 clear hfr hst
 intro a w3 hfr hst
 refine wlv hfr (v_not rfl) fun a hfr => wlm hfr rfl fun a hfr => ?_
 rcases Bool.eq_false_or_eq_true (!(decide ((key.length : Int) = 32))) with hb1 | hb1
 ·rw [hb1] at hfr
  try simp only [qz] at hb1
  exfalso; omega
 rw [hb1] at hfr
 try simp only [qz] at hb1
 refine wly hfr (v_load_all (hst.get (k := 1) rfl) rfl (Tryz.isAgg40 _) (Tryz.sizeOf40 _)) fun a hfr => ?_
 refine wl_callpy hfr hst (by decide) rfl (by decide) rfl Tryz.call73 rfl (isProxy_ok x _) ?_
 clear hfr hst
 intro a w4 hfr hst
 refine wly hfr (v_not rfl) fun a hfr => ?_
 refine wlv hfr (v_pick_f rfl rfl) fun a hfr => ?_
 refine wl_nil (hK3 _ _ ?_)
 replace hfr : Fr 20 [(0, _), (3, _), (4, _), (5, _), (13, _)] [] a := hfr.pick [0, 3, 4, 5, 13]
 refine wc_cond hfr rfl (fun hc2 => ?_) (fun hc2 => ?_)
 ·rw [hc2] at hfr
  try simp only [qz] at hc2
  simp [hok] at hc2
 rw [hc2] at hfr
 try simp only [qz] at hc2
 refine wc_skip ?_
 refine hK2 _ _ ?_
 refine wc_seq_region fun K4 hK4 => ?_
 refine wlm hfr rfl fun a hfr => ?_
 refine wlv hfr (v_makeFunc rfl rfl) fun a hfr => ?_
 replace hst : St (· = 0) w0 [blk 0 (kOf.map wv) 239, blk w0.heap.size [iv x.frm, iv x.to, iv x.rf, iv x.rt, iv x.sf, iv x.st, sv x.sig] 40, blk w1.heap.size [iv 0, iv 0, iv 0, iv 0, iv 0, iv 0, .string (⟨#[]⟩)] 40] w4 := hst.select [2, 1, 0] (by decide)
 replace hst := St.join [blk 0 (kOf.map wv) 239, blk w0.heap.size [iv x.frm, iv x.to, iv x.rf, iv x.rt, iv x.sf, iv x.st, sv x.sig] 40] [blk w1.heap.size [iv 0, iv 0, iv 0, iv 0, iv 0, iv 0, .string (⟨#[]⟩)] 40] hst
 refine wl_callE (R := fun u e' => u = sv (sealH key x.content) ∧ e' = join [blk 0 (kOf.map wv) 239, blk w0.heap.size [iv x.frm, iv x.to, iv x.rf, iv x.rt, iv x.sf, iv x.st, sv x.sig] 40]) 0 hfr hst rfl (by decide) Tryz.call63 rfl (fun h => (seal_ok key x.content 74 [.pointer (some ⟨w0.heap.size, 0, none⟩)] (blk w0.heap.size [iv x.frm, iv x.to, iv x.rf, iv x.rt, iv x.sf, iv x.st, sv x.sig] 40) _ Tryz.call74 (fun b v ws h => sp1_run b _ v x ws (Pxy.smalls_of hok) h) puts_ne (by omega) (Nat.le_trans x.content_len (by decide)) (St.unjoin [blk 0 (kOf.map wv) 239, blk w0.heap.size [iv x.frm, iv x.to, iv x.rf, iv x.rt, iv x.sf, iv x.st, sv x.sig] 40] [] h)).mono fun u w ⟨h1, h2⟩ => ⟨_, ⟨h1, rfl⟩, St.join _ [] h2⟩) ?_
 clear hfr hst
 rintro a w5 _ _ ⟨rfl, rfl⟩ hfr hst
 replace hst : St (· = 0) w0 [blk 0 (kOf.map wv) 239, blk w0.heap.size [iv x.frm, iv x.to, iv x.rf, iv x.rt, iv x.sf, iv x.st, sv x.sig] 40, blk w1.heap.size [iv 0, iv 0, iv 0, iv 0, iv 0, iv 0, .string (⟨#[]⟩)] 40] w5 := St.unjoin [blk 0 (kOf.map wv) 239, blk w0.heap.size [iv x.frm, iv x.to, iv x.rf, iv x.rt, iv x.sf, iv x.st, sv x.sig] 40] [blk w1.heap.size [iv 0, iv 0, iv 0, iv 0, iv 0, iv 0, .string (⟨#[]⟩)] 40] hst
 refine wlv hfr (v_fieldAddr (v := .pointer (some ⟨w0.heap.size, 6, none⟩)) rfl (by kernel_rfl)) fun a hfr => ?_
 refine wl_store 1 hfr hst rfl rfl rfl (Tryz.sizeOf9 _) rfl (lb rfl) (ds := [iv x.frm, iv x.to, iv x.rf, iv x.rt, iv x.sf, iv x.st, sv (sealH key x.content)]) rfl rfl ?_
 clear hfr hst
 intro a w6 hfr hst
 refine wl_nil (hK4 _ _ ?_)
 replace hfr : Fr 20 [(3, _), (4, _), (5, _)] [] a := hfr.pick [3, 4, 5]
 refine wc_seq_region fun K5 hK5 => ?_
 refine wlv hfr (v_load_all (hst.get (k := 1) rfl) rfl (Tryz.isAgg40 _) (Tryz.sizeOf40 _)) fun a hfr => ?_
 refine wl_store 2 hfr hst rfl rfl rfl (Tryz.sizeOf40 _) rfl (lb rfl) (ds := [iv x.frm, iv x.to, iv x.rf, iv x.rt, iv x.sf, iv x.st, sv (sealH key x.content)]) rfl rfl ?_
 clear hfr hst
 intro a w7 hfr hst
 refine wla hfr rfl fun a hfr => ?_
 refine wl_nil (hK5 _ _ ?_)
 refine wc_ret ?_
 refine fin_ret hfr Tryz.results24 (resAre_cell rfl (res_all (hst.get (k := 2) rfl) (Tryz.isAgg40 _) (Tryz.sizeOf40 _)) (resAre_tmp rfl resAre_nil)) ?_
 exact ⟨rfl, hst.ext.const hk0 (hst.get (k := 0) rfl)⟩
end Go.Proofs.YtmmfieceinmloaaGreatDoor
