/- Texts joined: DigA, DigB, DigC, Shelf, DigD, DigE, DigF, DigG, DigH. -/
import Derived.Test.YtmcoolbjgeibcaaDoorRows
import Derived.Test.YtmcoolbjgeibcaaDoorJB
import Derived.Test.YtmcoolbjgeibcaaDoorJP
import Derived.Test.YtmcoolbjgeibcaaDoorJA
import Derived.Shelf.Strings.Builder1
import Derived.Shelf.Strings.Builder2
import Derived.Shelf.Strings.OnBuilder
import Derived.Shelf.Small.Bits
import Derived.Shelf.Strings.BuilderF
import Derived.Shelf.Strings.Builder2Cap
import Derived.Shelf.Strconv.Itoa0
import Derived.Ground.Names2Prog
import Derived.Shelf.Slices.ReverseS
import Derived.Shelf.Slices.Cells
import Derived.Ground.SlgnProg
import Derived.Shelf.SlicesE.Reverse
import Derived.Test.YtmcoolbjgeibcaaDoorProg
namespace Go.Proofs.YtmcoolbjgeibcaaDoor
open Go.RowKit Go.PW
set_option linter.unusedVariables false
set_option linter.unusedSimpArgs false
set_option maxRecDepth 4000

/-- math/bits.RotateLeft32 -/
theorem rot_ok (x : Wd) (n : Nat) (w0 : World) (hn : 0 < n) (hn2 : n < 32) :
    Ret Tryd.prog 77 #[wv x, .int .i64 (-(n : Int))] w0 fun v w => v = wv (ror x n) ∧ Ext No w0 w := by
  refine ret_of Tryd.func77 rfl Tryd.ntmps77 (Nat.le_of_ble_eq_true rfl) fun a hfr => ?_
  replace hfr : Fr 17 [(0, _), (1, _)] [] a := hfr
  replace hst : St No w0 [] w0 := St.init w0
  refine wc_seq_region fun K1 hK1 => ?_
  refine wl_v hfr (by decide) (v_assign rfl) ?_
  clear hfr
  intro a hfr
  refine wl_nil (hK1 _ _ ?_)
  refine wc_seq_region fun K2 hK2 => ?_
  refine wl_v hfr (by decide) (v_move rfl) ?_
  clear hfr
  intro a hfr
  refine wl_v hfr (by decide) (v_conv_iu rfl (by kernel_rfl) Tryd.underlying80) ?_
  clear hfr
  intro a hfr
  refine wl_v hfr (by decide) ((v_uand31 (n := ((-(n : Int)) % 18446744073709551616).toNat) (by omega) rfl rfl).asi (m' := ((32 - n : Nat) : Int)) (by omega)) ?_
  clear hfr
  intro a hfr
  refine wl_v hfr (by decide) (v_assign rfl) ?_
  clear hfr
  intro a hfr
  refine wl_nil (hK2 _ _ ?_)
  refine wc_seq_region fun K3 hK3 => ?_
  refine wl_v hfr (by decide) (v_move rfl) ?_
  clear hfr
  intro a hfr
  refine wl_v hfr (by decide) (v_move rfl) ?_
  clear hfr
  intro a hfr
  refine wl_v hfr (by decide) (v_wshl (n := (32 - n)) rfl rfl) ?_
  clear hfr
  intro a hfr
  refine wl_v hfr (by decide) (v_move rfl) ?_
  clear hfr
  intro a hfr
  refine wl_v hfr (by decide) (v_move rfl) ?_
  clear hfr
  intro a hfr
  refine wl_v hfr (by decide) ((v_usub (m := 32) (n := 32 - n) (by omega) (by omega) rfl rfl).asi (m' := (n : Int)) (by omega)) ?_
  clear hfr
  intro a hfr
  refine wl_v hfr (by decide) (v_wshr (n := n) rfl rfl) ?_
  clear hfr
  intro a hfr
  refine wl_v hfr (by decide) (v_wor rfl rfl) ?_
  clear hfr
  intro a hfr
  refine wl_v hfr (by decide) (v_assign rfl) ?_
  clear hfr
  intro a hfr
  refine wl_nil (hK3 _ _ ?_)
  replace hfr : Fr 17 [(4, _)] [] a := hfr.pick [4]
  refine wc_ret ?_
  refine fin_ret hfr Tryd.results77 (resAre_tmp rfl resAre_nil) ?_
  exact ⟨by simp only [retv, ror], hst.ext⟩

/-- dialtone/digest.mixed -/
theorem mixed_ok (x : Wd) (lv : Value) (ns : List Nat) (w0 : World) (hlv : SlAt w0 lv 1 (ns.map fun n : Nat => [Value.int .i64 (n : Int)])) (hns : ∀ n ∈ ns, 0 < n ∧ n < 32) :
    Ret Tryd.prog 68 #[wv x, lv] w0 fun v w => v = wv (mix x ns) ∧ Ext No w0 w := by
  have hnl := hlv.le
  rw [List.length_map] at hnl
  refine ret_of Tryd.func68 rfl Tryd.ntmps68 (Nat.le_of_ble_eq_true rfl) fun a hfr => ?_
  replace hfr : Fr 22 [(0, _), (1, _)] [] a := hfr
  replace hst : St No w0 [] w0 := St.init w0
  refine wc_seq_region fun K1 hK1 => ?_
  refine wl_v hfr (by decide) (v_assign rfl) ?_
  clear hfr
  intro a hfr
  refine wl_nil (hK1 _ _ ?_)
  refine wc_seq_region fun K2 hK2 => ?_
  refine wl_v hfr (by decide) (v_assign rfl) ?_
  clear hfr
  intro a hfr
  refine wl_nil (hK2 _ _ ?_)
  refine wc_seq_k fun K3 hK3 => ?_
  refine wc_seq_region fun K4 hK4 => ?_
  refine wl_v hfr (by decide) (v_move rfl) ?_
  clear hfr
  intro a hfr
  refine wl_v hfr (by decide) ((v_len_sl (sT := 49) (hst.arg hlv) rfl rfl (Tryd.runUnderlying49 _)).asi (m' := (ns.length : Int)) (by simp)) ?_
  clear hfr
  intro a hfr
  refine wl_v hfr (by decide) (v_move rfl) ?_
  clear hfr
  intro a hfr
  refine wl_nil (hK4 _ _ ?_)
  refine wc_block ?_
  refine wc_loop (fun m a w => ∃ (k : Nat), m = ns.length - k ∧ (k ≤ ns.length) ∧ Fr 22 [(0, wv x), (4, wv (0#32)), (8, lv), (9, .int .i64 (ns.length : Int)), (10, .int .i64 (k : Int)), (5, wv (mix x (ns.take k)))] [] a ∧ St No w0 [] w) _ ⟨0, rfl, Nat.zero_le _, hfr.pick [0, 4, 8, 9, 10, 5], hst.select [] (by decide)⟩ ?_
  rintro _ a w1 ⟨k, rfl, hk, hfr, hst⟩
  refine wc_seq_region fun K5 hK5 => ?_
  refine wl_v hfr (by decide) (v_lt rfl rfl) ?_
  clear hfr
  intro a hfr
  refine wl_nil (hK5 _ _ ?_)
  refine wc_seq_k fun K6 hK6 => ?_
  refine wc_cond hfr rfl (fun hc1 => ?_) (fun hc1 => ?_)
  · rw [hc1] at hfr
    try simp only [Bool.not_eq_true', Bool.not_eq_false', decide_eq_true_eq, decide_eq_false_iff_not] at hc1
    have hkl : k < ns.length := by omega
    obtain ⟨n, hn⟩ : ∃ n, ns.getD k 0 = n := ⟨_, rfl⟩
    have hnb : 0 < n ∧ n < 32 := hns n (by rw [← hn]; simp [List.getD_eq_getElem?_getD, List.getElem?_eq_getElem hkl])
    have hst2 : mix x (ns.take (k + 1)) = mix x (ns.take k) ^^^ ror x n := by
      rw [mix, mix, List.take_succ_eq_append_getElem hkl, List.foldl_append]
      have : ns[k] = n := by rw [← hn]; simp [List.getD_eq_getElem?_getD, List.getElem?_eq_getElem hkl]
      rw [this]; rfl
    refine wc_skip ?_
    refine hK6 _ _ ?_
    refine wc_seq_k fun K7 hK7 => ?_
    refine wc_block ?_
    refine wc_seq_region fun K8 hK8 => ?_
    refine wl_v hfr (by decide) ((v_indexAddr_sl (i := (k : Int)) (sT := 49) (hst.arg hlv) rfl rfl (Tryd.runUnderlying49 _) (Tryd.sizeOf3 _) (by omega) (by simpa using hkl)).as (v' := slAddr lv (k * 1)) rfl) ?_
    clear hfr
    intro a hfr
    refine wl_v hfr (by decide) (v_load_sl1 (u := .int .i64 (n : Int)) (i := k) (j := 0) (hst.arg hlv) (by simpa using hkl) rfl (Tryd.isAgg3 _) (by rw [← hn]; simp [List.getD_eq_getElem?_getD, List.getElem?_eq_getElem hkl])) ?_
    clear hfr
    intro a hfr
    refine wl_v hfr (by decide) (v_assign rfl) ?_
    clear hfr
    intro a hfr
    refine wl_nil (hK8 _ _ ?_)
    refine wc_region ?_
    refine wl_v hfr (by decide) (v_move rfl) ?_
    clear hfr
    intro a hfr
    refine wl_v hfr (by decide) (v_move rfl) ?_
    clear hfr
    intro a hfr
    refine wl_v hfr (by decide) (v_move rfl) ?_
    clear hfr
    intro a hfr
    refine wl_v hfr (by decide) (v_neg rfl (by omega) (by omega)) ?_
    clear hfr
    intro a hfr
    refine wl_callp hfr hst (by decide) Tryd.call77 rfl (rot_ok x n _ hnb.1 hnb.2) ?_
    clear hfr hst
    intro a w2 hfr hst
    refine wl_v hfr (by decide) (v_wxor rfl rfl) ?_
    clear hfr
    intro a hfr
    refine wl_v hfr (by decide) (v_assign rfl) ?_
    clear hfr
    intro a hfr
    refine wl_nil ?_
    refine hK7 _ _ ?_
    replace hfr : Fr 22 [(0, _), (4, _), (8, _), (9, _), (10, _), (5, _)] [] a := hfr.pick [0, 4, 8, 9, 10, 5]
    refine wc_region ?_
    refine wl_v hfr (by decide) (v_add rfl rfl ⟨by omega, by omega⟩) ?_
    clear hfr
    intro a hfr
    refine wl_v hfr (by decide) (v_move rfl) ?_
    clear hfr
    intro a hfr
    refine wl_nil ?_
    rw [← hst2] at hfr
    refine ⟨_, ?_, k + 1, rfl, (by omega), hfr.pick [0, 4, 8, 9, 10, 5], hst.select [] (by decide)⟩
    omega
  rw [hc1] at hfr
  try simp only [Bool.not_eq_true', Bool.not_eq_false', decide_eq_true_eq, decide_eq_false_iff_not] at hc1
  have hke : ns.take k = ns := List.take_of_length_le (by omega)
  rw [hke] at hfr
  refine wc_exit ?_
  refine hK3 _ _ ?_
  refine wc_seq_region fun K9 hK9 => ?_
  refine wl_v hfr (by decide) (v_move rfl) ?_
  clear hfr
  intro a hfr
  refine wl_v hfr (by decide) (v_assign rfl) ?_
  clear hfr
  intro a hfr
  refine wl_nil (hK9 _ _ ?_)
  replace hfr : Fr 22 [(4, _)] [] a := hfr.pick [4]
  refine wc_ret ?_
  refine fin_ret hfr Tryd.results68 (resAre_tmp rfl resAre_nil) ?_
  exact ⟨rfl, hst.ext⟩

set_option maxHeartbeats 4000000 in
/-- dialtone/digest.schedule -/
theorem schedule_ok (bv : Value) (bs : List UInt8) (w0 : World) (hbv : SlAt w0 bv 1 (bs.map fun b => [yv b])) (hbl : bs.length = 64) :
    Ret Tryd.prog 67 #[bv] w0 fun v w => v = .agg ((sch bs 64).map wv).toArray ∧ Ext No w0 w := by
  refine ret_of Tryd.func67 rfl Tryd.ntmps67 (Nat.le_of_ble_eq_true rfl) fun a hfr => ?_
  replace hfr : Fr 84 [(0, _)] [] a := hfr
  replace hst : St No w0 [] w0 := St.init w0
  refine wc_seq_region fun K1 hK1 => ?_
  refine wl_alloc hfr hst (by decide) (Tryd.zeroValue88 _) (cs := (List.replicate 64 0#32).map wv) (by kernel_rfl) ?_
  clear hfr hst
  intro a w1 hfr hst
  refine wl_nil (hK1 _ _ ?_)
  refine wc_seq_k fun K2 hK2 => ?_
  refine wc_seq_region fun K3 hK3 => ?_
  refine wl_v hfr (by decide) (v_move rfl) ?_
  clear hfr
  intro a hfr
  refine wl_nil (hK3 _ _ ?_)
  refine wc_block ?_
  refine wc_loop (fun m a w => ∃ (k : Nat), m = 16 - k ∧ (k ≤ 16) ∧ Fr 84 [(0, bv), (2, .pointer (some ⟨w0.heap.size, 0, none⟩)), (7, .int .i64 (k : Int))] [] a ∧ St No w0 [blk w0.heap.size ((sch bs k).map wv) 88] w) _ ⟨0, rfl, Nat.zero_le _, hfr.pick [0, 2, 7], hst.select [0] (by decide)⟩ ?_
  rintro _ a w2 ⟨k, rfl, hk, hfr, hst⟩
  refine wc_seq_region fun K4 hK4 => ?_
  refine wl_v hfr (by decide) (v_lt rfl rfl) ?_
  clear hfr
  intro a hfr
  refine wl_nil (hK4 _ _ ?_)
  refine wc_seq_k fun K5 hK5 => ?_
  refine wc_cond hfr rfl (fun hc1 => ?_) (fun hc1 => ?_)
  · rw [hc1] at hfr
    try simp only [Bool.not_eq_true', Bool.not_eq_false', decide_eq_true_eq, decide_eq_false_iff_not] at hc1
    refine wc_skip ?_
    refine hK5 _ _ ?_
    refine wc_seq_k fun K6 hK6 => ?_
    refine wc_block ?_
    refine wc_seq_region fun K7 hK7 => ?_
    refine wl_v hfr (by decide) (v_move rfl) ?_
    clear hfr
    intro a hfr
    refine wl_v hfr (by decide) (v_assign rfl) ?_
    clear hfr
    intro a hfr
    refine wl_nil (hK7 _ _ ?_)
    refine wc_of_dr (by kernel_rfl) (dr_of_wd (by kernel_rfl) fun w3 hxz => ?_)
    replace hst : St No w0 [blk w0.heap.size ((sch bs k).map wv) 88] w3 := hst.grow hxz
    refine wd_sub (k := 0) 34 [0, 33] hfr (by kernel_rfl) (by kernel_rfl) (by kernel_rfl) (by rfl) ?_
    replace hfr : Fr 84 [(0, _), (2, _), (7, _), (8, _), (9, _), (3, _)] [] a := hfr.pick [0, 2, 7, 8, 9, 3]
    refine wc_phases_q [] (fun i => match i with | _ => fun _ _ => False) 34 [[], [], [], [2], [1, 3], [4], [5], [6], [], [], [9], [10], [8, 11], [12], [13], [14], [7, 15], [], [], [18], [19], [17, 20], [21], [22], [23], [16, 24], [], [], [27], [28], [26, 29], [30], [31], [25, 32]] [.int .i64 (k : Int), bv, .int .i64 (k : Int), .int .i64 (4 * (k : Int)), slAddr bv ((4 * k) * 1), yv (bs.getD (4 * k) 0), wv (BitVec.ofNat 32 (bs.getD (4 * k) 0).toNat), wv ((BitVec.ofNat 32 (bs.getD (4 * k) 0).toNat) <<< 24), bv, .int .i64 (k : Int), .int .i64 (4 * (k : Int)), .int .i64 ((4 * (k : Int)) + 1), slAddr bv (((4 * k) + 1) * 1), yv (bs.getD ((4 * k) + 1) 0), wv (BitVec.ofNat 32 (bs.getD ((4 * k) + 1) 0).toNat), wv ((BitVec.ofNat 32 (bs.getD ((4 * k) + 1) 0).toNat) <<< 16), wv (((BitVec.ofNat 32 (bs.getD (4 * k) 0).toNat) <<< 24) ||| ((BitVec.ofNat 32 (bs.getD ((4 * k) + 1) 0).toNat) <<< 16)), bv, .int .i64 (k : Int), .int .i64 (4 * (k : Int)), .int .i64 ((4 * (k : Int)) + 2), slAddr bv (((4 * k) + 2) * 1), yv (bs.getD ((4 * k) + 2) 0), wv (BitVec.ofNat 32 (bs.getD ((4 * k) + 2) 0).toNat), wv ((BitVec.ofNat 32 (bs.getD ((4 * k) + 2) 0).toNat) <<< 8), wv ((((BitVec.ofNat 32 (bs.getD (4 * k) 0).toNat) <<< 24) ||| ((BitVec.ofNat 32 (bs.getD ((4 * k) + 1) 0).toNat) <<< 16)) ||| ((BitVec.ofNat 32 (bs.getD ((4 * k) + 2) 0).toNat) <<< 8)), bv, .int .i64 (k : Int), .int .i64 (4 * (k : Int)), .int .i64 ((4 * (k : Int)) + 3), slAddr bv (((4 * k) + 3) * 1), yv (bs.getD ((4 * k) + 3) 0), wv (BitVec.ofNat 32 (bs.getD ((4 * k) + 3) 0).toNat), wv (((((BitVec.ofNat 32 (bs.getD (4 * k) 0).toNat) <<< 24) ||| ((BitVec.ofNat 32 (bs.getD ((4 * k) + 1) 0).toNat) <<< 16)) ||| ((BitVec.ofNat 32 (bs.getD ((4 * k) + 2) 0).toNat) <<< 8)) ||| (BitVec.ofNat 32 (bs.getD ((4 * k) + 3) 0).toNat))] hfr hst (by kernel_rfl) (by kernel_rfl) (by kernel_rfl) ?_ ?_ ?_
    · intro i hi hiq
      match i, hi, hiq with
      | 0, _, _ =>
        intro w hst
        exact OpV.g (v_move rfl)
      | 1, _, _ =>
        intro w hst
        exact OpV.g (v_move rfl)
      | 2, _, _ =>
        intro w hst
        exact OpV.g (v_move rfl)
      | 3, _, _ =>
        intro w hst
        exact OpV.g (v_mul rfl rfl ⟨by omega, by omega⟩)
      | 4, _, _ =>
        intro w hst
        exact OpV.g ((v_indexAddr_sl (i := 4 * (k : Int)) (sT := 46) (hst.arg hbv) rfl rfl (Tryd.runUnderlying46 _) (Tryd.sizeOf5 _) (by omega) (by simp; omega)).as (v' := slAddr bv ((4 * k) * 1)) (by rw [show (4 * (k : Int)).toNat = (4 * k) from by omega]))
      | 5, _, _ =>
        intro w hst
        exact OpV.g (v_load_sl1 (u := yv (bs.getD (4 * k) 0)) (i := (4 * k)) (j := 0) (hst.arg hbv) (by simp; omega) rfl (Tryd.isAgg5 _) (by simp [List.getD_eq_getElem?_getD, List.getElem?_eq_getElem (show (4 * k) < bs.length by omega)]))
      | 6, _, _ =>
        intro w hst
        exact OpV.g (v_conv_yw rfl (by kernel_rfl) Tryd.underlying69)
      | 7, _, _ =>
        intro w hst
        exact OpV.g (v_wshl (n := 24) rfl rfl)
      | 8, _, _ =>
        intro w hst
        exact OpV.g (v_move rfl)
      | 9, _, _ =>
        intro w hst
        exact OpV.g (v_move rfl)
      | 10, _, _ =>
        intro w hst
        exact OpV.g (v_mul rfl rfl ⟨by omega, by omega⟩)
      | 11, _, _ =>
        intro w hst
        exact OpV.g (v_add rfl rfl ⟨by omega, by omega⟩)
      | 12, _, _ =>
        intro w hst
        exact OpV.g ((v_indexAddr_sl (i := (4 * (k : Int)) + 1) (sT := 46) (hst.arg hbv) rfl rfl (Tryd.runUnderlying46 _) (Tryd.sizeOf5 _) (by omega) (by simp; omega)).as (v' := slAddr bv (((4 * k) + 1) * 1)) (by rw [show ((4 * (k : Int)) + 1).toNat = ((4 * k) + 1) from by omega]))
      | 13, _, _ =>
        intro w hst
        exact OpV.g (v_load_sl1 (u := yv (bs.getD ((4 * k) + 1) 0)) (i := ((4 * k) + 1)) (j := 0) (hst.arg hbv) (by simp; omega) rfl (Tryd.isAgg5 _) (by simp [List.getD_eq_getElem?_getD, List.getElem?_eq_getElem (show ((4 * k) + 1) < bs.length by omega)]))
      | 14, _, _ =>
        intro w hst
        exact OpV.g (v_conv_yw rfl (by kernel_rfl) Tryd.underlying69)
      | 15, _, _ =>
        intro w hst
        exact OpV.g (v_wshl (n := 16) rfl rfl)
      | 16, _, _ =>
        intro w hst
        exact OpV.g (v_wor rfl rfl)
      | 17, _, _ =>
        intro w hst
        exact OpV.g (v_move rfl)
      | 18, _, _ =>
        intro w hst
        exact OpV.g (v_move rfl)
      | 19, _, _ =>
        intro w hst
        exact OpV.g (v_mul rfl rfl ⟨by omega, by omega⟩)
      | 20, _, _ =>
        intro w hst
        exact OpV.g (v_add rfl rfl ⟨by omega, by omega⟩)
      | 21, _, _ =>
        intro w hst
        exact OpV.g ((v_indexAddr_sl (i := (4 * (k : Int)) + 2) (sT := 46) (hst.arg hbv) rfl rfl (Tryd.runUnderlying46 _) (Tryd.sizeOf5 _) (by omega) (by simp; omega)).as (v' := slAddr bv (((4 * k) + 2) * 1)) (by rw [show ((4 * (k : Int)) + 2).toNat = ((4 * k) + 2) from by omega]))
      | 22, _, _ =>
        intro w hst
        exact OpV.g (v_load_sl1 (u := yv (bs.getD ((4 * k) + 2) 0)) (i := ((4 * k) + 2)) (j := 0) (hst.arg hbv) (by simp; omega) rfl (Tryd.isAgg5 _) (by simp [List.getD_eq_getElem?_getD, List.getElem?_eq_getElem (show ((4 * k) + 2) < bs.length by omega)]))
      | 23, _, _ =>
        intro w hst
        exact OpV.g (v_conv_yw rfl (by kernel_rfl) Tryd.underlying69)
      | 24, _, _ =>
        intro w hst
        exact OpV.g (v_wshl (n := 8) rfl rfl)
      | 25, _, _ =>
        intro w hst
        exact OpV.g (v_wor rfl rfl)
      | 26, _, _ =>
        intro w hst
        exact OpV.g (v_move rfl)
      | 27, _, _ =>
        intro w hst
        exact OpV.g (v_move rfl)
      | 28, _, _ =>
        intro w hst
        exact OpV.g (v_mul rfl rfl ⟨by omega, by omega⟩)
      | 29, _, _ =>
        intro w hst
        exact OpV.g (v_add rfl rfl ⟨by omega, by omega⟩)
      | 30, _, _ =>
        intro w hst
        exact OpV.g ((v_indexAddr_sl (i := (4 * (k : Int)) + 3) (sT := 46) (hst.arg hbv) rfl rfl (Tryd.runUnderlying46 _) (Tryd.sizeOf5 _) (by omega) (by simp; omega)).as (v' := slAddr bv (((4 * k) + 3) * 1)) (by rw [show ((4 * (k : Int)) + 3).toNat = ((4 * k) + 3) from by omega]))
      | 31, _, _ =>
        intro w hst
        exact OpV.g (v_load_sl1 (u := yv (bs.getD ((4 * k) + 3) 0)) (i := ((4 * k) + 3)) (j := 0) (hst.arg hbv) (by simp; omega) rfl (Tryd.isAgg5 _) (by simp [List.getD_eq_getElem?_getD, List.getElem?_eq_getElem (show ((4 * k) + 3) < bs.length by omega)]))
      | 32, _, _ =>
        intro w hst
        exact OpV.g (v_conv_yw rfl (by kernel_rfl) Tryd.underlying69)
      | 33, _, _ =>
        intro w hst
        exact OpV.g (v_wor rfl rfl)
      | i + 34, h, _ => exact absurd h (by omega)
    · intro i hi
      exact absurd hi (by simp)
    clear hfr hst
    intro  a w4 hfr hst
    replace hfr : Fr 84 [(10, .int .i64 (k : Int)), (11, bv), (12, .int .i64 (k : Int)), (13, .int .i64 (4 * (k : Int))), (14, slAddr bv ((4 * k) * 1)), (15, yv (bs.getD (4 * k) 0)), (16, wv (BitVec.ofNat 32 (bs.getD (4 * k) 0).toNat)), (17, wv ((BitVec.ofNat 32 (bs.getD (4 * k) 0).toNat) <<< 24)), (18, bv), (19, .int .i64 (k : Int)), (20, .int .i64 (4 * (k : Int))), (21, .int .i64 ((4 * (k : Int)) + 1)), (22, slAddr bv (((4 * k) + 1) * 1)), (23, yv (bs.getD ((4 * k) + 1) 0)), (24, wv (BitVec.ofNat 32 (bs.getD ((4 * k) + 1) 0).toNat)), (25, wv ((BitVec.ofNat 32 (bs.getD ((4 * k) + 1) 0).toNat) <<< 16)), (26, wv (((BitVec.ofNat 32 (bs.getD (4 * k) 0).toNat) <<< 24) ||| ((BitVec.ofNat 32 (bs.getD ((4 * k) + 1) 0).toNat) <<< 16))), (27, bv), (28, .int .i64 (k : Int)), (29, .int .i64 (4 * (k : Int))), (30, .int .i64 ((4 * (k : Int)) + 2)), (31, slAddr bv (((4 * k) + 2) * 1)), (32, yv (bs.getD ((4 * k) + 2) 0)), (33, wv (BitVec.ofNat 32 (bs.getD ((4 * k) + 2) 0).toNat)), (34, wv ((BitVec.ofNat 32 (bs.getD ((4 * k) + 2) 0).toNat) <<< 8)), (35, wv ((((BitVec.ofNat 32 (bs.getD (4 * k) 0).toNat) <<< 24) ||| ((BitVec.ofNat 32 (bs.getD ((4 * k) + 1) 0).toNat) <<< 16)) ||| ((BitVec.ofNat 32 (bs.getD ((4 * k) + 2) 0).toNat) <<< 8))), (36, bv), (37, .int .i64 (k : Int)), (38, .int .i64 (4 * (k : Int))), (39, .int .i64 ((4 * (k : Int)) + 3)), (40, slAddr bv (((4 * k) + 3) * 1)), (41, yv (bs.getD ((4 * k) + 3) 0)), (42, wv (BitVec.ofNat 32 (bs.getD ((4 * k) + 3) 0).toNat)), (43, wv (((((BitVec.ofNat 32 (bs.getD (4 * k) 0).toNat) <<< 24) ||| ((BitVec.ofNat 32 (bs.getD ((4 * k) + 1) 0).toNat) <<< 16)) ||| ((BitVec.ofNat 32 (bs.getD ((4 * k) + 2) 0).toNat) <<< 8)) ||| (BitVec.ofNat 32 (bs.getD ((4 * k) + 3) 0).toNat))), (0, _), (2, _), (7, _), (8, _), (9, _), (3, _)] [] a := hfr
    refine wl_nil ?_
    refine wd_lin (k := 34) 36 [35] (by kernel_rfl) (by kernel_rfl) (by kernel_rfl) ?_
    refine wl_v hfr (by decide) ((v_indexAddr_arr (n := 64) (i := (k : Int)) rfl rfl (Tryd.runUnderlying88 _) (Tryd.sizeOf69 _) (by omega) (by omega)).as (v' := .pointer (some ⟨w0.heap.size, k, none⟩)) (by rw [show 0 + ((k : Int) : Int).toNat = k from by omega])) ?_
    clear hfr
    intro a hfr
    refine wl_store_at (f := wv) (z := ((((BitVec.ofNat 32 (bs.getD (4 * k) 0).toNat) <<< 24) ||| ((BitVec.ofNat 32 (bs.getD ((4 * k) + 1) 0).toNat) <<< 16)) ||| ((BitVec.ofNat 32 (bs.getD ((4 * k) + 2) 0).toNat) <<< 8)) ||| (BitVec.ofNat 32 (bs.getD ((4 * k) + 3) 0).toNat)) 0 hfr hst rfl rfl rfl (Tryd.sizeOf69 _) rfl rfl (by have := (sch_len bs k); omega) rfl ?_
    clear hfr hst
    intro a w5 hfr hst
    refine wl_nil ?_
    refine wd_end (by kernel_rfl) ?_
    refine hK6 _ _ ?_
    replace hfr : Fr 84 [(0, _), (2, _), (7, _)] [] a := hfr.pick [0, 2, 7]
    refine wc_region ?_
    refine wl_v hfr (by decide) (v_add rfl rfl ⟨by omega, by omega⟩) ?_
    clear hfr
    intro a hfr
    refine wl_v hfr (by decide) (v_move rfl) ?_
    clear hfr
    intro a hfr
    refine wl_nil ?_
    rw [show (sch bs k).set k (((((BitVec.ofNat 32 (bs.getD (4 * k) 0).toNat) <<< 24) ||| ((BitVec.ofNat 32 (bs.getD ((4 * k) + 1) 0).toNat) <<< 16)) ||| ((BitVec.ofNat 32 (bs.getD ((4 * k) + 2) 0).toNat) <<< 8)) ||| (BitVec.ofNat 32 (bs.getD ((4 * k) + 3) 0).toNat)) = sch bs (k + 1) from by rw [sch, if_pos (by omega), be]] at hst
    refine ⟨_, ?_, k + 1, rfl, (by omega), hfr.pick [0, 2, 7], hst.select [0] (by decide)⟩
    omega
  rw [hc1] at hfr
  try simp only [Bool.not_eq_true', Bool.not_eq_false', decide_eq_true_eq, decide_eq_false_iff_not] at hc1
  obtain rfl : k = 16 := by omega
  refine wc_exit ?_
  refine hK2 _ _ ?_
  refine wc_seq_k fun K8 hK8 => ?_
  refine wc_seq_region fun K9 hK9 => ?_
  refine wl_v hfr (by decide) (v_assign rfl) ?_
  clear hfr
  intro a hfr
  refine wl_nil (hK9 _ _ ?_)
  refine wc_block ?_
  refine wc_loop (fun m a w => ∃ (j : Nat), m = 64 - j ∧ (16 ≤ j) ∧ (j ≤ 64) ∧ Fr 84 [(2, .pointer (some ⟨w0.heap.size, 0, none⟩)), (4, .int .i64 (j : Int))] [] a ∧ St No w0 [blk w0.heap.size ((sch bs j).map wv) 88] w) _ ⟨16, rfl, (by omega), (by omega), hfr.pick [2, 4], hst.select [0] (by decide)⟩ ?_
  rintro _ a w6 ⟨j, rfl, hj, hj2, hfr, hst⟩
  refine wc_seq_k fun K10 hK10 => ?_
  refine wc_seq_region fun K11 hK11 => ?_
  refine wl_v hfr (by decide) (v_move rfl) ?_
  clear hfr
  intro a hfr
  refine wl_v hfr (by decide) (v_lt rfl rfl) ?_
  clear hfr
  intro a hfr
  refine wl_nil (hK11 _ _ ?_)
  refine wc_cond hfr rfl (fun hc2 => ?_) (fun hc2 => ?_)
  · rw [hc2] at hfr
    try simp only [Bool.not_eq_true', Bool.not_eq_false', decide_eq_true_eq, decide_eq_false_iff_not] at hc2
    refine wc_skip ?_
    refine hK10 _ _ ?_
    refine wc_seq_k fun K12 hK12 => ?_
    refine wc_block ?_
    refine wc_seq_k fun K13 hK13 => ?_
    refine wc_of_dr (by kernel_rfl) (dr_of_wd (by kernel_rfl) fun w7 hxz => ?_)
    replace hst : St No w0 [blk w0.heap.size ((sch bs j).map wv) 88] w7 := hst.grow hxz
    refine wd_sub (k := 0) 9 [7, 8] hfr (by kernel_rfl) (by kernel_rfl) (by kernel_rfl) (by rfl) ?_
    replace hfr : Fr 84 [(2, _), (4, _), (46, _), (47, _)] [] a := hfr.pick [2, 4, 46, 47]
    refine wc_phases_q [] (fun i => match i with | _ => fun _ _ => False) 9 [[], [0], [1], [2], [], [4], [5], [6], [3]] [.int .i64 (j : Int), .int .i64 ((j : Int) - 15), .pointer (some ⟨w0.heap.size, (j - 15), none⟩), wv ((sch bs j).getD (j - 15) 0#32), .int .i64 (j : Int), .int .i64 ((j : Int) - 2), .pointer (some ⟨w0.heap.size, (j - 2), none⟩), wv ((sch bs j).getD (j - 2) 0#32), wv ((sch bs j).getD (j - 15) 0#32)] hfr hst (by kernel_rfl) (by kernel_rfl) (by kernel_rfl) ?_ ?_ ?_
    · intro i hi hiq
      match i, hi, hiq with
      | 0, _, _ =>
        intro w hst
        exact OpV.g (v_move rfl)
      | 1, _, _ =>
        intro w hst
        exact OpV.g (v_sub rfl rfl ⟨by omega, by omega⟩)
      | 2, _, _ =>
        intro w hst
        exact OpV.g ((v_indexAddr_arr (n := 64) (i := (j : Int) - 15) rfl rfl (Tryd.runUnderlying88 _) (Tryd.sizeOf69 _) (by omega) (by omega)).as (v' := .pointer (some ⟨w0.heap.size, (j - 15), none⟩)) (by rw [show 0 + ((j : Int) - 15 : Int).toNat = (j - 15) from by omega]))
      | 3, _, _ =>
        intro w hst
        exact OpV.g (v_load_blk1 (hst.get (k := 0) rfl) rfl (Tryd.isAgg69 _) (cell_at (d := 0#32) (by have := (sch_len bs j); omega)))
      | 4, _, _ =>
        intro w hst
        exact OpV.g (v_move rfl)
      | 5, _, _ =>
        intro w hst
        exact OpV.g (v_sub rfl rfl ⟨by omega, by omega⟩)
      | 6, _, _ =>
        intro w hst
        exact OpV.g ((v_indexAddr_arr (n := 64) (i := (j : Int) - 2) rfl rfl (Tryd.runUnderlying88 _) (Tryd.sizeOf69 _) (by omega) (by omega)).as (v' := .pointer (some ⟨w0.heap.size, (j - 2), none⟩)) (by rw [show 0 + ((j : Int) - 2 : Int).toNat = (j - 2) from by omega]))
      | 7, _, _ =>
        intro w hst
        exact OpV.g (v_load_blk1 (hst.get (k := 0) rfl) rfl (Tryd.isAgg69 _) (cell_at (d := 0#32) (by have := (sch_len bs j); omega)))
      | 8, _, _ =>
        intro w hst
        exact OpV.g (v_assign rfl)
    · intro i hi
      exact absurd hi (by simp)
    clear hfr hst
    intro  a w8 hfr hst
    replace hfr : Fr 84 [(50, .int .i64 (j : Int)), (51, .int .i64 ((j : Int) - 15)), (52, .pointer (some ⟨w0.heap.size, (j - 15), none⟩)), (53, wv ((sch bs j).getD (j - 15) 0#32)), (54, .int .i64 (j : Int)), (55, .int .i64 ((j : Int) - 2)), (56, .pointer (some ⟨w0.heap.size, (j - 2), none⟩)), (57, wv ((sch bs j).getD (j - 2) 0#32)), (5, wv ((sch bs j).getD (j - 15) 0#32)), (2, _), (4, _), (46, _), (47, _)] [] a := hfr
    refine wl_nil ?_
    refine wd_lin (k := 9) 10 [9] (by kernel_rfl) (by kernel_rfl) (by kernel_rfl) ?_
    refine wl_v hfr (by decide) (v_assign rfl) ?_
    clear hfr
    intro a hfr
    refine wl_nil ?_
    refine wd_end (by kernel_rfl) ?_
    refine hK13 _ _ ?_
    replace hfr : Fr 84 [(2, _), (4, _), (5, _), (6, _)] [] a := hfr.pick [2, 4, 5, 6]
    refine wc_of_dr (by kernel_rfl) (dr_of_wd (by kernel_rfl) fun w9 hxz => ?_)
    replace hst : St No w0 [blk w0.heap.size ((sch bs j).map wv) 88] w9 := hst.grow hxz
    refine wd_sub (k := 0) 24 [0, 23] hfr (by kernel_rfl) (by kernel_rfl) (by kernel_rfl) (by rfl) ?_
    replace hfr : Fr 84 [(2, _), (4, _), (5, _), (6, _)] [] a := hfr.pick [2, 4, 5, 6]
    refine wc_phases_q [6, 18] (fun i => match i with | 6 => pm (fun b : Nat => .slice (some ⟨b, 0, none⟩) 2 2) (fun b => [own (.slice (some ⟨b, 0, none⟩) 2 2) 3 1 [[.int .i64 7], [.int .i64 18]]]) (fun _ => True) | 18 => pm (fun b : Nat => .slice (some ⟨b, 0, none⟩) 2 2) (fun b => [own (.slice (some ⟨b, 0, none⟩) 2 2) 3 1 [[.int .i64 17], [.int .i64 19]]]) (fun _ => True) | _ => fun _ _ => False) 24 [[], [], [1], [2], [3], [], [], [5, 6], [], [8], [7, 9], [4, 10], [], [12], [13], [14], [11, 15], [], [], [17, 18], [], [20], [19, 21], [16, 22]] [.int .i64 (j : Int), .int .i64 (j : Int), .int .i64 ((j : Int) - 16), .pointer (some ⟨w0.heap.size, (j - 16), none⟩), wv ((sch bs j).getD (j - 16) 0#32), wv ((sch bs j).getD (j - 15) 0#32), undef, wv (mix ((sch bs j).getD (j - 15) 0#32) [7, 18]), wv ((sch bs j).getD (j - 15) 0#32), wv (((sch bs j).getD (j - 15) 0#32) >>> 3), wv ((mix ((sch bs j).getD (j - 15) 0#32) [7, 18]) ^^^ (((sch bs j).getD (j - 15) 0#32) >>> 3)), wv (((sch bs j).getD (j - 16) 0#32) + ((mix ((sch bs j).getD (j - 15) 0#32) [7, 18]) ^^^ (((sch bs j).getD (j - 15) 0#32) >>> 3))), .int .i64 (j : Int), .int .i64 ((j : Int) - 7), .pointer (some ⟨w0.heap.size, (j - 7), none⟩), wv ((sch bs j).getD (j - 7) 0#32), wv ((((sch bs j).getD (j - 16) 0#32) + ((mix ((sch bs j).getD (j - 15) 0#32) [7, 18]) ^^^ (((sch bs j).getD (j - 15) 0#32) >>> 3))) + ((sch bs j).getD (j - 7) 0#32)), wv ((sch bs j).getD (j - 2) 0#32), undef, wv (mix ((sch bs j).getD (j - 2) 0#32) [17, 19]), wv ((sch bs j).getD (j - 2) 0#32), wv (((sch bs j).getD (j - 2) 0#32) >>> 10), wv ((mix ((sch bs j).getD (j - 2) 0#32) [17, 19]) ^^^ (((sch bs j).getD (j - 2) 0#32) >>> 10)), wv (((((sch bs j).getD (j - 16) 0#32) + ((mix ((sch bs j).getD (j - 15) 0#32) [7, 18]) ^^^ (((sch bs j).getD (j - 15) 0#32) >>> 3))) + ((sch bs j).getD (j - 7) 0#32)) + ((mix ((sch bs j).getD (j - 2) 0#32) [17, 19]) ^^^ (((sch bs j).getD (j - 2) 0#32) >>> 10)))] hfr hst (by kernel_rfl) (by kernel_rfl) (by kernel_rfl) ?_ ?_ ?_
    · intro i hi hiq
      match i, hi, hiq with
      | 0, _, _ =>
        intro w hst
        exact OpV.g (v_move rfl)
      | 1, _, _ =>
        intro w hst
        exact OpV.g (v_move rfl)
      | 2, _, _ =>
        intro w hst
        exact OpV.g (v_sub rfl rfl ⟨by omega, by omega⟩)
      | 3, _, _ =>
        intro w hst
        exact OpV.g ((v_indexAddr_arr (n := 64) (i := (j : Int) - 16) rfl rfl (Tryd.runUnderlying88 _) (Tryd.sizeOf69 _) (by omega) (by omega)).as (v' := .pointer (some ⟨w0.heap.size, (j - 16), none⟩)) (by rw [show 0 + ((j : Int) - 16 : Int).toNat = (j - 16) from by omega]))
      | 4, _, _ =>
        intro w hst
        exact OpV.g (v_load_blk1 (hst.get (k := 0) rfl) rfl (Tryd.isAgg69 _) (cell_at (d := 0#32) (by have := (sch_len bs j); omega)))
      | 5, _, _ =>
        intro w hst
        exact OpV.g (v_move rfl)
      | 6, _, h => exact absurd (by simp) h
      | 7, _, _ =>
        rintro _ _ ⟨b3, rfl, -, rfl⟩
        intro w hst
        exact g_callp Tryd.call68 rfl (mixed_ok ((sch bs j).getD (j - 15) 0#32) (.slice (some ⟨b3, 0, none⟩) 2 2) [7, 18] _ (hst.ownAt (i := 0) rfl) (by decide))
      | 8, _, _ =>
        intro w hst
        exact OpV.g (v_move rfl)
      | 9, _, _ =>
        intro w hst
        exact OpV.g (v_wshr (n := 3) rfl rfl)
      | 10, _, _ =>
        intro w hst
        exact OpV.g (v_wxor rfl rfl)
      | 11, _, _ =>
        intro w hst
        exact OpV.g (v_wadd rfl rfl)
      | 12, _, _ =>
        intro w hst
        exact OpV.g (v_move rfl)
      | 13, _, _ =>
        intro w hst
        exact OpV.g (v_sub rfl rfl ⟨by omega, by omega⟩)
      | 14, _, _ =>
        intro w hst
        exact OpV.g ((v_indexAddr_arr (n := 64) (i := (j : Int) - 7) rfl rfl (Tryd.runUnderlying88 _) (Tryd.sizeOf69 _) (by omega) (by omega)).as (v' := .pointer (some ⟨w0.heap.size, (j - 7), none⟩)) (by rw [show 0 + ((j : Int) - 7 : Int).toNat = (j - 7) from by omega]))
      | 15, _, _ =>
        intro w hst
        exact OpV.g (v_load_blk1 (hst.get (k := 0) rfl) rfl (Tryd.isAgg69 _) (cell_at (d := 0#32) (by have := (sch_len bs j); omega)))
      | 16, _, _ =>
        intro w hst
        exact OpV.g (v_wadd rfl rfl)
      | 17, _, _ =>
        intro w hst
        exact OpV.g (v_move rfl)
      | 18, _, h => exact absurd (by simp) h
      | 19, _, _ =>
        rintro _ _ ⟨b4, rfl, -, rfl⟩
        intro w hst
        exact g_callp Tryd.call68 rfl (mixed_ok ((sch bs j).getD (j - 2) 0#32) (.slice (some ⟨b4, 0, none⟩) 2 2) [17, 19] _ (hst.ownAt (i := 0) rfl) (by decide))
      | 20, _, _ =>
        intro w hst
        exact OpV.g (v_move rfl)
      | 21, _, _ =>
        intro w hst
        exact OpV.g (v_wshr (n := 10) rfl rfl)
      | 22, _, _ =>
        intro w hst
        exact OpV.g (v_wxor rfl rfl)
      | 23, _, _ =>
        intro w hst
        exact OpV.g (v_wadd rfl rfl)
      | i + 24, h, _ => exact absurd h (by omega)
    · intro i hi
      simp only [List.mem_cons, List.not_mem_nil, or_false] at hi
      rcases hi with rfl | rfl
      · intro w hst
        exact g_buildSlice (E := 3) (sz := 1) rfl [[.int .i64 7], [.int .i64 18]] (fun _ => by kernel_rfl) (by simp) rfl (by decide)
      · intro w hst
        exact g_buildSlice (E := 3) (sz := 1) rfl [[.int .i64 17], [.int .i64 19]] (fun _ => by kernel_rfl) (by simp) rfl (by decide)
    clear hfr hst
    rintro _ _ ⟨b3, rfl, -, rfl⟩ _ _ ⟨b4, rfl, -, rfl⟩ a w10 hfr hst
    replace hfr : Fr 84 [(58, .int .i64 (j : Int)), (59, .int .i64 (j : Int)), (60, .int .i64 ((j : Int) - 16)), (61, .pointer (some ⟨w0.heap.size, (j - 16), none⟩)), (62, wv ((sch bs j).getD (j - 16) 0#32)), (63, wv ((sch bs j).getD (j - 15) 0#32)), (64, _), (65, wv (mix ((sch bs j).getD (j - 15) 0#32) [7, 18])), (66, wv ((sch bs j).getD (j - 15) 0#32)), (67, wv (((sch bs j).getD (j - 15) 0#32) >>> 3)), (68, wv ((mix ((sch bs j).getD (j - 15) 0#32) [7, 18]) ^^^ (((sch bs j).getD (j - 15) 0#32) >>> 3))), (69, wv (((sch bs j).getD (j - 16) 0#32) + ((mix ((sch bs j).getD (j - 15) 0#32) [7, 18]) ^^^ (((sch bs j).getD (j - 15) 0#32) >>> 3)))), (70, .int .i64 (j : Int)), (71, .int .i64 ((j : Int) - 7)), (72, .pointer (some ⟨w0.heap.size, (j - 7), none⟩)), (73, wv ((sch bs j).getD (j - 7) 0#32)), (74, wv ((((sch bs j).getD (j - 16) 0#32) + ((mix ((sch bs j).getD (j - 15) 0#32) [7, 18]) ^^^ (((sch bs j).getD (j - 15) 0#32) >>> 3))) + ((sch bs j).getD (j - 7) 0#32))), (75, wv ((sch bs j).getD (j - 2) 0#32)), (76, _), (77, wv (mix ((sch bs j).getD (j - 2) 0#32) [17, 19])), (78, wv ((sch bs j).getD (j - 2) 0#32)), (79, wv (((sch bs j).getD (j - 2) 0#32) >>> 10)), (80, wv ((mix ((sch bs j).getD (j - 2) 0#32) [17, 19]) ^^^ (((sch bs j).getD (j - 2) 0#32) >>> 10))), (81, wv (((((sch bs j).getD (j - 16) 0#32) + ((mix ((sch bs j).getD (j - 15) 0#32) [7, 18]) ^^^ (((sch bs j).getD (j - 15) 0#32) >>> 3))) + ((sch bs j).getD (j - 7) 0#32)) + ((mix ((sch bs j).getD (j - 2) 0#32) [17, 19]) ^^^ (((sch bs j).getD (j - 2) 0#32) >>> 10)))), (2, _), (4, _), (5, _), (6, _)] [] a := hfr
    replace hst : St No w0 [_, _, _] w10 := hst
    refine wl_nil ?_
    refine wd_lin (k := 24) 26 [25] (by kernel_rfl) (by kernel_rfl) (by kernel_rfl) ?_
    refine wl_v hfr (by decide) ((v_indexAddr_arr (n := 64) (i := (j : Int)) rfl rfl (Tryd.runUnderlying88 _) (Tryd.sizeOf69 _) (by omega) (by omega)).as (v' := .pointer (some ⟨w0.heap.size, j, none⟩)) (by rw [show 0 + ((j : Int) : Int).toNat = j from by omega])) ?_
    clear hfr
    intro a hfr
    refine wl_store_at (f := wv) (z := ((((sch bs j).getD (j - 16) 0#32) + ((mix ((sch bs j).getD (j - 15) 0#32) [7, 18]) ^^^ (((sch bs j).getD (j - 15) 0#32) >>> 3))) + ((sch bs j).getD (j - 7) 0#32)) + ((mix ((sch bs j).getD (j - 2) 0#32) [17, 19]) ^^^ (((sch bs j).getD (j - 2) 0#32) >>> 10))) 2 hfr hst rfl rfl rfl (Tryd.sizeOf69 _) rfl rfl (by have := (sch_len bs j); omega) rfl ?_
    clear hfr hst
    intro a w11 hfr hst
    refine wl_nil ?_
    refine wd_end (by kernel_rfl) ?_
    refine hK12 _ _ ?_
    replace hfr : Fr 84 [(2, _), (4, _)] [] a := hfr.pick [2, 4]
    replace hst : St No w0 [_] w11 := hst.mask [false, false, true]
    refine wc_region ?_
    refine wl_v hfr (by decide) (v_move rfl) ?_
    clear hfr
    intro a hfr
    refine wl_v hfr (by decide) (v_add rfl rfl ⟨by omega, by omega⟩) ?_
    clear hfr
    intro a hfr
    refine wl_v hfr (by decide) (v_assign rfl) ?_
    clear hfr
    intro a hfr
    refine wl_nil ?_
    rw [show (sch bs j).set j (((((sch bs j).getD (j - 16) 0#32) + ((mix ((sch bs j).getD (j - 15) 0#32) [7, 18]) ^^^ (((sch bs j).getD (j - 15) 0#32) >>> 3))) + ((sch bs j).getD (j - 7) 0#32)) + ((mix ((sch bs j).getD (j - 2) 0#32) [17, 19]) ^^^ (((sch bs j).getD (j - 2) 0#32) >>> 10))) = sch bs (j + 1) from by rw [sch, if_neg (by omega), nx]] at hst
    refine ⟨_, ?_, j + 1, rfl, (by omega), (by omega), hfr.pick [2, 4], hst.select [0] (by decide)⟩
    omega
  rw [hc2] at hfr
  try simp only [Bool.not_eq_true', Bool.not_eq_false', decide_eq_true_eq, decide_eq_false_iff_not] at hc2
  obtain rfl : j = 64 := by omega
  refine wc_exit ?_
  refine hK8 _ _ ?_
  refine wc_seq_region fun K14 hK14 => ?_
  refine wl_v hfr (by decide) (v_load_all (hst.get (k := 0) rfl) rfl (Tryd.isAgg88 _) (by rw [List.length_map, (sch_len bs 64)]; exact Tryd.sizeOf88 _)) ?_
  clear hfr
  intro a hfr
  refine wl_store_arr 0 hfr hst rfl rfl rfl (Tryd.sizeOf88 _) (sch_len bs 64) (sch_len bs 64) rfl ?_
  clear hfr hst
  intro a w12 hfr hst
  refine wl_nil (hK14 _ _ ?_)
  refine wc_ret ?_
  refine fin_ret hfr Tryd.results67 (resAre_cell rfl (res_all (hst.get (k := 0) rfl) (Tryd.isAgg88 _) (by rw [List.length_map, (sch_len bs 64)]; exact Tryd.sizeOf88 _)) resAre_nil) ?_
  exact ⟨by rfl, hst.ext⟩

def addTo (x y : W8) : Nat → List Wd
  | 0 => x.l
  | j + 1 => (addTo x y j).set j (x.l.getD j 0#32 + y.l.getD j 0#32)
theorem addTo_len (x y : W8) (j : Nat) : (addTo x y j).length = 8 := by
  induction j with
  | zero => rfl
  | succ j ih => rw [addTo, List.length_set, ih]
theorem addTo_ge (x y : W8) {k : Nat} : ∀ j, j ≤ k → (addTo x y j).getD k 0#32 = x.l.getD k 0#32
  | 0, _ => rfl
  | j + 1, h => by
    rw [addTo, List.getD_eq_getElem?_getD, List.getElem?_set_ne (by omega), ← List.getD_eq_getElem?_getD]
    exact addTo_ge x y j (by omega)
theorem addTo_get {x y : W8} {j : Nat} (h : j < 8) : (addTo x y j).getD j 0#32 = x.l.getD j 0#32 := addTo_ge x y j (Nat.le_refl _)
theorem addTo_all (x y : W8) : addTo x y 8 = (x.add y).l := rfl

set_option maxHeartbeats 4000000 in
/-- (*dialtone/digest.words).add -/
theorem add_ok (b : Nat) (hv : W8) (bv : Value) (bs : List UInt8) (w0 : World) (hb : (blk b [wv hv.a, wv hv.b, wv hv.c, wv hv.d, wv hv.e, wv hv.f, wv hv.g, wv hv.h] 71).ok w0) (hk0 : (blk 0 (kOf.map wv) 88).ok w0) (hb0 : ¬ (0 = b)) (hbv : SlAt w0 bv 1 (bs.map fun b => [yv b])) (hbl : bs.length = 64) (hnb : ∀ k, slBlk bv = some k → ¬ (k = b)) :
    Ret Tryd.prog 55 #[.pointer (some ⟨b, 0, none⟩), bv] w0 fun v w => v = .tuple #[] ∧ Ext (· = b) w0 w ∧ (blk b ((block hv bs).l.map wv) 71).ok w := by
  refine ret_of Tryd.func55 rfl Tryd.ntmps55 (Nat.le_of_ble_eq_true rfl) fun a hfr => ?_
  replace hfr : Fr 97 [(0, _), (1, _)] [] a := hfr
  replace hst : St (· = b) w0 [blk b [wv hv.a, wv hv.b, wv hv.c, wv hv.d, wv hv.e, wv hv.f, wv hv.g, wv hv.h] 71] w0 := St.one hb
  refine wc_seq_region fun K1 hK1 => ?_
  refine wl_v hfr (by decide) (v_move rfl) ?_
  clear hfr
  intro a hfr
  refine wl_callp hfr hst (by decide) Tryd.call67 rfl (schedule_ok bv bs _ (hbv.ext hst.ext hnb) hbl) ?_
  clear hfr hst
  intro a w1 hfr hst
  refine wl_alloc hfr hst (by decide) (Tryd.zeroValue88 _) (cs := (List.replicate 64 0#32).map wv) (by kernel_rfl) ?_
  clear hfr hst
  intro a w2 hfr hst
  refine wl_store_arr 0 hfr hst rfl rfl rfl (Tryd.sizeOf88 _) (sch_len bs 64) (List.length_replicate : (List.replicate 64 0#32).length = 64) rfl ?_
  clear hfr hst
  intro a w3 hfr hst
  refine wl_nil (hK1 _ _ ?_)
  refine wc_seq_region fun K2 hK2 => ?_
  refine wl_v hfr (by decide) (v_move rfl) ?_
  clear hfr
  intro a hfr
  refine wl_v hfr (by decide) (v_nilCheck rfl) ?_
  clear hfr
  intro a hfr
  refine wl_v hfr (by decide) (v_load_all (hst.get (k := 1) rfl) rfl (Tryd.isAgg71 _) (Tryd.sizeOf71 _)) ?_
  clear hfr
  intro a hfr
  refine wl_alloc hfr hst (by decide) (Tryd.zeroValue71 _) (cs := [wv (0#32), wv (0#32), wv (0#32), wv (0#32), wv (0#32), wv (0#32), wv (0#32), wv (0#32)]) rfl ?_
  clear hfr hst
  intro a w4 hfr hst
  refine wl_store 0 hfr hst rfl rfl rfl (Tryd.sizeOf71 _) rfl (Nat.le_of_ble_eq_true rfl) (ds := [wv hv.a, wv hv.b, wv hv.c, wv hv.d, wv hv.e, wv hv.f, wv hv.g, wv hv.h]) rfl rfl ?_
  clear hfr hst
  intro a w5 hfr hst
  refine wl_nil (hK2 _ _ ?_)
  replace hfr : Fr 97 [(0, _), (4, _), (5, _)] [] a := hfr.pick [0, 4, 5]
  refine wc_seq_k fun K3 hK3 => ?_
  refine wc_seq_region fun K4 hK4 => ?_
  refine wl_v hfr (by decide) (v_load_all (hst.keepM hk0 hb0) rfl (Tryd.isAgg88 _) (by rw [List.length_map, kOf_len]; exact Tryd.sizeOf88 _)) ?_
  clear hfr
  intro a hfr
  refine wl_v hfr (by decide) (v_move rfl) ?_
  clear hfr
  intro a hfr
  refine wl_nil (hK4 _ _ ?_)
  refine wc_block ?_
  refine wc_loop (fun m a w => ∃ (k : Nat) (v : W8), m = 64 - k ∧ (k ≤ 64) ∧ (rounds (sch bs 64) hv k = v) ∧ Fr 97 [(0, .pointer (some ⟨b, 0, none⟩)), (4, .pointer (some ⟨w1.heap.size, 0, none⟩)), (5, .pointer (some ⟨w3.heap.size, 0, none⟩)), (18, .agg (kOf.map wv).toArray), (19, .int .i64 (k : Int))] [] a ∧ St (· = b) w0 [blk w3.heap.size [wv v.a, wv v.b, wv v.c, wv v.d, wv v.e, wv v.f, wv v.g, wv v.h] 71, blk w1.heap.size ((sch bs 64).map wv) 88, blk b [wv hv.a, wv hv.b, wv hv.c, wv hv.d, wv hv.e, wv hv.f, wv hv.g, wv hv.h] 71] w) _ ⟨0, hv, rfl, Nat.zero_le _, rfl, hfr.pick [0, 4, 5, 18, 19], hst.select [0, 1, 2] (by decide)⟩ ?_
  rintro _ a w6 ⟨k, v, rfl, hk, hrv, hfr, hst⟩
  refine wc_seq_region fun K5 hK5 => ?_
  refine wl_v hfr (by decide) (v_lt rfl rfl) ?_
  clear hfr
  intro a hfr
  refine wl_nil (hK5 _ _ ?_)
  refine wc_seq_k fun K6 hK6 => ?_
  refine wc_cond hfr rfl (fun hc1 => ?_) (fun hc1 => ?_)
  · rw [hc1] at hfr
    try simp only [Bool.not_eq_true', Bool.not_eq_false', decide_eq_true_eq, decide_eq_false_iff_not] at hc1
    refine wc_skip ?_
    refine hK6 _ _ ?_
    refine wc_seq_k fun K7 hK7 => ?_
    refine wc_block ?_
    refine wc_seq_region fun K8 hK8 => ?_
    refine wl_v hfr (by decide) (v_move rfl) ?_
    clear hfr
    intro a hfr
    refine wl_v hfr (by decide) (v_index_arr (cs := kOf.map wv) (i := (k : Int)) rfl rfl (Tryd.runUnderlying88 _) (Tryd.sizeOf69 _) (Tryd.isAgg69 _) (by omega) (by omega) (by rw [show ((k : Int) : Int).toNat = k from by omega]; exact cell_at (d := 0#32) (by have := kOf_len; omega))) ?_
    clear hfr
    intro a hfr
    refine wl_v hfr (by decide) (v_assign rfl) ?_
    clear hfr
    intro a hfr
    refine wl_v hfr (by decide) (v_assign rfl) ?_
    clear hfr
    intro a hfr
    refine wl_nil (hK8 _ _ ?_)
    refine wc_seq_k fun K9 hK9 => ?_
    refine wc_of_dr (by kernel_rfl) (dr_of_wd (by kernel_rfl) fun w7 hxz => ?_)
    replace hst : St (· = b) w0 [blk w3.heap.size [wv v.a, wv v.b, wv v.c, wv v.d, wv v.e, wv v.f, wv v.g, wv v.h] 71, blk w1.heap.size ((sch bs 64).map wv) 88, blk b [wv hv.a, wv hv.b, wv hv.c, wv hv.d, wv hv.e, wv hv.f, wv hv.g, wv hv.h] 71] w7 := hst.grow hxz
    refine wd_sub (k := 0) 5 [3, 4] hfr (by kernel_rfl) (by kernel_rfl) (by kernel_rfl) (by rfl) ?_
    replace hfr : Fr 97 [(0, _), (4, _), (5, _), (18, _), (19, _), (20, _), (21, _), (22, _), (6, _), (7, _)] [] a := hfr.pick [0, 4, 5, 18, 19, 20, 21, 22, 6, 7]
    refine wc_phases_q [] (fun i => match i with | _ => fun _ _ => False) 5 [[], [0], [], [2], [1]] [.pointer (some ⟨w3.heap.size, 0, none⟩), wv v.a, .pointer (some ⟨w3.heap.size, 4, none⟩), wv v.e, wv v.a] hfr hst (by kernel_rfl) (by kernel_rfl) (by kernel_rfl) ?_ ?_ ?_
    · intro i hi hiq
      match i, hi, hiq with
      | 0, _, _ =>
        intro w hst
        exact OpV.g (v_indexAddr (v := .pointer (some ⟨w3.heap.size, 0, none⟩)) rfl rfl (by kernel_rfl))
      | 1, _, _ =>
        intro w hst
        exact OpV.g (v_load_blk1 (hst.get (k := 0) rfl) rfl (Tryd.isAgg69 _) rfl)
      | 2, _, _ =>
        intro w hst
        exact OpV.g (v_indexAddr (v := .pointer (some ⟨w3.heap.size, 4, none⟩)) rfl rfl (by kernel_rfl))
      | 3, _, _ =>
        intro w hst
        exact OpV.g (v_load_blk1 (hst.get (k := 0) rfl) rfl (Tryd.isAgg69 _) rfl)
      | 4, _, _ =>
        intro w hst
        exact OpV.g (v_assign rfl)
    · intro i hi
      exact absurd hi (by simp)
    clear hfr hst
    intro  a w8 hfr hst
    replace hfr : Fr 97 [(23, .pointer (some ⟨w3.heap.size, 0, none⟩)), (24, wv v.a), (25, .pointer (some ⟨w3.heap.size, 4, none⟩)), (26, wv v.e), (8, wv v.a), (0, _), (4, _), (5, _), (18, _), (19, _), (20, _), (21, _), (22, _), (6, _), (7, _)] [] a := hfr
    refine wl_nil ?_
    refine wd_lin (k := 5) 6 [5] (by kernel_rfl) (by kernel_rfl) (by kernel_rfl) ?_
    refine wl_v hfr (by decide) (v_assign rfl) ?_
    clear hfr
    intro a hfr
    refine wl_nil ?_
    refine wd_end (by kernel_rfl) ?_
    refine hK9 _ _ ?_
    replace hfr : Fr 97 [(0, _), (4, _), (5, _), (18, _), (19, _), (6, _), (7, _), (8, _), (9, _)] [] a := hfr.pick [0, 4, 5, 18, 19, 6, 7, 8, 9]
    refine wc_seq_k fun K10 hK10 => ?_
    refine wc_of_dr (by kernel_rfl) (dr_of_wd (by kernel_rfl) fun w9 hxz => ?_)
    replace hst : St (· = b) w0 [blk w3.heap.size [wv v.a, wv v.b, wv v.c, wv v.d, wv v.e, wv v.f, wv v.g, wv v.h] 71, blk w1.heap.size ((sch bs 64).map wv) 88, blk b [wv hv.a, wv hv.b, wv hv.c, wv hv.d, wv hv.e, wv hv.f, wv hv.g, wv hv.h] 71] w9 := hst.grow hxz
    refine wd_sub (k := 0) 22 [18, 21] hfr (by kernel_rfl) (by kernel_rfl) (by kernel_rfl) (by rfl) ?_
    replace hfr : Fr 97 [(0, _), (4, _), (5, _), (18, _), (19, _), (6, _), (7, _), (8, _), (9, _)] [] a := hfr.pick [0, 4, 5, 18, 19, 6, 7, 8, 9]
    refine wc_phases_q [3] (fun i => match i with | 3 => pm (fun b : Nat => .slice (some ⟨b, 0, none⟩) 3 3) (fun b => [own (.slice (some ⟨b, 0, none⟩) 3 3) 3 1 [[.int .i64 6], [.int .i64 11], [.int .i64 25]]]) (fun _ => True) | _ => fun _ _ => False) 22 [[], [0], [], [], [2, 3], [1, 4], [], [], [7], [6, 8], [], [10], [], [12], [11, 13], [9, 14], [5, 15], [], [16, 17], [], [19], [20]] [.pointer (some ⟨w3.heap.size, 7, none⟩), wv v.h, wv v.e, undef, wv (mix v.e [6, 11, 25]), wv (v.h + (mix v.e [6, 11, 25])), wv v.e, .pointer (some ⟨w3.heap.size, 5, none⟩), wv v.f, wv (v.e &&& v.f), wv v.e, wv (~~~v.e), .pointer (some ⟨w3.heap.size, 6, none⟩), wv v.g, wv ((~~~v.e) &&& v.g), wv ((v.e &&& v.f) ^^^ ((~~~v.e) &&& v.g)), wv ((v.h + (mix v.e [6, 11, 25])) + ((v.e &&& v.f) ^^^ ((~~~v.e) &&& v.g))), wv (kOf.getD k 0#32), wv (((v.h + (mix v.e [6, 11, 25])) + ((v.e &&& v.f) ^^^ ((~~~v.e) &&& v.g))) + (kOf.getD k 0#32)), .int .i64 (k : Int), .pointer (some ⟨w1.heap.size, k, none⟩), wv ((sch bs 64).getD k 0#32)] hfr hst (by kernel_rfl) (by kernel_rfl) (by kernel_rfl) ?_ ?_ ?_
    · intro i hi hiq
      match i, hi, hiq with
      | 0, _, _ =>
        intro w hst
        exact OpV.g (v_indexAddr (v := .pointer (some ⟨w3.heap.size, 7, none⟩)) rfl rfl (by kernel_rfl))
      | 1, _, _ =>
        intro w hst
        exact OpV.g (v_load_blk1 (hst.get (k := 0) rfl) rfl (Tryd.isAgg69 _) rfl)
      | 2, _, _ =>
        intro w hst
        exact OpV.g (v_move rfl)
      | 3, _, h => exact absurd (by simp) h
      | 4, _, _ =>
        rintro _ _ ⟨b2, rfl, -, rfl⟩
        intro w hst
        exact g_callp Tryd.call68 rfl (mixed_ok v.e (.slice (some ⟨b2, 0, none⟩) 3 3) [6, 11, 25] _ (hst.ownAt (i := 0) rfl) (by decide))
      | 5, _, _ =>
        intro w hst
        exact OpV.g (v_wadd rfl rfl)
      | 6, _, _ =>
        intro w hst
        exact OpV.g (v_move rfl)
      | 7, _, _ =>
        intro w hst
        exact OpV.g (v_indexAddr (v := .pointer (some ⟨w3.heap.size, 5, none⟩)) rfl rfl (by kernel_rfl))
      | 8, _, _ =>
        intro w hst
        exact OpV.g (v_load_blk1 (hst.get (k := 0) rfl) rfl (Tryd.isAgg69 _) rfl)
      | 9, _, _ =>
        intro w hst
        exact OpV.g (v_wand rfl rfl)
      | 10, _, _ =>
        intro w hst
        exact OpV.g (v_move rfl)
      | 11, _, _ =>
        intro w hst
        exact OpV.g (v_wnot rfl)
      | 12, _, _ =>
        intro w hst
        exact OpV.g (v_indexAddr (v := .pointer (some ⟨w3.heap.size, 6, none⟩)) rfl rfl (by kernel_rfl))
      | 13, _, _ =>
        intro w hst
        exact OpV.g (v_load_blk1 (hst.get (k := 0) rfl) rfl (Tryd.isAgg69 _) rfl)
      | 14, _, _ =>
        intro w hst
        exact OpV.g (v_wand rfl rfl)
      | 15, _, _ =>
        intro w hst
        exact OpV.g (v_wxor rfl rfl)
      | 16, _, _ =>
        intro w hst
        exact OpV.g (v_wadd rfl rfl)
      | 17, _, _ =>
        intro w hst
        exact OpV.g (v_move rfl)
      | 18, _, _ =>
        intro w hst
        exact OpV.g (v_wadd rfl rfl)
      | 19, _, _ =>
        intro w hst
        exact OpV.g (v_move rfl)
      | 20, _, _ =>
        intro w hst
        exact OpV.g ((v_indexAddr_arr (n := 64) (i := (k : Int)) rfl rfl (Tryd.runUnderlying88 _) (Tryd.sizeOf69 _) (by omega) (by omega)).as (v' := .pointer (some ⟨w1.heap.size, k, none⟩)) (by rw [show 0 + ((k : Int) : Int).toNat = k from by omega]))
      | 21, _, _ =>
        intro w hst
        exact OpV.g (v_load_blk1 (hst.get (k := 1) rfl) rfl (Tryd.isAgg69 _) (cell_at (d := 0#32) (by have := (sch_len bs 64); omega)))
      | i + 22, h, _ => exact absurd h (by omega)
    · intro i hi
      simp only [List.mem_cons, List.not_mem_nil, or_false] at hi
      subst hi
      · intro w hst
        exact g_buildSlice (E := 3) (sz := 1) rfl [[.int .i64 6], [.int .i64 11], [.int .i64 25]] (fun _ => by kernel_rfl) (by simp) rfl (by decide)
    clear hfr hst
    rintro _ _ ⟨b2, rfl, -, rfl⟩ a w10 hfr hst
    replace hfr : Fr 97 [(27, .pointer (some ⟨w3.heap.size, 7, none⟩)), (28, wv v.h), (29, wv v.e), (30, _), (31, wv (mix v.e [6, 11, 25])), (32, wv (v.h + (mix v.e [6, 11, 25]))), (33, wv v.e), (34, .pointer (some ⟨w3.heap.size, 5, none⟩)), (35, wv v.f), (36, wv (v.e &&& v.f)), (37, wv v.e), (38, wv (~~~v.e)), (39, .pointer (some ⟨w3.heap.size, 6, none⟩)), (40, wv v.g), (41, wv ((~~~v.e) &&& v.g)), (42, wv ((v.e &&& v.f) ^^^ ((~~~v.e) &&& v.g))), (43, wv ((v.h + (mix v.e [6, 11, 25])) + ((v.e &&& v.f) ^^^ ((~~~v.e) &&& v.g)))), (44, wv (kOf.getD k 0#32)), (45, wv (((v.h + (mix v.e [6, 11, 25])) + ((v.e &&& v.f) ^^^ ((~~~v.e) &&& v.g))) + (kOf.getD k 0#32))), (46, .int .i64 (k : Int)), (47, .pointer (some ⟨w1.heap.size, k, none⟩)), (48, wv ((sch bs 64).getD k 0#32)), (0, _), (4, _), (5, _), (18, _), (19, _), (6, _), (7, _), (8, _), (9, _)] [] a := hfr
    replace hst : St (· = b) w0 [_, _, _, _] w10 := hst
    refine wl_nil ?_
    refine wd_lin (k := 22) 24 [23] (by kernel_rfl) (by kernel_rfl) (by kernel_rfl) ?_
    refine wl_v hfr (by decide) (v_wadd rfl rfl) ?_
    clear hfr
    intro a hfr
    refine wl_v hfr (by decide) (v_assign rfl) ?_
    clear hfr
    intro a hfr
    refine wl_nil ?_
    refine wd_end (by kernel_rfl) ?_
    refine hK10 _ _ ?_
    replace hfr : Fr 97 [(0, _), (4, _), (5, _), (18, _), (19, _), (8, _), (10, _)] [] a := hfr.pick [0, 4, 5, 18, 19, 8, 10]
    replace hst : St (· = b) w0 [_, _, _] w10 := hst.mask [false, true, true, true]
    refine wc_seq_k fun K11 hK11 => ?_
    refine wc_of_dr (by kernel_rfl) (dr_of_wd (by kernel_rfl) fun w11 hxz => ?_)
    replace hst : St (· = b) w0 [blk w3.heap.size [wv v.a, wv v.b, wv v.c, wv v.d, wv v.e, wv v.f, wv v.g, wv v.h] 71, blk w1.heap.size ((sch bs 64).map wv) 88, blk b [wv hv.a, wv hv.b, wv hv.c, wv hv.d, wv hv.e, wv hv.f, wv hv.g, wv hv.h] 71] w11 := hst.grow hxz
    refine wd_sub (k := 0) 18 [2, 17] hfr (by kernel_rfl) (by kernel_rfl) (by kernel_rfl) (by rfl) ?_
    replace hfr : Fr 97 [(0, _), (4, _), (5, _), (18, _), (19, _), (8, _), (10, _)] [] a := hfr.pick [0, 4, 5, 18, 19, 8, 10]
    refine wc_phases_q [1] (fun i => match i with | 1 => pm (fun b : Nat => .slice (some ⟨b, 0, none⟩) 3 3) (fun b => [own (.slice (some ⟨b, 0, none⟩) 3 3) 3 1 [[.int .i64 2], [.int .i64 13], [.int .i64 22]]]) (fun _ => True) | _ => fun _ _ => False) 18 [[], [], [0, 1], [], [], [4], [3, 5], [], [], [8], [7, 9], [6, 10], [], [12], [], [14], [13, 15], [11, 16]] [wv v.a, undef, wv (mix v.a [2, 13, 22]), wv v.a, .pointer (some ⟨w3.heap.size, 1, none⟩), wv v.b, wv (v.a &&& v.b), wv v.a, .pointer (some ⟨w3.heap.size, 2, none⟩), wv v.c, wv (v.a &&& v.c), wv ((v.a &&& v.b) ^^^ (v.a &&& v.c)), .pointer (some ⟨w3.heap.size, 1, none⟩), wv v.b, .pointer (some ⟨w3.heap.size, 2, none⟩), wv v.c, wv (v.b &&& v.c), wv (((v.a &&& v.b) ^^^ (v.a &&& v.c)) ^^^ (v.b &&& v.c))] hfr hst (by kernel_rfl) (by kernel_rfl) (by kernel_rfl) ?_ ?_ ?_
    · intro i hi hiq
      match i, hi, hiq with
      | 0, _, _ =>
        intro w hst
        exact OpV.g (v_move rfl)
      | 1, _, h => exact absurd (by simp) h
      | 2, _, _ =>
        rintro _ _ ⟨b3, rfl, -, rfl⟩
        intro w hst
        exact g_callp Tryd.call68 rfl (mixed_ok v.a (.slice (some ⟨b3, 0, none⟩) 3 3) [2, 13, 22] _ (hst.ownAt (i := 0) rfl) (by decide))
      | 3, _, _ =>
        intro w hst
        exact OpV.g (v_move rfl)
      | 4, _, _ =>
        intro w hst
        exact OpV.g (v_indexAddr (v := .pointer (some ⟨w3.heap.size, 1, none⟩)) rfl rfl (by kernel_rfl))
      | 5, _, _ =>
        intro w hst
        exact OpV.g (v_load_blk1 (hst.get (k := 0) rfl) rfl (Tryd.isAgg69 _) rfl)
      | 6, _, _ =>
        intro w hst
        exact OpV.g (v_wand rfl rfl)
      | 7, _, _ =>
        intro w hst
        exact OpV.g (v_move rfl)
      | 8, _, _ =>
        intro w hst
        exact OpV.g (v_indexAddr (v := .pointer (some ⟨w3.heap.size, 2, none⟩)) rfl rfl (by kernel_rfl))
      | 9, _, _ =>
        intro w hst
        exact OpV.g (v_load_blk1 (hst.get (k := 0) rfl) rfl (Tryd.isAgg69 _) rfl)
      | 10, _, _ =>
        intro w hst
        exact OpV.g (v_wand rfl rfl)
      | 11, _, _ =>
        intro w hst
        exact OpV.g (v_wxor rfl rfl)
      | 12, _, _ =>
        intro w hst
        exact OpV.g (v_indexAddr (v := .pointer (some ⟨w3.heap.size, 1, none⟩)) rfl rfl (by kernel_rfl))
      | 13, _, _ =>
        intro w hst
        exact OpV.g (v_load_blk1 (hst.get (k := 0) rfl) rfl (Tryd.isAgg69 _) rfl)
      | 14, _, _ =>
        intro w hst
        exact OpV.g (v_indexAddr (v := .pointer (some ⟨w3.heap.size, 2, none⟩)) rfl rfl (by kernel_rfl))
      | 15, _, _ =>
        intro w hst
        exact OpV.g (v_load_blk1 (hst.get (k := 0) rfl) rfl (Tryd.isAgg69 _) rfl)
      | 16, _, _ =>
        intro w hst
        exact OpV.g (v_wand rfl rfl)
      | 17, _, _ =>
        intro w hst
        exact OpV.g (v_wxor rfl rfl)
      | i + 18, h, _ => exact absurd h (by omega)
    · intro i hi
      simp only [List.mem_cons, List.not_mem_nil, or_false] at hi
      subst hi
      · intro w hst
        exact g_buildSlice (E := 3) (sz := 1) rfl [[.int .i64 2], [.int .i64 13], [.int .i64 22]] (fun _ => by kernel_rfl) (by simp) rfl (by decide)
    clear hfr hst
    rintro _ _ ⟨b3, rfl, -, rfl⟩ a w12 hfr hst
    replace hfr : Fr 97 [(50, wv v.a), (51, _), (52, wv (mix v.a [2, 13, 22])), (53, wv v.a), (54, .pointer (some ⟨w3.heap.size, 1, none⟩)), (55, wv v.b), (56, wv (v.a &&& v.b)), (57, wv v.a), (58, .pointer (some ⟨w3.heap.size, 2, none⟩)), (59, wv v.c), (60, wv (v.a &&& v.c)), (61, wv ((v.a &&& v.b) ^^^ (v.a &&& v.c))), (62, .pointer (some ⟨w3.heap.size, 1, none⟩)), (63, wv v.b), (64, .pointer (some ⟨w3.heap.size, 2, none⟩)), (65, wv v.c), (66, wv (v.b &&& v.c)), (67, wv (((v.a &&& v.b) ^^^ (v.a &&& v.c)) ^^^ (v.b &&& v.c))), (0, _), (4, _), (5, _), (18, _), (19, _), (8, _), (10, _)] [] a := hfr
    replace hst : St (· = b) w0 [_, _, _, _] w12 := hst
    refine wl_nil ?_
    refine wd_lin (k := 18) 20 [19] (by kernel_rfl) (by kernel_rfl) (by kernel_rfl) ?_
    refine wl_v hfr (by decide) (v_wadd rfl rfl) ?_
    clear hfr
    intro a hfr
    refine wl_v hfr (by decide) (v_assign rfl) ?_
    clear hfr
    intro a hfr
    refine wl_nil ?_
    refine wd_end (by kernel_rfl) ?_
    refine hK11 _ _ ?_
    replace hfr : Fr 97 [(0, _), (4, _), (5, _), (18, _), (19, _), (10, _), (11, _)] [] a := hfr.pick [0, 4, 5, 18, 19, 10, 11]
    replace hst : St (· = b) w0 [_, _, _] w12 := hst.mask [false, true, true, true]
    refine wc_seq_k fun K12 hK12 => ?_
    refine wc_of_dr (by kernel_rfl) (dr_of_wd (by kernel_rfl) fun w13 hxz => ?_)
    replace hst : St (· = b) w0 [blk w3.heap.size [wv v.a, wv v.b, wv v.c, wv v.d, wv v.e, wv v.f, wv v.g, wv v.h] 71, blk w1.heap.size ((sch bs 64).map wv) 88, blk b [wv hv.a, wv hv.b, wv hv.c, wv hv.d, wv hv.e, wv hv.f, wv hv.g, wv hv.h] 71] w13 := hst.grow hxz
    refine wd_sub (k := 0) 2 [0, 1] hfr (by kernel_rfl) (by kernel_rfl) (by kernel_rfl) (by rfl) ?_
    replace hfr : Fr 97 [(0, _), (4, _), (5, _), (18, _), (19, _), (10, _), (11, _)] [] a := hfr.pick [0, 4, 5, 18, 19, 10, 11]
    refine wc_phases_q [] (fun i => match i with | _ => fun _ _ => False) 2 [[], []] [.slice (some ⟨w3.heap.size, 1, none⟩) 7 7, .slice (some ⟨w3.heap.size, 0, none⟩) 7 8] hfr hst (by kernel_rfl) (by kernel_rfl) (by kernel_rfl) ?_ ?_ ?_
    · intro i hi hiq
      match i, hi, hiq with
      | 0, _, _ =>
        intro w hst
        exact OpV.g (v_slice rfl rfl rfl rfl (run_sliceAt_arr (n := 8) (l := 1) (h := 8) Tryd.underlying71 (by kernel_rfl) (.inr rfl) (.inl ⟨rfl, rfl⟩) (by decide) (by decide) (by decide)))
      | 1, _, _ =>
        intro w hst
        exact OpV.g (v_slice rfl rfl rfl rfl (run_sliceAt_arr (n := 8) (l := 0) (h := 7) Tryd.underlying71 (by kernel_rfl) (.inl ⟨rfl, rfl⟩) (.inr rfl) (by decide) (by decide) (by decide)))
    · intro i hi
      exact absurd hi (by simp)
    clear hfr hst
    intro  a w14 hfr hst
    replace hfr : Fr 97 [(69, .slice (some ⟨w3.heap.size, 1, none⟩) 7 7), (70, .slice (some ⟨w3.heap.size, 0, none⟩) 7 8), (0, _), (4, _), (5, _), (18, _), (19, _), (10, _), (11, _)] [] a := hfr
    refine wl_nil ?_
    refine wd_lin (k := 2) 3 [2] (by kernel_rfl) (by kernel_rfl) (by kernel_rfl) ?_
    refine wl_copy_in (us := [wv v.a, wv v.b, wv v.c, wv v.d, wv v.e, wv v.f, wv v.g]) (ds := [wv v.a, wv v.a, wv v.b, wv v.c, wv v.d, wv v.e, wv v.f, wv v.g]) 0 hfr hst (by decide) rfl rfl rfl Tryd.underlying77 (by kernel_rfl) rfl rfl rfl (Nat.le_of_ble_eq_true rfl) rfl rfl ?_
    clear hfr hst
    intro a w15 hfr hst
    refine wl_nil ?_
    refine wd_end (by kernel_rfl) ?_
    refine hK12 _ _ ?_
    refine wc_region ?_
    refine wl_v hfr (by decide) (v_move rfl) ?_
    clear hfr
    intro a hfr
    refine wl_v hfr (by decide) (v_move rfl) ?_
    clear hfr
    intro a hfr
    refine wl_v hfr (by decide) (v_wadd rfl rfl) ?_
    clear hfr
    intro a hfr
    refine wl_v hfr (by decide) (v_indexAddr (v := .pointer (some ⟨w3.heap.size, 4, none⟩)) rfl rfl (by kernel_rfl)) ?_
    clear hfr
    intro a hfr
    refine wl_v hfr (by decide) (v_load_blk1 (hst.get (k := 0) rfl) rfl (Tryd.isAgg69 _) rfl) ?_
    clear hfr
    intro a hfr
    refine wl_v hfr (by decide) (v_move rfl) ?_
    clear hfr
    intro a hfr
    refine wl_v hfr (by decide) (v_wadd rfl rfl) ?_
    clear hfr
    intro a hfr
    refine wl_v hfr (by decide) (v_indexAddr (v := .pointer (some ⟨w3.heap.size, 0, none⟩)) rfl rfl (by kernel_rfl)) ?_
    clear hfr
    intro a hfr
    refine wl_store 0 hfr hst rfl rfl rfl (Tryd.sizeOf69 _) rfl (Nat.le_of_ble_eq_true rfl) (ds := [wv (((((v.h + (mix v.e [6, 11, 25])) + ((v.e &&& v.f) ^^^ ((~~~v.e) &&& v.g))) + (kOf.getD k 0#32)) + ((sch bs 64).getD k 0#32)) + ((mix v.a [2, 13, 22]) + (((v.a &&& v.b) ^^^ (v.a &&& v.c)) ^^^ (v.b &&& v.c)))), wv v.a, wv v.b, wv v.c, wv v.d, wv v.e, wv v.f, wv v.g]) rfl rfl ?_
    clear hfr hst
    intro a w16 hfr hst
    refine wl_v hfr (by decide) (v_indexAddr (v := .pointer (some ⟨w3.heap.size, 4, none⟩)) rfl rfl (by kernel_rfl)) ?_
    clear hfr
    intro a hfr
    refine wl_store 0 hfr hst rfl rfl rfl (Tryd.sizeOf69 _) rfl (Nat.le_of_ble_eq_true rfl) (ds := [wv (((((v.h + (mix v.e [6, 11, 25])) + ((v.e &&& v.f) ^^^ ((~~~v.e) &&& v.g))) + (kOf.getD k 0#32)) + ((sch bs 64).getD k 0#32)) + ((mix v.a [2, 13, 22]) + (((v.a &&& v.b) ^^^ (v.a &&& v.c)) ^^^ (v.b &&& v.c)))), wv v.a, wv v.b, wv v.c, wv (v.d + ((((v.h + (mix v.e [6, 11, 25])) + ((v.e &&& v.f) ^^^ ((~~~v.e) &&& v.g))) + (kOf.getD k 0#32)) + ((sch bs 64).getD k 0#32))), wv v.e, wv v.f, wv v.g]) rfl rfl ?_
    clear hfr hst
    intro a w17 hfr hst
    refine wl_nil ?_
    refine hK7 _ _ ?_
    replace hfr : Fr 97 [(0, _), (4, _), (5, _), (18, _), (19, _)] [] a := hfr.pick [0, 4, 5, 18, 19]
    refine wc_region ?_
    refine wl_v hfr (by decide) (v_add rfl rfl ⟨by omega, by omega⟩) ?_
    clear hfr
    intro a hfr
    refine wl_v hfr (by decide) (v_move rfl) ?_
    clear hfr
    intro a hfr
    refine wl_nil ?_
    refine ⟨_, ?_, k + 1, (rnd v (kOf.getD k 0#32) ((sch bs 64).getD k 0#32)), rfl, (by omega), (by rw [rounds, hrv]), hfr.pick [0, 4, 5, 18, 19], hst.select [0, 1, 2] (by decide)⟩
    omega
  rw [hc1] at hfr
  try simp only [Bool.not_eq_true', Bool.not_eq_false', decide_eq_true_eq, decide_eq_false_iff_not] at hc1
  obtain rfl : k = 64 := by omega
  refine wc_exit ?_
  refine hK3 _ _ ?_
  refine wc_seq_region fun K13 hK13 => ?_
  refine wl_v hfr (by decide) (v_move rfl) ?_
  clear hfr
  intro a hfr
  refine wl_nil (hK13 _ _ ?_)
  refine wc_block ?_
  refine wc_loop (fun m a w => ∃ (j : Nat), m = 8 - j ∧ (j ≤ 8) ∧ Fr 97 [(0, .pointer (some ⟨b, 0, none⟩)), (5, .pointer (some ⟨w3.heap.size, 0, none⟩)), (82, .int .i64 (j : Int))] [] a ∧ St (· = b) w0 [blk w3.heap.size (v.l.map wv) 71, blk b ((addTo hv v j).map wv) 71] w) _ ⟨0, rfl, Nat.zero_le _, hfr.pick [0, 5, 82], hst.select [0, 2] (by decide)⟩ ?_
  rintro _ a w18 ⟨j, rfl, hj, hfr, hst⟩
  refine wc_seq_region fun K14 hK14 => ?_
  refine wl_v hfr (by decide) (v_lt rfl rfl) ?_
  clear hfr
  intro a hfr
  refine wl_nil (hK14 _ _ ?_)
  refine wc_seq_k fun K15 hK15 => ?_
  refine wc_cond hfr rfl (fun hc4 => ?_) (fun hc4 => ?_)
  · rw [hc4] at hfr
    try simp only [Bool.not_eq_true', Bool.not_eq_false', decide_eq_true_eq, decide_eq_false_iff_not] at hc4
    refine wc_skip ?_
    refine hK15 _ _ ?_
    refine wc_seq_k fun K16 hK16 => ?_
    refine wc_block ?_
    refine wc_seq_region fun K17 hK17 => ?_
    refine wl_v hfr (by decide) (v_move rfl) ?_
    clear hfr
    intro a hfr
    refine wl_v hfr (by decide) (v_assign rfl) ?_
    clear hfr
    intro a hfr
    refine wl_nil (hK17 _ _ ?_)
    refine wc_of_dr (by kernel_rfl) (dr_of_wd (by kernel_rfl) fun w19 hxz => ?_)
    replace hst : St (· = b) w0 [blk w3.heap.size (v.l.map wv) 71, blk b ((addTo hv v j).map wv) 71] w19 := hst.grow hxz
    refine wd_sub (k := 0) 10 [8, 9] hfr (by kernel_rfl) (by kernel_rfl) (by kernel_rfl) (by rfl) ?_
    replace hfr : Fr 97 [(0, _), (5, _), (82, _), (83, _), (84, _), (12, _)] [] a := hfr.pick [0, 5, 82, 83, 84, 12]
    refine wc_phases_q [] (fun i => match i with | _ => fun _ _ => False) 10 [[], [], [0], [1, 2], [3], [], [5], [6], [4, 7], [0]] [.pointer (some ⟨b, 0, none⟩), .int .i64 (j : Int), .pointer (some ⟨b, 0, none⟩), .pointer (some ⟨b, j, none⟩), wv ((addTo hv v j).getD j 0#32), .int .i64 (j : Int), .pointer (some ⟨w3.heap.size, j, none⟩), wv (v.l.getD j 0#32), wv (((addTo hv v j).getD j 0#32) + (v.l.getD j 0#32)), .pointer (some ⟨b, 0, none⟩)] hfr hst (by kernel_rfl) (by kernel_rfl) (by kernel_rfl) ?_ ?_ ?_
    · intro i hi hiq
      match i, hi, hiq with
      | 0, _, _ =>
        intro w hst
        exact OpV.g (v_move rfl)
      | 1, _, _ =>
        intro w hst
        exact OpV.g (v_move rfl)
      | 2, _, _ =>
        intro w hst
        exact OpV.g (v_nilCheck rfl)
      | 3, _, _ =>
        intro w hst
        exact OpV.g ((v_indexAddr_arr (n := 8) (i := (j : Int)) rfl rfl (Tryd.runUnderlying71 _) (Tryd.sizeOf69 _) (by omega) (by omega)).as (v' := .pointer (some ⟨b, j, none⟩)) (by rw [show 0 + ((j : Int) : Int).toNat = j from by omega]))
      | 4, _, _ =>
        intro w hst
        exact OpV.g (v_load_blk1 (hst.get (k := 1) rfl) rfl (Tryd.isAgg69 _) (cell_at (d := 0#32) (by have := (addTo_len hv v j); omega)))
      | 5, _, _ =>
        intro w hst
        exact OpV.g (v_move rfl)
      | 6, _, _ =>
        intro w hst
        exact OpV.g ((v_indexAddr_arr (n := 8) (i := (j : Int)) rfl rfl (Tryd.runUnderlying71 _) (Tryd.sizeOf69 _) (by omega) (by omega)).as (v' := .pointer (some ⟨w3.heap.size, j, none⟩)) (by rw [show 0 + ((j : Int) : Int).toNat = j from by omega]))
      | 7, _, _ =>
        intro w hst
        exact OpV.g (v_load_blk1 (hst.get (k := 0) rfl) rfl (Tryd.isAgg69 _) (cell_at (d := 0#32) (by have := (W8.l_len v); omega)))
      | 8, _, _ =>
        intro w hst
        exact OpV.g (v_wadd rfl rfl)
      | 9, _, _ =>
        intro w hst
        exact OpV.g (v_nilCheck rfl)
    · intro i hi
      exact absurd hi (by simp)
    clear hfr hst
    intro  a w20 hfr hst
    replace hfr : Fr 97 [(85, .pointer (some ⟨b, 0, none⟩)), (86, .int .i64 (j : Int)), (87, .pointer (some ⟨b, 0, none⟩)), (88, .pointer (some ⟨b, j, none⟩)), (89, wv ((addTo hv v j).getD j 0#32)), (90, .int .i64 (j : Int)), (91, .pointer (some ⟨w3.heap.size, j, none⟩)), (92, wv (v.l.getD j 0#32)), (93, wv (((addTo hv v j).getD j 0#32) + (v.l.getD j 0#32))), (94, .pointer (some ⟨b, 0, none⟩)), (0, _), (5, _), (82, _), (83, _), (84, _), (12, _)] [] a := hfr
    refine wl_nil ?_
    refine wd_lin (k := 10) 12 [11] (by kernel_rfl) (by kernel_rfl) (by kernel_rfl) ?_
    refine wl_v hfr (by decide) ((v_indexAddr_arr (n := 8) (i := (j : Int)) rfl rfl (Tryd.runUnderlying71 _) (Tryd.sizeOf69 _) (by omega) (by omega)).as (v' := .pointer (some ⟨b, j, none⟩)) (by rw [show 0 + ((j : Int) : Int).toNat = j from by omega])) ?_
    clear hfr
    intro a hfr
    refine wl_store_at (f := wv) (z := ((addTo hv v j).getD j 0#32) + (v.l.getD j 0#32)) 1 hfr hst rfl rfl rfl (Tryd.sizeOf69 _) rfl rfl (by have := (addTo_len hv v j); omega) rfl ?_
    clear hfr hst
    intro a w21 hfr hst
    refine wl_nil ?_
    refine wd_end (by kernel_rfl) ?_
    refine hK16 _ _ ?_
    replace hfr : Fr 97 [(0, _), (5, _), (82, _)] [] a := hfr.pick [0, 5, 82]
    refine wc_region ?_
    refine wl_v hfr (by decide) (v_add rfl rfl ⟨by omega, by omega⟩) ?_
    clear hfr
    intro a hfr
    refine wl_v hfr (by decide) (v_move rfl) ?_
    clear hfr
    intro a hfr
    refine wl_nil ?_
    rw [show (addTo hv v j).set j (((addTo hv v j).getD j 0#32) + (v.l.getD j 0#32)) = addTo hv v (j + 1) from by rw [addTo, addTo_get (by omega)]] at hst
    refine ⟨_, ?_, j + 1, rfl, (by omega), hfr.pick [0, 5, 82], hst.select [0, 1] (by decide)⟩
    omega
  rw [hc4] at hfr
  try simp only [Bool.not_eq_true', Bool.not_eq_false', decide_eq_true_eq, decide_eq_false_iff_not] at hc4
  refine wc_exit ?_
  refine fin_end hfr Tryd.results55 resAre_nil ?_
  obtain rfl : j = 8 := by omega
  exact ⟨rfl, hst.ext, by rw [block, hrv, ← addTo_all]; exact hst.get (k := 1) rfl⟩

def byteAt (v : W8) (n : Nat) : UInt8 := UInt8.ofNat (v.l.getD (n / 4) 0#32 >>> (24 - 8 * (n % 4))).toNat
def oArr (v : W8) : Nat → List UInt8
  | 0 => List.replicate 32 0
  | n + 1 => (oArr v n).set n (byteAt v n)
theorem oArr_len (v : W8) (n : Nat) : (oArr v n).length = 32 := by
  induction n with
  | zero => exact List.length_replicate
  | succ n ih => rw [oArr, List.length_set, ih]
theorem oArr_set {v : W8} {k j : Nat} (hj : j < 4) : (oArr v (4 * k + j)).set (4 * k + j) (UInt8.ofNat (v.l.getD k 0#32 >>> (24 - 8 * j)).toNat) = oArr v (4 * k + (j + 1)) := by
  show _ = (oArr v (4 * k + j)).set (4 * k + j) (byteAt v (4 * k + j))
  rw [byteAt, show (4 * k + j) / 4 = k from by omega, show (4 * k + j) % 4 = j from by omega]
theorem oArr_all (v : W8) : oArr v 32 = v.out := by kernel_rfl

/-- (dialtone/digest.words).digest -/
theorem digest_ok (hw : W8) (w0 : World) :
    Ret Tryd.prog 56 #[.agg #[wv hw.a, wv hw.b, wv hw.c, wv hw.d, wv hw.e, wv hw.f, wv hw.g, wv hw.h]] w0 fun v w => v = sv hw.out ∧ Ext No w0 w := by
  refine ret_of Tryd.func56 rfl Tryd.ntmps56 (Nat.le_of_ble_eq_true rfl) fun a hfr => ?_
  replace hfr : Fr 30 [(0, _)] [] a := hfr
  replace hst : St No w0 [] w0 := St.init w0
  refine wc_seq_region fun K1 hK1 => ?_
  refine wl_box hfr hst (by decide) rfl (cs := [wv hw.a, wv hw.b, wv hw.c, wv hw.d, wv hw.e, wv hw.f, wv hw.g, wv hw.h]) rfl ?_
  clear hfr hst
  intro a w1 hfr hst
  refine wl_v hfr (by decide) (v_assign rfl) ?_
  clear hfr
  intro a hfr
  refine wl_nil (hK1 _ _ ?_)
  refine wc_seq_region fun K2 hK2 => ?_
  refine wl_alloc hfr hst (by decide) (Tryd.zeroValue91 _) (cs := (List.replicate 32 (0 : UInt8)).map yv) (by kernel_rfl) ?_
  clear hfr hst
  intro a w2 hfr hst
  refine wl_nil (hK2 _ _ ?_)
  refine wc_seq_k fun K3 hK3 => ?_
  refine wc_seq_region fun K4 hK4 => ?_
  refine wl_v hfr (by decide) (v_load_all (hst.get (k := 1) rfl) rfl (Tryd.isAgg71 _) (Tryd.sizeOf71 _)) ?_
  clear hfr
  intro a hfr
  refine wl_v hfr (by decide) (v_move rfl) ?_
  clear hfr
  intro a hfr
  refine wl_nil (hK4 _ _ ?_)
  refine wc_block ?_
  refine wc_loop (fun m a w => ∃ (k : Nat), m = 8 - k ∧ (k ≤ 8) ∧ Fr 30 [(2, .string (⟨#[]⟩)), (3, .pointer (some ⟨w1.heap.size, 0, none⟩)), (7, .agg #[wv hw.a, wv hw.b, wv hw.c, wv hw.d, wv hw.e, wv hw.f, wv hw.g, wv hw.h]), (8, .int .i64 (k : Int))] [] a ∧ St No w0 [blk w1.heap.size ((oArr hw (4 * k)).map yv) 91] w) _ ⟨0, rfl, Nat.zero_le _, hfr.pick [2, 3, 7, 8], hst.select [0] (by decide)⟩ ?_
  rintro _ a w3 ⟨k, rfl, hk, hfr, hst⟩
  refine wc_seq_region fun K5 hK5 => ?_
  refine wl_v hfr (by decide) (v_lt rfl rfl) ?_
  clear hfr
  intro a hfr
  refine wl_nil (hK5 _ _ ?_)
  refine wc_seq_k fun K6 hK6 => ?_
  refine wc_cond hfr rfl (fun hc1 => ?_) (fun hc1 => ?_)
  · rw [hc1] at hfr
    try simp only [Bool.not_eq_true', Bool.not_eq_false', decide_eq_true_eq, decide_eq_false_iff_not] at hc1
    refine wc_skip ?_
    refine hK6 _ _ ?_
    refine wc_seq_k fun K7 hK7 => ?_
    refine wc_block ?_
    refine wc_seq_region fun K8 hK8 => ?_
    refine wl_v hfr (by decide) (v_move rfl) ?_
    clear hfr
    intro a hfr
    refine wl_v hfr (by decide) (v_index_arr (cs := hw.l.map wv) (i := (k : Int)) rfl rfl (Tryd.runUnderlying71 _) (Tryd.sizeOf69 _) (Tryd.isAgg69 _) (by omega) (by omega) (by rw [show ((k : Int) : Int).toNat = k from by omega]; exact cell_at (d := 0#32) (by have := (W8.l_len hw); omega))) ?_
    clear hfr
    intro a hfr
    refine wl_v hfr (by decide) (v_assign rfl) ?_
    clear hfr
    intro a hfr
    refine wl_v hfr (by decide) (v_assign rfl) ?_
    clear hfr
    intro a hfr
    refine wl_nil (hK8 _ _ ?_)
    refine wc_seq_region fun K9 hK9 => ?_
    refine wl_v hfr (by decide) (v_move rfl) ?_
    clear hfr
    intro a hfr
    refine wl_nil (hK9 _ _ ?_)
    refine wc_block ?_
    refine wc_loop (fun m a w => ∃ (j : Nat), m = 4 - j ∧ (j ≤ 4) ∧ Fr 30 [(2, .string (⟨#[]⟩)), (3, .pointer (some ⟨w1.heap.size, 0, none⟩)), (7, .agg #[wv hw.a, wv hw.b, wv hw.c, wv hw.d, wv hw.e, wv hw.f, wv hw.g, wv hw.h]), (8, .int .i64 (k : Int)), (4, .int .i64 (k : Int)), (5, wv (hw.l.getD k 0#32)), (12, .int .i64 (j : Int))] [] a ∧ St No w0 [blk w1.heap.size ((oArr hw (4 * k + j)).map yv) 91] w) _ ⟨0, rfl, Nat.zero_le _, hfr.pick [2, 3, 7, 8, 4, 5, 12], hst.select [0] (by decide)⟩ ?_
    rintro _ a w4 ⟨j, rfl, hj, hfr, hst⟩
    refine wc_seq_region fun K10 hK10 => ?_
    refine wl_v hfr (by decide) (v_lt rfl rfl) ?_
    clear hfr
    intro a hfr
    refine wl_nil (hK10 _ _ ?_)
    refine wc_seq_k fun K11 hK11 => ?_
    refine wc_cond hfr rfl (fun hc2 => ?_) (fun hc2 => ?_)
    · rw [hc2] at hfr
      try simp only [Bool.not_eq_true', Bool.not_eq_false', decide_eq_true_eq, decide_eq_false_iff_not] at hc2
      refine wc_skip ?_
      refine hK11 _ _ ?_
      refine wc_seq_k fun K12 hK12 => ?_
      refine wc_block ?_
      refine wc_seq_region fun K13 hK13 => ?_
      refine wl_v hfr (by decide) (v_move rfl) ?_
      clear hfr
      intro a hfr
      refine wl_v hfr (by decide) (v_assign rfl) ?_
      clear hfr
      intro a hfr
      refine wl_nil (hK13 _ _ ?_)
      refine wc_region ?_
      refine wl_v hfr (by decide) (v_move rfl) ?_
      clear hfr
      intro a hfr
      refine wl_v hfr (by decide) (v_mul rfl rfl ⟨by omega, by omega⟩) ?_
      clear hfr
      intro a hfr
      refine wl_v hfr (by decide) (v_move rfl) ?_
      clear hfr
      intro a hfr
      refine wl_v hfr (by decide) (v_add rfl rfl ⟨by omega, by omega⟩) ?_
      clear hfr
      intro a hfr
      refine wl_v hfr (by decide) (v_move rfl) ?_
      clear hfr
      intro a hfr
      refine wl_v hfr (by decide) (v_move rfl) ?_
      clear hfr
      intro a hfr
      refine wl_v hfr (by decide) (v_mul rfl rfl ⟨by omega, by omega⟩) ?_
      clear hfr
      intro a hfr
      refine wl_v hfr (by decide) ((v_sub rfl rfl ⟨by omega, by omega⟩).asi (m' := ((24 - 8 * j : Nat) : Int)) (by omega)) ?_
      clear hfr
      intro a hfr
      refine wl_v hfr (by decide) (v_wshr (n := (24 - 8 * j)) rfl rfl) ?_
      clear hfr
      intro a hfr
      refine wl_v hfr (by decide) (v_conv_wy rfl (by kernel_rfl) Tryd.underlying5) ?_
      clear hfr
      intro a hfr
      refine wl_v hfr (by decide) ((v_indexAddr_arr (n := 32) (i := (4 * (k : Int)) + (j : Int)) rfl rfl (Tryd.runUnderlying91 _) (Tryd.sizeOf5 _) (by omega) (by omega)).as (v' := .pointer (some ⟨w1.heap.size, ((4 * k) + j), none⟩)) (by rw [show 0 + ((4 * (k : Int)) + (j : Int) : Int).toNat = ((4 * k) + j) from by omega])) ?_
      clear hfr
      intro a hfr
      refine wl_store_at (f := yv) (z := UInt8.ofNat ((hw.l.getD k 0#32) >>> (24 - 8 * j)).toNat) 0 hfr hst rfl rfl rfl (Tryd.sizeOf5 _) rfl rfl (by have := (oArr_len hw (4 * k + j)); omega) rfl ?_
      clear hfr hst
      intro a w5 hfr hst
      refine wl_nil ?_
      refine hK12 _ _ ?_
      replace hfr : Fr 30 [(2, _), (3, _), (7, _), (8, _), (4, _), (5, _), (12, _)] [] a := hfr.pick [2, 3, 7, 8, 4, 5, 12]
      refine wc_region ?_
      refine wl_v hfr (by decide) (v_add rfl rfl ⟨by omega, by omega⟩) ?_
      clear hfr
      intro a hfr
      refine wl_v hfr (by decide) (v_move rfl) ?_
      clear hfr
      intro a hfr
      refine wl_nil ?_
      rw [show (oArr hw (4 * k + j)).set ((4 * k) + j) (UInt8.ofNat ((hw.l.getD k 0#32) >>> (24 - 8 * j)).toNat) = oArr hw (4 * k + (j + 1)) from oArr_set (by omega)] at hst
      refine ⟨_, ?_, j + 1, rfl, (by omega), hfr.pick [2, 3, 7, 8, 4, 5, 12], hst.select [0] (by decide)⟩
      omega
    rw [hc2] at hfr
    try simp only [Bool.not_eq_true', Bool.not_eq_false', decide_eq_true_eq, decide_eq_false_iff_not] at hc2
    refine wc_exit ?_
    refine hK7 _ _ ?_
    refine wc_region ?_
    refine wl_v hfr (by decide) (v_add rfl rfl ⟨by omega, by omega⟩) ?_
    clear hfr
    intro a hfr
    refine wl_v hfr (by decide) (v_move rfl) ?_
    clear hfr
    intro a hfr
    refine wl_nil ?_
    obtain rfl : j = 4 := by omega
    rw [show 4 * k + 4 = 4 * (k + 1) from by omega] at hst
    refine ⟨_, ?_, k + 1, rfl, (by omega), hfr.pick [2, 3, 7, 8], hst.select [0] (by decide)⟩
    omega
  rw [hc1] at hfr
  try simp only [Bool.not_eq_true', Bool.not_eq_false', decide_eq_true_eq, decide_eq_false_iff_not] at hc1
  obtain rfl : k = 8 := by omega
  refine wc_exit ?_
  refine hK3 _ _ ?_
  refine wc_seq_region fun K14 hK14 => ?_
  refine wl_v hfr (by decide) (v_slice rfl rfl rfl rfl (run_sliceAt_arr (n := 32) (l := 0) (h := 32) Tryd.underlying91 (by kernel_rfl) (.inl ⟨rfl, rfl⟩) (.inl ⟨rfl, rfl⟩) (by decide) (by decide) (by decide))) ?_
  clear hfr
  intro a hfr
  refine wl_v hfr (by decide) (v_conv_ys (hst.get (k := 0) rfl) rfl (oArr_len hw (4 * 8)) Tryd.underlying46 Tryd.underlying5 Tryd.underlying9) ?_
  clear hfr
  intro a hfr
  refine wl_v hfr (by decide) (v_assign rfl) ?_
  clear hfr
  intro a hfr
  refine wl_nil (hK14 _ _ ?_)
  replace hfr : Fr 30 [(2, _)] [] a := hfr.pick [2]
  replace hst : St No w0 [] w3 := hst.mask [false]
  refine wc_ret ?_
  refine fin_ret hfr Tryd.results56 (resAre_tmp rfl resAre_nil) ?_
  exact ⟨by simp only [retv]; rw [← oArr_all], hst.ext⟩
end Go.Proofs.YtmcoolbjgeibcaaDoor
namespace Go.Proofs.YtmcoolbjgeibcaaDoor
open Go.RowKit Go.PW
set_option linter.unusedVariables false
set_option linter.unusedSimpArgs false
set_option maxRecDepth 4000

def encC (v : Value) (k : Nat) : List Value := [cut v 1 (64 * k) (64 * k + 64) (64 * k + 64)]
def NxC (q : Nat) (pre : List Nat) (x : Nat) : Prop := x = pre.length ∧ x < q

/-- slices.Chunk[[]byte,byte]$1 -/
theorem chunk_run {M : Nat → Prop} {w0 : World} (vB : Value) (n q lp b2 b3 : Nat) (J Jx : List Nat → Ent → Prop) (hY : Rounds Tryd.prog lp (encC vB) (NxC q) J Jx) (e0 : Ent) (ws : World) (hsh : Shp vB n) (hn : n = 64 * q) (hnb : n ≤ 1000000000) (hJ : J [] e0) (hst : St M w0 [e0, blk b2 [vB] 46, blk b3 [.int .i64 64] 3] ws) :
    Ret Tryd.prog 66 #[.func (.yield lp) #[] #[], .pointer (some ⟨b2, 0, none⟩), .pointer (some ⟨b3, 0, none⟩)] ws fun _ w => ∃ e1 Hi1, St M w0 (e1 :: Hi1) w ∧ ((∃ xs, (xs = List.range q ∧ Hi1 = [blk b2 [vB] 46, blk b3 [.int .i64 64] 3]) ∧ J xs e1) ∨ (∃ pre, Hi1 = [blk b2 [vB] 46, blk b3 [.int .i64 64] 3] ∧ Jx pre e1)) := by
  refine ret_of Tryd.func66 rfl Tryd.ntmps66 (Nat.le_of_ble_eq_true rfl) fun a hfr => ?_
  replace hfr : Fr 31 [(0, _), (1, _), (2, _)] [] a := hfr
  skip
  refine wc_seq_region fun K1 hK1 => ?_
  refine wl_v hfr (by decide) (v_assign rfl) ?_
  clear hfr
  intro a hfr
  refine wl_nil (hK1 _ _ ?_)
  refine wc_block ?_
  refine wc_loop (fun m a w => ∃ (k : Nat) (e : Ent), m = q - k ∧ (k ≤ q) ∧ (J (List.range k) e) ∧ Fr 31 [(0, .func (.yield lp) #[] #[]), (1, .pointer (some ⟨b2, 0, none⟩)), (2, .pointer (some ⟨b3, 0, none⟩)), (4, .int .i64 ((64 * k : Nat) : Int))] [] a ∧ St M w0 [e, blk b2 [vB] 46, blk b3 [.int .i64 64] 3] w) _ ⟨0, e0, rfl, Nat.zero_le _, hJ, hfr.pick [0, 1, 2, 4], hst⟩ ?_
  rintro _ a w1 ⟨k, e, rfl, hk, hJ, hfr, hst⟩
  refine wc_seq_k fun K2 hK2 => ?_
  refine wc_seq_region fun K3 hK3 => ?_
  refine wl_v hfr (by decide) (v_move rfl) ?_
  clear hfr
  intro a hfr
  refine wl_v hfr (by decide) (v_load_blk1 (hst.get (k := 1) rfl) rfl (Tryd.isAgg46 _) rfl) ?_
  clear hfr
  intro a hfr
  refine wl_v hfr (by decide) (v_len_s hsh rfl rfl (Tryd.runUnderlying46 _)) ?_
  clear hfr
  intro a hfr
  refine wl_v hfr (by decide) (v_lt rfl rfl) ?_
  clear hfr
  intro a hfr
  refine wl_nil (hK3 _ _ ?_)
  refine wc_cond hfr rfl (fun hc1 => ?_) (fun hc1 => ?_)
  · rw [hc1] at hfr
    try simp only [Bool.not_eq_true', Bool.not_eq_false', decide_eq_true_eq, decide_eq_false_iff_not] at hc1
    have hkq : k < q := by omega
    refine wc_skip ?_
    refine hK2 _ _ ?_
    refine wc_seq_k fun K4 hK4 => ?_
    refine wc_block ?_
    refine wc_seq_k fun K5 hK5 => ?_
    refine wc_of_dr (by kernel_rfl) (dr_of_wd (by kernel_rfl) fun w2 hxz => ?_)
    replace hst : St M w0 [e, blk b2 [vB] 46, blk b3 [.int .i64 64] 3] w2 := hst.grow hxz
    refine wd_sub (k := 0) 5 [0, 4] hfr (by kernel_rfl) (by kernel_rfl) (by kernel_rfl) (by rfl) ?_
    replace hfr : Fr 31 [(0, _), (1, _), (2, _), (4, _), (6, _), (7, _), (8, _), (9, _)] [] a := hfr.pick [0, 1, 2, 4, 6, 7, 8, 9]
    refine wc_phases_q [] (fun i => match i with | _ => fun _ _ => False) 5 [[], [], [], [1, 2], [3]] [.int .i64 64, vB, .int .i64 ((64 * k : Nat) : Int), (cut vB 1 (64 * k) n (slCap vB)), .int .i64 ((n - 64 * k : Nat) : Int)] hfr hst (by kernel_rfl) (by kernel_rfl) (by kernel_rfl) ?_ ?_ ?_
    · intro i hi hiq
      match i, hi, hiq with
      | 0, _, _ =>
        intro w hst
        exact OpV.g (v_load_blk1 (hst.get (k := 2) rfl) rfl (Tryd.isAgg3 _) rfl)
      | 1, _, _ =>
        intro w hst
        exact OpV.g (v_load_blk1 (hst.get (k := 1) rfl) rfl (Tryd.isAgg46 _) rfl)
      | 2, _, _ =>
        intro w hst
        exact OpV.g (v_move rfl)
      | 3, _, _ =>
        intro w hst
        exact OpV.g (v_slice_s (sz := 1) (n := n) (l := 64 * k) (h := n) (m := slCap vB) hsh rfl rfl rfl rfl Tryd.underlying46 (by kernel_rfl) (.inr rfl) (.inl ⟨rfl, rfl, rfl⟩) (.inl ⟨rfl, rfl⟩) (by omega) hsh.cap (Nat.le_refl _))
      | 4, _, _ =>
        intro w hst
        exact OpV.g (v_len_s (hsh.cut hsh.cap) rfl rfl (Tryd.runUnderlying46 _))
    · intro i hi
      exact absurd hi (by simp)
    clear hfr hst
    intro  a w3 hfr hst
    replace hfr : Fr 31 [(13, .int .i64 64), (14, vB), (15, .int .i64 ((64 * k : Nat) : Int)), (16, (cut vB 1 (64 * k) n (slCap vB))), (17, .int .i64 ((n - 64 * k : Nat) : Int)), (0, _), (1, _), (2, _), (4, _), (6, _), (7, _), (8, _), (9, _)] [] a := hfr
    refine wl_nil ?_
    refine wd_lin (k := 5) 7 [6] (by kernel_rfl) (by kernel_rfl) (by kernel_rfl) ?_
    refine wl_v hfr (by decide) (v_min2 rfl rfl) ?_
    clear hfr
    intro a hfr
    refine wl_v hfr (by decide) (v_assign rfl) ?_
    clear hfr
    intro a hfr
    refine wl_nil ?_
    refine wd_end (by kernel_rfl) ?_
    refine hK5 _ _ ?_
    replace hfr : Fr 31 [(0, _), (1, _), (2, _), (4, _), (5, _)] [] a := hfr.pick [0, 1, 2, 4, 5]
    rw [show min (64 : Int) ((n - 64 * k : Nat) : Int) = 64 from by omega] at hfr
    refine wc_seq_region fun K6 hK6 => ?_
    refine wl_v hfr (by decide) (v_move rfl) ?_
    clear hfr
    intro a hfr
    refine wl_v hfr (by decide) (v_load_blk1 (hst.get (k := 1) rfl) rfl (Tryd.isAgg46 _) rfl) ?_
    clear hfr
    intro a hfr
    refine wl_v hfr (by decide) (v_move rfl) ?_
    clear hfr
    intro a hfr
    refine wl_v hfr (by decide) (v_move rfl) ?_
    clear hfr
    intro a hfr
    refine wl_v hfr (by decide) (v_move rfl) ?_
    clear hfr
    intro a hfr
    refine wl_v hfr (by decide) (v_add rfl rfl ⟨by omega, by omega⟩) ?_
    clear hfr
    intro a hfr
    refine wl_v hfr (by decide) (v_move rfl) ?_
    clear hfr
    intro a hfr
    refine wl_v hfr (by decide) (v_move rfl) ?_
    clear hfr
    intro a hfr
    refine wl_v hfr (by decide) (v_add rfl rfl ⟨by omega, by omega⟩) ?_
    clear hfr
    intro a hfr
    refine wl_v hfr (by decide) (v_slice_s (sz := 1) (n := n) (l := 64 * k) (h := 64 * k + 64) (m := 64 * k + 64) hsh rfl rfl rfl rfl Tryd.underlying46 (by kernel_rfl) (.inr rfl) (.inr rfl) (.inr rfl) (by omega) (by omega) (by have := hsh.cap; omega)) ?_
    clear hfr
    intro a hfr
    refine wl_r (r_yield rfl rfl (hY.yield (pre := List.range k) (x := k) ⟨by simp, hkq⟩ hJ (hst.get (k := 0) rfl) (fun b hb => hst.lt (k := 0) rfl hb))) rfl rfl hfr ?_
    clear hfr
    intro a v w4 hR hfr
    obtain ⟨y2, e3, rfl, hx, hok, hft, hJt, hJf⟩ := hR
    replace hst := hst.exchange (k := 0) rfl hx hok hft
    replace hst : St M w0 [e3, blk b2 [vB] 46, blk b3 [.int .i64 64] 3] w4 := hst
    clear hx hok hft
    refine wl_v hfr (by decide) (v_not rfl) ?_
    clear hfr
    intro a hfr
    refine wl_nil (hK6 _ _ ?_)
    replace hfr : Fr 31 [(0, _), (1, _), (2, _), (4, _), (30, _)] [] a := hfr.pick [0, 1, 2, 4, 30]
    refine wc_cond hfr rfl (fun hc4 => ?_) (fun hc4 => ?_)
    · rw [hc4] at hfr
      try simp only [Bool.not_eq_true', Bool.not_eq_false', decide_eq_true_eq, decide_eq_false_iff_not] at hc4
      have hJ := hJf hc4
      refine wc_ret ?_
      refine fin_ret hfr Tryd.results66 resAre_nil ?_
      exact ⟨_, _, hst, .inr ⟨_, rfl, hJ⟩⟩
    rw [hc4] at hfr
    try simp only [Bool.not_eq_true', Bool.not_eq_false', decide_eq_true_eq, decide_eq_false_iff_not] at hc4
    have hJ := hJt hc4
    rw [← List.range_succ] at hJ
    refine wc_skip ?_
    refine hK4 _ _ ?_
    refine wc_region ?_
    refine wl_v hfr (by decide) (v_move rfl) ?_
    clear hfr
    intro a hfr
    refine wl_v hfr (by decide) (v_load_blk1 (hst.get (k := 2) rfl) rfl (Tryd.isAgg3 _) rfl) ?_
    clear hfr
    intro a hfr
    refine wl_v hfr (by decide) (v_add rfl rfl ⟨by omega, by omega⟩) ?_
    clear hfr
    intro a hfr
    refine wl_v hfr (by decide) (v_assign rfl) ?_
    clear hfr
    intro a hfr
    refine wl_nil ?_
    rw [show ((64 * k : Nat) : Int) + 64 = ((64 * (k + 1) : Nat) : Int) from by omega] at hfr
    refine ⟨_, ?_, k + 1, e3, rfl, (by omega), hJ, hfr.pick [0, 1, 2, 4], hst⟩
    omega
  rw [hc1] at hfr
  try simp only [Bool.not_eq_true', Bool.not_eq_false', decide_eq_true_eq, decide_eq_false_iff_not] at hc1
  obtain rfl : k = q := by omega
  refine wc_exit ?_
  refine fin_end hfr Tryd.results66 resAre_nil ?_
  exact ⟨_, _, hst, .inl ⟨_, ⟨rfl, rfl⟩, hJ⟩⟩

theorem chunk_iter {M : Nat → Prop} {w0 : World} (vB : Value) (n q b2 b3 : Nat) (hsh : Shp vB n) (hn : n = 64 * q) (hnb : n ≤ 1000000000) :
    Iter Tryd.prog 66 [.pointer (some ⟨b2, 0, none⟩), .pointer (some ⟨b3, 0, none⟩)] (encC vB) (NxC q) (fun xs Hi => xs = List.range q ∧ Hi = [blk b2 [vB] 46, blk b3 [.int .i64 64] 3]) (fun pre Hi => Hi = [blk b2 [vB] 46, blk b3 [.int .i64 64] 3]) M w0 [blk b2 [vB] 46, blk b3 [.int .i64 64] 3] :=
  fun lp J Jx w e hY hJ hst => chunk_run vB n q lp b2 b3 J Jx hY e w hsh hn hnb hJ hst

/-- slices.Chunk[[]byte,byte] -/
theorem chunk_ok (vB : Value) (els : List (List Value)) (w0 : World) (hv : SlAt w0 vB 1 els) :
    Ret Tryd.prog 54 #[vB, .int .i64 64] w0 (MemR w0 (fun z : Nat × Nat => .func (.func 66) #[] #[.pointer (some ⟨z.1, 0, none⟩), .pointer (some ⟨z.2, 0, none⟩)]) (fun z => [blk z.2 [.int .i64 64] 3, blk z.1 [vB] 46]) (fun _ => True)) := by
  refine ret_of Tryd.func54 rfl Tryd.ntmps54 (Nat.le_of_ble_eq_true rfl) fun a hfr => ?_
  replace hfr : Fr 9 [(0, _), (1, _)] [] a := hfr
  replace hst : St No w0 [] w0 := St.init w0
  refine wc_seq_region fun K1 hK1 => ?_
  refine wl_box hfr hst (by decide) rfl (cs := [vB]) (by rw [(hst.arg hv).cells]) ?_
  clear hfr hst
  intro a w1 hfr hst
  refine wl_box hfr hst (by decide) rfl (cs := [.int .i64 64]) rfl ?_
  clear hfr hst
  intro a w2 hfr hst
  refine wl_v hfr (by decide) (v_assign rfl) ?_
  clear hfr
  intro a hfr
  refine wl_nil (hK1 _ _ ?_)
  refine wc_seq_k fun K2 hK2 => ?_
  refine wc_seq_region fun K3 hK3 => ?_
  refine wl_v hfr (by decide) (v_load_blk1 (hst.get (k := 0) rfl) rfl (Tryd.isAgg3 _) rfl) ?_
  clear hfr
  intro a hfr
  refine wl_v hfr (by decide) ((v_lt rfl rfl).asb (b' := false) rfl) ?_
  clear hfr
  intro a hfr
  refine wl_nil (hK3 _ _ ?_)
  refine wc_cond_f hfr rfl ?_
  refine wc_skip ?_
  refine hK2 _ _ ?_
  refine wc_seq_region fun K4 hK4 => ?_
  refine wl_v hfr (by decide) (v_makeFunc rfl rfl) ?_
  clear hfr
  intro a hfr
  refine wl_v hfr (by decide) (v_assign rfl) ?_
  clear hfr
  intro a hfr
  refine wl_nil (hK4 _ _ ?_)
  replace hfr : Fr 9 [(4, _)] [] a := hfr.pick [4]
  refine wc_ret ?_
  refine fin_ret hfr Tryd.results54 (resAre_tmp rfl resAre_nil) ?_
  exact ⟨(w0.heap.size, w1.heap.size), rfl, trivial, hst.ext, St.out (H := []) hst⟩
end Go.Proofs.YtmcoolbjgeibcaaDoor
namespace Go.Proofs.YtmcoolbjgeibcaaDoor
open Go.RowKit Go.PW
set_option linter.unusedVariables false
set_option linter.unusedSimpArgs false
set_option maxRecDepth 4000

theorem v_len_str {P : Program} {w : World} {L : List (Nat × Value)} {dst : Option Tmp} {ty sT : TypeId} {pos : String} {af : Array Edge} {gd : Option (Nat × Bool)} {x : Operand} {ats : Array TypeId} {xs : List UInt8} (hx : ev L x = some (sv xs)) (hat : ats[0]? = some sT) (hu : (underlying sT).run P w = .ok .string w) :
    OpV P ⟨dst, .call { callee := .builtin .len, args := #[x], argTypes := ats }, ty, pos, af, gd⟩ L w (.int .i64 (xs.length : Int)) := by
  refine v_builtin (xs := [x]) (vs := [sv xs]) (by simp [evs, hx]) ?_
  have hsz : (ByteArray.mk xs.toArray).size = xs.length := by simp [ByteArray.size]
  unfold sv
  simp [builtin, Builtin.len_, hat, hu, goInt, hsz]
theorem lenBytes_take {n r : Nat} (h : r < 8) : (lenBytes n).take (r + 1) = (lenBytes n).take r ++ [UInt8.ofNat (8 * n / 2 ^ (8 * (7 - r)))] := by
  rw [List.take_succ_eq_append_getElem (by simp [lenBytes]; omega)]
  simp only [lenBytes, List.getElem_map, List.getElem_range]
theorem chunk_at {w : World} {v : Value} {bs : List UInt8} {k : Nat} (h : SlAt w v 1 (bs.map fun b => [yv b])) (hk : 64 * k + 64 ≤ bs.length) : SlAt w (cut v 1 (64 * k) (64 * k + 64) (64 * k + 64)) 1 (((bs.drop (64 * k)).take 64).map fun b => [yv b]) := by
  have hc := h.shp.cap
  rw [List.length_map] at hc
  have := h.cut (l := 64 * k) (h := 64 * k + 64) (m := 64 * k + 64) (by omega) (by simpa using hk) (Nat.le_refl _) (by omega)
  rw [show 64 * k + 64 - 64 * k = 64 from by omega] at this
  rw [List.map_take, List.map_drop]; exact this
theorem own_cut {w : World} {v : Value} {E : TypeId} {sz : Nat} {els : List (List Value)} {l h m j : Nat} (ho : (own v E sz els).ok w) (hj : slBlk (cut v sz l h m) = some j) : (own v E sz els).foot j := by
  obtain ⟨_, _, h3⟩ := ho
  rcases h3.2 with ⟨rfl, _⟩ | ⟨g, cap, cur, fz, rfl, _⟩
  · exfalso; revert hj; unfold cut; simp only; split <;> simp [slBlk]
  · have : g = j := by
      revert hj; unfold cut; simp only
      split <;> simp [slBlk, Addr.add] <;> split <;> simp
    subst this; rfl
theorem dis_at {M : Nat → Prop} {w0 w : World} {H : List Ent} {i j : Nat} {e e' : Ent} (hst : St M w0 H w) (hij : i < j) (hi : H[i]? = some e) (hj : H[j]? = some e') : Ent.disj e e' := by
  have := hst.dis
  rw [List.pairwise_iff_getElem] at this
  obtain ⟨h1, rfl⟩ := List.getElem?_eq_some_iff.1 hi
  obtain ⟨h2, rfl⟩ := List.getElem?_eq_some_iff.1 hj
  exact this i j h1 h2 hij
theorem add_in {M : Nat → Prop} {w0 w : World} {b k : Nat} {hv : W8} {v : Value} {bs : List UInt8} (hst : St M w0 [blk 0 (kOf.map wv) 88, blk b (hv.l.map wv) 71, own v 5 1 (bs.map fun b => [yv b])] w) (hk : 64 * k + 64 ≤ bs.length) :
    Ret Tryd.prog 55 #[.pointer (some ⟨b, 0, none⟩), cut v 1 (64 * k) (64 * k + 64) (64 * k + 64)] w fun v w' => v = .tuple #[] ∧ Ext (· = b) w w' ∧ (blk b ((block hv ((bs.drop (64 * k)).take 64)).l.map wv) 71).ok w' :=
  add_ok b hv _ ((bs.drop (64 * k)).take 64) w (hst.get (k := 1) rfl) (hst.get (k := 0) rfl) (fun h => dis_at hst (i := 0) (j := 1) (by decide) rfl rfl 0 rfl h)
    (chunk_at (hst.ownAt (i := 2) rfl) hk) (by simp; omega) (fun j hj h => dis_at hst (i := 1) (j := 2) (by decide) rfl rfl j h (own_cut (hst.get (k := 2) rfl) hj))

def sum1 (s : List UInt8) (z : Nat) : List UInt8 := s ++ [128] ++ List.replicate z 0
def sum2 (s : List UInt8) (r : Nat) : List UInt8 := s ++ [128] ++ List.replicate (zeros s.length) 0 ++ (lenBytes s.length).take r
theorem sum1_len (s : List UInt8) (z : Nat) : (sum1 s z).length = s.length + 1 + z := by simp [sum1]; omega

theorem padded_bound (s : List UInt8) : (padded s).length ≤ s.length + 72 := by
  simp only [padded, lenBytes, zeros, List.length_append, List.length_replicate, List.length_map, List.length_range, List.length_cons, List.length_nil]
  omega

set_option maxHeartbeats 4000000 in
/-- dialtone/digest.Sum -/
theorem sum_ok (s : List UInt8) (w0 : World) (hk0 : (blk 0 (kOf.map wv) 88).ok w0) (hs : s.length ≤ 100000000) :
    Ret Tryd.prog 30 #[sv s] w0 fun v w => v = sv (sha s) ∧ Ext No w0 w := by
  refine ret_of Tryd.func30 rfl Tryd.ntmps30 (Nat.le_of_ble_eq_true rfl) fun a hfr => ?_
  replace hfr : Fr 40 [(0, _)] [] a := hfr
  replace hst : St (· = 0) w0 [blk 0 (kOf.map wv) 88] w0 := St.one hk0
  refine wc_seq_region fun K1 hK1 => ?_
  refine wl_v hfr (by decide) (v_assign rfl) ?_
  clear hfr
  intro a hfr
  refine wl_nil (hK1 _ _ ?_)
  refine wc_seq_region fun K2 hK2 => ?_
  refine wl_v hfr (by decide) (v_build (v := .agg #[wv (1779033703#32), wv (3144134277#32), wv (1013904242#32), wv (2773480762#32), wv (1359893119#32), wv (2600822924#32), wv (528734635#32), wv (1541459225#32)]) rfl (by kernel_rfl)) ?_
  clear hfr
  intro a hfr
  refine wl_alloc hfr hst (by decide) (Tryd.zeroValue71 _) (cs := [wv (0#32), wv (0#32), wv (0#32), wv (0#32), wv (0#32), wv (0#32), wv (0#32), wv (0#32)]) rfl ?_
  clear hfr hst
  intro a w1 hfr hst
  refine wl_store 0 hfr hst rfl rfl rfl (Tryd.sizeOf71 _) rfl (Nat.le_of_ble_eq_true rfl) (ds := [wv (1779033703#32), wv (3144134277#32), wv (1013904242#32), wv (2773480762#32), wv (1359893119#32), wv (2600822924#32), wv (528734635#32), wv (1541459225#32)]) rfl rfl ?_
  clear hfr hst
  intro a w2 hfr hst
  refine wl_nil (hK2 _ _ ?_)
  refine wc_seq_region fun K3 hK3 => ?_
  refine wl_v hfr (by decide) (v_move rfl) ?_
  clear hfr
  intro a hfr
  refine wl_conv_bytes rfl Tryd.underlying9 Tryd.underlying46 Tryd.underlying5 (by simp only [big]; omega) (by decide) hfr hst ?_
  clear hfr hst
  intro a w3 s1 hfr hst
  refine wl_buildSlice (E := 5) (sz := 1) rfl [[yv (128 : UInt8)]] (by kernel_rfl) (by simp) rfl (by decide) (by decide) hfr hst ?_
  clear hfr hst
  intro a w4 hfr hst
  refine wl_append (i := 1) (sT := 46) (inf := Tryd.t5) (z := yv (0 : UInt8)) (b := 0) (off := 0) (m := 0) (c := 0) rfl rfl rfl (hst.ownAt (i := 0) rfl) (by simp) Tryd.underlying46 rfl rfl rfl rfl (by decide) (by simp [Value.oneCell', yv, wv, sv]) (by have hby : Tryd.t5.bytes = 1 := rfl; have hz6 : zeros s.length < 64 := (by unfold zeros; omega); simp [big, hby, sum1, sum2, lenBytes] <;> omega) (by have hby : Tryd.t5.bytes = 1 := rfl; have hz6 : zeros s.length < 64 := (by unfold zeros; omega); simp [big, hby, sum1, sum2, lenBytes] <;> omega) (by decide) hfr hst fun a w5 s2 hfr hst _ => ?_
  refine wl_v hfr (by decide) (v_assign rfl) ?_
  clear hfr
  intro a hfr
  refine wl_nil (hK3 _ _ ?_)
  refine wc_seq_k fun K4 hK4 => ?_
  refine wc_block ?_
  rw [show (s.map fun b => [yv b]) ++ ([[yv (128 : UInt8)]]) = ((sum1 s 0).map fun b => [yv b]) from by simp [sum1]] at hst
  refine wc_loop (fun m a w => ∃ (z : Nat) (v : Value), m = 64 - z ∧ (z ≤ zeros s.length) ∧ Fr 40 [(0, sv s), (2, .string (⟨#[]⟩)), (3, .pointer (some ⟨w0.heap.size, 0, none⟩)), (4, v)] [] a ∧ St (· = 0) w0 [own v 5 1 ((sum1 s z).map fun b => [yv b]), blk w0.heap.size [wv (1779033703#32), wv (3144134277#32), wv (1013904242#32), wv (2773480762#32), wv (1359893119#32), wv (2600822924#32), wv (528734635#32), wv (1541459225#32)] 71, blk 0 (kOf.map wv) 88] w) _ ⟨0, s2, rfl, Nat.zero_le _, hfr.pick [0, 2, 3, 4], hst.select [1, 2, 3] (by decide)⟩ ?_
  rintro _ a w6 ⟨z, v, rfl, hz, hfr, hst⟩
  refine wc_seq_k fun K5 hK5 => ?_
  refine wc_seq_region fun K6 hK6 => ?_
  refine wl_v hfr (by decide) (v_move rfl) ?_
  clear hfr
  intro a hfr
  refine wl_v hfr (by decide) ((v_len_sl (sT := 46) (hst.ownAt (i := 0) rfl) rfl rfl (Tryd.runUnderlying46 _)).asi (m' := ((s.length + 1 + z : Nat) : Int)) (by rw [List.length_map, sum1_len])) ?_
  clear hfr
  intro a hfr
  refine wl_v hfr (by decide) (v_rem rfl rfl (by omega) (by omega)) ?_
  clear hfr
  intro a hfr
  refine wl_v hfr (by decide) (v_ne rfl rfl) ?_
  clear hfr
  intro a hfr
  refine wl_nil (hK6 _ _ ?_)
  refine wc_cond hfr rfl (fun hc3 => ?_) (fun hc3 => ?_)
  · rw [hc3] at hfr
    try simp only [Bool.not_eq_true', Bool.not_eq_false', decide_eq_true_eq, decide_eq_false_iff_not] at hc3
    have hz2 : z + 1 ≤ zeros s.length := by unfold zeros at hz ⊢; omega
    have hz3 : zeros s.length < 64 := by unfold zeros; omega
    refine wc_skip ?_
    refine hK5 _ _ ?_
    refine wc_block ?_
    refine wc_region ?_
    refine wl_v hfr (by decide) (v_move rfl) ?_
    clear hfr
    intro a hfr
    refine wl_buildSlice (E := 5) (sz := 1) rfl [[yv (0 : UInt8)]] (by kernel_rfl) (by simp) rfl (by decide) (by decide) hfr hst ?_
    clear hfr hst
    intro a w7 hfr hst
    refine wl_append (i := 1) (sT := 46) (inf := Tryd.t5) (z := yv (0 : UInt8)) (b := 0) (off := 0) (m := 0) (c := 0) rfl rfl rfl (hst.ownAt (i := 0) rfl) (by simp) Tryd.underlying46 rfl rfl rfl rfl (by decide) (by simp [Value.oneCell', yv, wv, sv]) (by have hby : Tryd.t5.bytes = 1 := rfl; have hz6 : zeros s.length < 64 := (by unfold zeros; omega); simp [big, hby, sum1, sum2, lenBytes] <;> omega) (by have hby : Tryd.t5.bytes = 1 := rfl; have hz6 : zeros s.length < 64 := (by unfold zeros; omega); simp [big, hby, sum1, sum2, lenBytes] <;> omega) (by decide) hfr hst fun a w8 s4 hfr hst _ => ?_
    refine wl_v hfr (by decide) (v_assign rfl) ?_
    clear hfr
    intro a hfr
    refine wl_nil ?_
    rw [show ((sum1 s z).map fun b => [yv b]) ++ ([[yv (0 : UInt8)]]) = ((sum1 s (z + 1)).map fun b => [yv b]) from by simp [sum1, List.replicate_succ']] at hst
    refine ⟨_, ?_, z + 1, s4, rfl, hz2, hfr.pick [0, 2, 3, 4], hst.select [1, 2, 3] (by decide)⟩
    omega
  rw [hc3] at hfr
  try simp only [Bool.not_eq_true', Bool.not_eq_false', decide_eq_true_eq, decide_eq_false_iff_not] at hc3
  obtain rfl : z = zeros s.length := by unfold zeros at hz ⊢; omega
  refine wc_exit ?_
  refine hK4 _ _ ?_
  refine wc_seq_k fun K7 hK7 => ?_
  refine wc_seq_region fun K8 hK8 => ?_
  refine wl_v hfr (by decide) (v_assign rfl) ?_
  clear hfr
  intro a hfr
  refine wl_nil (hK8 _ _ ?_)
  refine wc_block ?_
  rw [show ((sum1 s (zeros s.length)).map fun b => [yv b]) = ((sum2 s 0).map fun b => [yv b]) from by simp [sum1, sum2]] at hst
  rw [show (7 : Int) = 7 - ((0 : Nat) : Int) from by omega] at hfr
  refine wc_loop (fun m a w => ∃ (r : Nat) (v : Value), m = 8 - r ∧ (r ≤ 8) ∧ Fr 40 [(0, sv s), (2, .string (⟨#[]⟩)), (3, .pointer (some ⟨w0.heap.size, 0, none⟩)), (4, v), (5, .int .i64 (7 - (r : Int)))] [] a ∧ St (· = 0) w0 [own v 5 1 ((sum2 s r).map fun b => [yv b]), blk w0.heap.size [wv (1779033703#32), wv (3144134277#32), wv (1013904242#32), wv (2773480762#32), wv (1359893119#32), wv (2600822924#32), wv (528734635#32), wv (1541459225#32)] 71, blk 0 (kOf.map wv) 88] w) _ ⟨0, v, rfl, Nat.zero_le _, hfr.pick [0, 2, 3, 4, 5], hst.select [0, 1, 2] (by decide)⟩ ?_
  rintro _ a w9 ⟨r, v, rfl, hr, hfr, hst⟩
  refine wc_seq_k fun K9 hK9 => ?_
  refine wc_seq_region fun K10 hK10 => ?_
  refine wl_v hfr (by decide) (v_move rfl) ?_
  clear hfr
  intro a hfr
  refine wl_v hfr (by decide) (v_ge rfl rfl) ?_
  clear hfr
  intro a hfr
  refine wl_nil (hK10 _ _ ?_)
  refine wc_cond hfr rfl (fun hc5 => ?_) (fun hc5 => ?_)
  · rw [hc5] at hfr
    try simp only [Bool.not_eq_true', Bool.not_eq_false', decide_eq_true_eq, decide_eq_false_iff_not] at hc5
    refine wc_skip ?_
    refine hK9 _ _ ?_
    refine wc_seq_k fun K11 hK11 => ?_
    refine wc_block ?_
    refine wc_region ?_
    refine wl_v hfr (by decide) (v_move rfl) ?_
    clear hfr
    intro a hfr
    refine wl_v hfr (by decide) (v_move rfl) ?_
    clear hfr
    intro a hfr
    refine wl_v hfr (by decide) (v_len_str rfl rfl (Tryd.runUnderlying9 _)) ?_
    clear hfr
    intro a hfr
    refine wl_v hfr (by decide) ((v_mul rfl rfl ⟨by omega, by omega⟩).asi (m' := ((8 * s.length : Nat) : Int)) (by omega)) ?_
    clear hfr
    intro a hfr
    refine wl_v hfr (by decide) (v_move rfl) ?_
    clear hfr
    intro a hfr
    refine wl_v hfr (by decide) ((v_mul rfl rfl ⟨by omega, by omega⟩).asi (m' := ((8 * (7 - r) : Nat) : Int)) (by omega)) ?_
    clear hfr
    intro a hfr
    refine wl_v hfr (by decide) (v_ishr (m := (8 * s.length)) (n := (8 * (7 - r))) rfl rfl (by omega)) ?_
    clear hfr
    intro a hfr
    refine wl_v hfr (by decide) (v_conv_iy (n := 8 * s.length / 2 ^ (8 * (7 - r))) rfl (by kernel_rfl) Tryd.underlying5) ?_
    clear hfr
    intro a hfr
    refine wl_buildSlice (E := 5) (sz := 1) rfl [[yv (UInt8.ofNat (8 * s.length / 2 ^ (8 * (7 - r))))]] (by kernel_rfl) (by simp) rfl (by decide) (by decide) hfr hst ?_
    clear hfr hst
    intro a w10 hfr hst
    refine wl_append (i := 1) (sT := 46) (inf := Tryd.t5) (z := yv (0 : UInt8)) (b := 0) (off := 0) (m := 0) (c := 0) rfl rfl rfl (hst.ownAt (i := 0) rfl) (by simp) Tryd.underlying46 rfl rfl rfl rfl (by decide) (by simp [Value.oneCell', yv, wv, sv]) (by have hby : Tryd.t5.bytes = 1 := rfl; have hz6 : zeros s.length < 64 := (by unfold zeros; omega); simp [big, hby, sum1, sum2, lenBytes] <;> omega) (by have hby : Tryd.t5.bytes = 1 := rfl; have hz6 : zeros s.length < 64 := (by unfold zeros; omega); simp [big, hby, sum1, sum2, lenBytes] <;> omega) (by decide) hfr hst fun a w11 s6 hfr hst _ => ?_
    refine wl_v hfr (by decide) (v_assign rfl) ?_
    clear hfr
    intro a hfr
    refine wl_nil ?_
    refine hK11 _ _ ?_
    replace hfr : Fr 40 [(0, _), (2, _), (3, _), (5, _), (4, _)] [] a := hfr.pick [0, 2, 3, 5, 4]
    replace hst : St (· = 0) w0 [_, _, _] w11 := hst.mask [false, true, true, true]
    refine wc_region ?_
    refine wl_v hfr (by decide) (v_move rfl) ?_
    clear hfr
    intro a hfr
    refine wl_v hfr (by decide) (v_sub rfl rfl ⟨by omega, by omega⟩) ?_
    clear hfr
    intro a hfr
    refine wl_v hfr (by decide) (v_assign rfl) ?_
    clear hfr
    intro a hfr
    refine wl_nil ?_
    rw [show ((sum2 s r).map fun b => [yv b]) ++ ([[yv (UInt8.ofNat (8 * s.length / 2 ^ (8 * (7 - r))))]]) = ((sum2 s (r + 1)).map fun b => [yv b]) from by unfold sum2; rw [lenBytes_take (by omega)]; simp] at hst
    rw [show 7 - (r : Int) - 1 = 7 - ((r + 1 : Nat) : Int) from by omega] at hfr
    refine ⟨_, ?_, r + 1, s6, rfl, (by omega), hfr.pick [0, 2, 3, 4, 5], hst.select [0, 1, 2] (by decide)⟩
    omega
  rw [hc5] at hfr
  try simp only [Bool.not_eq_true', Bool.not_eq_false', decide_eq_true_eq, decide_eq_false_iff_not] at hc5
  obtain rfl : r = 8 := by omega
  rw [show sum2 s 8 = padded s from rfl] at hst
  refine wc_exit ?_
  refine hK7 _ _ ?_
  refine wc_seq_k fun K12 hK12 => ?_
  refine wc_seq_region fun K13 hK13 => ?_
  refine wl_v hfr (by decide) (v_move rfl) ?_
  clear hfr
  intro a hfr
  refine wl_callm hfr hst (by decide) Tryd.call54 rfl (chunk_ok v _ _ (hst.ownAt (i := 0) rfl)) ?_
  clear hfr hst
  intro a w12 x7 hp hfr hst
  obtain ⟨z1, z2⟩ := x7
  clear hp
  replace hst : St (· = 0) w0 [blk z2 [.int .i64 64] 3, blk z1 [v] 46, own v 5 1 ((padded s).map fun b => [yv b]), blk w0.heap.size [wv (1779033703#32), wv (3144134277#32), wv (1013904242#32), wv (2773480762#32), wv (1359893119#32), wv (2600822924#32), wv (528734635#32), wv (1541459225#32)] 71, blk 0 (kOf.map wv) 88] w12 := hst
  refine wl_nil (hK13 _ _ ?_)
  replace hfr : Fr 40 [(2, _), (3, _), (34, _)] [] a := hfr.pick [2, 3, 34]
  refine wc_block ?_
  have hpl := padded_len s
  have hsh : Shp v (padded s).length := by have := ((hst.ownAt (i := 2) rfl)).shp; rwa [List.length_map] at this
  replace hst : St (· = 0) w0 [blk z2 [.int .i64 64] 3, blk z1 [v] 46, own v 5 1 ((padded s).map fun b => [yv b]), blk w0.heap.size (((blocks h0 (padded s) 0).l).map wv) 71, blk 0 (kOf.map wv) 88] w12 := hst
  replace hst : St (· = 0) w0 [blk 0 (kOf.map wv) 88, blk w0.heap.size (((blocks h0 (padded s) ([] : List Nat).length).l).map wv) 71, own v 5 1 ((padded s).map fun b => [yv b]), blk z1 [v] 46, blk z2 [.int .i64 64] 3] w12 := hst.select [4, 3, 2, 1, 0] (by decide)
  replace hfr : Fr 40 [(2, .string (⟨#[]⟩)), (3, .pointer (some ⟨w0.heap.size, 0, none⟩)), (34, .func (.func 66) #[] #[.pointer (some ⟨z1, 0, none⟩), .pointer (some ⟨z2, 0, none⟩)])] [] a := hfr.pick [2, 3, 34]
  refine wc_range (M := (· = 0)) (w0 := w0) (encs := (encC v)) (Hi := [blk z1 [v] 46, blk z2 [.int .i64 64] 3]) (Hc := [blk 0 (kOf.map wv) 88, blk w0.heap.size (((blocks h0 (padded s) ([] : List Nat).length).l).map wv) 71, own v 5 1 ((padded s).map fun b => [yv b])]) (fun pre H => (True) ∧ H = [blk 0 (kOf.map wv) 88, blk w0.heap.size (((blocks h0 (padded s) pre.length).l).map wv) 71, own v 5 1 ((padded s).map fun b => [yv b])]) (fun _ _ _ => False) (fun pre xs H a => Fr 40 [(2, .string (⟨#[]⟩)), (3, .pointer (some ⟨w0.heap.size, 0, none⟩)), (34, .func (.func 66) #[] #[.pointer (some ⟨z1, 0, none⟩), .pointer (some ⟨z2, 0, none⟩)]), (6, (cut v 1 (64 * xs) (64 * xs + 64) (64 * xs + 64)))] [] a ∧ (True) ∧ H = [blk 0 (kOf.map wv) 88, blk w0.heap.size (((blocks h0 (padded s) pre.length).l).map wv) 71, own v 5 1 ((padded s).map fun b => [yv b])]) rfl Tryd.call66 hfr hst (chunk_iter v (padded s).length ((padded s).length / 64) z1 z2 hsh (by omega) (by have := padded_bound s; omega)) (by decide) (fun _ => rfl) ⟨trivial, rfl⟩ ?_ ?_ ?_ ?_
  · clear hfr hst
    rintro lp pre xs _ a w13 hnx ⟨htr, rfl⟩ hfr hst
    generalize (join [blk 0 (kOf.map wv) 88, blk w0.heap.size (((blocks h0 (padded s) pre.length).l).map wv) 71, own v 5 1 ((padded s).map fun b => [yv b])]).foot = M1 at hst ⊢
    replace hfr : Fr 40 [(35, (cut v 1 (64 * xs) (64 * xs + 64) (64 * xs + 64))), (2, .string (⟨#[]⟩)), (3, .pointer (some ⟨w0.heap.size, 0, none⟩)), (34, .func (.func 66) #[] #[.pointer (some ⟨z1, 0, none⟩), .pointer (some ⟨z2, 0, none⟩)])] [] a := hfr
    refine wc_region ?_
    refine wl_v hfr (by decide) (v_assign rfl) ?_
    clear hfr
    intro a hfr
    refine wl_nil ?_
    exact ⟨_, ⟨hfr.pick [2, 3, 34, 6], htr, rfl⟩, hst⟩
  · rintro lp pre xs _ a w14 hnx ⟨hfr, htr, rfl⟩ hrec hnl hst
    clear hrec hnl
    generalize (join [blk 0 (kOf.map wv) 88, blk w0.heap.size (((blocks h0 (padded s) pre.length).l).map wv) 71, own v 5 1 ((padded s).map fun b => [yv b])]).foot = M1 at hst ⊢
    refine wc_block ?_
    refine wc_region ?_
    refine wl_v hfr (by decide) (v_move rfl) ?_
    clear hfr
    intro a hfr
    refine wl_callw 1 hfr hst (by decide) Tryd.call55 rfl rfl (add_in hst (by have := hnx.2; omega)) rfl ?_
    clear hfr hst
    intro a w15 hfr hst
    refine wl_nil ?_
    rw [show block (blocks h0 (padded s) pre.length) (((padded s).drop (64 * xs)).take 64) = blocks h0 (padded s) (pre ++ [xs]).length from by rw [List.length_append, List.length_singleton, blocks, hnx.1]] at hst
    exact ⟨_, ⟨trivial, rfl⟩, hst.select [0, 1, 2] (by decide)⟩
  · rintro D pre _ _ a w16 ⟨rfl, rfl⟩ ⟨htr, rfl⟩ hst hfr
    replace hfr : Fr 40 [(2, .string (⟨#[]⟩)), (3, .pointer (some ⟨w0.heap.size, 0, none⟩)), (34, .func (.func 66) #[] #[.pointer (some ⟨z1, 0, none⟩), .pointer (some ⟨z2, 0, none⟩)])] [{ target := .collected D, args := #[] }] a := hfr
    replace hst : St (· = 0) w0 [obj D (.deferred (some [])), blk 0 (kOf.map wv) 88, blk w0.heap.size (((blocks h0 (padded s) (List.range ((padded s).length / 64)).length).l).map wv) 71, own v 5 1 ((padded s).map fun b => [yv b]), blk z1 [v] 46, blk z2 [.int .i64 64] 3] w16 := hst
    refine hK12 _ _ ?_
    rw [List.length_range] at hst
    refine wc_seq_region fun K14 hK14 => ?_
    refine wl_v hfr (by decide) (v_load_all (hst.get (k := 2) rfl) rfl (Tryd.isAgg71 _) (by rw [List.length_map, (W8.l_len _)]; exact Tryd.sizeOf71 _)) ?_
    clear hfr
    intro a hfr
    refine wl_callp hfr hst (by decide) Tryd.call56 rfl (digest_ok (blocks h0 (padded s) ((padded s).length / 64)) _) ?_
    clear hfr hst
    intro a w17 hfr hst
    refine wl_v hfr (by decide) (v_assign rfl) ?_
    clear hfr
    intro a hfr
    refine wl_nil (hK14 _ _ ?_)
    refine wc_ret ?_
    have hD := hst.get (k := 0) rfl
    replace hst := hst.unmark (i := 0) (o' := .deferred none) rfl
    replace hst : St (· = 0) w0 [blk 0 (kOf.map wv) 88, blk w0.heap.size (((blocks h0 (padded s) ((padded s).length / 64)).l).map wv) 71, own v 5 1 ((padded s).map fun b => [yv b]), blk z1 [v] 46, blk z2 [.int .i64 64] 3] _ := hst
    refine fin_ret1 hfr hD Tryd.results30 (resAre_tmp rfl resAre_nil) ?_
    exact ⟨by simp only [retv, sha], hst.ext.const hk0 (hst.get (k := 0) rfl)⟩
  · rintro D c pre _ _ a w18 _ h
    exact h.elim
end Go.Proofs.YtmcoolbjgeibcaaDoor
/-
  DERIVED: THE SHELF's CONTRACTS AT THIS DUMP, IN PLAIN WORDS (tools/lay-plain.mjs out of 'TrydShelf.lean', which tools/lay-shelf.mjs wrote): THE SAME DECLARATIONS UNDER THE SAME NAMES: 'import', 'namespace', 'open', 'def', 'theorem' AND NOTHING ELSE: no command of the shelf's: FOR A HAND-IN. Each laying: the table of numbers ('.._ren') and one theorem, a field a fact of the dump's own or the kernel's comparison; each contract: ONE APPLICATION.
-/
namespace Go.Proofs
open Go.Shelf
def Tryd.lays169_ren : Go.Shelf.Ren := ⟨fun | 169 => 76 | n => n, fun | 70 => 98 | 9 => 9 | 0 => 0 | 72 => 100 | 37 => 46 | 127 => 106 | 3 => 3 | 5 => 5 | n => n, fun | n => n⟩
theorem Tryd.lays169 : Go.Proofs.Lays.n169 Tryd.prog Tryd.lays169_ren := {
  mixed := by kernel_rfl
  f169 := Tryd.func76.trans (congrArg some (by kernel_rfl))
  t0 := Tryd.underlying0
  a0 := Tryd.isAgg0
  z0 := Tryd.sizeOf0
  v0 := Tryd.zeroValue0
  t3 := Tryd.underlying3
  a3 := Tryd.isAgg3
  z3 := Tryd.sizeOf3
  v3 := Tryd.zeroValue3
  t9 := Tryd.underlying9
  a9 := Tryd.isAgg9
  z9 := Tryd.sizeOf9
  v9 := Tryd.zeroValue9
  t37 := Tryd.underlying46
  a37 := Tryd.isAgg46
  z37 := Tryd.sizeOf46
  v37 := Tryd.zeroValue46
  t70 := Tryd.underlying98
  a70 := Tryd.isAgg98
  z70 := Tryd.sizeOf98
  v70 := Tryd.zeroValue98
  t72 := Tryd.underlying100
  a72 := Tryd.isAgg100
  z72 := Tryd.sizeOf100
  v72 := Tryd.zeroValue100
  t127 := Tryd.underlying106
  a127 := Tryd.isAgg106
  z127 := Tryd.sizeOf106
  v127 := Tryd.zeroValue106 }
theorem Tryd.Builder_Extra_169 : Builder.Extra Tryd.prog Tryd.lays169_ren := {
  sizeBuilder := by kernel_rfl
  liesBuilder := by kernel_rfl
  t5 := Tryd.underlying5
  a5 := Tryd.isAgg5
  z5 := Tryd.sizeOf5
  v5 := Tryd.zeroValue5
  infoByte := by kernel_rfl
  cellsByte := by kernel_rfl
  sizeByte := by kernel_rfl
  neB5 := by decide }
open Go.RowKit in
/-- (*strings.Builder).String: "String returns the accumulated string.": OF A BUILDER THAT HOLDS AT LEAST ONE BYTE. ✋ THE MODEL FREEZES THOSE BYTES IN THE BUFFER (unsafe.String): a later write INTO them ends the model's run without an answer; a later append BEHIND them goes on. The statement's order of evaluation is drawn: one draw. (LAID: no walk: one application.) -/
theorem Tryd.Builder_String (B b : Nat) (l : List UInt8) (w : World) (h : Lib.IsBuilder 100 5 B b (Lib.byteCells l) w) (h0 : l ≠ []) :
    Calls Tryd.prog 76 #[.pointer (some ⟨b, 0, none⟩)] w fun e w' => e = .returned (.string ⟨l.toArray⟩) ∧ Below B w w' := Any.Builder_String Tryd.lays169 Tryd.Builder_Extra_169 B b l w h h0
open Go.RowKit in
/-- (*strings.Builder).String OF A BUILDER THAT HOLDS NO BYTE: the empty string. (Its buffer is nil, or a row of which it has taken nothing yet; where that row has NO capacity the model lays one new block for unsafe.SliceData's 'some address'.) One draw. (LAID: no walk: one application.) -/
theorem Tryd.Builder_String_empty (B b : Nat) (w : World) (h : Lib.IsBuilder 100 5 B b [] w) (hBw : B ≤ w.heap.size) :
    Calls Tryd.prog 76 #[.pointer (some ⟨b, 0, none⟩)] w fun e w' => e = .returned (.string ⟨#[]⟩) ∧ Below B w w' := Any.Builder_String_empty Tryd.lays169 Tryd.Builder_Extra_169 B b w h hBw
open Go.RowKit in
/-- (*strings.Builder).String: "String returns the accumulated string.": WHATEVER THE BUILDER HOLDS. (LAID: no walk: one application.) -/
theorem Tryd.Builder_String_any (B b : Nat) (l : List UInt8) (w : World) (h : Lib.IsBuilder 100 5 B b (Lib.byteCells l) w) (hBw : B ≤ w.heap.size) :
    Calls Tryd.prog 76 #[.pointer (some ⟨b, 0, none⟩)] w fun e w' => e = .returned (.string ⟨l.toArray⟩) ∧ Below B w w' := Any.Builder_String_any Tryd.lays169 Tryd.Builder_Extra_169 B b l w h hBw
def Tryd.lays241_ren : Go.Shelf.Ren := ⟨fun | 241 => 79 | 277 => 81 | n => n, fun | 70 => 98 | 3 => 3 | 0 => 0 | 72 => 100 | 37 => 46 | 5 => 5 | n => n, fun | n => n⟩
theorem Tryd.lays241 : Go.Proofs.Lays.n241 Tryd.prog Tryd.lays241_ren := {
  mixed := by kernel_rfl
  f241 := Tryd.func79.trans (congrArg some (by kernel_rfl))
  f277 := Tryd.func81.trans (congrArg some (by kernel_rfl))
  t0 := Tryd.underlying0
  a0 := Tryd.isAgg0
  z0 := Tryd.sizeOf0
  v0 := Tryd.zeroValue0
  t3 := Tryd.underlying3
  a3 := Tryd.isAgg3
  z3 := Tryd.sizeOf3
  v3 := Tryd.zeroValue3
  t37 := Tryd.underlying46
  a37 := Tryd.isAgg46
  z37 := Tryd.sizeOf46
  v37 := Tryd.zeroValue46
  t70 := Tryd.underlying98
  a70 := Tryd.isAgg98
  z70 := Tryd.sizeOf98
  v70 := Tryd.zeroValue98
  t72 := Tryd.underlying100
  a72 := Tryd.isAgg100
  z72 := Tryd.sizeOf100
  v72 := Tryd.zeroValue100 }
theorem Tryd.Builder_Extra_241 : Builder.Extra Tryd.prog Tryd.lays241_ren := {
  sizeBuilder := by kernel_rfl
  liesBuilder := by kernel_rfl
  t5 := Tryd.underlying5
  a5 := Tryd.isAgg5
  z5 := Tryd.sizeOf5
  v5 := Tryd.zeroValue5
  infoByte := by kernel_rfl
  cellsByte := by kernel_rfl
  sizeByte := by kernel_rfl
  neB5 := by decide }
open Go.RowKit in
/-- (*strings.Builder).grow (no doc but "grow copies the buffer to a new, larger buffer so that there are at least n bytes of capacity beyond len(b.buf)."): AT A BUILDER WITHOUT A BUFFER: a new row of whatever bytes for its buffer, none of them its own yet. Three draws. (LAID: no walk: one application.) -/
theorem Tryd.Builder_grow_fresh (B b n : Nat) (w : World) (hB : B ≤ b) (hbk : w.heap[b]? = some (.cells #[.pointer (some ⟨b, 0, none⟩), .slice none 0 0] 100 (0, 0))) (hBw : B ≤ w.heap.size) (hn : n ≤ 281474976710656) :
    Calls Tryd.prog 79 #[.pointer (some ⟨b, 0, none⟩), .int .i64 n] w fun e w' => e = .returned (.tuple #[]) ∧ (Lib.BuilderAt 100 5 B b (.pointer (some ⟨b, 0, none⟩)) [] w' ∧ Below B w w') := Any.Builder_grow_fresh Tryd.lays241 Tryd.Builder_Extra_241 B b n w hB hbk hBw hn
def Tryd.lays165_ren : Go.Shelf.Ren := ⟨fun | 165 => 74 | 240 => 78 | 241 => 79 | 276 => 80 | 277 => 81 | n => n, fun | 70 => 98 | 3 => 3 | 0 => 0 | 4 => 4 | 9 => 9 | 20 => 20 | 72 => 100 | 37 => 46 | 164 => 107 | 5 => 5 | n => n, fun | n => n⟩
theorem Tryd.lays165 : Go.Proofs.Lays.n165 Tryd.prog Tryd.lays165_ren := {
  mixed := by kernel_rfl
  f165 := Tryd.func74.trans (congrArg some (by kernel_rfl))
  f240 := Tryd.func78.trans (congrArg some (by kernel_rfl))
  f241 := Tryd.func79.trans (congrArg some (by kernel_rfl))
  f276 := Tryd.func80.trans (congrArg some (by kernel_rfl))
  f277 := Tryd.func81.trans (congrArg some (by kernel_rfl))
  t0 := Tryd.underlying0
  a0 := Tryd.isAgg0
  z0 := Tryd.sizeOf0
  v0 := Tryd.zeroValue0
  t3 := Tryd.underlying3
  a3 := Tryd.isAgg3
  z3 := Tryd.sizeOf3
  v3 := Tryd.zeroValue3
  t4 := Tryd.underlying4
  a4 := Tryd.isAgg4
  z4 := Tryd.sizeOf4
  v4 := Tryd.zeroValue4
  t9 := Tryd.underlying9
  a9 := Tryd.isAgg9
  z9 := Tryd.sizeOf9
  v9 := Tryd.zeroValue9
  t20 := Tryd.underlying20
  a20 := Tryd.isAgg20
  z20 := Tryd.sizeOf20
  v20 := Tryd.zeroValue20
  t37 := Tryd.underlying46
  a37 := Tryd.isAgg46
  z37 := Tryd.sizeOf46
  v37 := Tryd.zeroValue46
  t70 := Tryd.underlying98
  a70 := Tryd.isAgg98
  z70 := Tryd.sizeOf98
  v70 := Tryd.zeroValue98
  t72 := Tryd.underlying100
  a72 := Tryd.isAgg100
  z72 := Tryd.sizeOf100
  v72 := Tryd.zeroValue100
  t164 := Tryd.underlying107
  a164 := Tryd.isAgg107
  z164 := Tryd.sizeOf107
  v164 := Tryd.zeroValue107 }
theorem Tryd.Builder_Extra_165 : Builder.Extra Tryd.prog Tryd.lays165_ren := {
  sizeBuilder := by kernel_rfl
  liesBuilder := by kernel_rfl
  t5 := Tryd.underlying5
  a5 := Tryd.isAgg5
  z5 := Tryd.sizeOf5
  v5 := Tryd.zeroValue5
  infoByte := by kernel_rfl
  cellsByte := by kernel_rfl
  sizeByte := by kernel_rfl
  neB5 := by decide }
open Go.RowKit in
/-- (*strings.Builder).Grow AT A BUILDER THAT HAS NOT BEEN WRITTEN ('var b strings.Builder; b.Grow(n)'): "Grow grows b's capacity, if necessary, to guarantee space for another n bytes.": it holds no byte behind it as before it. (LAID: no walk: one application.) -/
theorem Tryd.Builder_Grow_fresh (B b n : Nat) (w : World) (hB : B ≤ b) (hbk : w.heap[b]? = some (.cells #[.pointer none, .slice none 0 0] 100 (0, 0))) (hBw : B ≤ w.heap.size) (hn : n ≤ 281474976710656) :
    Calls Tryd.prog 74 #[.pointer (some ⟨b, 0, none⟩), .int .i64 n] w fun e w' => e = .returned (.tuple #[]) ∧ (Lib.BuilderAt 100 5 B b (.pointer (some ⟨b, 0, none⟩)) [] w' ∧ Below B w w') := Any.Builder_Grow_fresh Tryd.lays165 Tryd.Builder_Extra_165 B b n w hB hbk hBw hn
def Tryd.lays156_ren : Go.Shelf.Ren := ⟨fun | 156 => 65 | 165 => 74 | 166 => 75 | 169 => 76 | 240 => 78 | 241 => 79 | 276 => 80 | 277 => 81 | n => n, fun | 31 => 22 | 9 => 9 | 3 => 3 | 4 => 4 | 0 => 0 | 20 => 20 | 72 => 100 | 76 => 104 | 70 => 98 | 37 => 46 | 75 => 103 | 127 => 106 | 164 => 107 | 5 => 5 | 80 => 76 | n => n, fun | n => n⟩
theorem Tryd.lays156 : Go.Proofs.Lays.n156 Tryd.prog Tryd.lays156_ren := {
  mixed := by kernel_rfl
  f156 := Tryd.func65.trans (congrArg some (by kernel_rfl))
  f165 := Tryd.func74.trans (congrArg some (by kernel_rfl))
  f166 := Tryd.func75.trans (congrArg some (by kernel_rfl))
  f169 := Tryd.func76.trans (congrArg some (by kernel_rfl))
  f240 := Tryd.func78.trans (congrArg some (by kernel_rfl))
  f241 := Tryd.func79.trans (congrArg some (by kernel_rfl))
  f276 := Tryd.func80.trans (congrArg some (by kernel_rfl))
  f277 := Tryd.func81.trans (congrArg some (by kernel_rfl))
  t0 := Tryd.underlying0
  a0 := Tryd.isAgg0
  z0 := Tryd.sizeOf0
  v0 := Tryd.zeroValue0
  t3 := Tryd.underlying3
  a3 := Tryd.isAgg3
  z3 := Tryd.sizeOf3
  v3 := Tryd.zeroValue3
  t4 := Tryd.underlying4
  a4 := Tryd.isAgg4
  z4 := Tryd.sizeOf4
  v4 := Tryd.zeroValue4
  t9 := Tryd.underlying9
  a9 := Tryd.isAgg9
  z9 := Tryd.sizeOf9
  v9 := Tryd.zeroValue9
  t20 := Tryd.underlying20
  a20 := Tryd.isAgg20
  z20 := Tryd.sizeOf20
  v20 := Tryd.zeroValue20
  t31 := Tryd.underlying22
  a31 := Tryd.isAgg22
  z31 := Tryd.sizeOf22
  v31 := Tryd.zeroValue22
  t37 := Tryd.underlying46
  a37 := Tryd.isAgg46
  z37 := Tryd.sizeOf46
  v37 := Tryd.zeroValue46
  t70 := Tryd.underlying98
  a70 := Tryd.isAgg98
  z70 := Tryd.sizeOf98
  v70 := Tryd.zeroValue98
  t72 := Tryd.underlying100
  a72 := Tryd.isAgg100
  z72 := Tryd.sizeOf100
  v72 := Tryd.zeroValue100
  t75 := Tryd.underlying103
  a75 := Tryd.isAgg103
  z75 := Tryd.sizeOf103
  v75 := Tryd.zeroValue103
  t76 := Tryd.underlying104
  a76 := Tryd.isAgg104
  z76 := Tryd.sizeOf104
  v76 := Tryd.zeroValue104
  t127 := Tryd.underlying106
  a127 := Tryd.isAgg106
  z127 := Tryd.sizeOf106
  v127 := Tryd.zeroValue106
  t164 := Tryd.underlying107
  a164 := Tryd.isAgg107
  z164 := Tryd.sizeOf107
  v164 := Tryd.zeroValue107 }
theorem Tryd.Builder_Extra_156 : Builder.Extra Tryd.prog Tryd.lays156_ren := {
  sizeBuilder := by kernel_rfl
  liesBuilder := by kernel_rfl
  t5 := Tryd.underlying5
  a5 := Tryd.isAgg5
  z5 := Tryd.sizeOf5
  v5 := Tryd.zeroValue5
  infoByte := by kernel_rfl
  cellsByte := by kernel_rfl
  sizeByte := by kernel_rfl
  neB5 := by decide }
open Go.RowKit in
/-- No element: the empty string; the world is as it was. (Whatever the slice's address and capacity: a nil slice too.) (LAID: no walk: one application.) -/
theorem Tryd.strings_Join_none (a : Option Addr) (c : Nat) (sep : ByteArray) (w : World) :
    Calls Tryd.prog 65 #[.slice a 0 c, .string sep] w fun e w' => e = .returned (.string ⟨#[]⟩) ∧ w' = w := Any.strings_Join_none Tryd.lays156 Tryd.Builder_Extra_156 a c sep w
open Go.RowKit in
/-- strings.Join: "Join concatenates the elements of its first argument to create a single string. The separator string sep is placed between elements in the resulting string.": HOWEVER MANY ELEMENTS. Below the heap's end the world is as it was. (LAID: no walk: one application.) -/
theorem Tryd.strings_Join (bk o c : Nat) (xs : List ByteArray) (sep : ByteArray) (w : World) (hcells : ∀ (j : Nat) x, xs[j]? = some x → w.cell? ⟨bk, o + j, none⟩ = some (.string x)) (hbk : bk < w.heap.size) (hN : xs.length ≤ 140737488355328) (hcap : xs.length ≤ c) (hlen : (Lib.join (xs.map (·.data.toList)) sep.data.toList).length ≤ 140737488355328) :
    Calls Tryd.prog 65 #[.slice (some ⟨bk, o, none⟩) xs.length c, .string sep] w fun e w' => e = .returned (.string ⟨(Lib.join (xs.map (·.data.toList)) sep.data.toList).toArray⟩) ∧ Below w.heap.size w w' := Any.strings_Join Tryd.lays156 Tryd.Builder_Extra_156 bk o c xs sep w hcells hbk hN hcap hlen
def Tryd.lays128_ren : Go.Shelf.Ren := ⟨fun | 128 => 71 | n => n, fun | 51 => 69 | 3 => 3 | 4 => 4 | 46 => 80 | 5 => 5 | 9 => 9 | n => n, fun | n => n⟩
theorem Tryd.lays128 : Go.Proofs.Lays.n128 Tryd.prog Tryd.lays128_ren := {
  mixed := by kernel_rfl
  f128 := Tryd.func71.trans (congrArg some (by kernel_rfl))
  t3 := Tryd.underlying3
  a3 := Tryd.isAgg3
  z3 := Tryd.sizeOf3
  v3 := Tryd.zeroValue3
  t4 := Tryd.underlying4
  a4 := Tryd.isAgg4
  z4 := Tryd.sizeOf4
  v4 := Tryd.zeroValue4
  t5 := Tryd.underlying5
  a5 := Tryd.isAgg5
  z5 := Tryd.sizeOf5
  v5 := Tryd.zeroValue5
  t9 := Tryd.underlying9
  a9 := Tryd.isAgg9
  z9 := Tryd.sizeOf9
  v9 := Tryd.zeroValue9
  t46 := Tryd.underlying80
  a46 := Tryd.isAgg80
  z46 := Tryd.sizeOf80
  v46 := Tryd.zeroValue80
  t51 := Tryd.underlying69
  a51 := Tryd.isAgg69
  z51 := Tryd.sizeOf69
  v51 := Tryd.zeroValue69 }
/-- bits.Len32: "Len32 returns the minimum number of bits required to represent x; the result is 0 for x == 0.": IT RETURNS 'Lib.bitLen x'; the world is as it was. ('h0', 'h1': x is a uint32.) (LAID: no walk: one application.) -/
theorem Tryd.bits_Len32 (x : Int) (w : World) (h0 : 0 ≤ x) (h1 : x ≤ 4294967295) :
    Calls Tryd.prog 71 #[.int .u32 x] w fun e w' => e = .returned (.int .i64 (Lib.bitLen x.toNat)) ∧ w' = w := Any.bits_Len32 Tryd.lays128 x w h0 h1
def Tryd.lays125_ren : Go.Shelf.Ren := ⟨fun | 125 => 59 | 128 => 71 | 129 => 72 | n => n, fun | 46 => 80 | 3 => 3 | 51 => 69 | 53 => 96 | 4 => 4 | 5 => 5 | 9 => 9 | n => n, fun | n => n⟩
theorem Tryd.lays125 : Go.Proofs.Lays.n125 Tryd.prog Tryd.lays125_ren := {
  mixed := by kernel_rfl
  f125 := Tryd.func59.trans (congrArg some (by kernel_rfl))
  f128 := Tryd.func71.trans (congrArg some (by kernel_rfl))
  f129 := Tryd.func72.trans (congrArg some (by kernel_rfl))
  t3 := Tryd.underlying3
  a3 := Tryd.isAgg3
  z3 := Tryd.sizeOf3
  v3 := Tryd.zeroValue3
  t4 := Tryd.underlying4
  a4 := Tryd.isAgg4
  z4 := Tryd.sizeOf4
  v4 := Tryd.zeroValue4
  t5 := Tryd.underlying5
  a5 := Tryd.isAgg5
  z5 := Tryd.sizeOf5
  v5 := Tryd.zeroValue5
  t9 := Tryd.underlying9
  a9 := Tryd.isAgg9
  z9 := Tryd.sizeOf9
  v9 := Tryd.zeroValue9
  t46 := Tryd.underlying80
  a46 := Tryd.isAgg80
  z46 := Tryd.sizeOf80
  v46 := Tryd.zeroValue80
  t51 := Tryd.underlying69
  a51 := Tryd.isAgg69
  z51 := Tryd.sizeOf69
  v51 := Tryd.zeroValue69
  t53 := Tryd.underlying96
  a53 := Tryd.isAgg96
  z53 := Tryd.sizeOf96
  v53 := Tryd.zeroValue96 }
/-- bits.Len: "Len returns the minimum number of bits required to represent x; the result is 0 for x == 0.": IT RETURNS 'Lib.bitLen x'; the world is as it was. (A uint has 64 bits in the model.) ITS CALLEE bits.Len64 IS MET BY ITS OWN CONTRACT OFF THE SHELF (lay that first). (LAID: no walk: one application.) -/
theorem Tryd.bits_Len (x : Int) (w : World) (h0 : 0 ≤ x) (h1 : x ≤ 18446744073709551615) :
    Calls Tryd.prog 59 #[.int .u64 x] w fun e w' => e = .returned (.int .i64 (Lib.bitLen x.toNat)) ∧ w' = w := Any.bits_Len Tryd.lays125 x w h0 h1
open Go.RowKit in
/-- (*strings.Builder).String: "String returns the accumulated string.": OF A BUILDER THAT HOLDS AT LEAST ONE BYTE. ✋ THE MODEL FREEZES THOSE BYTES IN THE BUFFER (unsafe.String): a later write INTO them ends the model's run without an answer; a later append BEHIND them goes on. The statement's order of evaluation is drawn: one draw. THE FORM '_f': IT SAYS BESIDES THAT THE BUILDER IS A BUILDER STILL ('Lib.IsBuilderF', the same bytes): SO IT CAN BE WRITTEN ON: 'b.WriteString(b.String()[:k])'. (LAID: no walk: one application.) -/
theorem Tryd.Builder_String_f (B b : Nat) (l : List UInt8) (w : World) (h : Lib.IsBuilderF 100 5 B b (Lib.byteCells l) w) (h0 : l ≠ []) :
    Calls Tryd.prog 76 #[.pointer (some ⟨b, 0, none⟩)] w fun e w' => e = .returned (.string ⟨l.toArray⟩) ∧ (Lib.IsBuilderF 100 5 B b (Lib.byteCells l) w' ∧ Below B w w') := Any.Builder_String_f Tryd.lays169 Tryd.Builder_Extra_169 B b l w h h0
open Go.RowKit in
/-- (*strings.Builder).String OF A BUILDER THAT HOLDS NO BYTE: the empty string; THE FORM '_f': a builder still. (LAID: no walk: one application.) -/
theorem Tryd.Builder_String_empty_f (B b : Nat) (w : World) (h : Lib.IsBuilderF 100 5 B b [] w) (hBw : B ≤ w.heap.size) :
    Calls Tryd.prog 76 #[.pointer (some ⟨b, 0, none⟩)] w fun e w' => e = .returned (.string ⟨#[]⟩) ∧ (Lib.IsBuilderF 100 5 B b [] w' ∧ Below B w w') := Any.Builder_String_empty_f Tryd.lays169 Tryd.Builder_Extra_169 B b w h hBw
open Go.RowKit in
/-- (*strings.Builder).String: "String returns the accumulated string.": WHATEVER THE BUILDER HOLDS; THE FORM '_f': OF A BUILDER THAT MAY HAVE BEEN READ BEFORE; AND IT IS A BUILDER STILL, holding the same bytes: it can be written on. (LAID: no walk: one application.) -/
theorem Tryd.Builder_String_any_f (B b : Nat) (l : List UInt8) (w : World) (h : Lib.IsBuilderF 100 5 B b (Lib.byteCells l) w) (hBw : B ≤ w.heap.size) :
    Calls Tryd.prog 76 #[.pointer (some ⟨b, 0, none⟩)] w fun e w' => e = .returned (.string ⟨l.toArray⟩) ∧ (Lib.IsBuilderF 100 5 B b (Lib.byteCells l) w' ∧ Below B w w') := Any.Builder_String_any_f Tryd.lays169 Tryd.Builder_Extra_169 B b l w h hBw
open Go.RowKit in
/-- (*strings.Builder).grow (no doc but "grow copies the buffer to a new, larger buffer so that there are at least n bytes of capacity beyond len(b.buf)."): AT A BUILDER WITHOUT A BUFFER: a new row of whatever bytes for its buffer, none of them its own yet. Three draws. (LAID: no walk: one application.) -/
theorem Tryd.Builder_grow_fresh_cap (B b n : Nat) (w : World) (hB : B ≤ b) (hbk : w.heap[b]? = some (.cells #[.pointer (some ⟨b, 0, none⟩), .slice none 0 0] 100 (0, 0))) (hBw : B ≤ w.heap.size) (hn : n ≤ 281474976710656) :
    Calls Tryd.prog 79 #[.pointer (some ⟨b, 0, none⟩), .int .i64 n] w fun e w' => e = .returned (.tuple #[]) ∧ (Lib.BuilderAt 100 5 B b (.pointer (some ⟨b, 0, none⟩)) [] w' ∧ Below B w w') ∧ ∃ p cap, w'.cell? ⟨b, 1, none⟩ = some (.slice p 0 cap) ∧ n ≤ cap := Any.Builder_grow_fresh_cap Tryd.lays241 Tryd.Builder_Extra_241 B b n w hB hbk hBw hn
open Go.RowKit in
/-- (*strings.Builder).Grow AT A BUILDER THAT HAS NOT BEEN WRITTEN ('var b strings.Builder; b.Grow(n)'): "Grow grows b's capacity, if necessary, to guarantee space for another n bytes.": it holds no byte behind it as before it. (LAID: no walk: one application.) -/
theorem Tryd.Builder_Grow_fresh_cap (B b n : Nat) (w : World) (hB : B ≤ b) (hbk : w.heap[b]? = some (.cells #[.pointer none, .slice none 0 0] 100 (0, 0))) (hBw : B ≤ w.heap.size) (hn : n ≤ 281474976710656) :
    Calls Tryd.prog 74 #[.pointer (some ⟨b, 0, none⟩), .int .i64 n] w fun e w' => e = .returned (.tuple #[]) ∧ (Lib.BuilderAt 100 5 B b (.pointer (some ⟨b, 0, none⟩)) [] w' ∧ Below B w w') ∧ ∃ p cap, w'.cell? ⟨b, 1, none⟩ = some (.slice p 0 cap) ∧ n ≤ cap := Any.Builder_Grow_fresh_cap Tryd.lays165 Tryd.Builder_Extra_165 B b n w hB hbk hBw hn
def Tryd.lays129_ren : Go.Shelf.Ren := ⟨fun | 129 => 72 | n => n, fun | 53 => 96 | 3 => 3 | 4 => 4 | 46 => 80 | 5 => 5 | 9 => 9 | n => n, fun | n => n⟩
theorem Tryd.lays129 : Go.Proofs.Lays.n129 Tryd.prog Tryd.lays129_ren := {
  mixed := by kernel_rfl
  f129 := Tryd.func72.trans (congrArg some (by kernel_rfl))
  t3 := Tryd.underlying3
  a3 := Tryd.isAgg3
  z3 := Tryd.sizeOf3
  v3 := Tryd.zeroValue3
  t4 := Tryd.underlying4
  a4 := Tryd.isAgg4
  z4 := Tryd.sizeOf4
  v4 := Tryd.zeroValue4
  t5 := Tryd.underlying5
  a5 := Tryd.isAgg5
  z5 := Tryd.sizeOf5
  v5 := Tryd.zeroValue5
  t9 := Tryd.underlying9
  a9 := Tryd.isAgg9
  z9 := Tryd.sizeOf9
  v9 := Tryd.zeroValue9
  t46 := Tryd.underlying80
  a46 := Tryd.isAgg80
  z46 := Tryd.sizeOf80
  v46 := Tryd.zeroValue80
  t53 := Tryd.underlying96
  a53 := Tryd.isAgg96
  z53 := Tryd.sizeOf96
  v53 := Tryd.zeroValue96 }
/-- bits.Len64: "Len64 returns the minimum number of bits required to represent x; the result is 0 for x == 0.": IT RETURNS 'Lib.bitLen x'; the world is as it was. ('h0', 'h1': x is a uint64.) (LAID: no walk: one application.) -/
theorem Tryd.bits_Len64 (x : Int) (w : World) (h0 : 0 ≤ x) (h1 : x ≤ 18446744073709551615) :
    Calls Tryd.prog 72 #[.int .u64 x] w fun e w' => e = .returned (.int .i64 (Lib.bitLen x.toNat)) ∧ w' = w := Any.bits_Len64 Tryd.lays129 x w h0 h1
def Tryd.laysNm217_ren : Go.Shelf.Ren := ⟨fun | 17 => 41 | n => n, fun | 24 => 22 | 9 => 9 | 3 => 3 | 4 => 4 | 0 => 0 | n => n, fun | n => n⟩
theorem Tryd.laysNm217 : Go.Proofs.Lays2.n17 Tryd.prog Tryd.laysNm217_ren := {
  mixed := by kernel_rfl
  f17 := Tryd.func41.trans (congrArg some (by kernel_rfl))
  t0 := Tryd.underlying0
  a0 := Tryd.isAgg0
  z0 := Tryd.sizeOf0
  v0 := Tryd.zeroValue0
  t3 := Tryd.underlying3
  a3 := Tryd.isAgg3
  z3 := Tryd.sizeOf3
  v3 := Tryd.zeroValue3
  t4 := Tryd.underlying4
  a4 := Tryd.isAgg4
  z4 := Tryd.sizeOf4
  v4 := Tryd.zeroValue4
  t9 := Tryd.underlying9
  a9 := Tryd.isAgg9
  z9 := Tryd.sizeOf9
  v9 := Tryd.zeroValue9
  t24 := Tryd.underlying22
  a24 := Tryd.isAgg22
  z24 := Tryd.sizeOf22
  v24 := Tryd.zeroValue22 }
open Go.RowKit Go.Lib Go.Sort in
/-- slices.Reverse at []string, over an array: Go's loop from the two ends inward is walked; it makes 'Sort.reverseLoop 0 (len - 1)', which is 'Array.reverse' (Derived/Lib/SlicesMore.lean). (LAID: no walk: one application.) -/
theorem Tryd.slices_Reverse_string_arr (blk off cap : Nat) (d : Array (List UInt8)) (w : World) (hH : Holds encStr w blk off d) (hsz : d.size ≤ 9223372036854775807) :
    Calls Tryd.prog 41 #[.slice (some ⟨blk, off, none⟩) d.size cap] w fun e w' => e = .returned (.tuple #[]) ∧ ∃ n, w' = putRow encStr (Sort.ahead w n) blk off d.reverse := Any.slices_Reverse_string_arr Tryd.laysNm217 blk off cap d w hH hsz
open Go.RowKit Go.Lib Go.Sort in
/-- slices.Reverse at []string: "Reverse reverses the elements of the slice in place.": THE SLICE's CELLS HOLD 'zs.reverse' BEHIND THE CALL; all else is as it was, but for the count of draws (the exchange 's[i], s[j] = s[j], s[i]' draws its order, once a round). IN THE WORDS OF slices.Sort's CONTRACT: 'Holds': the cells hold zs and none is frozen; 'putRow': the world with those cells holding another array. A slice of length 0 that is not nil is among them ('zs = []'); nil: '.._nil'. (LAID: no walk: one application.) -/
theorem Tryd.slices_Reverse_string (blk off cap : Nat) (zs : List (List UInt8)) (w : World) (hH : Holds encStr w blk off zs.toArray) (hsz : zs.length ≤ 9223372036854775807) :
    Calls Tryd.prog 41 #[.slice (some ⟨blk, off, none⟩) zs.length cap] w fun e w' => e = .returned (.tuple #[]) ∧ ∃ n, w' = putRow encStr (Sort.ahead w n) blk off zs.reverse.toArray := Any.slices_Reverse_string Tryd.laysNm217 blk off cap zs w hH hsz
open Go.RowKit Go.Lib Go.Sort in
/-- The same at a slice of length 0, a nil one too: nothing is read, nothing written, nothing drawn. (LAID: no walk: one application.) -/
theorem Tryd.slices_Reverse_string_empty (a : Option Addr) (cap : Nat) (w : World) :
    Calls Tryd.prog 41 #[.slice a 0 cap] w fun e w' => e = .returned (.tuple #[]) ∧ w' = w := Any.slices_Reverse_string_empty Tryd.laysNm217 a cap w
open Go.RowKit Go.Lib Go.Sort in
/-- slices.Reverse at []string, of an argument. (LAID: no walk: one application.) -/
theorem Tryd.slices_Reverse_string_cells (b off n c : Nat) (Sx : Nat → ByteArray) (w : World) (hbig : n ≤ 9223372036854775807) (hc : ∀ i, i < n → w.cell? ⟨b, off + i, none⟩ = some (.string (Sx i))) (hf : ∀ j, j < n → w.frozen? ⟨b, off + j, none⟩ = false) :
    Calls Tryd.prog 41 #[.slice (some ⟨b, off, none⟩) n c] w fun e w' => e = .returned (.tuple #[]) ∧ ∃ q, w' = (w.drewN q).setCells b off ((Lib.strsOf Sx n).reverse.map encStr) := Any.slices_Reverse_string_cells Tryd.laysNm217 b off n c Sx w hbig hc hf
def Tryd.laysSlE35_f41_ren : Go.Shelf.Ren := ⟨fun | 35 => 41 | n => n, fun | 22 => 22 | 23 => 9 | 3 => 3 | 4 => 4 | 0 => 0 | n => n, fun | n => n⟩
theorem Tryd.laysSlE35_f41 : Go.Proofs.SlLaysE.n35 Tryd.prog Tryd.laysSlE35_f41_ren := {
  mixed := by kernel_rfl
  f35 := ⟨Tryd.f41.name, by decide, Tryd.func41.trans (congrArg some (by kernel_rfl))⟩
  t0 := Tryd.underlying0
  a0 := Tryd.isAgg0
  z0 := Tryd.sizeOf0
  v0 := Tryd.zeroValue0
  t3 := Tryd.underlying3
  a3 := Tryd.isAgg3
  z3 := Tryd.sizeOf3
  v3 := Tryd.zeroValue3
  t4 := Tryd.underlying4
  a4 := Tryd.isAgg4
  z4 := Tryd.sizeOf4
  v4 := Tryd.zeroValue4
  t22 := Tryd.underlying22
  a22 := Tryd.isAgg22
  z22 := Tryd.sizeOf22
  v22 := Tryd.zeroValue22
  a23 := Tryd.isAgg9
  z23 := Tryd.sizeOf9 }
open Go.RowKit Go.Lib Go.Sort in
/-- slices.Reverse, over an array: Go's loop from the two ends inward is walked; it makes 'Sort.reverseLoop 0 (len - 1)', which is 'Array.reverse' (Derived/Lib/SlicesMore.lean). (LAID AT THE INSTANCE 'slices.Reverse[[]string,string]': no walk: one application.) -/
theorem Tryd.slices_Reverse_arr {α : Type} [Inhabited α] (enc : α → Value) (h1 : OneCell enc) (blk off cap : Nat) (d : Array α) (w : World) (hH : Holds enc w blk off d) (hsz : d.size ≤ 9223372036854775807) :
    Calls Tryd.prog 41 #[.slice (some ⟨blk, off, none⟩) d.size cap] w fun e w' => e = .returned (.tuple #[]) ∧ ∃ n, w' = putRow enc (Sort.ahead w n) blk off d.reverse := AnyE.slices_Reverse_arr Tryd.laysSlE35_f41 enc h1 blk off cap d w hH hsz
open Go.RowKit Go.Lib Go.Sort in
/-- slices.Reverse: "Reverse reverses the elements of the slice in place.": THE SLICE's CELLS HOLD 'zs.reverse' BEHIND THE CALL; all else is as it was, but for the count of draws (the exchange 's[i], s[j] = s[j], s[i]' draws its order, once a round). IN THE WORDS OF slices.Sort's CONTRACT: 'Holds': the cells hold zs and none is frozen; 'putRow': the world with those cells holding another array. A slice of length 0 that is not nil is among them ('zs = []'); nil: '.._nil'. (LAID AT THE INSTANCE 'slices.Reverse[[]string,string]': no walk: one application.) -/
theorem Tryd.slices_Reverse {α : Type} [Inhabited α] (enc : α → Value) (h1 : OneCell enc) (blk off cap : Nat) (zs : List α) (w : World) (hH : Holds enc w blk off zs.toArray) (hsz : zs.length ≤ 9223372036854775807) :
    Calls Tryd.prog 41 #[.slice (some ⟨blk, off, none⟩) zs.length cap] w fun e w' => e = .returned (.tuple #[]) ∧ ∃ n, w' = putRow enc (Sort.ahead w n) blk off zs.reverse.toArray := AnyE.slices_Reverse Tryd.laysSlE35_f41 enc h1 blk off cap zs w hH hsz
open Go.RowKit Go.Lib Go.Sort in
/-- The same at a slice of length 0, a nil one too: nothing is read, nothing written, nothing drawn. (LAID AT THE INSTANCE 'slices.Reverse[[]string,string]': no walk: one application.) -/
theorem Tryd.slices_Reverse_empty {α : Type} [Inhabited α] (a : Option Addr) (cap : Nat) (w : World) :
    Calls Tryd.prog 41 #[.slice a 0 cap] w fun e w' => e = .returned (.tuple #[]) ∧ w' = w := AnyE.slices_Reverse_empty Tryd.laysSlE35_f41 a cap w
end Go.Proofs
namespace Go.Proofs.YtmcoolbjgeibcaaDoor
open Go.RowKit Go.PW
set_option linter.unusedVariables false
set_option linter.unusedSimpArgs false
set_option maxRecDepth 4000

theorem join_flat (xs : List (List UInt8)) : Lib.join xs [] = xs.flatten := by
  cases xs with
  | nil => rfl
  | cons x r => rw [Lib.join_cons, Lib.joinTail]; simp
theorem join_ok (lv : Value) (xs : List (List UInt8)) (w0 : World) (h : SlAt w0 lv 1 (xs.map fun s => [sv s])) (hn : xs.length ≤ 1000) (hlen : xs.flatten.length ≤ 140737488355328) :
    Ret Tryd.prog 65 #[lv, sv []] w0 fun v w => v = sv xs.flatten ∧ Ext No w0 w := by
  have hbig := h.le
  rw [List.length_map] at hbig
  rcases h.2.2 with ⟨rfl, h0⟩ | ⟨b, off, cap, rfl, hc, hb, hcells⟩
  · obtain rfl : xs = [] := by simpa using h0
    exact (Tryd.strings_Join_none none 0 ⟨#[]⟩ w0).mono fun e w ⟨he, hw⟩ => ⟨_, he, rfl, by rw [hw]; exact Ext.refl _ _⟩
  · have hm : ((xs.map fun s => (⟨s.toArray⟩ : ByteArray)).map (·.data.toList)) = xs := by simp [Function.comp_def]
    have hf : (xs.map fun s => [sv s]).flatten = xs.map sv := by
      clear hcells hc hb h hlen hbig hm hn
      induction xs with
      | nil => rfl
      | cons x xs ih => rw [List.map_cons, List.flatten_cons, ih]; rfl
    have hj : Lib.join ((xs.map fun s => (⟨s.toArray⟩ : ByteArray)).map (·.data.toList)) (ByteArray.mk #[]).data.toList = xs.flatten := by rw [hm]; exact join_flat xs
    rw [hf] at hcells
    have := Tryd.strings_Join b off cap (xs.map fun s => ⟨s.toArray⟩) ⟨#[]⟩ w0 (fun j x hx => by
      refine hcells j _ ?_
      rw [List.getElem?_map] at hx ⊢
      cases hq : xs[j]? with
      | none => rw [hq] at hx; cases hx
      | some z => rw [hq] at hx; cases hx; rfl) hb (by simp; omega) (by simpa using hc) (by rw [hj]; exact hlen)
    rw [hj] at this
    simp only [List.length_map] at this ⊢
    exact this.mono fun e w ⟨he, hw⟩ => ⟨_, he, rfl, Ext.of_below hw⟩
theorem sv_append (s t : List UInt8) : ((⟨s.toArray⟩ : ByteArray) ++ (⟨t.toArray⟩ : ByteArray)) = ⟨(s ++ t).toArray⟩ := by
  apply ByteArray.ext
  simp [ByteArray.data_append]
theorem v_sadd {P : Program} {w : World} {L : List (Nat × Value)} {dst : Option Tmp} {T T' ty : TypeId} {pos : String} {af : Array Edge} {gd : Option (Nat × Bool)} {x y : Operand} {s t : List UInt8} (hx : ev L x = some (sv s)) (hy : ev L y = some (sv t)) (hl : s.length + t.length ≤ 9223372036854775807) : OpV P ⟨dst, .binOp .add T x y T', ty, pos, af, gd⟩ L w (sv (s ++ t)) :=
  v_bin2 hx hy rfl (by
    show (Op.stringOp .add ⟨s.toArray⟩ ⟨t.toArray⟩).run P w = _
    rw [run_string_add_sum w _ _ (by simpa [ByteArray.size] using hl), sv_append]; rfl)

/-- dialtone/digest.marked$1 -/
theorem marked_run (mark : List UInt8) (xs : List (List UInt8)) (lv : Value) (b : Nat) (w0 : World) (hb : (blk b [sv mark] 9).ok w0) (hlv : SlAt w0 lv 1 (xs.map fun s => [sv s])) (hxn : xs.length ≤ 1000) (hml : mark.length ≤ 1000) (hlen0 : xs.flatten.length ≤ 90000000) (hk0 : (blk 0 (kOf.map wv) 88).ok w0) :
    Ret Tryd.prog 64 #[lv, .pointer (some ⟨b, 0, none⟩)] w0 fun v w => v = sv (sha (mark ++ xs.flatten)) ∧ Ext No w0 w := by
  have hlen : xs.flatten.length ≤ 140737488355328 := by omega
  refine ret_of Tryd.func64 rfl Tryd.ntmps64 (Nat.le_of_ble_eq_true rfl) fun a hfr => ?_
  replace hfr : Fr 9 [(0, _), (1, _)] [] a := hfr
  replace hst : St No w0 [] w0 := St.init w0
  refine wc_seq_region fun K1 hK1 => ?_
  refine wl_v hfr (by decide) (v_assign rfl) ?_
  clear hfr
  intro a hfr
  refine wl_nil (hK1 _ _ ?_)
  refine wc_seq_k fun K2 hK2 => ?_
  refine wc_of_dr (by kernel_rfl) (dr_of_wd (by kernel_rfl) fun w1 hxz => ?_)
  replace hst : St No w0 [] w1 := hst.grow hxz
  refine wd_sub (k := 0) 3 [0, 2] hfr (by kernel_rfl) (by kernel_rfl) (by kernel_rfl) (by rfl) ?_
  replace hfr : Fr 9 [(0, _), (1, _), (3, _)] [] a := hfr.pick [0, 1, 3]
  refine wc_phases_q [] (fun i => match i with | _ => fun _ _ => False) 3 [[], [], [1]] [sv mark, lv, sv xs.flatten] hfr hst (by kernel_rfl) (by kernel_rfl) (by kernel_rfl) ?_ ?_ ?_
  · intro i hi hiq
    match i, hi, hiq with
    | 0, _, _ =>
      intro w hst
      exact OpV.g (v_load_blk1 (hst.keepb hb) rfl (Tryd.isAgg9 _) rfl)
    | 1, _, _ =>
      intro w hst
      exact OpV.g (v_move rfl)
    | 2, _, _ =>
      intro w hst
      exact g_callp Tryd.call65 rfl (join_ok lv xs _ (hst.arg hlv) (by simpa using hxn) (by simpa using hlen))
  · intro i hi
    exact absurd hi (by simp)
  clear hfr hst
  intro  a w2 hfr hst
  replace hfr : Fr 9 [(4, sv mark), (5, lv), (6, sv xs.flatten), (0, _), (1, _), (3, _)] [] a := hfr
  refine wl_nil ?_
  refine wd_lin (k := 3) 6 [5] (by kernel_rfl) (by kernel_rfl) (by kernel_rfl) ?_
  refine wl_v hfr (by decide) (v_sadd rfl rfl (by (try simp only [List.length_append]); omega)) ?_
  clear hfr
  intro a hfr
  refine wl_callp hfr hst (by decide) Tryd.call30 rfl (sum_ok (mark ++ xs.flatten) _ (hst.keepb hk0) (by simp only [List.length_append]; omega)) ?_
  clear hfr hst
  intro a w3 hfr hst
  refine wl_v hfr (by decide) (v_assign rfl) ?_
  clear hfr
  intro a hfr
  refine wl_nil ?_
  refine wd_end (by kernel_rfl) ?_
  refine hK2 _ _ ?_
  replace hfr : Fr 9 [(3, _)] [] a := hfr.pick [3]
  refine wc_ret ?_
  refine fin_ret hfr Tryd.results64 (resAre_tmp rfl resAre_nil) ?_
  exact ⟨by rfl, hst.ext⟩

/-- dialtone/digest.marked -/
theorem marked_ok (mark : List UInt8) (w0 : World) :
    Ret Tryd.prog 53 #[sv mark] w0 (MemR w0 (fun b : Nat => .func (.func 64) #[] #[.pointer (some ⟨b, 0, none⟩)]) (fun b => [blk b [sv mark] 9]) (fun _ => True)) := by
  refine ret_of Tryd.func53 rfl Tryd.ntmps53 (Nat.le_of_ble_eq_true rfl) fun a hfr => ?_
  replace hfr : Fr 4 [(0, _)] [] a := hfr
  replace hst : St No w0 [] w0 := St.init w0
  refine wc_seq_region fun K1 hK1 => ?_
  refine wl_box hfr hst (by decide) rfl (cs := [sv mark]) rfl ?_
  clear hfr hst
  intro a w1 hfr hst
  refine wl_v hfr (by decide) (v_assign rfl) ?_
  clear hfr
  intro a hfr
  refine wl_nil (hK1 _ _ ?_)
  refine wc_seq_region fun K2 hK2 => ?_
  refine wl_v hfr (by decide) (v_makeFunc rfl rfl) ?_
  clear hfr
  intro a hfr
  refine wl_v hfr (by decide) (v_assign rfl) ?_
  clear hfr
  intro a hfr
  refine wl_nil (hK2 _ _ ?_)
  refine wc_ret ?_
  refine fin_ret hfr Tryd.results53 (resAre_tmp rfl resAre_nil) ?_
  exact ⟨w0.heap.size, rfl, trivial, hst.ext, St.out (H := []) hst⟩

/-- dialtone/digest.Leaf -/
theorem leaf_ok (s : List UInt8) (w0 : World) (hs : s.length ≤ 40000000) (hk0 : (blk 0 (kOf.map wv) 88).ok w0) :
    Ret Tryd.prog 29 #[sv s] w0 fun v w => v = sv (sha (0 :: s)) ∧ Ext No w0 w := by
  refine ret_of Tryd.func29 rfl Tryd.ntmps29 (Nat.le_of_ble_eq_true rfl) fun a hfr => ?_
  replace hfr : Fr 7 [(0, _)] [] a := hfr
  replace hst : St No w0 [] w0 := St.init w0
  refine wc_seq_region fun K1 hK1 => ?_
  refine wl_v hfr (by decide) (v_assign rfl) ?_
  clear hfr
  intro a hfr
  refine wl_nil (hK1 _ _ ?_)
  refine wc_seq_region fun K2 hK2 => ?_
  refine wl_callm hfr hst (by decide) Tryd.call53 rfl (marked_ok [0] _) ?_
  clear hfr hst
  intro a w1 x1 hp hfr hst
  revert x1 hp hfr hst; rintro bm hp hfr hst
  clear hp
  replace hst : St No w0 [blk bm [sv ([0])] 9] w1 := hst
  refine wl_v hfr (by decide) (v_move rfl) ?_
  clear hfr
  intro a hfr
  refine wl_buildSlice (E := 9) (sz := 1) rfl [[sv s]] (by kernel_rfl) (by simp) rfl (by decide) (by decide) hfr hst ?_
  clear hfr hst
  intro a w2 hfr hst
  refine wl_callvp hfr hst (by decide) rfl Tryd.call64 rfl (marked_run [0] [s] (.slice (some ⟨w1.heap.size, 0, none⟩) 1 1) bm _ (hst.get (k := 1) rfl) (hst.ownAt (i := 0) rfl) (by simp) (by simp) (by simp; omega) (hst.keepb hk0)) ?_
  clear hfr hst
  intro a w3 hfr hst
  refine wl_v hfr (by decide) (v_assign rfl) ?_
  clear hfr
  intro a hfr
  refine wl_nil (hK2 _ _ ?_)
  refine wc_ret ?_
  refine fin_ret hfr Tryd.results29 (resAre_tmp rfl resAre_nil) ?_
  exact ⟨by simp [retv], hst.ext⟩

/-- dialtone/digest.Node -/
theorem node_ok (s t : List UInt8) (w0 : World) (hs : s.length ≤ 40000000) (ht : t.length ≤ 40000000) (hk0 : (blk 0 (kOf.map wv) 88).ok w0) :
    Ret Tryd.prog 32 #[sv s, sv t] w0 fun v w => v = sv (sha (1 :: (s ++ t))) ∧ Ext No w0 w := by
  refine ret_of Tryd.func32 rfl Tryd.ntmps32 (Nat.le_of_ble_eq_true rfl) fun a hfr => ?_
  replace hfr : Fr 10 [(0, _), (1, _)] [] a := hfr
  replace hst : St No w0 [] w0 := St.init w0
  refine wc_seq_region fun K1 hK1 => ?_
  refine wl_v hfr (by decide) (v_assign rfl) ?_
  clear hfr
  intro a hfr
  refine wl_nil (hK1 _ _ ?_)
  refine wc_seq_region fun K2 hK2 => ?_
  refine wl_callm hfr hst (by decide) Tryd.call53 rfl (marked_ok [1] _) ?_
  clear hfr hst
  intro a w1 x1 hp hfr hst
  revert x1 hp hfr hst; rintro bm hp hfr hst
  clear hp
  replace hst : St No w0 [blk bm [sv ([1])] 9] w1 := hst
  refine wl_v hfr (by decide) (v_move rfl) ?_
  clear hfr
  intro a hfr
  refine wl_v hfr (by decide) (v_move rfl) ?_
  clear hfr
  intro a hfr
  refine wl_buildSlice (E := 9) (sz := 1) rfl [[sv s], [sv t]] (by kernel_rfl) (by simp) rfl (by decide) (by decide) hfr hst ?_
  clear hfr hst
  intro a w2 hfr hst
  refine wl_callvp hfr hst (by decide) rfl Tryd.call64 rfl (marked_run [1] [s, t] (.slice (some ⟨w1.heap.size, 0, none⟩) 2 2) bm _ (hst.get (k := 1) rfl) (hst.ownAt (i := 0) rfl) (by simp) (by simp) (by simp; omega) (hst.keepb hk0)) ?_
  clear hfr hst
  intro a w3 hfr hst
  refine wl_v hfr (by decide) (v_assign rfl) ?_
  clear hfr
  intro a hfr
  refine wl_nil (hK2 _ _ ?_)
  replace hfr : Fr 10 [(4, _)] [] a := hfr.pick [4]
  replace hst : St No w0 [] w3 := hst.mask [false, false]
  refine wc_ret ?_
  refine fin_ret hfr Tryd.results32 (resAre_tmp rfl resAre_nil) ?_
  exact ⟨by simp [retv], hst.ext⟩

/-- dialtone/digest.Chain -/
theorem chain_ok (s t : List UInt8) (w0 : World) (hs : s.length ≤ 40000000) (ht : t.length ≤ 40000000) (hk0 : (blk 0 (kOf.map wv) 88).ok w0) :
    Ret Tryd.prog 36 #[sv s, sv t] w0 fun v w => v = sv (sha (2 :: (s ++ t))) ∧ Ext No w0 w := by
  refine ret_of Tryd.func36 rfl Tryd.ntmps36 (Nat.le_of_ble_eq_true rfl) fun a hfr => ?_
  replace hfr : Fr 10 [(0, _), (1, _)] [] a := hfr
  replace hst : St No w0 [] w0 := St.init w0
  refine wc_seq_region fun K1 hK1 => ?_
  refine wl_v hfr (by decide) (v_assign rfl) ?_
  clear hfr
  intro a hfr
  refine wl_nil (hK1 _ _ ?_)
  refine wc_seq_region fun K2 hK2 => ?_
  refine wl_callm hfr hst (by decide) Tryd.call53 rfl (marked_ok [2] _) ?_
  clear hfr hst
  intro a w1 x1 hp hfr hst
  revert x1 hp hfr hst; rintro bm hp hfr hst
  clear hp
  replace hst : St No w0 [blk bm [sv ([2])] 9] w1 := hst
  refine wl_v hfr (by decide) (v_move rfl) ?_
  clear hfr
  intro a hfr
  refine wl_v hfr (by decide) (v_move rfl) ?_
  clear hfr
  intro a hfr
  refine wl_buildSlice (E := 9) (sz := 1) rfl [[sv s], [sv t]] (by kernel_rfl) (by simp) rfl (by decide) (by decide) hfr hst ?_
  clear hfr hst
  intro a w2 hfr hst
  refine wl_callvp hfr hst (by decide) rfl Tryd.call64 rfl (marked_run [2] [s, t] (.slice (some ⟨w1.heap.size, 0, none⟩) 2 2) bm _ (hst.get (k := 1) rfl) (hst.ownAt (i := 0) rfl) (by simp) (by simp) (by simp; omega) (hst.keepb hk0)) ?_
  clear hfr hst
  intro a w3 hfr hst
  refine wl_v hfr (by decide) (v_assign rfl) ?_
  clear hfr
  intro a hfr
  refine wl_nil (hK2 _ _ ?_)
  replace hfr : Fr 10 [(4, _)] [] a := hfr.pick [4]
  replace hst : St No w0 [] w3 := hst.mask [false, false]
  refine wc_ret ?_
  refine fin_ret hfr Tryd.results36 (resAre_tmp rfl resAre_nil) ?_
  exact ⟨by simp [retv], hst.ext⟩
end Go.Proofs.YtmcoolbjgeibcaaDoor
namespace Go.Proofs.YtmcoolbjgeibcaaDoor
open Go.RowKit Go.PW
set_option linter.unusedVariables false
set_option linter.unusedSimpArgs false
set_option maxRecDepth 4000

theorem bitLen_aux : ∀ (f x : Nat), 0 < x → x < 2 ^ f → Lib.bitLenAux f x = Nat.log2 x + 1
  | 0, x, h0, h => by simp at h; omega
  | f + 1, x, h0, h => by
    rw [Lib.bitLenAux, if_neg (by omega), Nat.log2_def]
    by_cases h2 : 2 ≤ x
    · rw [if_pos h2, bitLen_aux f (x / 2) (by omega) (by rw [Nat.pow_succ] at h; omega)]; omega
    · rw [if_neg h2]
      have : x / 2 = 0 := by omega
      rw [this]
      cases f <;> simp [Lib.bitLenAux]
theorem bitLen_log {x : Nat} (h0 : 0 < x) (h : x < 18446744073709551616) : Lib.bitLen x = Nat.log2 x + 1 := bitLen_aux 64 x h0 (by simpa using h)
theorem blen_ok (x : Int) (m : Nat) (w0 : World) (h0 : 0 ≤ x) (h1 : x ≤ 18446744073709551615) (hm : x.toNat = m) (hp : 0 < m) : Ret Tryd.prog 59 #[.int .u64 x] w0 fun v w => v = .int .i64 ((Nat.log2 m + 1 : Nat) : Int) ∧ Ext No w0 w :=
  (Tryd.bits_Len x w0 h0 h1).mono fun e w ⟨he, hw⟩ => ⟨_, he, by rw [hm, bitLen_log hp (by omega)], by rw [hw]; exact Ext.refl _ _⟩
theorem v_ishl1 {P : Program} {w : World} {L : List (Nat × Value)} {dst : Option Tmp} {T T' ty : TypeId} {pos : String} {af : Array Edge} {gd : Option (Nat × Bool)} {x y : Operand} {k : IntKind} {n : Nat} (hn : n ≤ 62) (hx : ev L x = some (.int .i64 1)) (hy : ev L y = some (.int k (n : Int))) : OpV P ⟨dst, .binOp .shl T x y T', ty, pos, af, gd⟩ L w (.int .i64 ((2 ^ n : Nat) : Int)) :=
  v_bin2 hx hy rfl (by
    have h0 : ¬ ((n : Int) < 0) := by omega
    show (Op.shift .shl .i64 1 k (n : Int)).run P w = _
    simp only [Op.shift, if_neg h0, Int.toNat_natCast]
    show Result.ok (Value.int .i64 (IntKind.i64.wrap (1 * 2 ^ (min n 64)))) w = _
    have hle : 2 ^ n ≤ 2 ^ 62 := Nat.pow_le_pow_right (by decide) hn
    have : (1 : Int) * 2 ^ (min n 64) = ((2 ^ n : Nat) : Int) := by rw [Nat.min_eq_left (by omega), Int.one_mul]; push_cast; rfl
    rw [this]
    clear this
    generalize 2 ^ n = q at hle ⊢
    rw [IntWalk.i64_in (q : Int) (by constructor <;> omega)])
theorem lft_loop {n j q : Nat} (h2 : 2 ≤ n) (hq : 2 ^ j = q) (hp : 0 < q) (h : ¬ (q : Int) < (n : Int) - q) (hj : q < n) : q = lft n := by
  subst hq
  unfold lft
  congr 1
  have : 2 ^ j ≤ n - 1 := by omega
  have h3 : n - 1 < 2 * 2 ^ j := by omega
  exact ((Nat.log2_eq_iff (by omega)).2 ⟨this, by rw [Nat.pow_succ, Nat.mul_comm]; exact h3⟩).symm

theorem lft_bound {n : Nat} (h2 : 2 ≤ n) (hn : n ≤ 9223372036854775807) : Nat.log2 (n - 1) ≤ 62 := by
  have := (Nat.log2_lt (n := n - 1) (k := 63) (by omega)).2 (by omega)
  omega

/-- dialtone/digest.left -/
theorem left_ok (n : Nat) (w0 : World) (h2 : 2 ≤ n) (hn : n ≤ 9223372036854775807) :
    Ret Tryd.prog 40 #[.int .i64 (n : Int)] w0 fun v w => v = .int .i64 (lft n : Int) ∧ Ext No w0 w := by
  have hlb := lft_bound h2 hn
  refine ret_of Tryd.func40 rfl Tryd.ntmps40 (Nat.le_of_ble_eq_true rfl) fun a hfr => ?_
  replace hfr : Fr 9 [(0, _)] [] a := hfr
  replace hst : St No w0 [] w0 := St.init w0
  refine wc_seq_region fun K1 hK1 => ?_
  refine wl_v hfr (by decide) (v_assign rfl) ?_
  clear hfr
  intro a hfr
  refine wl_nil (hK1 _ _ ?_)
  refine wc_seq_region fun K2 hK2 => ?_
  refine wl_v hfr (by decide) (v_move rfl) ?_
  clear hfr
  intro a hfr
  refine wl_v hfr (by decide) (v_sub rfl rfl ⟨by omega, by omega⟩) ?_
  clear hfr
  intro a hfr
  refine wl_v hfr (by decide) (v_conv_iu rfl (by kernel_rfl) Tryd.underlying80) ?_
  clear hfr
  intro a hfr
  refine wl_callp hfr hst (by decide) Tryd.call59 rfl (blen_ok _ (n - 1) _ (by omega) (by omega) (by omega) (by omega)) ?_
  clear hfr hst
  intro a w1 hfr hst
  refine wl_v hfr (by decide) ((v_sub rfl rfl ⟨by omega, by omega⟩).asi (m' := ((Nat.log2 (n - 1) : Nat) : Int)) (by omega)) ?_
  clear hfr
  intro a hfr
  refine wl_v hfr (by decide) (v_ishl1 (n := (Nat.log2 (n - 1))) (by omega) rfl rfl) ?_
  clear hfr
  intro a hfr
  refine wl_v hfr (by decide) (v_assign rfl) ?_
  clear hfr
  intro a hfr
  refine wl_nil (hK2 _ _ ?_)
  replace hfr : Fr 9 [(2, _)] [] a := hfr.pick [2]
  refine wc_ret ?_
  refine fin_ret hfr Tryd.results40 (resAre_tmp rfl resAre_nil) ?_
  exact ⟨by rfl, hst.ext⟩

/-- dialtone/dialtonelaw02.left -/
theorem left02_ok (n : Nat) (w0 : World) (h2 : 2 ≤ n) (hn : n ≤ 9223372036854775807) :
    Ret Tryd.prog 31 #[.int .i64 (n : Int)] w0 fun v w => v = .int .i64 (lft n : Int) ∧ Ext No w0 w := by
  refine ret_of Tryd.func31 rfl Tryd.ntmps31 (Nat.le_of_ble_eq_true rfl) fun a hfr => ?_
  replace hfr : Fr 12 [(0, _)] [] a := hfr
  replace hst : St No w0 [] w0 := St.init w0
  refine wc_seq_region fun K1 hK1 => ?_
  refine wl_v hfr (by decide) (v_assign rfl) ?_
  clear hfr
  intro a hfr
  refine wl_nil (hK1 _ _ ?_)
  refine wc_seq_region fun K2 hK2 => ?_
  refine wl_v hfr (by decide) (v_assign rfl) ?_
  clear hfr
  intro a hfr
  refine wl_nil (hK2 _ _ ?_)
  refine wc_seq_k fun K3 hK3 => ?_
  refine wc_block ?_
  refine wc_loop (fun m a w => ∃ (j : Nat) (q : Nat), m = n - q ∧ (2 ^ j = q) ∧ (0 < q) ∧ (q < n) ∧ Fr 12 [(0, .int .i64 (n : Int)), (2, .int .i64 0), (3, .int .i64 (q : Int))] [] a ∧ St No w0 [] w) _ ⟨0, 1, rfl, rfl, (by omega), (by omega), hfr.pick [0, 2, 3], hst.select [] (by decide)⟩ ?_
  rintro _ a w1 ⟨j, q, rfl, hq, hp, hj, hfr, hst⟩
  refine wc_seq_k fun K4 hK4 => ?_
  refine wc_seq_region fun K5 hK5 => ?_
  refine wl_v hfr (by decide) (v_move rfl) ?_
  clear hfr
  intro a hfr
  refine wl_v hfr (by decide) (v_move rfl) ?_
  clear hfr
  intro a hfr
  refine wl_v hfr (by decide) (v_move rfl) ?_
  clear hfr
  intro a hfr
  refine wl_v hfr (by decide) (v_sub rfl rfl ⟨by omega, by omega⟩) ?_
  clear hfr
  intro a hfr
  refine wl_v hfr (by decide) (v_lt rfl rfl) ?_
  clear hfr
  intro a hfr
  refine wl_nil (hK5 _ _ ?_)
  refine wc_cond hfr rfl (fun hc1 => ?_) (fun hc1 => ?_)
  · rw [hc1] at hfr
    try simp only [Bool.not_eq_true', Bool.not_eq_false', decide_eq_true_eq, decide_eq_false_iff_not] at hc1
    refine wc_skip ?_
    refine hK4 _ _ ?_
    refine wc_block ?_
    refine wc_region ?_
    refine wl_v hfr (by decide) (v_move rfl) ?_
    clear hfr
    intro a hfr
    refine wl_v hfr (by decide) ((v_mul rfl rfl ⟨by omega, by omega⟩).asi (m' := ((2 * q : Nat) : Int)) (by omega)) ?_
    clear hfr
    intro a hfr
    refine wl_v hfr (by decide) (v_assign rfl) ?_
    clear hfr
    intro a hfr
    refine wl_nil ?_
    refine ⟨_, ?_, j + 1, 2 * q, rfl, (by rw [Nat.pow_succ, hq, Nat.mul_comm]), (by omega), (by omega), hfr.pick [0, 2, 3], hst.select [] (by decide)⟩
    omega
  rw [hc1] at hfr
  try simp only [Bool.not_eq_true', Bool.not_eq_false', decide_eq_true_eq, decide_eq_false_iff_not] at hc1
  have hfin := lft_loop h2 hq hp (by omega) hj
  refine wc_exit ?_
  refine hK3 _ _ ?_
  refine wc_seq_region fun K6 hK6 => ?_
  refine wl_v hfr (by decide) (v_move rfl) ?_
  clear hfr
  intro a hfr
  refine wl_v hfr (by decide) (v_assign rfl) ?_
  clear hfr
  intro a hfr
  refine wl_nil (hK6 _ _ ?_)
  replace hfr : Fr 12 [(2, _)] [] a := hfr.pick [2]
  refine wc_ret ?_
  refine fin_ret hfr Tryd.results31 (resAre_tmp rfl resAre_nil) ?_
  exact ⟨by simp only [retv]; rw [hfin], hst.ext⟩

/-- dialtone/dialtoneref02.Left -/
theorem leftr_ok (n : Nat) (w0 : World) (h2 : 2 ≤ n) (hn : n ≤ 9223372036854775807) :
    Ret Tryd.prog 42 #[.int .i64 (n : Int)] w0 fun v w => v = .int .i64 (lft n : Int) ∧ Ext No w0 w := by
  refine ret_of Tryd.func42 rfl Tryd.ntmps42 (Nat.le_of_ble_eq_true rfl) fun a hfr => ?_
  replace hfr : Fr 12 [(0, _)] [] a := hfr
  replace hst : St No w0 [] w0 := St.init w0
  refine wc_seq_region fun K1 hK1 => ?_
  refine wl_v hfr (by decide) (v_assign rfl) ?_
  clear hfr
  intro a hfr
  refine wl_nil (hK1 _ _ ?_)
  refine wc_seq_region fun K2 hK2 => ?_
  refine wl_v hfr (by decide) (v_assign rfl) ?_
  clear hfr
  intro a hfr
  refine wl_nil (hK2 _ _ ?_)
  refine wc_seq_k fun K3 hK3 => ?_
  refine wc_block ?_
  refine wc_loop (fun m a w => ∃ (j : Nat) (q : Nat), m = n - q ∧ (2 ^ j = q) ∧ (0 < q) ∧ (q < n) ∧ Fr 12 [(0, .int .i64 (n : Int)), (2, .int .i64 0), (3, .int .i64 (q : Int))] [] a ∧ St No w0 [] w) _ ⟨0, 1, rfl, rfl, (by omega), (by omega), hfr.pick [0, 2, 3], hst.select [] (by decide)⟩ ?_
  rintro _ a w1 ⟨j, q, rfl, hq, hp, hj, hfr, hst⟩
  refine wc_seq_k fun K4 hK4 => ?_
  refine wc_seq_region fun K5 hK5 => ?_
  refine wl_v hfr (by decide) (v_move rfl) ?_
  clear hfr
  intro a hfr
  refine wl_v hfr (by decide) (v_move rfl) ?_
  clear hfr
  intro a hfr
  refine wl_v hfr (by decide) (v_move rfl) ?_
  clear hfr
  intro a hfr
  refine wl_v hfr (by decide) (v_sub rfl rfl ⟨by omega, by omega⟩) ?_
  clear hfr
  intro a hfr
  refine wl_v hfr (by decide) (v_lt rfl rfl) ?_
  clear hfr
  intro a hfr
  refine wl_nil (hK5 _ _ ?_)
  refine wc_cond hfr rfl (fun hc1 => ?_) (fun hc1 => ?_)
  · rw [hc1] at hfr
    try simp only [Bool.not_eq_true', Bool.not_eq_false', decide_eq_true_eq, decide_eq_false_iff_not] at hc1
    refine wc_skip ?_
    refine hK4 _ _ ?_
    refine wc_block ?_
    refine wc_region ?_
    refine wl_v hfr (by decide) (v_move rfl) ?_
    clear hfr
    intro a hfr
    refine wl_v hfr (by decide) ((v_mul rfl rfl ⟨by omega, by omega⟩).asi (m' := ((2 * q : Nat) : Int)) (by omega)) ?_
    clear hfr
    intro a hfr
    refine wl_v hfr (by decide) (v_assign rfl) ?_
    clear hfr
    intro a hfr
    refine wl_nil ?_
    refine ⟨_, ?_, j + 1, 2 * q, rfl, (by rw [Nat.pow_succ, hq, Nat.mul_comm]), (by omega), (by omega), hfr.pick [0, 2, 3], hst.select [] (by decide)⟩
    omega
  rw [hc1] at hfr
  try simp only [Bool.not_eq_true', Bool.not_eq_false', decide_eq_true_eq, decide_eq_false_iff_not] at hc1
  have hfin := lft_loop h2 hq hp (by omega) hj
  refine wc_exit ?_
  refine hK3 _ _ ?_
  refine wc_seq_region fun K6 hK6 => ?_
  refine wl_v hfr (by decide) (v_move rfl) ?_
  clear hfr
  intro a hfr
  refine wl_v hfr (by decide) (v_assign rfl) ?_
  clear hfr
  intro a hfr
  refine wl_nil (hK6 _ _ ?_)
  replace hfr : Fr 12 [(2, _)] [] a := hfr.pick [2]
  refine wc_ret ?_
  refine fin_ret hfr Tryd.results42 (resAre_tmp rfl resAre_nil) ?_
  exact ⟨by simp only [retv]; rw [hfin], hst.ext⟩

/-- dialtone/digest.isDigest -/
theorem isDigest_ok (s : List UInt8) (w0 : World) :
    Ret Tryd.prog 51 #[sv s] w0 fun v w => v = .bool (decide ((s.length : Int) = 32)) ∧ Ext No w0 w := by
  refine ret_of Tryd.func51 rfl Tryd.ntmps51 (Nat.le_of_ble_eq_true rfl) fun a hfr => ?_
  replace hfr : Fr 6 [(0, _)] [] a := hfr
  replace hst : St No w0 [] w0 := St.init w0
  refine wc_seq_region fun K1 hK1 => ?_
  refine wl_v hfr (by decide) (v_assign rfl) ?_
  clear hfr
  intro a hfr
  refine wl_nil (hK1 _ _ ?_)
  refine wc_seq_region fun K2 hK2 => ?_
  refine wl_v hfr (by decide) (v_move rfl) ?_
  clear hfr
  intro a hfr
  refine wl_v hfr (by decide) (v_len_str rfl rfl (Tryd.runUnderlying9 _)) ?_
  clear hfr
  intro a hfr
  refine wl_v hfr (by decide) (v_eq rfl rfl) ?_
  clear hfr
  intro a hfr
  refine wl_v hfr (by decide) (v_assign rfl) ?_
  clear hfr
  intro a hfr
  refine wl_nil (hK2 _ _ ?_)
  refine wc_ret ?_
  refine fin_ret hfr Tryd.results51 (resAre_tmp rfl resAre_nil) ?_
  exact ⟨by rfl, hst.ext⟩

/-- (dialtone/digest.side).join -/
theorem sjoin_ok (r : List UInt8) (first : Bool) (s : List UInt8) (w0 : World) (hr : r.length ≤ 40000000) (hs : s.length ≤ 40000000) (hk0 : (blk 0 (kOf.map wv) 88).ok w0) :
    Ret Tryd.prog 48 #[.agg #[sv r, .bool first], sv s] w0 fun v w => v = sv (sha (1 :: (if first then r ++ s else s ++ r))) ∧ Ext No w0 w := by
  refine ret_of Tryd.func48 rfl Tryd.ntmps48 (Nat.le_of_ble_eq_true rfl) fun a hfr => ?_
  replace hfr : Fr 15 [(0, _), (1, _)] [] a := hfr
  replace hst : St No w0 [] w0 := St.init w0
  refine wc_seq_region fun K1 hK1 => ?_
  refine wl_box hfr hst (by decide) rfl (cs := [sv r, .bool first]) rfl ?_
  clear hfr hst
  intro a w1 hfr hst
  refine wl_v hfr (by decide) (v_assign rfl) ?_
  clear hfr
  intro a hfr
  refine wl_nil (hK1 _ _ ?_)
  refine wc_seq_k fun K2 hK2 => ?_
  refine wc_seq_region fun K3 hK3 => ?_
  refine wl_v hfr (by decide) (v_fieldAddr (v := .pointer (some ⟨w0.heap.size, 1, none⟩)) rfl (by kernel_rfl)) ?_
  clear hfr
  intro a hfr
  refine wl_v hfr (by decide) (v_load_blk1 (hst.get (k := 0) rfl) rfl (Tryd.isAgg4 _) rfl) ?_
  clear hfr
  intro a hfr
  refine wl_nil (hK3 _ _ ?_)
  refine wc_cond hfr rfl (fun hc1 => ?_) (fun hc1 => ?_)
  · rw [hc1] at hfr
    try simp only [Bool.not_eq_true', Bool.not_eq_false', decide_eq_true_eq, decide_eq_false_iff_not] at hc1
    refine wc_seq_region fun K4 hK4 => ?_
    refine wl_v hfr (by decide) (v_fieldAddr (v := .pointer (some ⟨w0.heap.size, 0, none⟩)) rfl (by kernel_rfl)) ?_
    clear hfr
    intro a hfr
    refine wl_v hfr (by decide) (v_load_blk1 (hst.get (k := 0) rfl) rfl (Tryd.isAgg9 _) rfl) ?_
    clear hfr
    intro a hfr
    refine wl_v hfr (by decide) (v_move rfl) ?_
    clear hfr
    intro a hfr
    refine wl_callp hfr hst (by decide) Tryd.call32 rfl (node_ok r s _ (by omega) (by omega) (hst.keepb hk0)) ?_
    clear hfr hst
    intro a w2 hfr hst
    refine wl_v hfr (by decide) (v_assign rfl) ?_
    clear hfr
    intro a hfr
    refine wl_nil (hK4 _ _ ?_)
    replace hfr : Fr 15 [(1, _), (2, _), (4, _)] [] a := hfr.pick [1, 2, 4]
    refine wc_ret ?_
    refine fin_ret hfr Tryd.results48 (resAre_tmp rfl resAre_nil) ?_
    exact ⟨by simp_all [retv], hst.ext⟩
  rw [hc1] at hfr
  try simp only [Bool.not_eq_true', Bool.not_eq_false', decide_eq_true_eq, decide_eq_false_iff_not] at hc1
  refine wc_skip ?_
  refine hK2 _ _ ?_
  refine wc_seq_region fun K5 hK5 => ?_
  refine wl_v hfr (by decide) (v_move rfl) ?_
  clear hfr
  intro a hfr
  refine wl_v hfr (by decide) (v_fieldAddr (v := .pointer (some ⟨w0.heap.size, 0, none⟩)) rfl (by kernel_rfl)) ?_
  clear hfr
  intro a hfr
  refine wl_v hfr (by decide) (v_load_blk1 (hst.get (k := 0) rfl) rfl (Tryd.isAgg9 _) rfl) ?_
  clear hfr
  intro a hfr
  refine wl_callp hfr hst (by decide) Tryd.call32 rfl (node_ok s r _ (by omega) (by omega) (hst.keepb hk0)) ?_
  clear hfr hst
  intro a w3 hfr hst
  refine wl_v hfr (by decide) (v_assign rfl) ?_
  clear hfr
  intro a hfr
  refine wl_nil (hK5 _ _ ?_)
  replace hfr : Fr 15 [(4, _)] [] a := hfr.pick [4]
  replace hst : St No w0 [] w3 := hst.mask [false]
  refine wc_ret ?_
  refine fin_ret hfr Tryd.results48 (resAre_tmp rfl resAre_nil) ?_
  exact ⟨by simp_all [retv], hst.ext⟩
end Go.Proofs.YtmcoolbjgeibcaaDoor
namespace Go.Proofs.YtmcoolbjgeibcaaDoor
open Go.RowKit Go.PW
set_option linter.unusedVariables false
set_option linter.unusedSimpArgs false
set_option maxRecDepth 4000

def encB (xs : List By) (k : Nat) : List Value := [.int .i64 (k : Int), sv (xs.getD k [])]
def NxB (n : Nat) (pre : List Nat) (x : Nat) : Prop := x + 1 + pre.length = n
/-- The indexes that come first when a list of n is gone through backward. -/
def backs (n : Nat) : Nat → List Nat
  | 0 => []
  | j + 1 => backs n j ++ [n - 1 - j]
theorem backs_len (n j : Nat) : (backs n j).length = j := by
  induction j with
  | zero => rfl
  | succ j ih => rw [backs, List.length_append, ih]; rfl
theorem backs_fold {α β : Type} (f : β → α → β) (d : α) (xs : List α) : ∀ (j : Nat) (r : β), j ≤ xs.length → (backs xs.length j).foldl (fun o k => f o (xs.getD k d)) r = ((xs.drop (xs.length - j)).reverse).foldl f r
  | 0, r, h => by rw [Nat.sub_zero, List.drop_length]; rfl
  | j + 1, r, h => by
    rw [backs, List.foldl_append, backs_fold f d xs j r (by omega)]
    have hd : xs.drop (xs.length - (j + 1)) = xs.getD (xs.length - 1 - j) d :: xs.drop (xs.length - j) := by
      have hk : xs.length - (j + 1) < xs.length := by omega
      rw [List.drop_eq_getElem_cons hk, show xs.length - (j + 1) + 1 = xs.length - j from by omega, List.getD_eq_getElem?_getD, show xs.length - 1 - j = xs.length - (j + 1) from by omega, List.getElem?_eq_getElem hk]
      rfl
    rw [hd, List.reverse_cons, List.foldl_append]; rfl

/-- slices.Backward[[]string,string]$1 -/
theorem back_run {M : Nat → Prop} {w0 : World} (v : Value) (xs : List By) (lp b1 : Nat) (J Jx : List Nat → Ent → Prop) (hY : Rounds Tryd.prog lp (encB xs) (NxB xs.length) J Jx) (e0 : Ent) (ws : World) (hn : xs.length ≤ 1000000) (hJ : J [] e0) (hst : St M w0 [e0, blk b1 [v] 22, own v 9 1 (xs.map fun s => [sv s])] ws) :
    Ret Tryd.prog 60 #[.func (.yield lp) #[] #[], .pointer (some ⟨b1, 0, none⟩)] ws fun _ w => ∃ e1 Hi1, St M w0 (e1 :: Hi1) w ∧ ((∃ ys, (ys = backs xs.length xs.length ∧ Hi1 = [blk b1 [v] 22, own v 9 1 (xs.map fun s => [sv s])]) ∧ J ys e1) ∨ (∃ pre, Hi1 = [blk b1 [v] 22, own v 9 1 (xs.map fun s => [sv s])] ∧ Jx pre e1)) := by
  refine ret_of Tryd.func60 rfl Tryd.ntmps60 (Nat.le_of_ble_eq_true rfl) fun a hfr => ?_
  replace hfr : Fr 19 [(0, _), (1, _)] [] a := hfr
  skip
  refine wc_seq_region fun K1 hK1 => ?_
  refine wl_v hfr (by decide) (v_load_blk1 (hst.get (k := 1) rfl) rfl (Tryd.isAgg22 _) rfl) ?_
  clear hfr
  intro a hfr
  refine wl_v hfr (by decide) ((v_len_sl (sT := 22) (hst.ownAt (i := 2) rfl) rfl rfl (Tryd.runUnderlying22 _)).asi (m' := (xs.length : Int)) (by simp)) ?_
  clear hfr
  intro a hfr
  refine wl_v hfr (by decide) (v_sub rfl rfl ⟨by omega, by omega⟩) ?_
  clear hfr
  intro a hfr
  refine wl_v hfr (by decide) (v_assign rfl) ?_
  clear hfr
  intro a hfr
  refine wl_nil (hK1 _ _ ?_)
  refine wc_block ?_
  rw [show (xs.length : Int) - 1 = (xs.length : Int) - 1 - ((0 : Nat) : Int) from by omega] at hfr
  refine wc_loop (fun m a w => ∃ (j : Nat) (e : Ent), m = xs.length - j ∧ (j ≤ xs.length) ∧ (J (backs xs.length j) e) ∧ Fr 19 [(0, .func (.yield lp) #[] #[]), (1, .pointer (some ⟨b1, 0, none⟩)), (3, .int .i64 ((xs.length : Int) - 1 - (j : Int)))] [] a ∧ St M w0 [e, blk b1 [v] 22, own v 9 1 (xs.map fun s => [sv s])] w) _ ⟨0, e0, rfl, Nat.zero_le _, hJ, hfr.pick [0, 1, 3], hst⟩ ?_
  rintro _ a w1 ⟨j, e, rfl, hj, hJ, hfr, hst⟩
  refine wc_seq_k fun K2 hK2 => ?_
  refine wc_seq_region fun K3 hK3 => ?_
  refine wl_v hfr (by decide) (v_move rfl) ?_
  clear hfr
  intro a hfr
  refine wl_v hfr (by decide) (v_ge rfl rfl) ?_
  clear hfr
  intro a hfr
  refine wl_nil (hK3 _ _ ?_)
  refine wc_cond hfr rfl (fun hc1 => ?_) (fun hc1 => ?_)
  · rw [hc1] at hfr
    try simp only [Bool.not_eq_true', Bool.not_eq_false', decide_eq_true_eq, decide_eq_false_iff_not] at hc1
    have hjl : j < xs.length := by omega
    refine wc_skip ?_
    refine hK2 _ _ ?_
    refine wc_seq_k fun K4 hK4 => ?_
    refine wc_block ?_
    have hidx : (xs.length : Int) - 1 - (j : Int) = ((xs.length - 1 - j : Nat) : Int) := by omega
    refine wc_seq_region fun K5 hK5 => ?_
    refine wl_v hfr (by decide) (v_move rfl) ?_
    clear hfr
    intro a hfr
    refine wl_v hfr (by decide) (v_move rfl) ?_
    clear hfr
    intro a hfr
    refine wl_v hfr (by decide) (v_load_blk1 (hst.get (k := 1) rfl) rfl (Tryd.isAgg22 _) rfl) ?_
    clear hfr
    intro a hfr
    refine wl_v hfr (by decide) (v_move rfl) ?_
    clear hfr
    intro a hfr
    refine wl_v hfr (by decide) ((v_indexAddr_sl (i := (xs.length : Int) - 1 - (j : Int)) (sT := 22) (hst.ownAt (i := 2) rfl) rfl rfl (Tryd.runUnderlying22 _) (Tryd.sizeOf9 _) (by omega) (by simp; omega)).as (v' := slAddr v ((xs.length - 1 - j) * 1)) (by rw [show ((xs.length : Int) - 1 - (j : Int)).toNat = (xs.length - 1 - j) from by omega])) ?_
    clear hfr
    intro a hfr
    refine wl_v hfr (by decide) (v_load_sl1 (u := sv (xs.getD (xs.length - 1 - j) [])) (i := (xs.length - 1 - j)) (j := 0) (hst.ownAt (i := 2) rfl) (by simp; omega) rfl (Tryd.isAgg9 _) (by simp [List.getD_eq_getElem?_getD, List.getElem?_eq_getElem (show (xs.length - 1 - j) < xs.length by omega)])) ?_
    clear hfr
    intro a hfr
    rw [hidx] at hfr
    refine wl_r (r_yield rfl rfl (hY.yield (pre := backs xs.length j) (x := xs.length - 1 - j) (by show xs.length - 1 - j + 1 + (backs xs.length j).length = xs.length; rw [backs_len]; omega) hJ (hst.get (k := 0) rfl) (fun b hb => hst.lt (k := 0) rfl hb))) rfl rfl hfr ?_
    clear hfr
    intro a v w2 hR hfr
    obtain ⟨y2, e3, rfl, hx, hok, hft, hJt, hJf⟩ := hR
    replace hst := hst.exchange (k := 0) rfl hx hok hft
    replace hst : St M w0 [e3, blk b1 [v] 22, own v 9 1 (xs.map fun s => [sv s])] w2 := hst
    clear hx hok hft
    refine wl_v hfr (by decide) (v_not rfl) ?_
    clear hfr
    intro a hfr
    refine wl_nil (hK5 _ _ ?_)
    replace hfr : Fr 19 [(0, _), (1, _), (3, _), (18, _)] [] a := hfr.pick [0, 1, 3, 18]
    refine wc_cond hfr rfl (fun hc4 => ?_) (fun hc4 => ?_)
    · rw [hc4] at hfr
      try simp only [Bool.not_eq_true', Bool.not_eq_false', decide_eq_true_eq, decide_eq_false_iff_not] at hc4
      have hJ := hJf hc4
      refine wc_ret ?_
      refine fin_ret hfr Tryd.results60 resAre_nil ?_
      exact ⟨_, _, hst, .inr ⟨_, rfl, hJ⟩⟩
    rw [hc4] at hfr
    try simp only [Bool.not_eq_true', Bool.not_eq_false', decide_eq_true_eq, decide_eq_false_iff_not] at hc4
    have hJ := hJt hc4
    refine wc_skip ?_
    refine hK4 _ _ ?_
    refine wc_region ?_
    refine wl_v hfr (by decide) (v_move rfl) ?_
    clear hfr
    intro a hfr
    refine wl_v hfr (by decide) (v_sub rfl rfl ⟨by omega, by omega⟩) ?_
    clear hfr
    intro a hfr
    refine wl_v hfr (by decide) (v_assign rfl) ?_
    clear hfr
    intro a hfr
    refine wl_nil ?_
    rw [show ((xs.length - 1 - j : Nat) : Int) - 1 = (xs.length : Int) - 1 - ((j + 1 : Nat) : Int) from by omega] at hfr
    refine ⟨_, ?_, j + 1, e3, rfl, (by omega), hJ, hfr.pick [0, 1, 3], hst⟩
    omega
  rw [hc1] at hfr
  try simp only [Bool.not_eq_true', Bool.not_eq_false', decide_eq_true_eq, decide_eq_false_iff_not] at hc1
  obtain rfl : j = xs.length := by omega
  refine wc_exit ?_
  refine fin_end hfr Tryd.results60 resAre_nil ?_
  exact ⟨_, _, hst, .inl ⟨_, ⟨rfl, rfl⟩, hJ⟩⟩

theorem back_iter {M : Nat → Prop} {w0 : World} (v : Value) (xs : List By) (b1 : Nat) (hn : xs.length ≤ 1000000) :
    Iter Tryd.prog 60 [.pointer (some ⟨b1, 0, none⟩)] (encB xs) (NxB xs.length) (fun ys Hi => ys = backs xs.length xs.length ∧ Hi = [blk b1 [v] 22, own v 9 1 (xs.map fun s => [sv s])]) (fun pre Hi => Hi = [blk b1 [v] 22, own v 9 1 (xs.map fun s => [sv s])]) M w0 [blk b1 [v] 22, own v 9 1 (xs.map fun s => [sv s])] :=
  fun lp J Jx w e hY hJ hst => back_run v xs lp b1 J Jx hY e w hn hJ hst

/-- slices.Backward[[]string,string] -/
theorem back_ok (v : Value) (els : List (List Value)) (w0 : World) (hv : SlAt w0 v 1 els) :
    Ret Tryd.prog 44 #[v] w0 (MemR w0 (fun z : Nat => .func (.func 60) #[] #[.pointer (some ⟨z, 0, none⟩)]) (fun z => [blk z [v] 22]) (fun _ => True)) := by
  refine ret_of Tryd.func44 rfl Tryd.ntmps44 (Nat.le_of_ble_eq_true rfl) fun a hfr => ?_
  replace hfr : Fr 4 [(0, _)] [] a := hfr
  replace hst : St No w0 [] w0 := St.init w0
  refine wc_seq_region fun K1 hK1 => ?_
  refine wl_box hfr hst (by decide) rfl (cs := [v]) (by rw [(hst.arg hv).cells]) ?_
  clear hfr hst
  intro a w1 hfr hst
  refine wl_v hfr (by decide) (v_assign rfl) ?_
  clear hfr
  intro a hfr
  refine wl_nil (hK1 _ _ ?_)
  refine wc_seq_region fun K2 hK2 => ?_
  refine wl_v hfr (by decide) (v_makeFunc rfl rfl) ?_
  clear hfr
  intro a hfr
  refine wl_v hfr (by decide) (v_assign rfl) ?_
  clear hfr
  intro a hfr
  refine wl_nil (hK2 _ _ ?_)
  refine wc_ret ?_
  refine fin_ret hfr Tryd.results44 (resAre_tmp rfl resAre_nil) ?_
  exact ⟨w0.heap.size, rfl, trivial, hst.ext, St.out (H := []) hst⟩
end Go.Proofs.YtmcoolbjgeibcaaDoor
namespace Go.Proofs.YtmcoolbjgeibcaaDoor
open Go.RowKit Go.PW
set_option linter.unusedVariables false
set_option linter.unusedSimpArgs false
set_option maxRecDepth 4000

/-- slices.IndexFunc[[]string,string]: the first index at which the closure says yes. -/
theorem indexS_ok {M : Nat → Prop} {wb : World} {H : List Ent} {sv : Value} {els : List (List Value)} {caps : List Value} {g : FuncId} (p : Nat → Bool) (ev_ : Nat → Value) (J : Nat → Ent → Prop) (e0 : Ent) (w0 : World)
    (hen : ∀ args w, (callFunc g args).run Tryd.prog w = .ok (.enter g args) w) (hs : ∀ e w, St M wb (e :: H) w → SlAt w sv 1 els)
    (hev : ∀ k (h : k < els.length), (els[k])[0]? = some (ev_ k)) (hJ0 : J 0 e0) (hst : St M wb (e0 :: H) w0)
    (hcl : ∀ k e w, k < els.length → J k e → e.ok w → (∀ b, e.foot b → b < w.heap.size) → Ret Tryd.prog g ([ev_ k] ++ caps).toArray w fun v w' => v = .bool (p k) ∧ ∃ e', Ext e.foot w w' ∧ e'.ok w' ∧ (∀ b, e'.foot b → b < w'.heap.size ∧ (e.foot b ∨ w.heap.size ≤ b)) ∧ J (k + 1) e') :
    Ret Tryd.prog 73 #[sv, .func (.func g) #[] caps.toArray] w0 fun v w => v = .int .i64 (fstIdx p els.length) ∧ ∃ k e', J k e' ∧ St M wb (e' :: H) w := by
  have hsl := (hs _ _ hst).le
  refine ret_of Tryd.func73 rfl Tryd.ntmps73 (Nat.le_of_ble_eq_true rfl) fun a hfr => ?_
  have hfr : Fr 19 [(0, _), (1, _)] [] a := hfr
  refine wc_seq_region fun K1 hK1 => ?_
  refine wl_v hfr (by decide) (v_assign rfl) fun a hfr => ?_
  refine wl_nil (hK1 _ _ ?_)
  refine wc_seq_k fun K2 hK2 => ?_
  refine wc_seq_region fun K3 hK3 => ?_
  refine wl_v hfr (by decide) (v_move rfl) fun a hfr => ?_
  refine wl_v hfr (by decide) (v_len_sl (sT := 22) (hs _ _ hst) rfl rfl (Tryd.runUnderlying22 _)) fun a hfr => ?_
  refine wl_v hfr (by decide) (v_move rfl) fun a hfr => ?_
  refine wl_nil (hK3 _ _ ?_)
  refine wc_block ?_
  refine wc_loop (fun m a w => ∃ (k : Nat) (e : Ent), m = els.length - k ∧ (k ≤ els.length) ∧ (∀ j, j < k → p j = false) ∧ (J k e) ∧ Fr 19 [(0, sv), (1, .func (.func g) #[] caps.toArray), (6, sv), (7, .int .i64 els.length), (8, .int .i64 (k : Int))] [] a ∧ St M wb (e :: H) w) _ ⟨0, e0, rfl, Nat.zero_le _, (by intro j hj; omega), hJ0, hfr.pick [0, 1, 6, 7, 8], hst⟩ ?_
  rintro _ a w1 ⟨k, e, rfl, hk, hp, hJ, hfr, hst⟩
  refine wc_seq_region fun K4 hK4 => ?_
  refine wl_v hfr (by decide) (v_lt rfl rfl) fun a hfr => ?_
  refine wl_nil (hK4 _ _ ?_)
  refine wc_seq_k fun K5 hK5 => ?_
  refine wc_cond hfr rfl (fun hc1 => ?_) (fun hc1 => ?_)
  · rw [hc1] at hfr
    try simp only [Bool.not_eq_true', Bool.not_eq_false', decide_eq_true_eq, decide_eq_false_iff_not] at hc1
    refine wc_skip ?_
    refine hK5 _ _ ?_
    refine wc_seq_k fun K6 hK6 => ?_
    refine wc_block ?_
    refine wc_seq_region fun K7 hK7 => ?_
    refine wl_v hfr (by decide) (v_move rfl) fun a hfr => ?_
    refine wl_v hfr (by decide) (v_assign rfl) fun a hfr => ?_
    refine wl_nil (hK7 _ _ ?_)
    refine wc_seq_region fun K8 hK8 => ?_
    refine wl_v hfr (by decide) (v_move rfl) fun a hfr => ?_
    refine wl_v hfr (by decide) (v_move rfl) fun a hfr => ?_
    refine wl_v hfr (by decide) (v_move rfl) fun a hfr => ?_
    refine wl_v hfr (by decide) ((v_indexAddr_sl (i := (k : Int)) (sT := 22) (hs _ _ hst) rfl rfl (Tryd.runUnderlying22 _) (Tryd.sizeOf9 _) (by omega) (by omega)).as (v' := slAddr sv (k * 1)) rfl) fun a hfr => ?_
    refine wl_v hfr (by decide) ((v_load_sl1 (u := ev_ k) (i := k) (j := 0) (hs _ _ hst) (by omega) rfl (Tryd.isAgg9 _) (hev k (by omega)))) fun a hfr => ?_
    refine wl_r (r_callv (cap := caps) rfl hen rfl (hcl k _ _ (by omega) hJ (hst.get (k := 0) rfl) (fun b hb => hst.lt (k := 0) rfl hb))) rfl rfl hfr fun a v w2 hR hfr => ?_
    obtain ⟨rfl, e1, hx, hok, hft, hJ1⟩ := hR
    have hst := hst.exchange (k := 0) rfl hx hok hft
    have hst : St M wb (e1 :: H) w2 := hst
    refine wl_nil (hK8 _ _ ?_)
    refine wc_cond hfr rfl (fun hc2 => ?_) (fun hc2 => ?_)
    · rw [hc2] at hfr
      try simp only [Bool.not_eq_true', Bool.not_eq_false', decide_eq_true_eq, decide_eq_false_iff_not] at hc2
      refine wc_seq_region fun K9 hK9 => ?_
      refine wl_v hfr (by decide) (v_move rfl) fun a hfr => ?_
      refine wl_v hfr (by decide) (v_assign rfl) fun a hfr => ?_
      refine wl_nil (hK9 _ _ ?_)
      refine wc_ret ?_
      refine fin_ret hfr Tryd.results73 (resAre_tmp rfl resAre_nil) ?_
      exact ⟨by rw [fstIdx_some (k := k) (by omega) hp (by assumption)]; rfl, _, _, hJ1, hst⟩
    rw [hc2] at hfr
    try simp only [Bool.not_eq_true', Bool.not_eq_false', decide_eq_true_eq, decide_eq_false_iff_not] at hc2
    refine wc_skip ?_
    refine hK6 _ _ ?_
    refine wc_region ?_
    refine wl_v hfr (by decide) (v_add rfl rfl ⟨by omega, by omega⟩) fun a hfr => ?_
    refine wl_v hfr (by decide) (v_move rfl) fun a hfr => ?_
    refine wl_nil ?_
    refine ⟨_, ?_, k + 1, e1, rfl, (by omega), (by intro j hj; by_cases h : j = k; (subst h; assumption); exact hp j (by omega)), hJ1, hfr.pick [0, 1, 6, 7, 8], hst⟩
    omega
  rw [hc1] at hfr
  try simp only [Bool.not_eq_true', Bool.not_eq_false', decide_eq_true_eq, decide_eq_false_iff_not] at hc1
  refine wc_exit ?_
  refine hK2 _ _ ?_
  refine wc_seq_region fun K10 hK10 => ?_
  refine wl_v hfr (by decide) (v_assign rfl) fun a hfr => ?_
  refine wl_nil (hK10 _ _ ?_)
  refine wc_ret ?_
  refine fin_ret hfr Tryd.results73 (resAre_tmp rfl resAre_nil) ?_
  have hkl : k = els.length := by omega
  subst hkl
  exact ⟨by rw [fstIdx_none hp]; rfl, _, _, hJ, hst⟩

/-- slices.ContainsFunc[[]string,string]: does the closure say yes anywhere? -/
theorem containsS_ok {M : Nat → Prop} {wb : World} {H : List Ent} {sv : Value} {els : List (List Value)} {caps : List Value} {g : FuncId} (p : Nat → Bool) (ev_ : Nat → Value) (J : Nat → Ent → Prop) (e0 : Ent) (w0 : World)
    (hen : ∀ args w, (callFunc g args).run Tryd.prog w = .ok (.enter g args) w) (hs : ∀ e w, St M wb (e :: H) w → SlAt w sv 1 els)
    (hev : ∀ k (h : k < els.length), (els[k])[0]? = some (ev_ k)) (hJ0 : J 0 e0) (hst : St M wb (e0 :: H) w0)
    (hcl : ∀ k e w, k < els.length → J k e → e.ok w → (∀ b, e.foot b → b < w.heap.size) → Ret Tryd.prog g ([ev_ k] ++ caps).toArray w fun v w' => v = .bool (p k) ∧ ∃ e', Ext e.foot w w' ∧ e'.ok w' ∧ (∀ b, e'.foot b → b < w'.heap.size ∧ (e.foot b ∨ w.heap.size ≤ b)) ∧ J (k + 1) e') :
    Ret Tryd.prog 62 #[sv, .func (.func g) #[] caps.toArray] w0 fun v w => v = .bool ((List.range els.length).any p) ∧ ∃ k e', J k e' ∧ St M wb (e' :: H) w := by
  refine ret_of Tryd.func62 rfl Tryd.ntmps62 (Nat.le_of_ble_eq_true rfl) fun a hfr => ?_
  have hfr : Fr 9 [(0, _), (1, _)] [] a := hfr
  refine wc_seq_region fun K1 hK1 => ?_
  refine wl_v hfr (by decide) (v_assign rfl) fun a hfr => ?_
  refine wl_nil (hK1 _ _ ?_)
  refine wc_seq_region fun K2 hK2 => ?_
  refine wl_v hfr (by decide) (v_move rfl) fun a hfr => ?_
  refine wl_v hfr (by decide) (v_move rfl) fun a hfr => ?_
  refine wl_r (r_call Tryd.call73 rfl (indexS_ok p ev_ J e0 _ hen hs hev hJ0 hst hcl)) rfl rfl hfr fun a v w1 hR hfr => ?_
  obtain ⟨rfl, kk, e1, hJ1, hst⟩ := hR
  refine wl_v hfr (by decide) (v_ge rfl rfl) fun a hfr => ?_
  refine wl_v hfr (by decide) (v_assign rfl) fun a hfr => ?_
  refine wl_nil (hK2 _ _ ?_)
  refine wc_ret ?_
  refine fin_ret hfr Tryd.results62 (resAre_tmp rfl resAre_nil) ?_
  exact ⟨by rw [fstIdx_any]; rfl, _, _, hJ1, hst⟩

/-- dialtone/digest.all$1 -/
theorem odd_ok (s : List UInt8) (w0 : World) :
    Ret Tryd.prog 61 #[sv s] w0 fun v w => v = .bool (!decide ((s.length : Int) = 32)) ∧ Ext No w0 w := by
  refine ret_of Tryd.func61 rfl Tryd.ntmps61 (Nat.le_of_ble_eq_true rfl) fun a hfr => ?_
  replace hfr : Fr 6 [(0, _)] [] a := hfr
  replace hst : St No w0 [] w0 := St.init w0
  refine wc_seq_region fun K1 hK1 => ?_
  refine wl_v hfr (by decide) (v_assign rfl) ?_
  clear hfr
  intro a hfr
  refine wl_nil (hK1 _ _ ?_)
  refine wc_seq_region fun K2 hK2 => ?_
  refine wl_v hfr (by decide) (v_move rfl) ?_
  clear hfr
  intro a hfr
  refine wl_callp hfr hst (by decide) Tryd.call51 rfl (isDigest_ok s _) ?_
  clear hfr hst
  intro a w1 hfr hst
  refine wl_v hfr (by decide) (v_not rfl) ?_
  clear hfr
  intro a hfr
  refine wl_v hfr (by decide) (v_assign rfl) ?_
  clear hfr
  intro a hfr
  refine wl_nil (hK2 _ _ ?_)
  refine wc_ret ?_
  refine fin_ret hfr Tryd.results61 (resAre_tmp rfl resAre_nil) ?_
  exact ⟨by rfl, hst.ext⟩

theorem st_none {w0 : World} : St No w0 [PW.join []] w0 := by
  have := St.joinTail (M := No) (w0 := w0) (w := w0) [] [] (St.init w0)
  exact this
theorem all_call (lv : Value) (xs : List By) (w0 : World) (h : SlAt w0 lv 1 (xs.map fun s => [sv s])) : Ret Tryd.prog 62 #[lv, .func (.func 61) #[] #[]] w0 fun v w => v = .bool ((List.range xs.length).any fun k => !decide (((xs.getD k []).length : Int) = 32)) ∧ Ext No w0 w := by
  refine (containsS_ok (M := No) (wb := w0) (H := []) (sv := lv) (els := xs.map fun s => [sv s]) (caps := []) (g := 61) (fun k => !decide (((xs.getD k []).length : Int) = 32)) (fun k => sv (xs.getD k [])) (fun _ e => e = PW.join []) (PW.join []) w0 Tryd.call61 (fun e w hst => h.grow hst.ext) (fun k hk => ?_) rfl st_none (fun k e w hk he hok hf => ?_)).mono ?_
  · have hk' : k < xs.length := by simpa using hk
    simp [List.getD_eq_getElem?_getD, List.getElem?_eq_getElem hk']
  · subst he
    refine (odd_ok (xs.getD k []) w).mono ?_
    rintro v w' ⟨hv, hx⟩
    exact ⟨hv, PW.join [], hx.mono (fun b _ h => h.elim), (st_none (w0 := w')).get (k := 0) rfl, fun b hb => by obtain ⟨e, he, _⟩ := hb; simp at he, rfl⟩
  · rintro v w ⟨hv, k, e', hJ, hst⟩
    exact ⟨by rw [hv, List.length_map], hst.ext⟩
theorem all_len (xs : List By) : (!(List.range xs.length).any fun k => !decide (((xs.getD k []).length : Int) = 32)) = xs.all fun s => decide (s.length = 32) := by
  rw [Bool.eq_iff_iff]
  simp only [Bool.not_eq_true', List.any_eq_false, List.mem_range, Bool.not_eq_true, Bool.not_eq_false', decide_eq_true_eq, List.all_eq_true]
  constructor
  · intro h s hs
    obtain ⟨k, hk, rfl⟩ := List.getElem_of_mem hs
    have := h k hk
    rw [List.getD_eq_getElem?_getD, List.getElem?_eq_getElem hk] at this
    simp at this
    omega
  · intro h k hk
    have := h xs[k] (List.getElem_mem hk)
    rw [List.getD_eq_getElem?_getD, List.getElem?_eq_getElem hk]
    simp [this]

/-- dialtone/digest.all -/
theorem all_ok (lv : Value) (xs : List By) (w0 : World) (hlv : SlAt w0 lv 1 (xs.map fun s => [sv s])) :
    Ret Tryd.prog 45 #[lv] w0 fun v w => v = .bool (xs.all fun s => decide (s.length = 32)) ∧ Ext No w0 w := by
  refine ret_of Tryd.func45 rfl Tryd.ntmps45 (Nat.le_of_ble_eq_true rfl) fun a hfr => ?_
  replace hfr : Fr 8 [(0, _)] [] a := hfr
  replace hst : St No w0 [] w0 := St.init w0
  refine wc_seq_region fun K1 hK1 => ?_
  refine wl_v hfr (by decide) (v_assign rfl) ?_
  clear hfr
  intro a hfr
  refine wl_nil (hK1 _ _ ?_)
  refine wc_seq_region fun K2 hK2 => ?_
  refine wl_v hfr (by decide) (v_assign rfl) ?_
  clear hfr
  intro a hfr
  refine wl_nil (hK2 _ _ ?_)
  refine wc_seq_region fun K3 hK3 => ?_
  refine wl_v hfr (by decide) (v_move rfl) ?_
  clear hfr
  intro a hfr
  refine wl_v hfr (by decide) (v_move rfl) ?_
  clear hfr
  intro a hfr
  refine wl_callp hfr hst (by decide) Tryd.call62 rfl (all_call lv xs _ (hst.arg hlv)) ?_
  clear hfr hst
  intro a w1 hfr hst
  refine wl_v hfr (by decide) (v_not rfl) ?_
  clear hfr
  intro a hfr
  refine wl_v hfr (by decide) (v_assign rfl) ?_
  clear hfr
  intro a hfr
  refine wl_nil (hK3 _ _ ?_)
  replace hfr : Fr 8 [(2, _)] [] a := hfr.pick [2]
  refine wc_ret ?_
  refine fin_ret hfr Tryd.results45 (resAre_tmp rfl resAre_nil) ?_
  exact ⟨by simp only [retv]; rw [← all_len], hst.ext⟩
end Go.Proofs.YtmcoolbjgeibcaaDoor
namespace Go.Proofs.YtmcoolbjgeibcaaDoor
open Go.RowKit Go.PW
set_option linter.unusedVariables false
set_option linter.unusedSimpArgs false
set_option maxRecDepth 4000

/-- dialtone/digest.take -/
theorem take_nil (w0 : World) :
    Ret Tryd.prog 46 #[.slice none 0 0] w0 fun v w => v = .tuple #[sv [], .slice none 0 0, .bool false] ∧ Ext No w0 w := by
  refine ret_of Tryd.func46 rfl Tryd.ntmps46 (Nat.le_of_ble_eq_true rfl) fun a hfr => ?_
  replace hfr : Fr 19 [(0, _)] [] a := hfr
  replace hst : St No w0 [] w0 := St.init w0
  refine wc_seq_region fun K1 hK1 => ?_
  refine wl_v hfr (by decide) (v_assign rfl) ?_
  clear hfr
  intro a hfr
  refine wl_v hfr (by decide) (v_assign rfl) ?_
  clear hfr
  intro a hfr
  refine wl_v hfr (by decide) (v_assign rfl) ?_
  clear hfr
  intro a hfr
  refine wl_nil (hK1 _ _ ?_)
  refine wc_seq_k fun K2 hK2 => ?_
  refine wc_seq_region fun K3 hK3 => ?_
  refine wl_v hfr (by decide) (v_move rfl) ?_
  clear hfr
  intro a hfr
  refine wl_v hfr (by decide) (v_builtin (v := .int .i64 0) rfl (by kernel_rfl)) ?_
  clear hfr
  intro a hfr
  refine wl_v hfr (by decide) ((v_eq rfl rfl).asb (b' := true) rfl) ?_
  clear hfr
  intro a hfr
  refine wl_nil (hK3 _ _ ?_)
  refine wc_cond_t hfr rfl ?_
  refine wc_seq_region fun K4 hK4 => ?_
  refine wl_v hfr (by decide) (v_assign rfl) ?_
  clear hfr
  intro a hfr
  refine wl_v hfr (by decide) (v_assign rfl) ?_
  clear hfr
  intro a hfr
  refine wl_v hfr (by decide) (v_assign rfl) ?_
  clear hfr
  intro a hfr
  refine wl_nil (hK4 _ _ ?_)
  refine wc_ret ?_
  refine fin_ret hfr Tryd.results46 (resAre_tmp rfl (resAre_tmp rfl (resAre_tmp rfl resAre_nil))) ?_
  exact ⟨by rfl, hst.ext⟩

/-- dialtone/digest.take -/
theorem take_ok (lv : Value) (xs : List By) (w0 : World) (hlv : SlAt w0 lv 1 (xs.map fun s => [sv s])) (h0 : 0 < xs.length) :
    Ret Tryd.prog 46 #[lv] w0 fun v w => v = .tuple #[sv (xs.getD (xs.length - 1) []), cut lv 1 0 (xs.length - 1) (slCap lv), .bool true] ∧ Ext No w0 w := by
  have hnb := hlv.le
  rw [List.length_map] at hnb
  refine ret_of Tryd.func46 rfl Tryd.ntmps46 (Nat.le_of_ble_eq_true rfl) fun a hfr => ?_
  replace hfr : Fr 19 [(0, _)] [] a := hfr
  replace hst : St No w0 [] w0 := St.init w0
  refine wc_seq_region fun K1 hK1 => ?_
  refine wl_v hfr (by decide) (v_assign rfl) ?_
  clear hfr
  intro a hfr
  refine wl_v hfr (by decide) (v_assign rfl) ?_
  clear hfr
  intro a hfr
  refine wl_v hfr (by decide) (v_assign rfl) ?_
  clear hfr
  intro a hfr
  refine wl_nil (hK1 _ _ ?_)
  refine wc_seq_k fun K2 hK2 => ?_
  refine wc_seq_region fun K3 hK3 => ?_
  refine wl_v hfr (by decide) (v_move rfl) ?_
  clear hfr
  intro a hfr
  refine wl_v hfr (by decide) ((v_len_sl (sT := 22) (hst.arg hlv) rfl rfl (Tryd.runUnderlying22 _)).asi (m' := (xs.length : Int)) (by simp)) ?_
  clear hfr
  intro a hfr
  refine wl_v hfr (by decide) ((v_eq rfl rfl).asb (b' := false) (by rw [decide_eq_false_iff_not]; omega)) ?_
  clear hfr
  intro a hfr
  refine wl_nil (hK3 _ _ ?_)
  refine wc_cond_f hfr rfl ?_
  refine wc_skip ?_
  refine hK2 _ _ ?_
  refine wc_seq_region fun K4 hK4 => ?_
  refine wl_v hfr (by decide) (v_move rfl) ?_
  clear hfr
  intro a hfr
  refine wl_v hfr (by decide) ((v_len_sl (sT := 22) (hst.arg hlv) rfl rfl (Tryd.runUnderlying22 _)).asi (m' := (xs.length : Int)) (by simp)) ?_
  clear hfr
  intro a hfr
  refine wl_v hfr (by decide) (v_sub rfl rfl ⟨by omega, by omega⟩) ?_
  clear hfr
  intro a hfr
  refine wl_v hfr (by decide) (v_assign rfl) ?_
  clear hfr
  intro a hfr
  refine wl_nil (hK4 _ _ ?_)
  replace hfr : Fr 19 [(0, _), (2, _), (3, _), (4, _), (5, _)] [] a := hfr.pick [0, 2, 3, 4, 5]
  refine wc_seq_k fun K5 hK5 => ?_
  refine wc_of_dr (by kernel_rfl) (dr_of_wd (by kernel_rfl) fun w1 hxz => ?_)
  replace hst : St No w0 [] w1 := hst.grow hxz
  refine wd_sub (k := 0) 8 [6, 7] hfr (by kernel_rfl) (by kernel_rfl) (by kernel_rfl) (by rfl) ?_
  replace hfr : Fr 19 [(0, _), (3, _), (4, _), (5, _)] [] a := hfr.pick [0, 3, 4, 5]
  refine wc_phases_q [] (fun i => match i with | _ => fun _ _ => False) 8 [[], [], [0, 1], [2], [], [], [4, 5], [3]] [lv, .int .i64 ((xs.length : Int) - 1), slAddr lv ((xs.length - 1) * 1), sv (xs.getD (xs.length - 1) []), lv, .int .i64 ((xs.length : Int) - 1), (cut lv 1 0 (xs.length - 1) (slCap lv)), sv (xs.getD (xs.length - 1) [])] hfr hst (by kernel_rfl) (by kernel_rfl) (by kernel_rfl) ?_ ?_ ?_
  · intro i hi hiq
    match i, hi, hiq with
    | 0, _, _ =>
      intro w hst
      exact OpV.g (v_move rfl)
    | 1, _, _ =>
      intro w hst
      exact OpV.g (v_move rfl)
    | 2, _, _ =>
      intro w hst
      exact OpV.g ((v_indexAddr_sl (i := (xs.length : Int) - 1) (sT := 22) (hst.arg hlv) rfl rfl (Tryd.runUnderlying22 _) (Tryd.sizeOf9 _) (by omega) (by simp; omega)).as (v' := slAddr lv ((xs.length - 1) * 1)) (by rw [show ((xs.length : Int) - 1).toNat = (xs.length - 1) from by omega]))
    | 3, _, _ =>
      intro w hst
      exact OpV.g (v_load_sl1 (u := sv (xs.getD (xs.length - 1) [])) (i := (xs.length - 1)) (j := 0) (hst.arg hlv) (by simp; omega) rfl (Tryd.isAgg9 _) (by simp [List.getD_eq_getElem?_getD, List.getElem?_eq_getElem (show (xs.length - 1) < xs.length by omega)]))
    | 4, _, _ =>
      intro w hst
      exact OpV.g (v_move rfl)
    | 5, _, _ =>
      intro w hst
      exact OpV.g (v_move rfl)
    | 6, _, _ =>
      intro w hst
      exact OpV.g (v_slice_at (l := 0) (h := (xs.length - 1)) (hst.arg hlv) rfl rfl rfl Tryd.underlying22 (by kernel_rfl) (.inl ⟨rfl, rfl⟩) (.inr (by rw [show ((xs.length : Int) - 1 : Int) = (((xs.length - 1) : Nat) : Int) from by omega] <;> rfl)) (Nat.zero_le _) (by first | (rw [List.length_map]; omega) | (simp <;> omega)))
    | 7, _, _ =>
      intro w hst
      exact OpV.g (v_assign rfl)
  · intro i hi
    exact absurd hi (by simp)
  clear hfr hst
  intro  a w2 hfr hst
  replace hfr : Fr 19 [(12, lv), (13, .int .i64 ((xs.length : Int) - 1)), (14, slAddr lv ((xs.length - 1) * 1)), (15, sv (xs.getD (xs.length - 1) [])), (16, lv), (17, .int .i64 ((xs.length : Int) - 1)), (18, (cut lv 1 0 (xs.length - 1) (slCap lv))), (2, sv (xs.getD (xs.length - 1) [])), (0, _), (3, _), (4, _), (5, _)] [] a := hfr
  refine wl_nil ?_
  refine wd_lin (k := 8) 10 [9] (by kernel_rfl) (by kernel_rfl) (by kernel_rfl) ?_
  refine wl_v hfr (by decide) (v_assign rfl) ?_
  clear hfr
  intro a hfr
  refine wl_v hfr (by decide) (v_assign rfl) ?_
  clear hfr
  intro a hfr
  refine wl_nil ?_
  refine wd_end (by kernel_rfl) ?_
  refine hK5 _ _ ?_
  replace hfr : Fr 19 [(2, _), (3, _), (4, _)] [] a := hfr.pick [2, 3, 4]
  refine wc_ret ?_
  refine fin_ret hfr Tryd.results46 (resAre_tmp rfl (resAre_tmp rfl (resAre_tmp rfl resAre_nil))) ?_
  exact ⟨by rfl, hst.ext⟩

def binN (n : Nat) : Nat := if n = 0 then 0 else Nat.log2 n + 1
theorem binN_half {q : Nat} (h : 0 < q) : binN q = binN (q / 2) + 1 := by
  unfold binN
  rw [if_neg (by omega), Nat.log2_def]
  by_cases h2 : 2 ≤ q
  · rw [if_pos h2, if_neg (by omega)]
  · rw [if_neg h2, if_pos (by omega)]
theorem binN_pow (n : Nat) : n ≤ 2 ^ binN n := by
  unfold binN
  split
  · omega
  · exact Nat.le_of_lt (Nat.lt_log2_self)

/-- dialtone/dialtonelaw02.binary -/
theorem binary_ok (n : Nat) (w0 : World) (hn : n ≤ 1000000) :
    Ret Tryd.prog 25 #[.int .i64 (n : Int)] w0 fun v w => v = .int .i64 (binN n : Int) ∧ Ext No w0 w := by
  refine ret_of Tryd.func25 rfl Tryd.ntmps25 (Nat.le_of_ble_eq_true rfl) fun a hfr => ?_
  replace hfr : Fr 11 [(0, _)] [] a := hfr
  replace hst : St No w0 [] w0 := St.init w0
  refine wc_seq_region fun K1 hK1 => ?_
  refine wl_v hfr (by decide) (v_assign rfl) ?_
  clear hfr
  intro a hfr
  refine wl_nil (hK1 _ _ ?_)
  refine wc_seq_region fun K2 hK2 => ?_
  refine wl_v hfr (by decide) (v_assign rfl) ?_
  clear hfr
  intro a hfr
  refine wl_nil (hK2 _ _ ?_)
  refine wc_seq_k fun K3 hK3 => ?_
  refine wc_block ?_
  refine wc_loop (fun m a w => ∃ (k : Nat) (q : Nat), m = 0 + q ∧ (k + binN q = binN n) ∧ (q ≤ n) ∧ (k + q ≤ n) ∧ Fr 11 [(2, .int .i64 0), (3, .int .i64 (k : Int)), (0, .int .i64 (q : Int))] [] a ∧ St No w0 [] w) _ ⟨0, n, rfl, (by omega), Nat.le_refl _, (by omega), hfr.pick [2, 3, 0], hst.select [] (by decide)⟩ ?_
  rintro _ a w1 ⟨k, q, rfl, hkq, hq, hk, hfr, hst⟩
  refine wc_seq_k fun K4 hK4 => ?_
  refine wc_seq_region fun K5 hK5 => ?_
  refine wl_v hfr (by decide) (v_move rfl) ?_
  clear hfr
  intro a hfr
  refine wl_v hfr (by decide) (v_gt rfl rfl) ?_
  clear hfr
  intro a hfr
  refine wl_nil (hK5 _ _ ?_)
  refine wc_cond hfr rfl (fun hc1 => ?_) (fun hc1 => ?_)
  · rw [hc1] at hfr
    try simp only [Bool.not_eq_true', Bool.not_eq_false', decide_eq_true_eq, decide_eq_false_iff_not] at hc1
    refine wc_skip ?_
    refine hK4 _ _ ?_
    refine wc_block ?_
    refine wc_seq_region fun K6 hK6 => ?_
    refine wl_v hfr (by decide) (v_move rfl) ?_
    clear hfr
    intro a hfr
    refine wl_v hfr (by decide) (v_add rfl rfl ⟨by omega, by omega⟩) ?_
    clear hfr
    intro a hfr
    refine wl_v hfr (by decide) (v_assign rfl) ?_
    clear hfr
    intro a hfr
    refine wl_nil (hK6 _ _ ?_)
    refine wc_region ?_
    refine wl_v hfr (by decide) (v_move rfl) ?_
    clear hfr
    intro a hfr
    refine wl_v hfr (by decide) (v_quo rfl rfl (by omega) (by omega) (by omega)) ?_
    clear hfr
    intro a hfr
    refine wl_v hfr (by decide) (v_assign rfl) ?_
    clear hfr
    intro a hfr
    refine wl_nil ?_
    have hbh := binN_half (q := q) (by omega)
    rw [show (q : Int) / 2 = ((q / 2 : Nat) : Int) from by omega, show (k : Int) + 1 = ((k + 1 : Nat) : Int) from by omega] at hfr
    refine ⟨_, ?_, k + 1, q / 2, rfl, (by omega), (by omega), (by omega), hfr.pick [2, 3, 0], hst.select [] (by decide)⟩
    omega
  rw [hc1] at hfr
  try simp only [Bool.not_eq_true', Bool.not_eq_false', decide_eq_true_eq, decide_eq_false_iff_not] at hc1
  refine wc_exit ?_
  refine hK3 _ _ ?_
  refine wc_seq_region fun K7 hK7 => ?_
  refine wl_v hfr (by decide) (v_move rfl) ?_
  clear hfr
  intro a hfr
  refine wl_v hfr (by decide) (v_assign rfl) ?_
  clear hfr
  intro a hfr
  refine wl_nil (hK7 _ _ ?_)
  refine wc_ret ?_
  refine fin_ret hfr Tryd.results25 (resAre_tmp rfl resAre_nil) ?_
  have hq0 : q = 0 := by omega
  subst hq0
  have hb0 : binN 0 = 0 := rfl
  exact ⟨by simp only [retv]; rw [← hkq, hb0, Nat.add_zero], hst.ext⟩
end Go.Proofs.YtmcoolbjgeibcaaDoor
