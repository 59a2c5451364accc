/- Texts joined: RefB, RefC, WirA, WshA, WshB, WshC. -/
import Derived.Test.YtmmfieceinmloaaGreatDoorPBB
import Derived.Test.YtmmfieceinmloaaGreatDoorPBA
namespace Go.Proofs.YtmmfieceinmloaaGreatDoor
open Go.RowKit Go.PW
set_option linter.unusedVariables false
set_option linter.unusedSimpArgs false
set_option maxRecDepth 4000
theorem rot2_ok (x : Wd) (n : Nat) (w0 : World) (hn : 0 < n) (hn2 : n < 32) : Ret Tryz.prog 149 #[wv x, .int .i64 (n : Int)] w0 fun v w => v = wv (ror x n) ∧ Ext No w0 w := by
 have := rotated_ok x n w0 hn hn2
 rw [show (x >>> n) ||| (x <<< (32 - n)) = ror x n from BitVec.or_comm _ _] at this
 exact this
theorem mix2 (x : Wd) (a b : Nat) : mix x [a, b] = ror x a ^^^ ror x b := by simp [mix]
theorem mix3 (x : Wd) (a b c : Nat) : mix x [a, b, c] = ror x a ^^^ ror x b ^^^ ror x c := by simp [mix]
theorem sch_old (bs : List UInt8) {j : Nat} : ∀ {i : Nat}, j < i → (d : Nat) → (sch bs (i + d)).getD j 0#32 = (sch bs i).getD j 0#32
 | i, h, 0 => rfl
 | i, h, d + 1 => by
  have e : sch bs (i + (d + 1)) = (sch bs (i + d)).set (i + d) (if i + d < 16 then be bs (i + d) else nx (sch bs (i + d)) (i + d)) := rfl
  rw [e, List.getD_eq_getElem?_getD, List.getElem?_set_ne (by omega), ← List.getD_eq_getElem?_getD]
  exact sch_old bs h d
theorem sch_at (bs : List UInt8) {j : Nat} (h : j < 64) : (sch bs 64).getD j 0#32 = if j < 16 then be bs j else nx (sch bs j) j := by
 have := sch_old bs (j := j) (i := j + 1) (by omega) (63 - j)
 rw [show j + 1 + (63 - j) = 64 from by omega] at this
 rw [this, sch, List.getD_eq_getElem?_getD, List.getElem?_set_self (by rw [sch_len]; omega)]; rfl
theorem sch_lt (bs : List UInt8) {i j : Nat} (h : i < j) (hj : j ≤ 64) : (sch bs j).getD i 0#32 = (sch bs 64).getD i 0#32 := by
 have := sch_old bs h (64 - j)
 rw [show j + (64 - j) = 64 from by omega] at this
 exact this.symm
theorem sch_take1 (bs : List UInt8) {k : Nat} (h : k < 16) : (sch bs 64).take (k + 1) = (sch bs 64).take k ++ [be bs k] := by
 rw [take_snoc 0#32 (by rw [sch_len]; omega), sch_at bs (by omega), if_pos h]
theorem sch_take2 (bs : List UInt8) {j : Nat} (h : 16 ≤ j) (hj : j < 64) : (sch bs 64).take (j + 1) = (sch bs 64).take j ++ [((((sch bs 64).take j).getD (j - 16) 0#32 + (ror (((sch bs 64).take j).getD (j - 15) 0#32) 7 ^^^ ror (((sch bs 64).take j).getD (j - 15) 0#32) 18 ^^^ ((sch bs 64).take j).getD (j - 15) 0#32 >>> 3)) + ((sch bs 64).take j).getD (j - 7) 0#32) + (ror (((sch bs 64).take j).getD (j - 2) 0#32) 17 ^^^ ror (((sch bs 64).take j).getD (j - 2) 0#32) 19 ^^^ ((sch bs 64).take j).getD (j - 2) 0#32 >>> 10)] := by
 rw [take_snoc 0#32 (by rw [sch_len]; omega), sch_at bs (by omega), if_neg (by omega), nx, mix2, mix2]
 rw [sch_lt bs (i := j - 16) (j := j) (by omega) (by omega), sch_lt bs (i := j - 15) (j := j) (by omega) (by omega), sch_lt bs (i := j - 7) (j := j) (by omega) (by omega), sch_lt bs (i := j - 2) (j := j) (by omega) (by omega)]
 rw [getD_take _ (by omega), getD_take _ (by omega), getD_take _ (by omega), getD_take _ (by omega)]
theorem add_take (x y : W8) {q : Nat} (h : q < 8) : (x.add y).l.take (q + 1) = (x.add y).l.take q ++ [x.l.getD q 0#32 + y.l.getD q 0#32] := by
 rw [take_snoc 0#32 (by exact h)]
 congr 2
 have : q = 0 ∨ q = 1 ∨ q = 2 ∨ q = 3 ∨ q = 4 ∨ q = 5 ∨ q = 6 ∨ q = 7 := by omega
 rcases this with rfl | rfl | rfl | rfl | rfl | rfl | rfl | rfl <;> rfl
set_option maxHeartbeats 4000000 in
/-- dialtone/dialtoneref02.block -/
theorem rblock_ok (hvv bv : Value) (hv : W8) (bs : List UInt8) (w0 : World) (hhv : SlAt w0 hvv 1 ((hv.l).map fun x => [wv x])) (hbv : SlAt w0 bv 1 (bs.map fun b => [yv b])) (hbl : bs.length = 64) :
  Ret Tryz.prog 131 #[hvv, bv] w0 (MemR w0 (fun v : Value => v) (fun v => [own v 191 1 (((block hv bs).l).map fun x => [wv x])]) (fun _ => True)) := by
 refine ret_of Tryz.func131 rfl Tryz.ntmps131 (Nat.le_of_ble_eq_true rfl) fun a hfr => ?_
 replace hfr : Fr 238 [(0, _), (1, _)] [] a := hfr
 replace hst : St No w0 [] w0 := St.init w0
 refine wc_seq_region fun K1 hK1 => ?_
 refine wla hfr rfl fun a hfr => ?_
 refine wl_nil (hK1 _ _ ?_)
 refine wc_seq_region fun K2 hK2 => ?_
 refine wla hfr rfl fun a hfr => ?_
 refine wl_nil (hK2 _ _ ?_)
 refine wc_seq_k fun K3 hK3 => ?_
 refine wc_seq_region fun K4 hK4 => ?_
 refine wla hfr rfl fun a hfr => ?_
 refine wl_nil (hK4 _ _ ?_)
 refine wc_block ?_
 replace hst : St No w0 [own (.slice none 0 0) 191 1 (((sch bs 64).take 0).map fun x => [wv x])] w0 := hst.nil_own
 refine wc_loop (fun m a w => ∃ (k : Nat) (u : Value), m = 16 - k ∧ (k ≤ 16) ∧ Fr 238 [(0, hvv), (1, bv), (4, .slice none 0 0), (5, u), (6, .int .i64 (k : Int))] [] a ∧ St No w0 [own u 191 1 (((sch bs 64).take k).map fun x => [wv x])] w) _ ⟨0, .slice none 0 0, rfl, Nat.zero_le _, hfr.pick [0, 1, 4, 5, 6], hst.select [0] (by decide)⟩ ?_
 rintro _ a w1 ⟨k, u, rfl, hk, hfr, hst⟩
 refine wc_seq_k fun K5 hK5 => ?_
 refine wc_seq_region fun K6 hK6 => ?_
 refine wlm hfr rfl fun a hfr => ?_
 refine wlv hfr (v_lt rfl rfl) fun a hfr => ?_
 refine wl_nil (hK6 _ _ ?_)
 refine wc_cond hfr rfl (fun hc1 => ?_) (fun hc1 => ?_)
 ·rw [hc1] at hfr
  try simp only [qz] at hc1
  refine wc_skip ?_
  refine hK5 _ _ ?_
  refine wc_seq_k fun K7 hK7 => ?_
  refine wc_block ?_
  refine wc_of_dr (by kernel_rfl) (dr_of_wd (by kernel_rfl) fun w2 hxz => ?_)
  replace hst := hst.grow hxz
  refine wd_sub (k := 0) 35 [0, 34] hfr (by kernel_rfl) (by kernel_rfl) (by kernel_rfl) (by rfl) ?_
  replace hfr : Fr 238 [(0, _), (1, _), (4, _), (5, _), (6, _), (19, _), (20, _)] [] a := hfr.pick [0, 1, 4, 5, 6, 19, 20]
  refine wc_phases_q [34] (fun i => match i with | 34 => pm (fun b : Nat => .slice (some ⟨b, 0, none⟩) 1 1) (fun b => [own (.slice (some ⟨b, 0, none⟩) 1 1) 191 1 [[wv (((((BitVec.ofNat 32 (bs.getD (4 * k) 0).toNat) <<< 24) ||| ((BitVec.ofNat 32 (bs.getD (4 * k + 1) 0).toNat) <<< 16)) ||| ((BitVec.ofNat 32 (bs.getD (4 * k + 2) 0).toNat) <<< 8)) ||| (BitVec.ofNat 32 (bs.getD (4 * k + 3) 0).toNat))]]]) (fun _ => True) | _ => fun _ _ => False) 35 [[], [], [], [2], [1, 3], [4], [5], [6], [], [], [9], [10], [8, 11], [12], [13], [14], [7, 15], [], [], [18], [19], [17, 20], [21], [22], [23], [16, 24], [], [], [27], [28], [26, 29], [30], [31], [25, 32], [33]] [u, bv, .int .i64 (k : Int), .int .i64 (4 * (k : Int)), slAddr bv ((4 * k) * 1), yv (bs.getD (4 * k) 0), wv (BitVec.ofNat 32 (bs.getD (4 * k) 0).toNat), wv ((BitVec.ofNat 32 (bs.getD (4 * k) 0).toNat) <<< 24), bv, .int .i64 (k : Int), .int .i64 (4 * (k : Int)), .int .i64 ((4 * (k : Int)) + 1), slAddr bv ((4 * k + 1) * 1), yv (bs.getD (4 * k + 1) 0), wv (BitVec.ofNat 32 (bs.getD (4 * k + 1) 0).toNat), wv ((BitVec.ofNat 32 (bs.getD (4 * k + 1) 0).toNat) <<< 16), wv (((BitVec.ofNat 32 (bs.getD (4 * k) 0).toNat) <<< 24) ||| ((BitVec.ofNat 32 (bs.getD (4 * k + 1) 0).toNat) <<< 16)), bv, .int .i64 (k : Int), .int .i64 (4 * (k : Int)), .int .i64 ((4 * (k : Int)) + 2), slAddr bv ((4 * k + 2) * 1), yv (bs.getD (4 * k + 2) 0), wv (BitVec.ofNat 32 (bs.getD (4 * k + 2) 0).toNat), wv ((BitVec.ofNat 32 (bs.getD (4 * k + 2) 0).toNat) <<< 8), wv ((((BitVec.ofNat 32 (bs.getD (4 * k) 0).toNat) <<< 24) ||| ((BitVec.ofNat 32 (bs.getD (4 * k + 1) 0).toNat) <<< 16)) ||| ((BitVec.ofNat 32 (bs.getD (4 * k + 2) 0).toNat) <<< 8)), bv, .int .i64 (k : Int), .int .i64 (4 * (k : Int)), .int .i64 ((4 * (k : Int)) + 3), slAddr bv ((4 * k + 3) * 1), yv (bs.getD (4 * k + 3) 0), wv (BitVec.ofNat 32 (bs.getD (4 * k + 3) 0).toNat), wv (((((BitVec.ofNat 32 (bs.getD (4 * k) 0).toNat) <<< 24) ||| ((BitVec.ofNat 32 (bs.getD (4 * k + 1) 0).toNat) <<< 16)) ||| ((BitVec.ofNat 32 (bs.getD (4 * k + 2) 0).toNat) <<< 8)) ||| (BitVec.ofNat 32 (bs.getD (4 * k + 3) 0).toNat)), undef] hfr hst (by kernel_rfl) (by kernel_rfl) (by kernel_rfl) ?_ ?_ ?_
  ·intro i hi hiq
   match i, hi, hiq with
   | 0, _, _ =>
    intro w hst
    exact OpV.g (v_move rfl)
   | 1, _, _ =>
    intro w hst
    exact OpV.g (v_move rfl)
   | 2, _, _ =>
    intro w hst
    exact OpV.g (v_move rfl)
   | 3, _, _ =>
    intro w hst
    exact OpV.g (v_mul rfl rfl ⟨by omega, by omega⟩)
   | 4, _, _ =>
    intro w hst
    exact OpV.g ((v_indexAddr_sl (i := 4 * (k : Int)) (sT := 62) (hst.arg hbv) rfl rfl (Tryz.runUnderlying62 _) (Tryz.sizeOf5 _) (by omega) (by rw [List.length_map]; first | omega | (rw [sch_len]; omega) | (rw [List.length_take, sch_len]; omega) | (rw [W8.l_len]; omega) | (rw [kOf_len]; omega))).as (v' := slAddr bv ((4 * k) * 1)) (by rw [show (4 * (k : Int)).toNat = (4 * k) from by omega]))
   | 5, _, _ =>
    intro w hst
    exact OpV.g (v_load_sl1 (u := yv (bs.getD (4 * k) 0)) (i := (4 * k)) (j := 0) (hst.arg hbv) (by rw [List.length_map]; first | omega | (rw [sch_len]; omega) | (rw [List.length_take, sch_len]; omega) | (rw [W8.l_len]; omega) | (rw [kOf_len]; omega)) rfl (Tryz.isAgg5 _) (by simp [List.getD_eq_getElem?_getD, List.getElem?_eq_getElem (show (4 * k) < bs.length by omega)]))
   | 6, _, _ =>
    intro w hst
    exact OpV.g (v_conv_yw rfl (by kernel_rfl) Tryz.underlying191)
   | 7, _, _ =>
    intro w hst
    exact OpV.g (v_wshl (n := 24) rfl rfl)
   | 8, _, _ =>
    intro w hst
    exact OpV.g (v_move rfl)
   | 9, _, _ =>
    intro w hst
    exact OpV.g (v_move rfl)
   | 10, _, _ =>
    intro w hst
    exact OpV.g (v_mul rfl rfl ⟨by omega, by omega⟩)
   | 11, _, _ =>
    intro w hst
    exact OpV.g (v_add rfl rfl ⟨by omega, by omega⟩)
   | 12, _, _ =>
    intro w hst
    exact OpV.g ((v_indexAddr_sl (i := (4 * (k : Int)) + 1) (sT := 62) (hst.arg hbv) rfl rfl (Tryz.runUnderlying62 _) (Tryz.sizeOf5 _) (by omega) (by rw [List.length_map]; first | omega | (rw [sch_len]; omega) | (rw [List.length_take, sch_len]; omega) | (rw [W8.l_len]; omega) | (rw [kOf_len]; omega))).as (v' := slAddr bv ((4 * k + 1) * 1)) (by rw [show ((4 * (k : Int)) + 1).toNat = (4 * k + 1) from by omega]))
   | 13, _, _ =>
    intro w hst
    exact OpV.g (v_load_sl1 (u := yv (bs.getD (4 * k + 1) 0)) (i := (4 * k + 1)) (j := 0) (hst.arg hbv) (by rw [List.length_map]; first | omega | (rw [sch_len]; omega) | (rw [List.length_take, sch_len]; omega) | (rw [W8.l_len]; omega) | (rw [kOf_len]; omega)) rfl (Tryz.isAgg5 _) (by simp [List.getD_eq_getElem?_getD, List.getElem?_eq_getElem (show (4 * k + 1) < bs.length by omega)]))
   | 14, _, _ =>
    intro w hst
    exact OpV.g (v_conv_yw rfl (by kernel_rfl) Tryz.underlying191)
   | 15, _, _ =>
    intro w hst
    exact OpV.g (v_wshl (n := 16) rfl rfl)
   | 16, _, _ =>
    intro w hst
    exact OpV.g (v_wor rfl rfl)
   | 17, _, _ =>
    intro w hst
    exact OpV.g (v_move rfl)
   | 18, _, _ =>
    intro w hst
    exact OpV.g (v_move rfl)
   | 19, _, _ =>
    intro w hst
    exact OpV.g (v_mul rfl rfl ⟨by omega, by omega⟩)
   | 20, _, _ =>
    intro w hst
    exact OpV.g (v_add rfl rfl ⟨by omega, by omega⟩)
   | 21, _, _ =>
    intro w hst
    exact OpV.g ((v_indexAddr_sl (i := (4 * (k : Int)) + 2) (sT := 62) (hst.arg hbv) rfl rfl (Tryz.runUnderlying62 _) (Tryz.sizeOf5 _) (by omega) (by rw [List.length_map]; first | omega | (rw [sch_len]; omega) | (rw [List.length_take, sch_len]; omega) | (rw [W8.l_len]; omega) | (rw [kOf_len]; omega))).as (v' := slAddr bv ((4 * k + 2) * 1)) (by rw [show ((4 * (k : Int)) + 2).toNat = (4 * k + 2) from by omega]))
   | 22, _, _ =>
    intro w hst
    exact OpV.g (v_load_sl1 (u := yv (bs.getD (4 * k + 2) 0)) (i := (4 * k + 2)) (j := 0) (hst.arg hbv) (by rw [List.length_map]; first | omega | (rw [sch_len]; omega) | (rw [List.length_take, sch_len]; omega) | (rw [W8.l_len]; omega) | (rw [kOf_len]; omega)) rfl (Tryz.isAgg5 _) (by simp [List.getD_eq_getElem?_getD, List.getElem?_eq_getElem (show (4 * k + 2) < bs.length by omega)]))
   | 23, _, _ =>
    intro w hst
    exact OpV.g (v_conv_yw rfl (by kernel_rfl) Tryz.underlying191)
   | 24, _, _ =>
    intro w hst
    exact OpV.g (v_wshl (n := 8) rfl rfl)
   | 25, _, _ =>
    intro w hst
    exact OpV.g (v_wor rfl rfl)
   | 26, _, _ =>
    intro w hst
    exact OpV.g (v_move rfl)
   | 27, _, _ =>
    intro w hst
    exact OpV.g (v_move rfl)
   | 28, _, _ =>
    intro w hst
    exact OpV.g (v_mul rfl rfl ⟨by omega, by omega⟩)
   | 29, _, _ =>
    intro w hst
    exact OpV.g (v_add rfl rfl ⟨by omega, by omega⟩)
   | 30, _, _ =>
    intro w hst
    exact OpV.g ((v_indexAddr_sl (i := (4 * (k : Int)) + 3) (sT := 62) (hst.arg hbv) rfl rfl (Tryz.runUnderlying62 _) (Tryz.sizeOf5 _) (by omega) (by rw [List.length_map]; first | omega | (rw [sch_len]; omega) | (rw [List.length_take, sch_len]; omega) | (rw [W8.l_len]; omega) | (rw [kOf_len]; omega))).as (v' := slAddr bv ((4 * k + 3) * 1)) (by rw [show ((4 * (k : Int)) + 3).toNat = (4 * k + 3) from by omega]))
   | 31, _, _ =>
    intro w hst
    exact OpV.g (v_load_sl1 (u := yv (bs.getD (4 * k + 3) 0)) (i := (4 * k + 3)) (j := 0) (hst.arg hbv) (by rw [List.length_map]; first | omega | (rw [sch_len]; omega) | (rw [List.length_take, sch_len]; omega) | (rw [W8.l_len]; omega) | (rw [kOf_len]; omega)) rfl (Tryz.isAgg5 _) (by simp [List.getD_eq_getElem?_getD, List.getElem?_eq_getElem (show (4 * k + 3) < bs.length by omega)]))
   | 32, _, _ =>
    intro w hst
    exact OpV.g (v_conv_yw rfl (by kernel_rfl) Tryz.underlying191)
   | 33, _, _ =>
    intro w hst
    exact OpV.g (v_wor rfl rfl)
   | 34, _, h => exact absurd (by simp) h
   | i + 35, h, _ => exact absurd h (by omega)
  ·intro i hi
   simp only [List.mem_cons, List.not_mem_nil, or_false] at hi
   subst hi
   ·intro w hst
    exact g_buildSlice (E := 191) (sz := 1) rfl [[wv (((((BitVec.ofNat 32 (bs.getD (4 * k) 0).toNat) <<< 24) ||| ((BitVec.ofNat 32 (bs.getD (4 * k + 1) 0).toNat) <<< 16)) ||| ((BitVec.ofNat 32 (bs.getD (4 * k + 2) 0).toNat) <<< 8)) ||| (BitVec.ofNat 32 (bs.getD (4 * k + 3) 0).toNat))]] (fun _ => by kernel_rfl) (by simp) rfl (by decide)
  clear hfr hst
  rintro _ _ ⟨b2, rfl, -, rfl⟩ a w3 hfr hst
  replace hfr : Fr 238 [(23, u), (24, bv), (25, .int .i64 (k : Int)), (26, .int .i64 (4 * (k : Int))), (27, slAddr bv ((4 * k) * 1)), (28, yv (bs.getD (4 * k) 0)), (29, wv (BitVec.ofNat 32 (bs.getD (4 * k) 0).toNat)), (30, wv ((BitVec.ofNat 32 (bs.getD (4 * k) 0).toNat) <<< 24)), (31, bv), (32, .int .i64 (k : Int)), (33, .int .i64 (4 * (k : Int))), (34, .int .i64 ((4 * (k : Int)) + 1)), (35, slAddr bv ((4 * k + 1) * 1)), (36, yv (bs.getD (4 * k + 1) 0)), (37, wv (BitVec.ofNat 32 (bs.getD (4 * k + 1) 0).toNat)), (38, wv ((BitVec.ofNat 32 (bs.getD (4 * k + 1) 0).toNat) <<< 16)), (39, wv (((BitVec.ofNat 32 (bs.getD (4 * k) 0).toNat) <<< 24) ||| ((BitVec.ofNat 32 (bs.getD (4 * k + 1) 0).toNat) <<< 16))), (40, bv), (41, .int .i64 (k : Int)), (42, .int .i64 (4 * (k : Int))), (43, .int .i64 ((4 * (k : Int)) + 2)), (44, slAddr bv ((4 * k + 2) * 1)), (45, yv (bs.getD (4 * k + 2) 0)), (46, wv (BitVec.ofNat 32 (bs.getD (4 * k + 2) 0).toNat)), (47, wv ((BitVec.ofNat 32 (bs.getD (4 * k + 2) 0).toNat) <<< 8)), (48, wv ((((BitVec.ofNat 32 (bs.getD (4 * k) 0).toNat) <<< 24) ||| ((BitVec.ofNat 32 (bs.getD (4 * k + 1) 0).toNat) <<< 16)) ||| ((BitVec.ofNat 32 (bs.getD (4 * k + 2) 0).toNat) <<< 8))), (49, bv), (50, .int .i64 (k : Int)), (51, .int .i64 (4 * (k : Int))), (52, .int .i64 ((4 * (k : Int)) + 3)), (53, slAddr bv ((4 * k + 3) * 1)), (54, yv (bs.getD (4 * k + 3) 0)), (55, wv (BitVec.ofNat 32 (bs.getD (4 * k + 3) 0).toNat)), (56, wv (((((BitVec.ofNat 32 (bs.getD (4 * k) 0).toNat) <<< 24) ||| ((BitVec.ofNat 32 (bs.getD (4 * k + 1) 0).toNat) <<< 16)) ||| ((BitVec.ofNat 32 (bs.getD (4 * k + 2) 0).toNat) <<< 8)) ||| (BitVec.ofNat 32 (bs.getD (4 * k + 3) 0).toNat))), (57, _), (0, _), (1, _), (4, _), (5, _), (6, _), (19, _), (20, _)] [] a := hfr
  replace hst : St No w0 [_, _] w3 := hst
  refine wl_nil ?_
  refine wd_lin (k := 35) 37 [36] (by kernel_rfl) (by kernel_rfl) (by kernel_rfl) ?_
  refine wl_append (i := 1) (sT := 192) (inf := Tryz.t191) (z := wv (0#32)) (b := 0) (off := 0) (m := 0) (c := 0) rfl rfl rfl (hst.ownAt (i := 0) rfl) (by simp) Tryz.underlying192 rfl rfl rfl rfl (by decide) (by simp [Value.oneCell', yv, wv, sv]) (by have hby : Tryz.t191.bytes = 4 := rfl; simp only [big, hby, List.length_append, List.length_map, List.length_take, sch_len, W8.l_len, List.length_cons, List.length_nil]; omega) (by have hby : Tryz.t191.bytes = 4 := rfl; simp only [big, hby, List.length_append, List.length_map, List.length_take, sch_len, W8.l_len, List.length_cons, List.length_nil]; omega) (by decide) hfr hst fun a w4 s3 hfr hst _ => ?_
  refine wla hfr rfl fun a hfr => ?_
  refine wl_nil ?_
  refine wd_end (by kernel_rfl) ?_
  refine hK7 _ _ ?_
  replace hfr : Fr 238 [(0, _), (1, _), (4, _), (6, _), (5, _)] [] a := hfr.pick [0, 1, 4, 6, 5]
  replace hst : St No w0 [_] w4 := hst.mask [false, true]
  refine wc_region ?_
  refine wlm hfr rfl fun a hfr => ?_
  refine wlv hfr (v_add rfl rfl ⟨by omega, by omega⟩) fun a hfr => ?_
  refine wla hfr rfl fun a hfr => ?_
  refine wl_nil ?_
  rw [show (((sch bs 64).take k).map fun x => [wv x]) ++ ([[wv (((((BitVec.ofNat 32 (bs.getD (4 * k) 0).toNat) <<< 24) ||| ((BitVec.ofNat 32 (bs.getD (4 * k + 1) 0).toNat) <<< 16)) ||| ((BitVec.ofNat 32 (bs.getD (4 * k + 2) 0).toNat) <<< 8)) ||| (BitVec.ofNat 32 (bs.getD (4 * k + 3) 0).toNat))]]) = (((sch bs 64).take (k + 1)).map fun x => [wv x]) from by rw [sch_take1 bs (by omega)]; simp [be]] at hst
  refine ⟨_, ?_, k + 1, s3, rfl, (by omega), hfr.pick [0, 1, 4, 5, 6], hst.select [0] (by decide)⟩
  omega
 rw [hc1] at hfr
 try simp only [qz] at hc1
 obtain rfl : k = 16 := by omega
 refine wc_exit ?_
 refine hK3 _ _ ?_
 refine wc_seq_k fun K8 hK8 => ?_
 refine wc_seq_region fun K9 hK9 => ?_
 refine wla hfr rfl fun a hfr => ?_
 refine wl_nil (hK9 _ _ ?_)
 refine wc_block ?_
 refine wc_loop (fun m a w => ∃ (j : Nat) (u : Value), m = 64 - j ∧ (16 ≤ j) ∧ (j ≤ 64) ∧ Fr 238 [(0, hvv), (4, .slice none 0 0), (5, u), (7, .int .i64 (j : Int))] [] a ∧ St No w0 [own u 191 1 (((sch bs 64).take j).map fun x => [wv x])] w) _ ⟨16, u, rfl, (by omega), (by omega), hfr.pick [0, 4, 5, 7], hst.select [0] (by decide)⟩ ?_
 rintro _ a w5 ⟨j, u, rfl, hj, hj2, hfr, hst⟩
 refine wc_seq_k fun K10 hK10 => ?_
 refine wc_seq_region fun K11 hK11 => ?_
 refine wlm hfr rfl fun a hfr => ?_
 refine wlv hfr (v_lt rfl rfl) fun a hfr => ?_
 refine wl_nil (hK11 _ _ ?_)
 refine wc_cond hfr rfl (fun hc4 => ?_) (fun hc4 => ?_)
 ·rw [hc4] at hfr
  try simp only [qz] at hc4
  refine wc_skip ?_
  refine hK10 _ _ ?_
  refine wc_seq_k fun K12 hK12 => ?_
  refine wc_block ?_
  refine wc_seq_k fun K13 hK13 => ?_
  refine wc_of_dr (by kernel_rfl) (dr_of_wd (by kernel_rfl) fun w6 hxz => ?_)
  replace hst := hst.grow hxz
  refine wd_sub (k := 0) 19 [12, 18] hfr (by kernel_rfl) (by kernel_rfl) (by kernel_rfl) (by rfl) ?_
  replace hfr : Fr 238 [(0, _), (4, _), (5, _), (7, _), (59, _), (60, _)] [] a := hfr.pick [0, 4, 5, 7, 59, 60]
  refine wc_phases_q [] (fun i => match i with | _ => fun _ _ => False) 19 [[], [], [1], [0, 2], [3], [4], [], [], [7], [6, 8], [9], [10], [5, 11], [], [], [14], [13, 15], [16], [17]] [u, .int .i64 (j : Int), .int .i64 ((j : Int) - 15), slAddr u ((j - 15) * 1), wv (((sch bs 64).take j).getD (j - 15) 0#32), wv (ror (((sch bs 64).take j).getD (j - 15) 0#32) 7), u, .int .i64 (j : Int), .int .i64 ((j : Int) - 15), slAddr u ((j - 15) * 1), wv (((sch bs 64).take j).getD (j - 15) 0#32), wv (ror (((sch bs 64).take j).getD (j - 15) 0#32) 18), wv ((ror (((sch bs 64).take j).getD (j - 15) 0#32) 7) ^^^ (ror (((sch bs 64).take j).getD (j - 15) 0#32) 18)), u, .int .i64 (j : Int), .int .i64 ((j : Int) - 15), slAddr u ((j - 15) * 1), wv (((sch bs 64).take j).getD (j - 15) 0#32), wv ((((sch bs 64).take j).getD (j - 15) 0#32) >>> 3)] hfr hst (by kernel_rfl) (by kernel_rfl) (by kernel_rfl) ?_ ?_ ?_
  ·intro i hi hiq
   match i, hi, hiq with
   | 0, _, _ =>
    intro w hst
    exact OpV.g (v_move rfl)
   | 1, _, _ =>
    intro w hst
    exact OpV.g (v_move rfl)
   | 2, _, _ =>
    intro w hst
    exact OpV.g (v_sub rfl rfl ⟨by omega, by omega⟩)
   | 3, _, _ =>
    intro w hst
    exact OpV.g ((v_indexAddr_sl (i := (j : Int) - 15) (sT := 192) (hst.ownAt (i := 0) rfl) rfl rfl (Tryz.runUnderlying192 _) (Tryz.sizeOf191 _) (by omega) (by rw [List.length_map]; first | omega | (rw [sch_len]; omega) | (rw [List.length_take, sch_len]; omega) | (rw [W8.l_len]; omega) | (rw [kOf_len]; omega))).as (v' := slAddr u ((j - 15) * 1)) (by rw [show ((j : Int) - 15).toNat = (j - 15) from by omega]))
   | 4, _, _ =>
    intro w hst
    exact OpV.g (v_load_sl1 (u := wv (((sch bs 64).take j).getD (j - 15) 0#32)) (i := (j - 15)) (j := 0) (hst.ownAt (i := 0) rfl) (by rw [List.length_map]; first | omega | (rw [sch_len]; omega) | (rw [List.length_take, sch_len]; omega) | (rw [W8.l_len]; omega) | (rw [kOf_len]; omega)) rfl (Tryz.isAgg191 _) (by rw [el_at 0#32]; rfl))
   | 5, _, _ =>
    intro w hst
    exact g_callp Tryz.call149 rfl (rot2_ok (((sch bs 64).take j).getD (j - 15) 0#32) 7 _ (by decide) (by decide))
   | 6, _, _ =>
    intro w hst
    exact OpV.g (v_move rfl)
   | 7, _, _ =>
    intro w hst
    exact OpV.g (v_move rfl)
   | 8, _, _ =>
    intro w hst
    exact OpV.g (v_sub rfl rfl ⟨by omega, by omega⟩)
   | 9, _, _ =>
    intro w hst
    exact OpV.g ((v_indexAddr_sl (i := (j : Int) - 15) (sT := 192) (hst.ownAt (i := 0) rfl) rfl rfl (Tryz.runUnderlying192 _) (Tryz.sizeOf191 _) (by omega) (by rw [List.length_map]; first | omega | (rw [sch_len]; omega) | (rw [List.length_take, sch_len]; omega) | (rw [W8.l_len]; omega) | (rw [kOf_len]; omega))).as (v' := slAddr u ((j - 15) * 1)) (by rw [show ((j : Int) - 15).toNat = (j - 15) from by omega]))
   | 10, _, _ =>
    intro w hst
    exact OpV.g (v_load_sl1 (u := wv (((sch bs 64).take j).getD (j - 15) 0#32)) (i := (j - 15)) (j := 0) (hst.ownAt (i := 0) rfl) (by rw [List.length_map]; first | omega | (rw [sch_len]; omega) | (rw [List.length_take, sch_len]; omega) | (rw [W8.l_len]; omega) | (rw [kOf_len]; omega)) rfl (Tryz.isAgg191 _) (by rw [el_at 0#32]; rfl))
   | 11, _, _ =>
    intro w hst
    exact g_callp Tryz.call149 rfl (rot2_ok (((sch bs 64).take j).getD (j - 15) 0#32) 18 _ (by decide) (by decide))
   | 12, _, _ =>
    intro w hst
    exact OpV.g (v_wxor rfl rfl)
   | 13, _, _ =>
    intro w hst
    exact OpV.g (v_move rfl)
   | 14, _, _ =>
    intro w hst
    exact OpV.g (v_move rfl)
   | 15, _, _ =>
    intro w hst
    exact OpV.g (v_sub rfl rfl ⟨by omega, by omega⟩)
   | 16, _, _ =>
    intro w hst
    exact OpV.g ((v_indexAddr_sl (i := (j : Int) - 15) (sT := 192) (hst.ownAt (i := 0) rfl) rfl rfl (Tryz.runUnderlying192 _) (Tryz.sizeOf191 _) (by omega) (by rw [List.length_map]; first | omega | (rw [sch_len]; omega) | (rw [List.length_take, sch_len]; omega) | (rw [W8.l_len]; omega) | (rw [kOf_len]; omega))).as (v' := slAddr u ((j - 15) * 1)) (by rw [show ((j : Int) - 15).toNat = (j - 15) from by omega]))
   | 17, _, _ =>
    intro w hst
    exact OpV.g (v_load_sl1 (u := wv (((sch bs 64).take j).getD (j - 15) 0#32)) (i := (j - 15)) (j := 0) (hst.ownAt (i := 0) rfl) (by rw [List.length_map]; first | omega | (rw [sch_len]; omega) | (rw [List.length_take, sch_len]; omega) | (rw [W8.l_len]; omega) | (rw [kOf_len]; omega)) rfl (Tryz.isAgg191 _) (by rw [el_at 0#32]; rfl))
   | 18, _, _ =>
    intro w hst
    exact OpV.g (v_wshr (n := 3) rfl rfl)
   | i + 19, h, _ => exact absurd h (by omega)
  ·intro i hi
   exact absurd hi (by simp)
  clear hfr hst
  intro  a w7 hfr hst
  replace hfr : Fr 238 [(63, u), (64, .int .i64 (j : Int)), (65, .int .i64 ((j : Int) - 15)), (66, slAddr u ((j - 15) * 1)), (67, wv (((sch bs 64).take j).getD (j - 15) 0#32)), (68, wv (ror (((sch bs 64).take j).getD (j - 15) 0#32) 7)), (69, u), (70, .int .i64 (j : Int)), (71, .int .i64 ((j : Int) - 15)), (72, slAddr u ((j - 15) * 1)), (73, wv (((sch bs 64).take j).getD (j - 15) 0#32)), (74, wv (ror (((sch bs 64).take j).getD (j - 15) 0#32) 18)), (75, wv ((ror (((sch bs 64).take j).getD (j - 15) 0#32) 7) ^^^ (ror (((sch bs 64).take j).getD (j - 15) 0#32) 18))), (76, u), (77, .int .i64 (j : Int)), (78, .int .i64 ((j : Int) - 15)), (79, slAddr u ((j - 15) * 1)), (80, wv (((sch bs 64).take j).getD (j - 15) 0#32)), (81, wv ((((sch bs 64).take j).getD (j - 15) 0#32) >>> 3)), (0, _), (4, _), (5, _), (7, _), (59, _), (60, _)] [] a := hfr
  refine wl_nil ?_
  refine wd_lin (k := 19) 21 [20] (by kernel_rfl) (by kernel_rfl) (by kernel_rfl) ?_
  refine wlv hfr (v_wxor rfl rfl) fun a hfr => ?_
  refine wla hfr rfl fun a hfr => ?_
  refine wl_nil ?_
  refine wd_end (by kernel_rfl) ?_
  refine hK13 _ _ ?_
  replace hfr : Fr 238 [(0, _), (4, _), (5, _), (7, _), (8, _)] [] a := hfr.pick [0, 4, 5, 7, 8]
  refine wc_seq_k fun K14 hK14 => ?_
  refine wc_of_dr (by kernel_rfl) (dr_of_wd (by kernel_rfl) fun w8 hxz => ?_)
  replace hst := hst.grow hxz
  refine wd_sub (k := 0) 19 [12, 18] hfr (by kernel_rfl) (by kernel_rfl) (by kernel_rfl) (by rfl) ?_
  replace hfr : Fr 238 [(0, _), (4, _), (5, _), (7, _), (8, _)] [] a := hfr.pick [0, 4, 5, 7, 8]
  refine wc_phases_q [] (fun i => match i with | _ => fun _ _ => False) 19 [[], [], [1], [0, 2], [3], [4], [], [], [7], [6, 8], [9], [10], [5, 11], [], [], [14], [13, 15], [16], [17]] [u, .int .i64 (j : Int), .int .i64 ((j : Int) - 2), slAddr u ((j - 2) * 1), wv (((sch bs 64).take j).getD (j - 2) 0#32), wv (ror (((sch bs 64).take j).getD (j - 2) 0#32) 17), u, .int .i64 (j : Int), .int .i64 ((j : Int) - 2), slAddr u ((j - 2) * 1), wv (((sch bs 64).take j).getD (j - 2) 0#32), wv (ror (((sch bs 64).take j).getD (j - 2) 0#32) 19), wv ((ror (((sch bs 64).take j).getD (j - 2) 0#32) 17) ^^^ (ror (((sch bs 64).take j).getD (j - 2) 0#32) 19)), u, .int .i64 (j : Int), .int .i64 ((j : Int) - 2), slAddr u ((j - 2) * 1), wv (((sch bs 64).take j).getD (j - 2) 0#32), wv ((((sch bs 64).take j).getD (j - 2) 0#32) >>> 10)] hfr hst (by kernel_rfl) (by kernel_rfl) (by kernel_rfl) ?_ ?_ ?_
  ·intro i hi hiq
   match i, hi, hiq with
   | 0, _, _ =>
    intro w hst
    exact OpV.g (v_move rfl)
   | 1, _, _ =>
    intro w hst
    exact OpV.g (v_move rfl)
   | 2, _, _ =>
    intro w hst
    exact OpV.g (v_sub rfl rfl ⟨by omega, by omega⟩)
   | 3, _, _ =>
    intro w hst
    exact OpV.g ((v_indexAddr_sl (i := (j : Int) - 2) (sT := 192) (hst.ownAt (i := 0) rfl) rfl rfl (Tryz.runUnderlying192 _) (Tryz.sizeOf191 _) (by omega) (by rw [List.length_map]; first | omega | (rw [sch_len]; omega) | (rw [List.length_take, sch_len]; omega) | (rw [W8.l_len]; omega) | (rw [kOf_len]; omega))).as (v' := slAddr u ((j - 2) * 1)) (by rw [show ((j : Int) - 2).toNat = (j - 2) from by omega]))
   | 4, _, _ =>
    intro w hst
    exact OpV.g (v_load_sl1 (u := wv (((sch bs 64).take j).getD (j - 2) 0#32)) (i := (j - 2)) (j := 0) (hst.ownAt (i := 0) rfl) (by rw [List.length_map]; first | omega | (rw [sch_len]; omega) | (rw [List.length_take, sch_len]; omega) | (rw [W8.l_len]; omega) | (rw [kOf_len]; omega)) rfl (Tryz.isAgg191 _) (by rw [el_at 0#32]; rfl))
   | 5, _, _ =>
    intro w hst
    exact g_callp Tryz.call149 rfl (rot2_ok (((sch bs 64).take j).getD (j - 2) 0#32) 17 _ (by decide) (by decide))
   | 6, _, _ =>
    intro w hst
    exact OpV.g (v_move rfl)
   | 7, _, _ =>
    intro w hst
    exact OpV.g (v_move rfl)
   | 8, _, _ =>
    intro w hst
    exact OpV.g (v_sub rfl rfl ⟨by omega, by omega⟩)
   | 9, _, _ =>
    intro w hst
    exact OpV.g ((v_indexAddr_sl (i := (j : Int) - 2) (sT := 192) (hst.ownAt (i := 0) rfl) rfl rfl (Tryz.runUnderlying192 _) (Tryz.sizeOf191 _) (by omega) (by rw [List.length_map]; first | omega | (rw [sch_len]; omega) | (rw [List.length_take, sch_len]; omega) | (rw [W8.l_len]; omega) | (rw [kOf_len]; omega))).as (v' := slAddr u ((j - 2) * 1)) (by rw [show ((j : Int) - 2).toNat = (j - 2) from by omega]))
   | 10, _, _ =>
    intro w hst
    exact OpV.g (v_load_sl1 (u := wv (((sch bs 64).take j).getD (j - 2) 0#32)) (i := (j - 2)) (j := 0) (hst.ownAt (i := 0) rfl) (by rw [List.length_map]; first | omega | (rw [sch_len]; omega) | (rw [List.length_take, sch_len]; omega) | (rw [W8.l_len]; omega) | (rw [kOf_len]; omega)) rfl (Tryz.isAgg191 _) (by rw [el_at 0#32]; rfl))
   | 11, _, _ =>
    intro w hst
    exact g_callp Tryz.call149 rfl (rot2_ok (((sch bs 64).take j).getD (j - 2) 0#32) 19 _ (by decide) (by decide))
   | 12, _, _ =>
    intro w hst
    exact OpV.g (v_wxor rfl rfl)
   | 13, _, _ =>
    intro w hst
    exact OpV.g (v_move rfl)
   | 14, _, _ =>
    intro w hst
    exact OpV.g (v_move rfl)
   | 15, _, _ =>
    intro w hst
    exact OpV.g (v_sub rfl rfl ⟨by omega, by omega⟩)
   | 16, _, _ =>
    intro w hst
    exact OpV.g ((v_indexAddr_sl (i := (j : Int) - 2) (sT := 192) (hst.ownAt (i := 0) rfl) rfl rfl (Tryz.runUnderlying192 _) (Tryz.sizeOf191 _) (by omega) (by rw [List.length_map]; first | omega | (rw [sch_len]; omega) | (rw [List.length_take, sch_len]; omega) | (rw [W8.l_len]; omega) | (rw [kOf_len]; omega))).as (v' := slAddr u ((j - 2) * 1)) (by rw [show ((j : Int) - 2).toNat = (j - 2) from by omega]))
   | 17, _, _ =>
    intro w hst
    exact OpV.g (v_load_sl1 (u := wv (((sch bs 64).take j).getD (j - 2) 0#32)) (i := (j - 2)) (j := 0) (hst.ownAt (i := 0) rfl) (by rw [List.length_map]; first | omega | (rw [sch_len]; omega) | (rw [List.length_take, sch_len]; omega) | (rw [W8.l_len]; omega) | (rw [kOf_len]; omega)) rfl (Tryz.isAgg191 _) (by rw [el_at 0#32]; rfl))
   | 18, _, _ =>
    intro w hst
    exact OpV.g (v_wshr (n := 10) rfl rfl)
   | i + 19, h, _ => exact absurd h (by omega)
  ·intro i hi
   exact absurd hi (by simp)
  clear hfr hst
  intro  a w9 hfr hst
  replace hfr : Fr 238 [(83, u), (84, .int .i64 (j : Int)), (85, .int .i64 ((j : Int) - 2)), (86, slAddr u ((j - 2) * 1)), (87, wv (((sch bs 64).take j).getD (j - 2) 0#32)), (88, wv (ror (((sch bs 64).take j).getD (j - 2) 0#32) 17)), (89, u), (90, .int .i64 (j : Int)), (91, .int .i64 ((j : Int) - 2)), (92, slAddr u ((j - 2) * 1)), (93, wv (((sch bs 64).take j).getD (j - 2) 0#32)), (94, wv (ror (((sch bs 64).take j).getD (j - 2) 0#32) 19)), (95, wv ((ror (((sch bs 64).take j).getD (j - 2) 0#32) 17) ^^^ (ror (((sch bs 64).take j).getD (j - 2) 0#32) 19))), (96, u), (97, .int .i64 (j : Int)), (98, .int .i64 ((j : Int) - 2)), (99, slAddr u ((j - 2) * 1)), (100, wv (((sch bs 64).take j).getD (j - 2) 0#32)), (101, wv ((((sch bs 64).take j).getD (j - 2) 0#32) >>> 10)), (0, _), (4, _), (5, _), (7, _), (8, _)] [] a := hfr
  refine wl_nil ?_
  refine wd_lin (k := 19) 21 [20] (by kernel_rfl) (by kernel_rfl) (by kernel_rfl) ?_
  refine wlv hfr (v_wxor rfl rfl) fun a hfr => ?_
  refine wla hfr rfl fun a hfr => ?_
  refine wl_nil ?_
  refine wd_end (by kernel_rfl) ?_
  refine hK14 _ _ ?_
  replace hfr : Fr 238 [(0, _), (4, _), (5, _), (7, _), (8, _), (9, _)] [] a := hfr.pick [0, 4, 5, 7, 8, 9]
  refine wc_of_dr (by kernel_rfl) (dr_of_wd (by kernel_rfl) fun w10 hxz => ?_)
  replace hst := hst.grow hxz
  refine wd_sub (k := 0) 17 [0, 16] hfr (by kernel_rfl) (by kernel_rfl) (by kernel_rfl) (by rfl) ?_
  replace hfr : Fr 238 [(0, _), (4, _), (5, _), (7, _), (8, _), (9, _)] [] a := hfr.pick [0, 4, 5, 7, 8, 9]
  refine wc_phases_q [16] (fun i => match i with | 16 => pm (fun b : Nat => .slice (some ⟨b, 0, none⟩) 1 1) (fun b => [own (.slice (some ⟨b, 0, none⟩) 1 1) 191 1 [[wv ((((((sch bs 64).take j).getD (j - 16) 0#32) + (((ror (((sch bs 64).take j).getD (j - 15) 0#32) 7) ^^^ (ror (((sch bs 64).take j).getD (j - 15) 0#32) 18)) ^^^ ((((sch bs 64).take j).getD (j - 15) 0#32) >>> 3))) + (((sch bs 64).take j).getD (j - 7) 0#32)) + (((ror (((sch bs 64).take j).getD (j - 2) 0#32) 17) ^^^ (ror (((sch bs 64).take j).getD (j - 2) 0#32) 19)) ^^^ ((((sch bs 64).take j).getD (j - 2) 0#32) >>> 10)))]]]) (fun _ => True) | _ => fun _ _ => False) 17 [[], [], [], [2], [1, 3], [4], [], [5, 6], [], [], [9], [8, 10], [11], [7, 12], [], [13, 14], [15]] [u, u, .int .i64 (j : Int), .int .i64 ((j : Int) - 16), slAddr u ((j - 16) * 1), wv (((sch bs 64).take j).getD (j - 16) 0#32), wv (((ror (((sch bs 64).take j).getD (j - 15) 0#32) 7) ^^^ (ror (((sch bs 64).take j).getD (j - 15) 0#32) 18)) ^^^ ((((sch bs 64).take j).getD (j - 15) 0#32) >>> 3)), wv ((((sch bs 64).take j).getD (j - 16) 0#32) + (((ror (((sch bs 64).take j).getD (j - 15) 0#32) 7) ^^^ (ror (((sch bs 64).take j).getD (j - 15) 0#32) 18)) ^^^ ((((sch bs 64).take j).getD (j - 15) 0#32) >>> 3))), u, .int .i64 (j : Int), .int .i64 ((j : Int) - 7), slAddr u ((j - 7) * 1), wv (((sch bs 64).take j).getD (j - 7) 0#32), wv (((((sch bs 64).take j).getD (j - 16) 0#32) + (((ror (((sch bs 64).take j).getD (j - 15) 0#32) 7) ^^^ (ror (((sch bs 64).take j).getD (j - 15) 0#32) 18)) ^^^ ((((sch bs 64).take j).getD (j - 15) 0#32) >>> 3))) + (((sch bs 64).take j).getD (j - 7) 0#32)), wv (((ror (((sch bs 64).take j).getD (j - 2) 0#32) 17) ^^^ (ror (((sch bs 64).take j).getD (j - 2) 0#32) 19)) ^^^ ((((sch bs 64).take j).getD (j - 2) 0#32) >>> 10)), wv ((((((sch bs 64).take j).getD (j - 16) 0#32) + (((ror (((sch bs 64).take j).getD (j - 15) 0#32) 7) ^^^ (ror (((sch bs 64).take j).getD (j - 15) 0#32) 18)) ^^^ ((((sch bs 64).take j).getD (j - 15) 0#32) >>> 3))) + (((sch bs 64).take j).getD (j - 7) 0#32)) + (((ror (((sch bs 64).take j).getD (j - 2) 0#32) 17) ^^^ (ror (((sch bs 64).take j).getD (j - 2) 0#32) 19)) ^^^ ((((sch bs 64).take j).getD (j - 2) 0#32) >>> 10))), undef] hfr hst (by kernel_rfl) (by kernel_rfl) (by kernel_rfl) ?_ ?_ ?_
  ·intro i hi hiq
   match i, hi, hiq with
   | 0, _, _ =>
    intro w hst
    exact OpV.g (v_move rfl)
   | 1, _, _ =>
    intro w hst
    exact OpV.g (v_move rfl)
   | 2, _, _ =>
    intro w hst
    exact OpV.g (v_move rfl)
   | 3, _, _ =>
    intro w hst
    exact OpV.g (v_sub rfl rfl ⟨by omega, by omega⟩)
   | 4, _, _ =>
    intro w hst
    exact OpV.g ((v_indexAddr_sl (i := (j : Int) - 16) (sT := 192) (hst.ownAt (i := 0) rfl) rfl rfl (Tryz.runUnderlying192 _) (Tryz.sizeOf191 _) (by omega) (by rw [List.length_map]; first | omega | (rw [sch_len]; omega) | (rw [List.length_take, sch_len]; omega) | (rw [W8.l_len]; omega) | (rw [kOf_len]; omega))).as (v' := slAddr u ((j - 16) * 1)) (by rw [show ((j : Int) - 16).toNat = (j - 16) from by omega]))
   | 5, _, _ =>
    intro w hst
    exact OpV.g (v_load_sl1 (u := wv (((sch bs 64).take j).getD (j - 16) 0#32)) (i := (j - 16)) (j := 0) (hst.ownAt (i := 0) rfl) (by rw [List.length_map]; first | omega | (rw [sch_len]; omega) | (rw [List.length_take, sch_len]; omega) | (rw [W8.l_len]; omega) | (rw [kOf_len]; omega)) rfl (Tryz.isAgg191 _) (by rw [el_at 0#32]; rfl))
   | 6, _, _ =>
    intro w hst
    exact OpV.g (v_move rfl)
   | 7, _, _ =>
    intro w hst
    exact OpV.g (v_wadd rfl rfl)
   | 8, _, _ =>
    intro w hst
    exact OpV.g (v_move rfl)
   | 9, _, _ =>
    intro w hst
    exact OpV.g (v_move rfl)
   | 10, _, _ =>
    intro w hst
    exact OpV.g (v_sub rfl rfl ⟨by omega, by omega⟩)
   | 11, _, _ =>
    intro w hst
    exact OpV.g ((v_indexAddr_sl (i := (j : Int) - 7) (sT := 192) (hst.ownAt (i := 0) rfl) rfl rfl (Tryz.runUnderlying192 _) (Tryz.sizeOf191 _) (by omega) (by rw [List.length_map]; first | omega | (rw [sch_len]; omega) | (rw [List.length_take, sch_len]; omega) | (rw [W8.l_len]; omega) | (rw [kOf_len]; omega))).as (v' := slAddr u ((j - 7) * 1)) (by rw [show ((j : Int) - 7).toNat = (j - 7) from by omega]))
   | 12, _, _ =>
    intro w hst
    exact OpV.g (v_load_sl1 (u := wv (((sch bs 64).take j).getD (j - 7) 0#32)) (i := (j - 7)) (j := 0) (hst.ownAt (i := 0) rfl) (by rw [List.length_map]; first | omega | (rw [sch_len]; omega) | (rw [List.length_take, sch_len]; omega) | (rw [W8.l_len]; omega) | (rw [kOf_len]; omega)) rfl (Tryz.isAgg191 _) (by rw [el_at 0#32]; rfl))
   | 13, _, _ =>
    intro w hst
    exact OpV.g (v_wadd rfl rfl)
   | 14, _, _ =>
    intro w hst
    exact OpV.g (v_move rfl)
   | 15, _, _ =>
    intro w hst
    exact OpV.g (v_wadd rfl rfl)
   | 16, _, h => exact absurd (by simp) h
   | i + 17, h, _ => exact absurd h (by omega)
  ·intro i hi
   simp only [List.mem_cons, List.not_mem_nil, or_false] at hi
   subst hi
   ·intro w hst
    exact g_buildSlice (E := 191) (sz := 1) rfl [[wv ((((((sch bs 64).take j).getD (j - 16) 0#32) + (((ror (((sch bs 64).take j).getD (j - 15) 0#32) 7) ^^^ (ror (((sch bs 64).take j).getD (j - 15) 0#32) 18)) ^^^ ((((sch bs 64).take j).getD (j - 15) 0#32) >>> 3))) + (((sch bs 64).take j).getD (j - 7) 0#32)) + (((ror (((sch bs 64).take j).getD (j - 2) 0#32) 17) ^^^ (ror (((sch bs 64).take j).getD (j - 2) 0#32) 19)) ^^^ ((((sch bs 64).take j).getD (j - 2) 0#32) >>> 10)))]] (fun _ => by kernel_rfl) (by simp) rfl (by decide)
  clear hfr hst
  rintro _ _ ⟨b5, rfl, -, rfl⟩ a w11 hfr hst
  replace hfr : Fr 238 [(103, u), (104, u), (105, .int .i64 (j : Int)), (106, .int .i64 ((j : Int) - 16)), (107, slAddr u ((j - 16) * 1)), (108, wv (((sch bs 64).take j).getD (j - 16) 0#32)), (109, wv (((ror (((sch bs 64).take j).getD (j - 15) 0#32) 7) ^^^ (ror (((sch bs 64).take j).getD (j - 15) 0#32) 18)) ^^^ ((((sch bs 64).take j).getD (j - 15) 0#32) >>> 3))), (110, wv ((((sch bs 64).take j).getD (j - 16) 0#32) + (((ror (((sch bs 64).take j).getD (j - 15) 0#32) 7) ^^^ (ror (((sch bs 64).take j).getD (j - 15) 0#32) 18)) ^^^ ((((sch bs 64).take j).getD (j - 15) 0#32) >>> 3)))), (111, u), (112, .int .i64 (j : Int)), (113, .int .i64 ((j : Int) - 7)), (114, slAddr u ((j - 7) * 1)), (115, wv (((sch bs 64).take j).getD (j - 7) 0#32)), (116, wv (((((sch bs 64).take j).getD (j - 16) 0#32) + (((ror (((sch bs 64).take j).getD (j - 15) 0#32) 7) ^^^ (ror (((sch bs 64).take j).getD (j - 15) 0#32) 18)) ^^^ ((((sch bs 64).take j).getD (j - 15) 0#32) >>> 3))) + (((sch bs 64).take j).getD (j - 7) 0#32))), (117, wv (((ror (((sch bs 64).take j).getD (j - 2) 0#32) 17) ^^^ (ror (((sch bs 64).take j).getD (j - 2) 0#32) 19)) ^^^ ((((sch bs 64).take j).getD (j - 2) 0#32) >>> 10))), (118, wv ((((((sch bs 64).take j).getD (j - 16) 0#32) + (((ror (((sch bs 64).take j).getD (j - 15) 0#32) 7) ^^^ (ror (((sch bs 64).take j).getD (j - 15) 0#32) 18)) ^^^ ((((sch bs 64).take j).getD (j - 15) 0#32) >>> 3))) + (((sch bs 64).take j).getD (j - 7) 0#32)) + (((ror (((sch bs 64).take j).getD (j - 2) 0#32) 17) ^^^ (ror (((sch bs 64).take j).getD (j - 2) 0#32) 19)) ^^^ ((((sch bs 64).take j).getD (j - 2) 0#32) >>> 10)))), (119, _), (0, _), (4, _), (5, _), (7, _), (8, _), (9, _)] [] a := hfr
  replace hst : St No w0 [_, _] w11 := hst
  refine wl_nil ?_
  refine wd_lin (k := 17) 19 [18] (by kernel_rfl) (by kernel_rfl) (by kernel_rfl) ?_
  refine wl_append (i := 1) (sT := 192) (inf := Tryz.t191) (z := wv (0#32)) (b := 0) (off := 0) (m := 0) (c := 0) rfl rfl rfl (hst.ownAt (i := 0) rfl) (by simp) Tryz.underlying192 rfl rfl rfl rfl (by decide) (by simp [Value.oneCell', yv, wv, sv]) (by have hby : Tryz.t191.bytes = 4 := rfl; simp only [big, hby, List.length_append, List.length_map, List.length_take, sch_len, W8.l_len, List.length_cons, List.length_nil]; omega) (by have hby : Tryz.t191.bytes = 4 := rfl; simp only [big, hby, List.length_append, List.length_map, List.length_take, sch_len, W8.l_len, List.length_cons, List.length_nil]; omega) (by decide) hfr hst fun a w12 s6 hfr hst _ => ?_
  refine wla hfr rfl fun a hfr => ?_
  refine wl_nil ?_
  refine wd_end (by kernel_rfl) ?_
  refine hK12 _ _ ?_
  replace hfr : Fr 238 [(0, _), (4, _), (7, _), (5, _)] [] a := hfr.pick [0, 4, 7, 5]
  replace hst : St No w0 [_] w12 := hst.mask [false, true]
  refine wc_region ?_
  refine wlm hfr rfl fun a hfr => ?_
  refine wlv hfr (v_add rfl rfl ⟨by omega, by omega⟩) fun a hfr => ?_
  refine wla hfr rfl fun a hfr => ?_
  refine wl_nil ?_
  rw [show (((sch bs 64).take j).map fun x => [wv x]) ++ ([[wv ((((((sch bs 64).take j).getD (j - 16) 0#32) + (((ror (((sch bs 64).take j).getD (j - 15) 0#32) 7) ^^^ (ror (((sch bs 64).take j).getD (j - 15) 0#32) 18)) ^^^ ((((sch bs 64).take j).getD (j - 15) 0#32) >>> 3))) + (((sch bs 64).take j).getD (j - 7) 0#32)) + (((ror (((sch bs 64).take j).getD (j - 2) 0#32) 17) ^^^ (ror (((sch bs 64).take j).getD (j - 2) 0#32) 19)) ^^^ ((((sch bs 64).take j).getD (j - 2) 0#32) >>> 10)))]]) = (((sch bs 64).take (j + 1)).map fun x => [wv x]) from by rw [sch_take2 bs (by omega) (by omega)]; simp] at hst
  refine ⟨_, ?_, j + 1, s6, rfl, (by omega), (by omega), hfr.pick [0, 4, 5, 7], hst.select [0] (by decide)⟩
  omega
 rw [hc4] at hfr
 try simp only [qz] at hc4
 obtain rfl : j = 64 := by omega
 rw [List.take_of_length_le (by rw [sch_len]; omega)] at hst
 refine wc_exit ?_
 refine hK8 _ _ ?_
 refine wc_seq_region fun K15 hK15 => ?_
 refine wl_callm hfr hst (by decide) Tryz.call150 rfl (constants_ok _) ?_
 clear hfr hst
 intro a w13 x7 hp hfr hst
 revert x7 hp hfr hst; rintro kz hp hfr hst
 clear hp
 replace hst : St No w0 [own kz 191 1 ((kOf).map fun x => [wv x]), own u 191 1 ((sch bs 64).map fun x => [wv x])] w13 := hst
 refine wla hfr rfl fun a hfr => ?_
 refine wl_nil (hK15 _ _ ?_)
 refine wc_seq_region fun K16 hK16 => ?_
 refine wla hfr rfl fun a hfr => ?_
 refine wl_nil (hK16 _ _ ?_)
 refine wc_seq_region fun K17 hK17 => ?_
 refine wlm hfr rfl fun a hfr => ?_
 refine wlm hfr rfl fun a hfr => ?_
 replace hst : St No w0 (own (.slice none 0 0) 191 1 [] :: [_, _]) w13 := hst.nil_own
 refine wl_append_any (i := 0) (sT := 192) (inf := Tryz.t191) (z := wv (0#32)) rfl rfl rfl (hst.arg hhv) Tryz.underlying192 rfl rfl rfl rfl (by decide) (by simp [Value.oneCell', yv, wv, sv]) (by have hby : Tryz.t191.bytes = 4 := rfl; simp only [big, hby, List.length_append, List.length_map, List.length_take, sch_len, W8.l_len, List.length_cons, List.length_nil]; omega) (by have hby : Tryz.t191.bytes = 4 := rfl; simp only [big, hby, List.length_append, List.length_map, List.length_take, sch_len, W8.l_len, List.length_cons, List.length_nil]; omega) (by decide) hfr hst ?_
 clear hfr hst
 intro a w14 s8 hfr hst
 refine wla hfr rfl fun a hfr => ?_
 refine wl_nil (hK17 _ _ ?_)
 replace hfr : Fr 238 [(0, _), (4, _), (5, _), (10, _), (11, _)] [] a := hfr.pick [0, 4, 5, 10, 11]
 refine wc_seq_k fun K18 hK18 => ?_
 refine wc_seq_region fun K19 hK19 => ?_
 refine wla hfr rfl fun a hfr => ?_
 refine wl_nil (hK19 _ _ ?_)
 refine wc_block ?_
 rw [show ([]) ++ ((hv.l).map fun x => [wv x]) = ((hv.l).map fun x => [wv x]) from by simp] at hst
 refine wc_loop (fun m a w => ∃ (ix : Nat) (v : W8) (z : Value), m = 64 - ix ∧ (ix ≤ 64) ∧ (rounds (sch bs 64) hv ix = v) ∧ Fr 238 [(0, hvv), (4, .slice none 0 0), (5, u), (10, kz), (11, z), (12, .int .i64 (ix : Int))] [] a ∧ St No w0 [own z 191 1 ((v.l).map fun x => [wv x]), own u 191 1 ((sch bs 64).map fun x => [wv x]), own kz 191 1 ((kOf).map fun x => [wv x])] w) _ ⟨0, hv, s8, rfl, Nat.zero_le _, rfl, hfr.pick [0, 4, 5, 10, 11, 12], hst.select [0, 2, 1] (by decide)⟩ ?_
 rintro _ a w15 ⟨ix, v, z, rfl, hi, hrv, hfr, hst⟩
 refine wc_seq_k fun K20 hK20 => ?_
 refine wc_seq_region fun K21 hK21 => ?_
 refine wlm hfr rfl fun a hfr => ?_
 refine wlv hfr (v_lt rfl rfl) fun a hfr => ?_
 refine wl_nil (hK21 _ _ ?_)
 refine wc_cond hfr rfl (fun hc9 => ?_) (fun hc9 => ?_)
 ·rw [hc9] at hfr
  try simp only [qz] at hc9
  refine wc_skip ?_
  refine hK20 _ _ ?_
  refine wc_seq_k fun K22 hK22 => ?_
  refine wc_block ?_
  refine wc_seq_region fun K23 hK23 => ?_
  refine wlm hfr rfl fun a hfr => ?_
  refine wlv hfr ((v_indexAddr_sl (i := 0) (sT := 192) (hst.ownAt (i := 0) rfl) rfl rfl (Tryz.runUnderlying192 _) (Tryz.sizeOf191 _) (by omega) (by rw [List.length_map, W8.l_len]; decide)).as (v' := slAddr z (0 * 1)) rfl) fun a hfr => ?_
  refine wlv hfr (v_load_sl1 (u := wv v.a) (i := 0) (j := 0) (hst.ownAt (i := 0) rfl) (by rw [List.length_map, W8.l_len]; decide) rfl (Tryz.isAgg191 _) (by rfl)) fun a hfr => ?_
  refine wla hfr rfl fun a hfr => ?_
  refine wl_nil (hK23 _ _ ?_)
  refine wc_seq_region fun K24 hK24 => ?_
  refine wlm hfr rfl fun a hfr => ?_
  refine wlv hfr ((v_indexAddr_sl (i := 4) (sT := 192) (hst.ownAt (i := 0) rfl) rfl rfl (Tryz.runUnderlying192 _) (Tryz.sizeOf191 _) (by omega) (by rw [List.length_map, W8.l_len]; decide)).as (v' := slAddr z (4 * 1)) rfl) fun a hfr => ?_
  refine wlv hfr (v_load_sl1 (u := wv v.e) (i := 4) (j := 0) (hst.ownAt (i := 0) rfl) (by rw [List.length_map, W8.l_len]; decide) rfl (Tryz.isAgg191 _) (by rfl)) fun a hfr => ?_
  refine wla hfr rfl fun a hfr => ?_
  refine wl_nil (hK24 _ _ ?_)
  replace hfr : Fr 238 [(0, _), (4, _), (5, _), (10, _), (11, _), (12, _), (13, _), (14, _)] [] a := hfr.pick [0, 4, 5, 10, 11, 12, 13, 14]
  refine wc_seq_k fun K25 hK25 => ?_
  refine wc_of_dr (by kernel_rfl) (dr_of_wd (by kernel_rfl) fun w16 hxz => ?_)
  replace hst := hst.grow hxz
  refine wd_sub (k := 0) 34 [29, 33] hfr (by kernel_rfl) (by kernel_rfl) (by kernel_rfl) (by rfl) ?_
  replace hfr : Fr 238 [(0, _), (4, _), (5, _), (10, _), (11, _), (12, _), (13, _), (14, _)] [] a := hfr.pick [0, 4, 5, 10, 11, 12, 13, 14]
  refine wc_phases_q [] (fun i => match i with | _ => fun _ _ => False) 34 [[], [0], [1], [], [3], [], [5], [4, 6], [], [8], [7, 9], [2, 10], [], [], [13], [14], [12, 15], [], [17], [], [19], [20], [18, 21], [16, 22], [11, 23], [], [], [25, 26], [27], [24, 28], [], [], [30, 31], [32]] [z, slAddr z (7 * 1), wv v.h, wv v.e, wv (ror v.e 6), wv v.e, wv (ror v.e 11), wv ((ror v.e 6) ^^^ (ror v.e 11)), wv v.e, wv (ror v.e 25), wv (((ror v.e 6) ^^^ (ror v.e 11)) ^^^ (ror v.e 25)), wv (v.h + (((ror v.e 6) ^^^ (ror v.e 11)) ^^^ (ror v.e 25))), wv v.e, z, slAddr z (5 * 1), wv v.f, wv (v.e &&& v.f), wv v.e, wv (~~~v.e), z, slAddr z (6 * 1), wv v.g, wv ((~~~v.e) &&& v.g), wv ((v.e &&& v.f) ^^^ ((~~~v.e) &&& v.g)), wv ((v.h + (((ror v.e 6) ^^^ (ror v.e 11)) ^^^ (ror v.e 25))) + ((v.e &&& v.f) ^^^ ((~~~v.e) &&& v.g))), kz, .int .i64 (ix : Int), slAddr kz (ix * 1), wv ((kOf).getD ix 0#32), wv (((v.h + (((ror v.e 6) ^^^ (ror v.e 11)) ^^^ (ror v.e 25))) + ((v.e &&& v.f) ^^^ ((~~~v.e) &&& v.g))) + ((kOf).getD ix 0#32)), u, .int .i64 (ix : Int), slAddr u (ix * 1), wv ((sch bs 64).getD ix 0#32)] hfr hst (by kernel_rfl) (by kernel_rfl) (by kernel_rfl) ?_ ?_ ?_
  ·intro i hi hiq
   match i, hi, hiq with
   | 0, _, _ =>
    intro w hst
    exact OpV.g (v_move rfl)
   | 1, _, _ =>
    intro w hst
    exact OpV.g ((v_indexAddr_sl (i := 7) (sT := 192) (hst.ownAt (i := 0) rfl) rfl rfl (Tryz.runUnderlying192 _) (Tryz.sizeOf191 _) (by omega) (by rw [List.length_map, W8.l_len]; decide)).as (v' := slAddr z (7 * 1)) rfl)
   | 2, _, _ =>
    intro w hst
    exact OpV.g (v_load_sl1 (u := wv v.h) (i := 7) (j := 0) (hst.ownAt (i := 0) rfl) (by rw [List.length_map, W8.l_len]; decide) rfl (Tryz.isAgg191 _) (by rfl))
   | 3, _, _ =>
    intro w hst
    exact OpV.g (v_move rfl)
   | 4, _, _ =>
    intro w hst
    exact g_callp Tryz.call149 rfl (rot2_ok v.e 6 _ (by decide) (by decide))
   | 5, _, _ =>
    intro w hst
    exact OpV.g (v_move rfl)
   | 6, _, _ =>
    intro w hst
    exact g_callp Tryz.call149 rfl (rot2_ok v.e 11 _ (by decide) (by decide))
   | 7, _, _ =>
    intro w hst
    exact OpV.g (v_wxor rfl rfl)
   | 8, _, _ =>
    intro w hst
    exact OpV.g (v_move rfl)
   | 9, _, _ =>
    intro w hst
    exact g_callp Tryz.call149 rfl (rot2_ok v.e 25 _ (by decide) (by decide))
   | 10, _, _ =>
    intro w hst
    exact OpV.g (v_wxor rfl rfl)
   | 11, _, _ =>
    intro w hst
    exact OpV.g (v_wadd rfl rfl)
   | 12, _, _ =>
    intro w hst
    exact OpV.g (v_move rfl)
   | 13, _, _ =>
    intro w hst
    exact OpV.g (v_move rfl)
   | 14, _, _ =>
    intro w hst
    exact OpV.g ((v_indexAddr_sl (i := 5) (sT := 192) (hst.ownAt (i := 0) rfl) rfl rfl (Tryz.runUnderlying192 _) (Tryz.sizeOf191 _) (by omega) (by rw [List.length_map, W8.l_len]; decide)).as (v' := slAddr z (5 * 1)) rfl)
   | 15, _, _ =>
    intro w hst
    exact OpV.g (v_load_sl1 (u := wv v.f) (i := 5) (j := 0) (hst.ownAt (i := 0) rfl) (by rw [List.length_map, W8.l_len]; decide) rfl (Tryz.isAgg191 _) (by rfl))
   | 16, _, _ =>
    intro w hst
    exact OpV.g (v_wand rfl rfl)
   | 17, _, _ =>
    intro w hst
    exact OpV.g (v_move rfl)
   | 18, _, _ =>
    intro w hst
    exact OpV.g (v_wnot rfl)
   | 19, _, _ =>
    intro w hst
    exact OpV.g (v_move rfl)
   | 20, _, _ =>
    intro w hst
    exact OpV.g ((v_indexAddr_sl (i := 6) (sT := 192) (hst.ownAt (i := 0) rfl) rfl rfl (Tryz.runUnderlying192 _) (Tryz.sizeOf191 _) (by omega) (by rw [List.length_map, W8.l_len]; decide)).as (v' := slAddr z (6 * 1)) rfl)
   | 21, _, _ =>
    intro w hst
    exact OpV.g (v_load_sl1 (u := wv v.g) (i := 6) (j := 0) (hst.ownAt (i := 0) rfl) (by rw [List.length_map, W8.l_len]; decide) rfl (Tryz.isAgg191 _) (by rfl))
   | 22, _, _ =>
    intro w hst
    exact OpV.g (v_wand rfl rfl)
   | 23, _, _ =>
    intro w hst
    exact OpV.g (v_wxor rfl rfl)
   | 24, _, _ =>
    intro w hst
    exact OpV.g (v_wadd rfl rfl)
   | 25, _, _ =>
    intro w hst
    exact OpV.g (v_move rfl)
   | 26, _, _ =>
    intro w hst
    exact OpV.g (v_move rfl)
   | 27, _, _ =>
    intro w hst
    exact OpV.g ((v_indexAddr_sl (i := (ix : Int)) (sT := 192) (hst.ownAt (i := 2) rfl) rfl rfl (Tryz.runUnderlying192 _) (Tryz.sizeOf191 _) (by omega) (by rw [List.length_map]; first | omega | (rw [sch_len]; omega) | (rw [List.length_take, sch_len]; omega) | (rw [W8.l_len]; omega) | (rw [kOf_len]; omega))).as (v' := slAddr kz (ix * 1)) rfl)
   | 28, _, _ =>
    intro w hst
    exact OpV.g (v_load_sl1 (u := wv ((kOf).getD ix 0#32)) (i := ix) (j := 0) (hst.ownAt (i := 2) rfl) (by rw [List.length_map]; first | omega | (rw [sch_len]; omega) | (rw [List.length_take, sch_len]; omega) | (rw [W8.l_len]; omega) | (rw [kOf_len]; omega)) rfl (Tryz.isAgg191 _) (by rw [el_at 0#32]; rfl))
   | 29, _, _ =>
    intro w hst
    exact OpV.g (v_wadd rfl rfl)
   | 30, _, _ =>
    intro w hst
    exact OpV.g (v_move rfl)
   | 31, _, _ =>
    intro w hst
    exact OpV.g (v_move rfl)
   | 32, _, _ =>
    intro w hst
    exact OpV.g ((v_indexAddr_sl (i := (ix : Int)) (sT := 192) (hst.ownAt (i := 1) rfl) rfl rfl (Tryz.runUnderlying192 _) (Tryz.sizeOf191 _) (by omega) (by rw [List.length_map]; first | omega | (rw [sch_len]; omega) | (rw [List.length_take, sch_len]; omega) | (rw [W8.l_len]; omega) | (rw [kOf_len]; omega))).as (v' := slAddr u (ix * 1)) rfl)
   | 33, _, _ =>
    intro w hst
    exact OpV.g (v_load_sl1 (u := wv ((sch bs 64).getD ix 0#32)) (i := ix) (j := 0) (hst.ownAt (i := 1) rfl) (by rw [List.length_map]; first | omega | (rw [sch_len]; omega) | (rw [List.length_take, sch_len]; omega) | (rw [W8.l_len]; omega) | (rw [kOf_len]; omega)) rfl (Tryz.isAgg191 _) (by rw [el_at 0#32]; rfl))
   | i + 34, h, _ => exact absurd h (by omega)
  ·intro i hi
   exact absurd hi (by simp)
  clear hfr hst
  intro  a w17 hfr hst
  replace hfr : Fr 238 [(135, z), (136, slAddr z (7 * 1)), (137, wv v.h), (138, wv v.e), (139, wv (ror v.e 6)), (140, wv v.e), (141, wv (ror v.e 11)), (142, wv ((ror v.e 6) ^^^ (ror v.e 11))), (143, wv v.e), (144, wv (ror v.e 25)), (145, wv (((ror v.e 6) ^^^ (ror v.e 11)) ^^^ (ror v.e 25))), (146, wv (v.h + (((ror v.e 6) ^^^ (ror v.e 11)) ^^^ (ror v.e 25)))), (147, wv v.e), (148, z), (149, slAddr z (5 * 1)), (150, wv v.f), (151, wv (v.e &&& v.f)), (152, wv v.e), (153, wv (~~~v.e)), (154, z), (155, slAddr z (6 * 1)), (156, wv v.g), (157, wv ((~~~v.e) &&& v.g)), (158, wv ((v.e &&& v.f) ^^^ ((~~~v.e) &&& v.g))), (159, wv ((v.h + (((ror v.e 6) ^^^ (ror v.e 11)) ^^^ (ror v.e 25))) + ((v.e &&& v.f) ^^^ ((~~~v.e) &&& v.g)))), (160, kz), (161, .int .i64 (ix : Int)), (162, slAddr kz (ix * 1)), (163, wv ((kOf).getD ix 0#32)), (164, wv (((v.h + (((ror v.e 6) ^^^ (ror v.e 11)) ^^^ (ror v.e 25))) + ((v.e &&& v.f) ^^^ ((~~~v.e) &&& v.g))) + ((kOf).getD ix 0#32))), (165, u), (166, .int .i64 (ix : Int)), (167, slAddr u (ix * 1)), (168, wv ((sch bs 64).getD ix 0#32)), (0, _), (4, _), (5, _), (10, _), (11, _), (12, _), (13, _), (14, _)] [] a := hfr
  refine wl_nil ?_
  refine wd_lin (k := 34) 36 [35] (by kernel_rfl) (by kernel_rfl) (by kernel_rfl) ?_
  refine wlv hfr (v_wadd rfl rfl) fun a hfr => ?_
  refine wla hfr rfl fun a hfr => ?_
  refine wl_nil ?_
  refine wd_end (by kernel_rfl) ?_
  refine hK25 _ _ ?_
  replace hfr : Fr 238 [(0, _), (4, _), (5, _), (10, _), (11, _), (12, _), (13, _), (14, _), (15, _)] [] a := hfr.pick [0, 4, 5, 10, 11, 12, 13, 14, 15]
  refine wc_seq_k fun K26 hK26 => ?_
  refine wc_of_dr (by kernel_rfl) (dr_of_wd (by kernel_rfl) fun w18 hxz => ?_)
  replace hst := hst.grow hxz
  refine wd_sub (k := 0) 27 [7, 26] hfr (by kernel_rfl) (by kernel_rfl) (by kernel_rfl) (by rfl) ?_
  replace hfr : Fr 238 [(0, _), (4, _), (5, _), (10, _), (11, _), (12, _), (13, _), (14, _), (15, _)] [] a := hfr.pick [0, 4, 5, 10, 11, 12, 13, 14, 15]
  refine wc_phases_q [] (fun i => match i with | _ => fun _ _ => False) 27 [[], [0], [], [2], [1, 3], [], [5], [4, 6], [], [], [9], [10], [8, 11], [], [], [14], [15], [13, 16], [12, 17], [], [19], [20], [], [22], [23], [21, 24], [18, 25]] [wv v.a, wv (ror v.a 2), wv v.a, wv (ror v.a 13), wv ((ror v.a 2) ^^^ (ror v.a 13)), wv v.a, wv (ror v.a 22), wv (((ror v.a 2) ^^^ (ror v.a 13)) ^^^ (ror v.a 22)), wv v.a, z, slAddr z (1 * 1), wv v.b, wv (v.a &&& v.b), wv v.a, z, slAddr z (2 * 1), wv v.c, wv (v.a &&& v.c), wv ((v.a &&& v.b) ^^^ (v.a &&& v.c)), z, slAddr z (1 * 1), wv v.b, z, slAddr z (2 * 1), wv v.c, wv (v.b &&& v.c), wv (((v.a &&& v.b) ^^^ (v.a &&& v.c)) ^^^ (v.b &&& v.c))] hfr hst (by kernel_rfl) (by kernel_rfl) (by kernel_rfl) ?_ ?_ ?_
  ·intro i hi hiq
   match i, hi, hiq with
   | 0, _, _ =>
    intro w hst
    exact OpV.g (v_move rfl)
   | 1, _, _ =>
    intro w hst
    exact g_callp Tryz.call149 rfl (rot2_ok v.a 2 _ (by decide) (by decide))
   | 2, _, _ =>
    intro w hst
    exact OpV.g (v_move rfl)
   | 3, _, _ =>
    intro w hst
    exact g_callp Tryz.call149 rfl (rot2_ok v.a 13 _ (by decide) (by decide))
   | 4, _, _ =>
    intro w hst
    exact OpV.g (v_wxor rfl rfl)
   | 5, _, _ =>
    intro w hst
    exact OpV.g (v_move rfl)
   | 6, _, _ =>
    intro w hst
    exact g_callp Tryz.call149 rfl (rot2_ok v.a 22 _ (by decide) (by decide))
   | 7, _, _ =>
    intro w hst
    exact OpV.g (v_wxor rfl rfl)
   | 8, _, _ =>
    intro w hst
    exact OpV.g (v_move rfl)
   | 9, _, _ =>
    intro w hst
    exact OpV.g (v_move rfl)
   | 10, _, _ =>
    intro w hst
    exact OpV.g ((v_indexAddr_sl (i := 1) (sT := 192) (hst.ownAt (i := 0) rfl) rfl rfl (Tryz.runUnderlying192 _) (Tryz.sizeOf191 _) (by omega) (by rw [List.length_map, W8.l_len]; decide)).as (v' := slAddr z (1 * 1)) rfl)
   | 11, _, _ =>
    intro w hst
    exact OpV.g (v_load_sl1 (u := wv v.b) (i := 1) (j := 0) (hst.ownAt (i := 0) rfl) (by rw [List.length_map, W8.l_len]; decide) rfl (Tryz.isAgg191 _) (by rfl))
   | 12, _, _ =>
    intro w hst
    exact OpV.g (v_wand rfl rfl)
   | 13, _, _ =>
    intro w hst
    exact OpV.g (v_move rfl)
   | 14, _, _ =>
    intro w hst
    exact OpV.g (v_move rfl)
   | 15, _, _ =>
    intro w hst
    exact OpV.g ((v_indexAddr_sl (i := 2) (sT := 192) (hst.ownAt (i := 0) rfl) rfl rfl (Tryz.runUnderlying192 _) (Tryz.sizeOf191 _) (by omega) (by rw [List.length_map, W8.l_len]; decide)).as (v' := slAddr z (2 * 1)) rfl)
   | 16, _, _ =>
    intro w hst
    exact OpV.g (v_load_sl1 (u := wv v.c) (i := 2) (j := 0) (hst.ownAt (i := 0) rfl) (by rw [List.length_map, W8.l_len]; decide) rfl (Tryz.isAgg191 _) (by rfl))
   | 17, _, _ =>
    intro w hst
    exact OpV.g (v_wand rfl rfl)
   | 18, _, _ =>
    intro w hst
    exact OpV.g (v_wxor rfl rfl)
   | 19, _, _ =>
    intro w hst
    exact OpV.g (v_move rfl)
   | 20, _, _ =>
    intro w hst
    exact OpV.g ((v_indexAddr_sl (i := 1) (sT := 192) (hst.ownAt (i := 0) rfl) rfl rfl (Tryz.runUnderlying192 _) (Tryz.sizeOf191 _) (by omega) (by rw [List.length_map, W8.l_len]; decide)).as (v' := slAddr z (1 * 1)) rfl)
   | 21, _, _ =>
    intro w hst
    exact OpV.g (v_load_sl1 (u := wv v.b) (i := 1) (j := 0) (hst.ownAt (i := 0) rfl) (by rw [List.length_map, W8.l_len]; decide) rfl (Tryz.isAgg191 _) (by rfl))
   | 22, _, _ =>
    intro w hst
    exact OpV.g (v_move rfl)
   | 23, _, _ =>
    intro w hst
    exact OpV.g ((v_indexAddr_sl (i := 2) (sT := 192) (hst.ownAt (i := 0) rfl) rfl rfl (Tryz.runUnderlying192 _) (Tryz.sizeOf191 _) (by omega) (by rw [List.length_map, W8.l_len]; decide)).as (v' := slAddr z (2 * 1)) rfl)
   | 24, _, _ =>
    intro w hst
    exact OpV.g (v_load_sl1 (u := wv v.c) (i := 2) (j := 0) (hst.ownAt (i := 0) rfl) (by rw [List.length_map, W8.l_len]; decide) rfl (Tryz.isAgg191 _) (by rfl))
   | 25, _, _ =>
    intro w hst
    exact OpV.g (v_wand rfl rfl)
   | 26, _, _ =>
    intro w hst
    exact OpV.g (v_wxor rfl rfl)
   | i + 27, h, _ => exact absurd h (by omega)
  ·intro i hi
   exact absurd hi (by simp)
  clear hfr hst
  intro  a w19 hfr hst
  replace hfr : Fr 238 [(170, wv v.a), (171, wv (ror v.a 2)), (172, wv v.a), (173, wv (ror v.a 13)), (174, wv ((ror v.a 2) ^^^ (ror v.a 13))), (175, wv v.a), (176, wv (ror v.a 22)), (177, wv (((ror v.a 2) ^^^ (ror v.a 13)) ^^^ (ror v.a 22))), (178, wv v.a), (179, z), (180, slAddr z (1 * 1)), (181, wv v.b), (182, wv (v.a &&& v.b)), (183, wv v.a), (184, z), (185, slAddr z (2 * 1)), (186, wv v.c), (187, wv (v.a &&& v.c)), (188, wv ((v.a &&& v.b) ^^^ (v.a &&& v.c))), (189, z), (190, slAddr z (1 * 1)), (191, wv v.b), (192, z), (193, slAddr z (2 * 1)), (194, wv v.c), (195, wv (v.b &&& v.c)), (196, wv (((v.a &&& v.b) ^^^ (v.a &&& v.c)) ^^^ (v.b &&& v.c))), (0, _), (4, _), (5, _), (10, _), (11, _), (12, _), (13, _), (14, _), (15, _)] [] a := hfr
  refine wl_nil ?_
  refine wd_lin (k := 27) 29 [28] (by kernel_rfl) (by kernel_rfl) (by kernel_rfl) ?_
  refine wlv hfr (v_wadd rfl rfl) fun a hfr => ?_
  refine wla hfr rfl fun a hfr => ?_
  refine wl_nil ?_
  refine wd_end (by kernel_rfl) ?_
  refine hK26 _ _ ?_
  replace hfr : Fr 238 [(0, _), (4, _), (5, _), (10, _), (11, _), (12, _), (13, _), (14, _), (15, _), (16, _)] [] a := hfr.pick [0, 4, 5, 10, 11, 12, 13, 14, 15, 16]
  rw [show (((v.h + (((ror v.e 6) ^^^ (ror v.e 11)) ^^^ (ror v.e 25))) + ((v.e &&& v.f) ^^^ ((~~~v.e) &&& v.g))) + ((kOf).getD ix 0#32)) + ((sch bs 64).getD ix 0#32) = tOf v (kOf.getD ix 0#32) ((sch bs 64).getD ix 0#32) from by rw [tOf, mix3]] at hfr
  rw [show (((ror v.a 2) ^^^ (ror v.a 13)) ^^^ (ror v.a 22)) + (((v.a &&& v.b) ^^^ (v.a &&& v.c)) ^^^ (v.b &&& v.c)) = uOf v from by rw [uOf, mix3]] at hfr
  refine wc_of_dr (by kernel_rfl) (dr_of_wd (by kernel_rfl) fun w20 hxz => ?_)
  replace hst := hst.grow hxz
  refine wd_sub (k := 0) 22 [2, 3, 6, 9, 14, 15, 18, 21] hfr (by kernel_rfl) (by kernel_rfl) (by kernel_rfl) (by rfl) ?_
  replace hfr : Fr 238 [(0, _), (4, _), (5, _), (10, _), (11, _), (12, _), (13, _), (14, _), (15, _), (16, _)] [] a := hfr.pick [0, 4, 5, 10, 11, 12, 13, 14, 15, 16]
  refine wc_phases_q [] (fun i => match i with | _ => fun _ _ => False) 22 [[], [], [0, 1], [], [], [4], [5], [], [7], [8], [], [10], [11], [], [12, 13], [], [], [16], [17], [], [19], [20]] [wv (tOf v (kOf.getD ix 0#32) ((sch bs 64).getD ix 0#32)), wv (uOf v), wv ((tOf v (kOf.getD ix 0#32) ((sch bs 64).getD ix 0#32)) + (uOf v)), wv v.a, z, slAddr z (1 * 1), wv v.b, z, slAddr z (2 * 1), wv v.c, z, slAddr z (3 * 1), wv v.d, wv (tOf v (kOf.getD ix 0#32) ((sch bs 64).getD ix 0#32)), wv (v.d + (tOf v (kOf.getD ix 0#32) ((sch bs 64).getD ix 0#32))), wv v.e, z, slAddr z (5 * 1), wv v.f, z, slAddr z (6 * 1), wv v.g] hfr hst (by kernel_rfl) (by kernel_rfl) (by kernel_rfl) ?_ ?_ ?_
  ·intro i hi hiq
   match i, hi, hiq with
   | 0, _, _ =>
    intro w hst
    exact OpV.g (v_move rfl)
   | 1, _, _ =>
    intro w hst
    exact OpV.g (v_move rfl)
   | 2, _, _ =>
    intro w hst
    exact OpV.g (v_wadd rfl rfl)
   | 3, _, _ =>
    intro w hst
    exact OpV.g (v_move rfl)
   | 4, _, _ =>
    intro w hst
    exact OpV.g (v_move rfl)
   | 5, _, _ =>
    intro w hst
    exact OpV.g ((v_indexAddr_sl (i := 1) (sT := 192) (hst.ownAt (i := 0) rfl) rfl rfl (Tryz.runUnderlying192 _) (Tryz.sizeOf191 _) (by omega) (by rw [List.length_map, W8.l_len]; decide)).as (v' := slAddr z (1 * 1)) rfl)
   | 6, _, _ =>
    intro w hst
    exact OpV.g (v_load_sl1 (u := wv v.b) (i := 1) (j := 0) (hst.ownAt (i := 0) rfl) (by rw [List.length_map, W8.l_len]; decide) rfl (Tryz.isAgg191 _) (by rfl))
   | 7, _, _ =>
    intro w hst
    exact OpV.g (v_move rfl)
   | 8, _, _ =>
    intro w hst
    exact OpV.g ((v_indexAddr_sl (i := 2) (sT := 192) (hst.ownAt (i := 0) rfl) rfl rfl (Tryz.runUnderlying192 _) (Tryz.sizeOf191 _) (by omega) (by rw [List.length_map, W8.l_len]; decide)).as (v' := slAddr z (2 * 1)) rfl)
   | 9, _, _ =>
    intro w hst
    exact OpV.g (v_load_sl1 (u := wv v.c) (i := 2) (j := 0) (hst.ownAt (i := 0) rfl) (by rw [List.length_map, W8.l_len]; decide) rfl (Tryz.isAgg191 _) (by rfl))
   | 10, _, _ =>
    intro w hst
    exact OpV.g (v_move rfl)
   | 11, _, _ =>
    intro w hst
    exact OpV.g ((v_indexAddr_sl (i := 3) (sT := 192) (hst.ownAt (i := 0) rfl) rfl rfl (Tryz.runUnderlying192 _) (Tryz.sizeOf191 _) (by omega) (by rw [List.length_map, W8.l_len]; decide)).as (v' := slAddr z (3 * 1)) rfl)
   | 12, _, _ =>
    intro w hst
    exact OpV.g (v_load_sl1 (u := wv v.d) (i := 3) (j := 0) (hst.ownAt (i := 0) rfl) (by rw [List.length_map, W8.l_len]; decide) rfl (Tryz.isAgg191 _) (by rfl))
   | 13, _, _ =>
    intro w hst
    exact OpV.g (v_move rfl)
   | 14, _, _ =>
    intro w hst
    exact OpV.g (v_wadd rfl rfl)
   | 15, _, _ =>
    intro w hst
    exact OpV.g (v_move rfl)
   | 16, _, _ =>
    intro w hst
    exact OpV.g (v_move rfl)
   | 17, _, _ =>
    intro w hst
    exact OpV.g ((v_indexAddr_sl (i := 5) (sT := 192) (hst.ownAt (i := 0) rfl) rfl rfl (Tryz.runUnderlying192 _) (Tryz.sizeOf191 _) (by omega) (by rw [List.length_map, W8.l_len]; decide)).as (v' := slAddr z (5 * 1)) rfl)
   | 18, _, _ =>
    intro w hst
    exact OpV.g (v_load_sl1 (u := wv v.f) (i := 5) (j := 0) (hst.ownAt (i := 0) rfl) (by rw [List.length_map, W8.l_len]; decide) rfl (Tryz.isAgg191 _) (by rfl))
   | 19, _, _ =>
    intro w hst
    exact OpV.g (v_move rfl)
   | 20, _, _ =>
    intro w hst
    exact OpV.g ((v_indexAddr_sl (i := 6) (sT := 192) (hst.ownAt (i := 0) rfl) rfl rfl (Tryz.runUnderlying192 _) (Tryz.sizeOf191 _) (by omega) (by rw [List.length_map, W8.l_len]; decide)).as (v' := slAddr z (6 * 1)) rfl)
   | 21, _, _ =>
    intro w hst
    exact OpV.g (v_load_sl1 (u := wv v.g) (i := 6) (j := 0) (hst.ownAt (i := 0) rfl) (by rw [List.length_map, W8.l_len]; decide) rfl (Tryz.isAgg191 _) (by rfl))
   | i + 22, h, _ => exact absurd h (by omega)
  ·intro i hi
   exact absurd hi (by simp)
  clear hfr hst
  intro  a w21 hfr hst
  replace hfr : Fr 238 [(198, wv (tOf v (kOf.getD ix 0#32) ((sch bs 64).getD ix 0#32))), (199, wv (uOf v)), (200, wv ((tOf v (kOf.getD ix 0#32) ((sch bs 64).getD ix 0#32)) + (uOf v))), (201, wv v.a), (202, z), (203, slAddr z (1 * 1)), (204, wv v.b), (205, z), (206, slAddr z (2 * 1)), (207, wv v.c), (208, z), (209, slAddr z (3 * 1)), (210, wv v.d), (211, wv (tOf v (kOf.getD ix 0#32) ((sch bs 64).getD ix 0#32))), (212, wv (v.d + (tOf v (kOf.getD ix 0#32) ((sch bs 64).getD ix 0#32)))), (213, wv v.e), (214, z), (215, slAddr z (5 * 1)), (216, wv v.f), (217, z), (218, slAddr z (6 * 1)), (219, wv v.g), (0, _), (4, _), (5, _), (10, _), (11, _), (12, _), (13, _), (14, _), (15, _), (16, _)] [] a := hfr
  refine wl_nil ?_
  refine wd_lin (k := 22) 24 [23] (by kernel_rfl) (by kernel_rfl) (by kernel_rfl) ?_
  refine wl_buildSlice (E := 191) (sz := 1) rfl [[wv ((tOf v (kOf.getD ix 0#32) ((sch bs 64).getD ix 0#32)) + (uOf v))], [wv v.a], [wv v.b], [wv v.c], [wv (v.d + (tOf v (kOf.getD ix 0#32) ((sch bs 64).getD ix 0#32)))], [wv v.e], [wv v.f], [wv v.g]] (by kernel_rfl) (by simp) rfl (by decide) (by decide) hfr hst ?_
  clear hfr hst
  intro a w22 hfr hst
  refine wla hfr rfl fun a hfr => ?_
  refine wl_nil ?_
  refine wd_end (by kernel_rfl) ?_
  refine hK22 _ _ ?_
  replace hfr : Fr 238 [(0, _), (4, _), (5, _), (10, _), (12, _), (11, _)] [] a := hfr.pick [0, 4, 5, 10, 12, 11]
  refine wc_region ?_
  refine wlm hfr rfl fun a hfr => ?_
  refine wlv hfr (v_add rfl rfl ⟨by omega, by omega⟩) fun a hfr => ?_
  refine wla hfr rfl fun a hfr => ?_
  refine wl_nil ?_
  replace hst : St No w0 [own (.slice (some ⟨w21.heap.size, 0, none⟩) 8 8) 191 1 (((rnd v (kOf.getD ix 0#32) ((sch bs 64).getD ix 0#32)).l).map fun x => [wv x]), own z 191 1 ((v.l).map fun x => [wv x]), own u 191 1 ((sch bs 64).map fun x => [wv x]), own kz 191 1 ((kOf).map fun x => [wv x])] w22 := hst
  refine ⟨_, ?_, ix + 1, (rnd v (kOf.getD ix 0#32) ((sch bs 64).getD ix 0#32)), (.slice (some ⟨w21.heap.size, 0, none⟩) 8 8), rfl, (by omega), (by rw [rounds, hrv]), hfr.pick [0, 4, 5, 10, 11, 12], hst.select [0, 2, 3] (by decide)⟩
  omega
 rw [hc9] at hfr
 try simp only [qz] at hc9
 obtain rfl : ix = 64 := by omega
 refine wc_exit ?_
 refine hK18 _ _ ?_
 refine wc_seq_region fun K27 hK27 => ?_
 refine wla hfr rfl fun a hfr => ?_
 refine wl_nil (hK27 _ _ ?_)
 refine wc_seq_k fun K28 hK28 => ?_
 refine wc_seq_region fun K29 hK29 => ?_
 refine wla hfr rfl fun a hfr => ?_
 refine wl_nil (hK29 _ _ ?_)
 refine wc_block ?_
 replace hst : St No w0 [own (.slice none 0 0) 191 1 (((hv.add v).l.take 0).map fun x => [wv x]), own z 191 1 ((v.l).map fun x => [wv x]), own u 191 1 ((sch bs 64).map fun x => [wv x]), own kz 191 1 ((kOf).map fun x => [wv x])] w15 := hst.nil_own
 refine wc_loop (fun m a w => ∃ (q : Nat) (y : Value), m = 8 - q ∧ (q ≤ 8) ∧ Fr 238 [(0, hvv), (4, .slice none 0 0), (11, z), (17, y), (18, .int .i64 (q : Int))] [] a ∧ St No w0 [own y 191 1 (((hv.add v).l.take q).map fun x => [wv x]), own z 191 1 ((v.l).map fun x => [wv x])] w) _ ⟨0, .slice none 0 0, rfl, Nat.zero_le _, hfr.pick [0, 4, 11, 17, 18], hst.select [0, 1] (by decide)⟩ ?_
 rintro _ a w23 ⟨q, y, rfl, hq, hfr, hst⟩
 refine wc_seq_k fun K30 hK30 => ?_
 refine wc_seq_region fun K31 hK31 => ?_
 refine wlm hfr rfl fun a hfr => ?_
 refine wlv hfr (v_lt rfl rfl) fun a hfr => ?_
 refine wl_nil (hK31 _ _ ?_)
 refine wc_cond hfr rfl (fun hc10 => ?_) (fun hc10 => ?_)
 ·rw [hc10] at hfr
  try simp only [qz] at hc10
  refine wc_skip ?_
  refine hK30 _ _ ?_
  refine wc_seq_k fun K32 hK32 => ?_
  refine wc_block ?_
  refine wc_of_dr (by kernel_rfl) (dr_of_wd (by kernel_rfl) fun w24 hxz => ?_)
  replace hst := hst.grow hxz
  refine wd_sub (k := 0) 11 [0, 10] hfr (by kernel_rfl) (by kernel_rfl) (by kernel_rfl) (by rfl) ?_
  replace hfr : Fr 238 [(0, _), (4, _), (11, _), (17, _), (18, _), (221, _), (222, _)] [] a := hfr.pick [0, 4, 11, 17, 18, 221, 222]
  refine wc_phases_q [10] (fun i => match i with | 10 => pm (fun b : Nat => .slice (some ⟨b, 0, none⟩) 1 1) (fun b => [own (.slice (some ⟨b, 0, none⟩) 1 1) 191 1 [[wv ((hv.l.getD q 0#32) + (v.l.getD q 0#32))]]]) (fun _ => True) | _ => fun _ _ => False) 11 [[], [], [], [1, 2], [3], [], [], [5, 6], [7], [4, 8], [9]] [y, hvv, .int .i64 (q : Int), slAddr hvv (q * 1), wv (hv.l.getD q 0#32), z, .int .i64 (q : Int), slAddr z (q * 1), wv (v.l.getD q 0#32), wv ((hv.l.getD q 0#32) + (v.l.getD q 0#32)), undef] hfr hst (by kernel_rfl) (by kernel_rfl) (by kernel_rfl) ?_ ?_ ?_
  ·intro i hi hiq
   match i, hi, hiq with
   | 0, _, _ =>
    intro w hst
    exact OpV.g (v_move rfl)
   | 1, _, _ =>
    intro w hst
    exact OpV.g (v_move rfl)
   | 2, _, _ =>
    intro w hst
    exact OpV.g (v_move rfl)
   | 3, _, _ =>
    intro w hst
    exact OpV.g ((v_indexAddr_sl (i := (q : Int)) (sT := 192) (hst.arg hhv) rfl rfl (Tryz.runUnderlying192 _) (Tryz.sizeOf191 _) (by omega) (by rw [List.length_map]; first | omega | (rw [sch_len]; omega) | (rw [List.length_take, sch_len]; omega) | (rw [W8.l_len]; omega) | (rw [kOf_len]; omega))).as (v' := slAddr hvv (q * 1)) rfl)
   | 4, _, _ =>
    intro w hst
    exact OpV.g (v_load_sl1 (u := wv (hv.l.getD q 0#32)) (i := q) (j := 0) (hst.arg hhv) (by rw [List.length_map]; first | omega | (rw [sch_len]; omega) | (rw [List.length_take, sch_len]; omega) | (rw [W8.l_len]; omega) | (rw [kOf_len]; omega)) rfl (Tryz.isAgg191 _) (by rw [el_at 0#32]; rfl))
   | 5, _, _ =>
    intro w hst
    exact OpV.g (v_move rfl)
   | 6, _, _ =>
    intro w hst
    exact OpV.g (v_move rfl)
   | 7, _, _ =>
    intro w hst
    exact OpV.g ((v_indexAddr_sl (i := (q : Int)) (sT := 192) (hst.ownAt (i := 1) rfl) rfl rfl (Tryz.runUnderlying192 _) (Tryz.sizeOf191 _) (by omega) (by rw [List.length_map]; first | omega | (rw [sch_len]; omega) | (rw [List.length_take, sch_len]; omega) | (rw [W8.l_len]; omega) | (rw [kOf_len]; omega))).as (v' := slAddr z (q * 1)) rfl)
   | 8, _, _ =>
    intro w hst
    exact OpV.g (v_load_sl1 (u := wv (v.l.getD q 0#32)) (i := q) (j := 0) (hst.ownAt (i := 1) rfl) (by rw [List.length_map]; first | omega | (rw [sch_len]; omega) | (rw [List.length_take, sch_len]; omega) | (rw [W8.l_len]; omega) | (rw [kOf_len]; omega)) rfl (Tryz.isAgg191 _) (by rw [el_at 0#32]; rfl))
   | 9, _, _ =>
    intro w hst
    exact OpV.g (v_wadd rfl rfl)
   | 10, _, h => exact absurd (by simp) h
  ·intro i hi
   simp only [List.mem_cons, List.not_mem_nil, or_false] at hi
   subst hi
   ·intro w hst
    exact g_buildSlice (E := 191) (sz := 1) rfl [[wv ((hv.l.getD q 0#32) + (v.l.getD q 0#32))]] (fun _ => by kernel_rfl) (by simp) rfl (by decide)
  clear hfr hst
  rintro _ _ ⟨b11, rfl, -, rfl⟩ a w25 hfr hst
  replace hfr : Fr 238 [(225, y), (226, hvv), (227, .int .i64 (q : Int)), (228, slAddr hvv (q * 1)), (229, wv (hv.l.getD q 0#32)), (230, z), (231, .int .i64 (q : Int)), (232, slAddr z (q * 1)), (233, wv (v.l.getD q 0#32)), (234, wv ((hv.l.getD q 0#32) + (v.l.getD q 0#32))), (235, _), (0, _), (4, _), (11, _), (17, _), (18, _), (221, _), (222, _)] [] a := hfr
  replace hst : St No w0 [_, _, _] w25 := hst
  refine wl_nil ?_
  refine wd_lin (k := 11) 13 [12] (by kernel_rfl) (by kernel_rfl) (by kernel_rfl) ?_
  refine wl_append (i := 1) (sT := 192) (inf := Tryz.t191) (z := wv (0#32)) (b := 0) (off := 0) (m := 0) (c := 0) rfl rfl rfl (hst.ownAt (i := 0) rfl) (by simp) Tryz.underlying192 rfl rfl rfl rfl (by decide) (by simp [Value.oneCell', yv, wv, sv]) (by have hby : Tryz.t191.bytes = 4 := rfl; simp only [big, hby, List.length_append, List.length_map, List.length_take, sch_len, W8.l_len, List.length_cons, List.length_nil]; omega) (by have hby : Tryz.t191.bytes = 4 := rfl; simp only [big, hby, List.length_append, List.length_map, List.length_take, sch_len, W8.l_len, List.length_cons, List.length_nil]; omega) (by decide) hfr hst fun a w26 s12 hfr hst _ => ?_
  refine wla hfr rfl fun a hfr => ?_
  refine wl_nil ?_
  refine wd_end (by kernel_rfl) ?_
  refine hK32 _ _ ?_
  replace hfr : Fr 238 [(0, _), (4, _), (11, _), (18, _), (17, _)] [] a := hfr.pick [0, 4, 11, 18, 17]
  replace hst : St No w0 [_, _] w26 := hst.mask [false, true, true]
  refine wc_region ?_
  refine wlm hfr rfl fun a hfr => ?_
  refine wlv hfr (v_add rfl rfl ⟨by omega, by omega⟩) fun a hfr => ?_
  refine wla hfr rfl fun a hfr => ?_
  refine wl_nil ?_
  rw [show (((hv.add v).l.take q).map fun x => [wv x]) ++ ([[wv ((hv.l.getD q 0#32) + (v.l.getD q 0#32))]]) = (((hv.add v).l.take (q + 1)).map fun x => [wv x]) from by rw [add_take hv v (by omega)]; simp] at hst
  refine ⟨_, ?_, q + 1, s12, rfl, (by omega), hfr.pick [0, 4, 11, 17, 18], hst.select [0, 1] (by decide)⟩
  omega
 rw [hc10] at hfr
 try simp only [qz] at hc10
 refine wc_exit ?_
 refine hK28 _ _ ?_
 refine wc_seq_region fun K33 hK33 => ?_
 refine wlm hfr rfl fun a hfr => ?_
 refine wla hfr rfl fun a hfr => ?_
 refine wl_nil (hK33 _ _ ?_)
 replace hfr : Fr 238 [(4, _)] [] a := hfr.pick [4]
 refine wc_ret ?_
 refine fin_ret hfr Tryz.results131 (resAre_tmp rfl resAre_nil) ?_
 obtain rfl : q = 8 := by omega
 exact ⟨y, rfl, trivial, hst.ext, St.out (E := [own y 191 1 (((block hv bs).l).map fun x => [wv x])]) (H := []) (by rw [block, hrv]; exact hst.select [0] (by decide))⟩
end Go.Proofs.YtmmfieceinmloaaGreatDoor
namespace Go.Proofs.YtmmfieceinmloaaGreatDoor
open Go.RowKit Go.PW
set_option linter.unusedVariables false
set_option linter.unusedSimpArgs false
set_option maxRecDepth 4000
theorem out_take (v : W8) {q : Nat} (h : q < 8) : v.out.take (4 * (q + 1)) = v.out.take (4 * q) ++ [UInt8.ofNat (v.l.getD q 0#32 >>> 24).toNat, UInt8.ofNat (v.l.getD q 0#32 >>> 16).toNat, UInt8.ofNat (v.l.getD q 0#32 >>> 8).toNat, UInt8.ofNat (v.l.getD q 0#32).toNat] := by
 have : q = 0 ∨ q = 1 ∨ q = 2 ∨ q = 3 ∨ q = 4 ∨ q = 5 ∨ q = 6 ∨ q = 7 := by omega
 rcases this with rfl | rfl | rfl | rfl | rfl | rfl | rfl | rfl <;> simp [W8.out, W8.l, wdBytes]
set_option maxHeartbeats 4000000 in
/-- dialtone/dialtoneref02.Sum -/
theorem rsum_ok (s : By) (w0 : World) (hs : s.length ≤ 100000000) :
  Ret Tryz.prog 91 #[sv s] w0 fun v w => v = sv (sha s) ∧ Ext No w0 w := by
 have hpb := padded_bound s
 refine ret_of Tryz.func91 rfl Tryz.ntmps91 (Nat.le_of_ble_eq_true rfl) fun a hfr => ?_
 replace hfr : Fr 56 [(0, _)] [] a := hfr
 replace hst : St No w0 [] w0 := St.init w0
 refine wc_seq_region fun K1 hK1 => ?_
 refine wla hfr rfl fun a hfr => ?_
 refine wl_nil (hK1 _ _ ?_)
 refine wc_seq_region fun K2 hK2 => ?_
 refine wl_buildSlice (E := 191) (sz := 1) rfl [[wv (1779033703#32)], [wv (3144134277#32)], [wv (1013904242#32)], [wv (2773480762#32)], [wv (1359893119#32)], [wv (2600822924#32)], [wv (528734635#32)], [wv (1541459225#32)]] (by kernel_rfl) (by simp) rfl (by decide) (by decide) hfr hst ?_
 clear hfr hst
 intro a w1 hfr hst
 refine wla hfr rfl fun a hfr => ?_
 refine wl_nil (hK2 _ _ ?_)
 refine wc_seq_region fun K3 hK3 => ?_
 refine wlm hfr rfl fun a hfr => ?_
 refine wl_callm hfr hst (by decide) Tryz.call130 rfl (extended_ok s _ hs) ?_
 clear hfr hst
 intro a w2 x1 hp hfr hst
 revert x1 hp hfr hst; rintro bz hp hfr hst
 clear hp
 replace hst : St No w0 [own bz 5 1 ((padded s).map fun b => [yv b]), own (.slice (some ⟨w0.heap.size, 0, none⟩) 8 8) 191 1 ([[wv (1779033703#32)], [wv (3144134277#32)], [wv (1013904242#32)], [wv (2773480762#32)], [wv (1359893119#32)], [wv (2600822924#32)], [wv (528734635#32)], [wv (1541459225#32)]])] w2 := hst
 refine wla hfr rfl fun a hfr => ?_
 refine wl_nil (hK3 _ _ ?_)
 refine wc_seq_k fun K4 hK4 => ?_
 refine wc_seq_region fun K5 hK5 => ?_
 refine wla hfr rfl fun a hfr => ?_
 refine wl_nil (hK5 _ _ ?_)
 refine wc_block ?_
 replace hst : St No w0 [own bz 5 1 ((padded s).map fun b => [yv b]), own (.slice (some ⟨w0.heap.size, 0, none⟩) 8 8) 191 1 (((blocks h0 (padded s) 0).l).map fun x => [wv x])] w2 := hst
 refine wc_loop (fun m a w => ∃ (q : Nat) (hz : Value), m = (padded s).length / 64 - q ∧ (q ≤ (padded s).length / 64) ∧ Fr 56 [(2, sv ([])), (4, bz), (3, hz), (5, .int .i64 ((64 * q : Nat) : Int))] [] a ∧ St No w0 [own hz 191 1 (((blocks h0 (padded s) q).l).map fun x => [wv x]), own bz 5 1 ((padded s).map fun b => [yv b])] w) _ ⟨0, (.slice (some ⟨w0.heap.size, 0, none⟩) 8 8), rfl, Nat.zero_le _, hfr.pick [2, 4, 3, 5], hst.select [1, 0] (by decide)⟩ ?_
 rintro _ a w3 ⟨q, hz, rfl, hq, hfr, hst⟩
 refine wc_seq_k fun K6 hK6 => ?_
 refine wc_seq_region fun K7 hK7 => ?_
 refine wlm hfr rfl fun a hfr => ?_
 refine wlm hfr rfl fun a hfr => ?_
 refine wlv hfr ((v_len_sl (sT := 62) (hst.ownAt (i := 1) rfl) rfl rfl (Tryz.runUnderlying62 _)).asi (m' := ((padded s).length : Int)) (by rw [List.length_map])) fun a hfr => ?_
 refine wlv hfr (v_lt rfl rfl) fun a hfr => ?_
 refine wl_nil (hK7 _ _ ?_)
 refine wc_cond hfr rfl (fun hc2 => ?_) (fun hc2 => ?_)
 ·rw [hc2] at hfr
  try simp only [qz] at hc2
  have hpl := padded_len s
  refine wc_skip ?_
  refine hK6 _ _ ?_
  refine wc_seq_k fun K8 hK8 => ?_
  refine wc_block ?_
  refine wc_region ?_
  refine wlm hfr rfl fun a hfr => ?_
  refine wlm hfr rfl fun a hfr => ?_
  refine wlm hfr rfl fun a hfr => ?_
  refine wlm hfr rfl fun a hfr => ?_
  refine wlv hfr (v_add rfl rfl ⟨by omega, by omega⟩) fun a hfr => ?_
  refine wlv hfr (v_slice_at (l := (64 * q)) (h := (64 * q + 64)) (hst.ownAt (i := 1) rfl) rfl rfl rfl Tryz.underlying62 (by kernel_rfl) (.inr (by first | rfl | (rw [show (((64 * q : Nat) : Int) : Int) = (((64 * q) : Nat) : Int) from by omega] <;> rfl))) (.inr (by first | rfl | (rw [show (((64 * q : Nat) : Int) + 64 : Int) = (((64 * q + 64) : Nat) : Int) from by omega] <;> rfl))) (by omega) (by first | (rw [List.length_map]; omega) | (simp <;> omega))) fun a hfr => ?_
  refine wl_callm hfr hst (by decide) Tryz.call131 rfl (rblock_ok hz (cut bz 1 (64 * q) (64 * q + 64) (slCap bz)) (blocks h0 (padded s) q) (((padded s).drop (64 * q)).take 64) _ (hst.ownAt (i := 0) rfl) (by have h := ((hst.ownAt (i := 1) rfl).cutm (l := (64 * q)) (h := (64 * q + 64)) (by omega) (by first | omega | (simp; omega))); rwa [show 64 * q + 64 - 64 * q = 64 from by omega] at h) (by simp; omega)) ?_
  clear hfr hst
  intro a w4 x4 hp hfr hst
  revert x4 hp hfr hst; rintro v3 hp hfr hst
  clear hp
  replace hst : St No w0 [own v3 191 1 (((block (blocks h0 (padded s) q) (((padded s).drop (64 * q)).take 64)).l).map fun x => [wv x]), own hz 191 1 (((blocks h0 (padded s) q).l).map fun x => [wv x]), own bz 5 1 ((padded s).map fun b => [yv b])] w4 := hst
  refine wla hfr rfl fun a hfr => ?_
  refine wl_nil ?_
  refine hK8 _ _ ?_
  replace hfr : Fr 56 [(2, _), (4, _), (5, _), (3, _)] [] a := hfr.pick [2, 4, 5, 3]
  refine wc_region ?_
  refine wlm hfr rfl fun a hfr => ?_
  refine wlv hfr (v_add rfl rfl ⟨by omega, by omega⟩) fun a hfr => ?_
  refine wla hfr rfl fun a hfr => ?_
  refine wl_nil ?_
  replace hst : St No w0 [own v3 191 1 (((blocks h0 (padded s) (q + 1)).l).map fun x => [wv x]), own hz 191 1 (((blocks h0 (padded s) q).l).map fun x => [wv x]), own bz 5 1 ((padded s).map fun b => [yv b])] w4 := hst
  rw [show ((64 * q : Nat) : Int) + 64 = ((64 * (q + 1) : Nat) : Int) from by omega] at hfr
  refine ⟨_, ?_, q + 1, v3, rfl, (by omega), hfr.pick [2, 4, 3, 5], hst.select [0, 2] (by decide)⟩
  omega
 rw [hc2] at hfr
 try simp only [qz] at hc2
 have hpl := padded_len s
 obtain rfl : q = (padded s).length / 64 := by omega
 refine wc_exit ?_
 refine hK4 _ _ ?_
 refine wc_seq_region fun K9 hK9 => ?_
 refine wla hfr rfl fun a hfr => ?_
 refine wl_nil (hK9 _ _ ?_)
 replace hfr : Fr 56 [(2, _), (3, _), (6, _)] [] a := hfr.pick [2, 3, 6]
 refine wc_seq_k fun K10 hK10 => ?_
 refine wc_seq_region fun K11 hK11 => ?_
 refine wla hfr rfl fun a hfr => ?_
 refine wl_nil (hK11 _ _ ?_)
 refine wc_block ?_
 replace hst : St No w0 [own (.slice none 0 0) 5 1 (((blocks h0 (padded s) ((padded s).length / 64)).out.take (4 * 0)).map fun b => [yv b]), own hz 191 1 (((blocks h0 (padded s) ((padded s).length / 64)).l).map fun x => [wv x]), own bz 5 1 ((padded s).map fun b => [yv b])] w3 := hst.nil_own
 refine wc_loop (fun m a w => ∃ (r : Nat) (oz : Value), m = 8 - r ∧ (r ≤ 8) ∧ Fr 56 [(2, sv ([])), (3, hz), (6, oz), (7, .int .i64 (r : Int))] [] a ∧ St No w0 [own oz 5 1 (((blocks h0 (padded s) ((padded s).length / 64)).out.take (4 * r)).map fun b => [yv b]), own hz 191 1 (((blocks h0 (padded s) ((padded s).length / 64)).l).map fun x => [wv x])] w) _ ⟨0, .slice none 0 0, rfl, Nat.zero_le _, hfr.pick [2, 3, 6, 7], hst.select [0, 1] (by decide)⟩ ?_
 rintro _ a w5 ⟨r, oz, rfl, hr, hfr, hst⟩
 refine wc_seq_k fun K12 hK12 => ?_
 refine wc_seq_region fun K13 hK13 => ?_
 refine wlm hfr rfl fun a hfr => ?_
 refine wlv hfr (v_lt rfl rfl) fun a hfr => ?_
 refine wl_nil (hK13 _ _ ?_)
 refine wc_cond hfr rfl (fun hc5 => ?_) (fun hc5 => ?_)
 ·rw [hc5] at hfr
  try simp only [qz] at hc5
  refine wc_skip ?_
  refine hK12 _ _ ?_
  refine wc_seq_k fun K14 hK14 => ?_
  refine wc_block ?_
  refine wc_of_dr (by kernel_rfl) (dr_of_wd (by kernel_rfl) fun w6 hxz => ?_)
  replace hst := hst.grow hxz
  refine wd_sub (k := 0) 25 [0, 24] hfr (by kernel_rfl) (by kernel_rfl) (by kernel_rfl) (by rfl) ?_
  replace hfr : Fr 56 [(2, _), (3, _), (6, _), (7, _), (24, _), (25, _)] [] a := hfr.pick [2, 3, 6, 7, 24, 25]
  refine wc_phases_q [24] (fun i => match i with | 24 => pm (fun b : Nat => .slice (some ⟨b, 0, none⟩) 4 4) (fun b => [own (.slice (some ⟨b, 0, none⟩) 4 4) 5 1 [[yv (UInt8.ofNat (((blocks h0 (padded s) ((padded s).length / 64)).l.getD r 0#32) >>> 24).toNat)], [yv (UInt8.ofNat (((blocks h0 (padded s) ((padded s).length / 64)).l.getD r 0#32) >>> 16).toNat)], [yv (UInt8.ofNat (((blocks h0 (padded s) ((padded s).length / 64)).l.getD r 0#32) >>> 8).toNat)], [yv (UInt8.ofNat ((blocks h0 (padded s) ((padded s).length / 64)).l.getD r 0#32).toNat)]]]) (fun _ => True) | _ => fun _ _ => False) 25 [[], [], [], [1, 2], [3], [4], [5], [], [], [7, 8], [9], [10], [11], [], [], [13, 14], [15], [16], [17], [], [], [19, 20], [21], [22], [6, 12, 18, 23]] [oz, hz, .int .i64 (r : Int), slAddr hz (r * 1), wv ((blocks h0 (padded s) ((padded s).length / 64)).l.getD r 0#32), wv (((blocks h0 (padded s) ((padded s).length / 64)).l.getD r 0#32) >>> 24), yv (UInt8.ofNat (((blocks h0 (padded s) ((padded s).length / 64)).l.getD r 0#32) >>> 24).toNat), hz, .int .i64 (r : Int), slAddr hz (r * 1), wv ((blocks h0 (padded s) ((padded s).length / 64)).l.getD r 0#32), wv (((blocks h0 (padded s) ((padded s).length / 64)).l.getD r 0#32) >>> 16), yv (UInt8.ofNat (((blocks h0 (padded s) ((padded s).length / 64)).l.getD r 0#32) >>> 16).toNat), hz, .int .i64 (r : Int), slAddr hz (r * 1), wv ((blocks h0 (padded s) ((padded s).length / 64)).l.getD r 0#32), wv (((blocks h0 (padded s) ((padded s).length / 64)).l.getD r 0#32) >>> 8), yv (UInt8.ofNat (((blocks h0 (padded s) ((padded s).length / 64)).l.getD r 0#32) >>> 8).toNat), hz, .int .i64 (r : Int), slAddr hz (r * 1), wv ((blocks h0 (padded s) ((padded s).length / 64)).l.getD r 0#32), yv (UInt8.ofNat ((blocks h0 (padded s) ((padded s).length / 64)).l.getD r 0#32).toNat), undef] hfr hst (by kernel_rfl) (by kernel_rfl) (by kernel_rfl) ?_ ?_ ?_
  ·intro i hi hiq
   match i, hi, hiq with
   | 0, _, _ =>
    intro w hst
    exact OpV.g (v_move rfl)
   | 1, _, _ =>
    intro w hst
    exact OpV.g (v_move rfl)
   | 2, _, _ =>
    intro w hst
    exact OpV.g (v_move rfl)
   | 3, _, _ =>
    intro w hst
    exact OpV.g ((v_indexAddr_sl (i := (r : Int)) (sT := 192) (hst.ownAt (i := 1) rfl) rfl rfl (Tryz.runUnderlying192 _) (Tryz.sizeOf191 _) (by omega) (by rw [List.length_map]; first | omega | (rw [W8.l_len]; omega))).as (v' := slAddr hz (r * 1)) rfl)
   | 4, _, _ =>
    intro w hst
    exact OpV.g (v_load_sl1 (u := wv ((blocks h0 (padded s) ((padded s).length / 64)).l.getD r 0#32)) (i := r) (j := 0) (hst.ownAt (i := 1) rfl) (by rw [List.length_map]; first | omega | (rw [W8.l_len]; omega)) rfl (Tryz.isAgg191 _) (by rw [el_at 0#32]; rfl))
   | 5, _, _ =>
    intro w hst
    exact OpV.g (v_wshr (n := 24) rfl rfl)
   | 6, _, _ =>
    intro w hst
    exact OpV.g (v_conv_wy rfl (by kernel_rfl) Tryz.underlying5)
   | 7, _, _ =>
    intro w hst
    exact OpV.g (v_move rfl)
   | 8, _, _ =>
    intro w hst
    exact OpV.g (v_move rfl)
   | 9, _, _ =>
    intro w hst
    exact OpV.g ((v_indexAddr_sl (i := (r : Int)) (sT := 192) (hst.ownAt (i := 1) rfl) rfl rfl (Tryz.runUnderlying192 _) (Tryz.sizeOf191 _) (by omega) (by rw [List.length_map]; first | omega | (rw [W8.l_len]; omega))).as (v' := slAddr hz (r * 1)) rfl)
   | 10, _, _ =>
    intro w hst
    exact OpV.g (v_load_sl1 (u := wv ((blocks h0 (padded s) ((padded s).length / 64)).l.getD r 0#32)) (i := r) (j := 0) (hst.ownAt (i := 1) rfl) (by rw [List.length_map]; first | omega | (rw [W8.l_len]; omega)) rfl (Tryz.isAgg191 _) (by rw [el_at 0#32]; rfl))
   | 11, _, _ =>
    intro w hst
    exact OpV.g (v_wshr (n := 16) rfl rfl)
   | 12, _, _ =>
    intro w hst
    exact OpV.g (v_conv_wy rfl (by kernel_rfl) Tryz.underlying5)
   | 13, _, _ =>
    intro w hst
    exact OpV.g (v_move rfl)
   | 14, _, _ =>
    intro w hst
    exact OpV.g (v_move rfl)
   | 15, _, _ =>
    intro w hst
    exact OpV.g ((v_indexAddr_sl (i := (r : Int)) (sT := 192) (hst.ownAt (i := 1) rfl) rfl rfl (Tryz.runUnderlying192 _) (Tryz.sizeOf191 _) (by omega) (by rw [List.length_map]; first | omega | (rw [W8.l_len]; omega))).as (v' := slAddr hz (r * 1)) rfl)
   | 16, _, _ =>
    intro w hst
    exact OpV.g (v_load_sl1 (u := wv ((blocks h0 (padded s) ((padded s).length / 64)).l.getD r 0#32)) (i := r) (j := 0) (hst.ownAt (i := 1) rfl) (by rw [List.length_map]; first | omega | (rw [W8.l_len]; omega)) rfl (Tryz.isAgg191 _) (by rw [el_at 0#32]; rfl))
   | 17, _, _ =>
    intro w hst
    exact OpV.g (v_wshr (n := 8) rfl rfl)
   | 18, _, _ =>
    intro w hst
    exact OpV.g (v_conv_wy rfl (by kernel_rfl) Tryz.underlying5)
   | 19, _, _ =>
    intro w hst
    exact OpV.g (v_move rfl)
   | 20, _, _ =>
    intro w hst
    exact OpV.g (v_move rfl)
   | 21, _, _ =>
    intro w hst
    exact OpV.g ((v_indexAddr_sl (i := (r : Int)) (sT := 192) (hst.ownAt (i := 1) rfl) rfl rfl (Tryz.runUnderlying192 _) (Tryz.sizeOf191 _) (by omega) (by rw [List.length_map]; first | omega | (rw [W8.l_len]; omega))).as (v' := slAddr hz (r * 1)) rfl)
   | 22, _, _ =>
    intro w hst
    exact OpV.g (v_load_sl1 (u := wv ((blocks h0 (padded s) ((padded s).length / 64)).l.getD r 0#32)) (i := r) (j := 0) (hst.ownAt (i := 1) rfl) (by rw [List.length_map]; first | omega | (rw [W8.l_len]; omega)) rfl (Tryz.isAgg191 _) (by rw [el_at 0#32]; rfl))
   | 23, _, _ =>
    intro w hst
    exact OpV.g (v_conv_wy rfl (by kernel_rfl) Tryz.underlying5)
   | 24, _, h => exact absurd (by simp) h
   | i + 25, h, _ => exact absurd h (by omega)
  ·intro i hi
   simp only [List.mem_cons, List.not_mem_nil, or_false] at hi
   subst hi
   ·intro w hst
    exact g_buildSlice (E := 5) (sz := 1) rfl [[yv (UInt8.ofNat (((blocks h0 (padded s) ((padded s).length / 64)).l.getD r 0#32) >>> 24).toNat)], [yv (UInt8.ofNat (((blocks h0 (padded s) ((padded s).length / 64)).l.getD r 0#32) >>> 16).toNat)], [yv (UInt8.ofNat (((blocks h0 (padded s) ((padded s).length / 64)).l.getD r 0#32) >>> 8).toNat)], [yv (UInt8.ofNat ((blocks h0 (padded s) ((padded s).length / 64)).l.getD r 0#32).toNat)]] (fun _ => by kernel_rfl) (by simp) rfl (by decide)
  clear hfr hst
  rintro _ _ ⟨b6, rfl, -, rfl⟩ a w7 hfr hst
  replace hfr : Fr 56 [(28, oz), (29, hz), (30, .int .i64 (r : Int)), (31, slAddr hz (r * 1)), (32, wv ((blocks h0 (padded s) ((padded s).length / 64)).l.getD r 0#32)), (33, wv (((blocks h0 (padded s) ((padded s).length / 64)).l.getD r 0#32) >>> 24)), (34, yv (UInt8.ofNat (((blocks h0 (padded s) ((padded s).length / 64)).l.getD r 0#32) >>> 24).toNat)), (35, hz), (36, .int .i64 (r : Int)), (37, slAddr hz (r * 1)), (38, wv ((blocks h0 (padded s) ((padded s).length / 64)).l.getD r 0#32)), (39, wv (((blocks h0 (padded s) ((padded s).length / 64)).l.getD r 0#32) >>> 16)), (40, yv (UInt8.ofNat (((blocks h0 (padded s) ((padded s).length / 64)).l.getD r 0#32) >>> 16).toNat)), (41, hz), (42, .int .i64 (r : Int)), (43, slAddr hz (r * 1)), (44, wv ((blocks h0 (padded s) ((padded s).length / 64)).l.getD r 0#32)), (45, wv (((blocks h0 (padded s) ((padded s).length / 64)).l.getD r 0#32) >>> 8)), (46, yv (UInt8.ofNat (((blocks h0 (padded s) ((padded s).length / 64)).l.getD r 0#32) >>> 8).toNat)), (47, hz), (48, .int .i64 (r : Int)), (49, slAddr hz (r * 1)), (50, wv ((blocks h0 (padded s) ((padded s).length / 64)).l.getD r 0#32)), (51, yv (UInt8.ofNat ((blocks h0 (padded s) ((padded s).length / 64)).l.getD r 0#32).toNat)), (52, _), (2, _), (3, _), (6, _), (7, _), (24, _), (25, _)] [] a := hfr
  replace hst : St No w0 [_, _, _] w7 := hst
  refine wl_nil ?_
  refine wd_lin (k := 25) 27 [26] (by kernel_rfl) (by kernel_rfl) (by kernel_rfl) ?_
  refine wl_append (i := 1) (sT := 62) (inf := Tryz.t5) (z := yv (0 : UInt8)) (b := 0) (off := 0) (m := 0) (c := 0) rfl rfl rfl (hst.ownAt (i := 0) rfl) (by simp) Tryz.underlying62 rfl rfl rfl rfl (by decide) (by simp [Value.oneCell', yv, wv, sv]) (by have hby : Tryz.t5.bytes = 1 := rfl; simp only [big, hby, List.length_append, List.length_map, List.length_take, out_len, List.length_cons, List.length_nil]; omega) (by have hby : Tryz.t5.bytes = 1 := rfl; simp only [big, hby, List.length_append, List.length_map, List.length_take, out_len, List.length_cons, List.length_nil]; omega) (by decide) hfr hst fun a w8 s7 hfr hst _ => ?_
  refine wla hfr rfl fun a hfr => ?_
  refine wl_nil ?_
  refine wd_end (by kernel_rfl) ?_
  refine hK14 _ _ ?_
  replace hfr : Fr 56 [(2, _), (3, _), (7, _), (6, _)] [] a := hfr.pick [2, 3, 7, 6]
  replace hst : St No w0 [_, _] w8 := hst.mask [false, true, true]
  refine wc_region ?_
  refine wlm hfr rfl fun a hfr => ?_
  refine wlv hfr (v_add rfl rfl ⟨by omega, by omega⟩) fun a hfr => ?_
  refine wla hfr rfl fun a hfr => ?_
  refine wl_nil ?_
  rw [show (((blocks h0 (padded s) ((padded s).length / 64)).out.take (4 * r)).map fun b => [yv b]) ++ ([[yv (UInt8.ofNat (((blocks h0 (padded s) ((padded s).length / 64)).l.getD r 0#32) >>> 24).toNat)], [yv (UInt8.ofNat (((blocks h0 (padded s) ((padded s).length / 64)).l.getD r 0#32) >>> 16).toNat)], [yv (UInt8.ofNat (((blocks h0 (padded s) ((padded s).length / 64)).l.getD r 0#32) >>> 8).toNat)], [yv (UInt8.ofNat ((blocks h0 (padded s) ((padded s).length / 64)).l.getD r 0#32).toNat)]]) = (((blocks h0 (padded s) ((padded s).length / 64)).out.take (4 * (r + 1))).map fun b => [yv b]) from by rw [out_take _ (by omega)]; simp] at hst
  refine ⟨_, ?_, r + 1, s7, rfl, (by omega), hfr.pick [2, 3, 6, 7], hst.select [0, 1] (by decide)⟩
  omega
 rw [hc5] at hfr
 try simp only [qz] at hc5
 obtain rfl : r = 8 := by omega
 rw [show 4 * 8 = 32 from rfl, List.take_of_length_le (by rw [out_len]; decide)] at hst
 refine wc_exit ?_
 refine hK10 _ _ ?_
 refine wc_seq_region fun K15 hK15 => ?_
 refine wlm hfr rfl fun a hfr => ?_
 refine wlv hfr (v_conv_sls (hst.ownAt (i := 0) rfl) rfl Tryz.underlying62 Tryz.underlying5 Tryz.underlying9) fun a hfr => ?_
 refine wla hfr rfl fun a hfr => ?_
 refine wl_nil (hK15 _ _ ?_)
 replace hfr : Fr 56 [(2, _)] [] a := hfr.pick [2]
 refine wc_ret ?_
 refine fin_ret hfr Tryz.results91 (resAre_tmp rfl resAre_nil) ?_
 exact ⟨by rfl, hst.ext⟩
/-- dialtone/dialtoneref02.Leaf -/
theorem rleaf_ok (s : By) (w0 : World) (hs : s.length ≤ 40000000) :
  Ret Tryz.prog 92 #[sv s] w0 fun v w => v = sv (leafH sha s) ∧ Ext No w0 w := by
 refine ret_of Tryz.func92 rfl Tryz.ntmps92 (Nat.le_of_ble_eq_true rfl) fun a hfr => ?_
 replace hfr : Fr 6 [(0, _)] [] a := hfr
 replace hst : St No w0 [] w0 := St.init w0
 refine wc_seq_region fun K1 hK1 => ?_
 refine wla hfr rfl fun a hfr => ?_
 refine wl_nil (hK1 _ _ ?_)
 refine wc_seq_region fun K2 hK2 => ?_
 refine wlm hfr rfl fun a hfr => ?_
 refine wlv hfr (v_sadd rfl rfl (by (simp only [List.length_append, List.length_cons, List.length_nil]); omega)) fun a hfr => ?_
 refine wl_callp hfr hst (by decide) Tryz.call91 rfl (rsum_ok (([0]) ++ s) _ (by simp only [List.length_append, List.length_cons, List.length_nil]; omega)) ?_
 clear hfr hst
 intro a w1 hfr hst
 refine wla hfr rfl fun a hfr => ?_
 refine wl_nil (hK2 _ _ ?_)
 refine wc_ret ?_
 refine fin_ret hfr Tryz.results92 (resAre_tmp rfl resAre_nil) ?_
 exact ⟨by rfl, hst.ext⟩
/-- dialtone/dialtoneref02.Node -/
theorem rnode_ok (s t : By) (w0 : World) (hs : s.length ≤ 40000000) (ht : t.length ≤ 40000000) :
  Ret Tryz.prog 124 #[sv s, sv t] w0 fun v w => v = sv (nodeH sha s t) ∧ Ext No w0 w := by
 refine ret_of Tryz.func124 rfl Tryz.ntmps124 (Nat.le_of_ble_eq_true rfl) fun a hfr => ?_
 replace hfr : Fr 10 [(0, _), (1, _)] [] a := hfr
 replace hst : St No w0 [] w0 := St.init w0
 refine wc_seq_region fun K1 hK1 => ?_
 refine wla hfr rfl fun a hfr => ?_
 refine wl_nil (hK1 _ _ ?_)
 refine wc_seq_region fun K2 hK2 => ?_
 refine wlm hfr rfl fun a hfr => ?_
 refine wlv hfr (v_sadd rfl rfl (by (simp only [List.length_append, List.length_cons, List.length_nil]); omega)) fun a hfr => ?_
 refine wlm hfr rfl fun a hfr => ?_
 refine wlv hfr (v_sadd rfl rfl (by (simp only [List.length_append, List.length_cons, List.length_nil]); omega)) fun a hfr => ?_
 refine wl_callp hfr hst (by decide) Tryz.call91 rfl (rsum_ok ((([1]) ++ s) ++ t) _ (by simp only [List.length_append, List.length_cons, List.length_nil]; omega)) ?_
 clear hfr hst
 intro a w1 hfr hst
 refine wla hfr rfl fun a hfr => ?_
 refine wl_nil (hK2 _ _ ?_)
 replace hfr : Fr 10 [(4, _)] [] a := hfr.pick [4]
 refine wc_ret ?_
 refine fin_ret hfr Tryz.results124 (resAre_tmp rfl resAre_nil) ?_
 exact ⟨by rfl, hst.ext⟩
end Go.Proofs.YtmmfieceinmloaaGreatDoor
namespace Go.Proofs.YtmmfieceinmloaaGreatDoor
open Go.RowKit Go.PW
set_option linter.unusedVariables false
set_option linter.unusedSimpArgs false
set_option maxRecDepth 4000
theorem vb_pos {f z : Nat} (h : z < 128 ^ (f + 1)) (hz : 128 ≤ z) : ∃ g, f = g + 1 := by
 cases f with
 | zero => exfalso; simp at h; omega
 | succ g => exact ⟨g, rfl⟩
theorem vb_less {f z : Nat} (h : z < 128 ^ (f + 1 + 1)) : z / 128 < 128 ^ (f + 1) := by
 rw [Nat.pow_succ] at h
 exact Nat.div_lt_of_lt_mul (by rw [Nat.mul_comm]; exact h)
theorem vb_more {f z : Nat} (h : 128 ≤ z) : vb (f + 1) z = UInt8.ofNat (z % 128 + 128) :: vb f (z / 128) := by rw [vb, if_neg (by omega)]
theorem vb_last {f z : Nat} (h : z < 128) : vb f z = [UInt8.ofNat z] := by cases f <;> simp [vb, h]
theorem zz_pow {n : Int} (h : small n) : zz n < 128 ^ (8 + 1) := by
 have := zz_lt h.1 h.2
 have e : (128 : Nat) ^ (8 + 1) = 9223372036854775808 := by decide
 rw [e]; exact this
theorem zz_u64 {n : Int} (h : small n) : zz n < 18446744073709551616 := by have := zz_lt h.1 h.2; omega
/-- The groups of seven bits, each with whether it is the last one. -/
def gs : Nat → Nat → List (UInt8 × Bool)
 | 0, z => [(UInt8.ofNat (z % 128), true)]
 | f + 1, z => if z < 128 then [(UInt8.ofNat (z % 128), true)] else (UInt8.ofNat (z % 128), false) :: gs f (z / 128)
def enc1 (x : UInt8 × Bool) : UInt8 := if x.2 then x.1 else x.1 ||| 128
def encG (x : UInt8 × Bool) : List Value := [yv x.1, .bool x.2]
def NxG (pre : List (UInt8 × Bool)) (x : UInt8 × Bool) : Prop := pre.length < 9
theorem gs_more {f z : Nat} (h : ¬ z < 128) : gs (f + 1) z = (UInt8.ofNat (z % 128), false) :: gs f (z / 128) := by rw [gs, if_neg h]
theorem gs_last {f z : Nat} (h : z < 128) : gs f z = [(UInt8.ofNat (z % 128), true)] := by cases f <;> simp [gs, h]
theorem or128 : ∀ k, k < 128 → UInt8.ofNat k ||| 128 = UInt8.ofNat (k + 128) := by decide
theorem gs_vb : ∀ (f z : Nat), z < 128 ^ (f + 1) → (gs f z).map enc1 = vb f z
 | 0, z, h => by simp [gs, vb, enc1] at h ⊢; rw [Nat.mod_eq_of_lt h]
 | f + 1, z, h => by
  unfold gs vb
  split
  ·rename_i h1
   simp [enc1, Nat.mod_eq_of_lt h1]
  ·rw [List.map_cons, gs_vb f _ (vb_less h), enc1]
   simp only [Bool.false_eq_true, if_false]
   rw [or128 _ (Nat.mod_lt _ (by decide))]
def cu (n : Int) : Nat := (n % 18446744073709551616).toNat
theorem v_zz {P : Program} {w : World} {L : List (Nat × Value)} {dst : Option Tmp} {T T' ty : TypeId} {pos : String} {af : Array Edge} {gd : Option (Nat × Bool)} {x y : Operand} {n : Int} (hs : small n)
  (hx : ev L x = some (.int .u64 ((cu n * 2 % 18446744073709551616 : Nat) : Int))) (hy : ev L y = some (.int .u64 ((cu (if n < 0 then -1 else 0) : Nat) : Int))) : OpV P ⟨dst, .binOp .xor T x y T', ty, pos, af, gd⟩ L w (.int .u64 ((zz n : Nat) : Int)) := by
 have h1 := hs.1
 have h2 := hs.2
 by_cases hn : n < 0
 ·rw [if_pos hn] at hy
  have e : zz n = 18446744073709551615 - cu n * 2 % 18446744073709551616 := by unfold zz cu; rw [if_pos hn]; omega
  rw [e]
  exact v_uxor1 (Nat.mod_lt _ (by decide)) hx (by rw [hy]; rfl)
 ·rw [if_neg hn] at hy
  have e : zz n = cu n * 2 % 18446744073709551616 := by unfold zz cu; rw [if_neg hn]; omega
  rw [e]
  exact v_uxor0 (Nat.mod_lt _ (by decide)) hx (by rw [hy]; rfl)
/-- dialtone/dialtoneref01.zigzag -/
theorem zigzag_ok (n : Int) (w0 : World) (hs : small n) :
  Ret Tryz.prog 148 #[.int .i64 n] w0 fun v w => v = .int .u64 ((zz n : Nat) : Int) ∧ Ext No w0 w := by
 have hs1 := hs.1
 have hs2 := hs.2
 refine ret_of Tryz.func148 rfl Tryz.ntmps148 (Nat.le_of_ble_eq_true rfl) fun a hfr => ?_
 replace hfr : Fr 13 [(0, _)] [] a := hfr
 replace hst : St No w0 [] w0 := St.init w0
 refine wc_seq_region fun K1 hK1 => ?_
 refine wla hfr rfl fun a hfr => ?_
 refine wl_nil (hK1 _ _ ?_)
 refine wc_seq_k fun K2 hK2 => ?_
 refine wc_seq_region fun K3 hK3 => ?_
 refine wlm hfr rfl fun a hfr => ?_
 refine wlv hfr (v_lt rfl rfl) fun a hfr => ?_
 refine wl_nil (hK3 _ _ ?_)
 refine wc_cond hfr rfl (fun hc1 => ?_) (fun hc1 => ?_)
 ·rw [hc1] at hfr
  try simp only [qz] at hc1
  refine wc_seq_region fun K4 hK4 => ?_
  refine wlm hfr rfl fun a hfr => ?_
  refine wlv hfr (v_neg rfl (by omega) (by omega)) fun a hfr => ?_
  refine wlv hfr ((v_conv_iu rfl (by kernel_rfl) Tryz.underlying215).asi (m' := (((-n).toNat : Nat) : Int)) (by omega)) fun a hfr => ?_
  refine wlv hfr (v_umul (m := (-n).toNat) (n := 2) (by omega) rfl rfl) fun a hfr => ?_
  refine wlv hfr (v_usub (m := ((-n).toNat * 2)) (n := 1) (by omega) (by omega) rfl rfl) fun a hfr => ?_
  refine wla hfr rfl fun a hfr => ?_
  refine wl_nil (hK4 _ _ ?_)
  replace hfr : Fr 13 [(0, _), (2, _)] [] a := hfr.pick [0, 2]
  refine wc_ret ?_
  refine fin_ret hfr Tryz.results148 (resAre_tmp rfl resAre_nil) ?_
  refine ⟨congrArg (Value.int .u64) ?_, hst.ext⟩
  unfold zz
  split <;> omega
 rw [hc1] at hfr
 try simp only [qz] at hc1
 refine wc_skip ?_
 refine hK2 _ _ ?_
 refine wc_seq_region fun K5 hK5 => ?_
 refine wlm hfr rfl fun a hfr => ?_
 refine wlv hfr ((v_conv_iu rfl (by kernel_rfl) Tryz.underlying215).asi (m' := (((n).toNat : Nat) : Int)) (by omega)) fun a hfr => ?_
 refine wlv hfr (v_umul (m := (n).toNat) (n := 2) (by omega) rfl rfl) fun a hfr => ?_
 refine wla hfr rfl fun a hfr => ?_
 refine wl_nil (hK5 _ _ ?_)
 replace hfr : Fr 13 [(2, _)] [] a := hfr.pick [2]
 refine wc_ret ?_
 refine fin_ret hfr Tryz.results148 (resAre_tmp rfl resAre_nil) ?_
 refine ⟨congrArg (Value.int .u64) ?_, hst.ext⟩
 unfold zz
 split <;> omega
/-- dialtone/dialtoneref01.PutInt -/
theorem rputInt_ok (n : Int) (w0 : World) (hs : small n) :
  Ret Tryz.prog 127 #[.int .i64 n] w0 fun v w => v = .tuple #[sv (putI n), .int .i64 0] ∧ Ext No w0 w := by
 refine ret_of Tryz.func127 rfl Tryz.ntmps127 (Nat.le_of_ble_eq_true rfl) fun a hfr => ?_
 replace hfr : Fr 31 [(0, _)] [] a := hfr
 replace hst : St No w0 [] w0 := St.init w0
 refine wc_seq_region fun K1 hK1 => ?_
 refine wla hfr rfl fun a hfr => ?_
 refine wla hfr rfl fun a hfr => ?_
 refine wl_nil (hK1 _ _ ?_)
 refine wc_seq_k fun K2 hK2 => ?_
 refine wc_seq_region fun K3 hK3 => ?_
 refine wlm hfr rfl fun a hfr => ?_
 refine wlv hfr ((v_lt rfl rfl).asb (b' := false) (by rw [decide_eq_false_iff_not]; have := hs.1; omega)) fun a hfr => ?_
 refine wlm hfr rfl fun a hfr => ?_
 refine wly hfr (v_move rfl) fun a hfr => ?_
 refine wly hfr ((v_gt rfl rfl).asb (b' := false) (by rw [decide_eq_false_iff_not]; have := hs.2; omega)) fun a hfr => ?_
 refine wlv hfr (v_pick_f rfl rfl) fun a hfr => ?_
 refine wl_nil (hK3 _ _ ?_)
 refine wc_cond_f hfr rfl ?_
 refine wc_skip ?_
 refine hK2 _ _ ?_
 refine wc_seq_region fun K4 hK4 => ?_
 refine wlm hfr rfl fun a hfr => ?_
 refine wl_callp hfr hst (by decide) Tryz.call148 rfl (zigzag_ok n _ hs) ?_
 clear hfr hst
 intro a w1 hfr hst
 refine wla hfr rfl fun a hfr => ?_
 refine wl_nil (hK4 _ _ ?_)
 replace hfr : Fr 31 [(2, _), (3, _), (4, _)] [] a := hfr.pick [2, 3, 4]
 refine wc_seq_region fun K5 hK5 => ?_
 refine wla hfr rfl fun a hfr => ?_
 refine wl_nil (hK5 _ _ ?_)
 refine wc_seq_k fun K6 hK6 => ?_
 refine wc_block ?_
 replace hst : St No w0 [own (.slice none 0 0) 5 1 ((([] : By)).map fun b => [yv b])] w1 := hst.nil_own
 refine wc_loop (fun m a w => ∃ (f : Nat) (z : Nat) (bs : By) (v : Value), m = f ∧ (bs ++ vb f z = putI n) ∧ (z < 128 ^ (f + 1)) ∧ (bs.length + f = 8) ∧ (z < 18446744073709551616) ∧ Fr 31 [(2, sv ([])), (3, .int .i64 0), (4, .int .u64 (z : Int)), (5, v)] [] a ∧ St No w0 [own v 5 1 ((bs).map fun b => [yv b])] w) _ ⟨8, zz n, [], .slice none 0 0, rfl, rfl, zz_pow hs, rfl, zz_u64 hs, hfr.pick [2, 3, 4, 5], hst⟩ ?_
 rintro _ a w2 ⟨f, z, bs, v, rfl, hb, hz, hl, hz6, hfr, hst⟩
 refine wc_seq_k fun K7 hK7 => ?_
 refine wc_seq_region fun K8 hK8 => ?_
 refine wlm hfr rfl fun a hfr => ?_
 refine wlv hfr (v_ge rfl rfl) fun a hfr => ?_
 refine wl_nil (hK8 _ _ ?_)
 refine wc_cond hfr rfl (fun hc1 => ?_) (fun hc1 => ?_)
 ·rw [hc1] at hfr
  try simp only [qz] at hc1
  obtain ⟨g, rfl⟩ := vb_pos hz (by omega)
  rw [vb_more (by omega)] at hb
  refine wc_skip ?_
  refine hK7 _ _ ?_
  refine wc_block ?_
  refine wc_seq_region fun K9 hK9 => ?_
  refine wlm hfr rfl fun a hfr => ?_
  refine wlm hfr rfl fun a hfr => ?_
  refine wlv hfr (v_urem (m := z) (n := 128) (by omega) rfl rfl) fun a hfr => ?_
  refine wlv hfr (v_uadd (m := (z % 128)) (n := 128) (by omega) rfl rfl) fun a hfr => ?_
  refine wlv hfr (v_conv_uy (n := ((z % 128) + 128)) rfl (by kernel_rfl) Tryz.underlying5) fun a hfr => ?_
  refine wl_buildSlice (E := 5) (sz := 1) rfl [[yv (UInt8.ofNat ((z % 128) + 128))]] (by kernel_rfl) (by simp) rfl (by decide) (by decide) hfr hst ?_
  clear hfr hst
  intro a w3 hfr hst
  refine wl_append (i := 1) (sT := 62) (inf := Tryz.t5) (z := yv (0 : UInt8)) (b := 0) (off := 0) (m := 0) (c := 0) rfl rfl rfl (hst.ownAt (i := 0) rfl) (by simp) Tryz.underlying62 rfl rfl rfl rfl (by decide) (by simp [Value.oneCell', yv, wv, sv]) (by have hby : Tryz.t5.bytes = 1 := rfl; simp [big, hby] <;> omega) (by have hby : Tryz.t5.bytes = 1 := rfl; simp [big, hby] <;> omega) (by decide) hfr hst fun a w4 s2 hfr hst _ => ?_
  rw [show ((bs).map fun b => [yv b]) ++ ([[yv (UInt8.ofNat ((z % 128) + 128))]]) = ((bs ++ [(UInt8.ofNat ((z % 128) + 128))]).map fun b => [yv b]) from by simp] at hst
  refine wla hfr rfl fun a hfr => ?_
  refine wl_nil (hK9 _ _ ?_)
  replace hfr : Fr 31 [(2, _), (3, _), (4, _), (5, _)] [] a := hfr.pick [2, 3, 4, 5]
  replace hst : St No w0 [_] w4 := hst.mask [false, true]
  refine wc_region ?_
  refine wlm hfr rfl fun a hfr => ?_
  refine wlv hfr (v_uquo (m := z) (n := 128) (by omega) (by omega) rfl rfl) fun a hfr => ?_
  refine wla hfr rfl fun a hfr => ?_
  refine wl_nil ?_
  refine ⟨_, ?_, g, z / 128, bs ++ [UInt8.ofNat (z % 128 + 128)], s2, rfl, (by rw [List.append_assoc]; exact hb), (vb_less hz), (by rw [List.length_append]; simp; omega), (by omega), hfr.pick [2, 3, 4, 5], hst⟩
  omega
 rw [hc1] at hfr
 try simp only [qz] at hc1
 rw [vb_last (by omega)] at hb
 refine wc_exit ?_
 refine hK6 _ _ ?_
 refine wc_seq_region fun K10 hK10 => ?_
 refine wlm hfr rfl fun a hfr => ?_
 refine wlm hfr rfl fun a hfr => ?_
 refine wlv hfr (v_conv_uy (n := z) rfl (by kernel_rfl) Tryz.underlying5) fun a hfr => ?_
 refine wl_buildSlice (E := 5) (sz := 1) rfl [[yv (UInt8.ofNat z)]] (by kernel_rfl) (by simp) rfl (by decide) (by decide) hfr hst ?_
 clear hfr hst
 intro a w5 hfr hst
 refine wl_append (i := 1) (sT := 62) (inf := Tryz.t5) (z := yv (0 : UInt8)) (b := 0) (off := 0) (m := 0) (c := 0) rfl rfl rfl (hst.ownAt (i := 0) rfl) (by simp) Tryz.underlying62 rfl rfl rfl rfl (by decide) (by simp [Value.oneCell', yv, wv, sv]) (by have hby : Tryz.t5.bytes = 1 := rfl; simp [big, hby] <;> omega) (by have hby : Tryz.t5.bytes = 1 := rfl; simp [big, hby] <;> omega) (by decide) hfr hst fun a w6 s3 hfr hst _ => ?_
 rw [show ((bs).map fun b => [yv b]) ++ ([[yv (UInt8.ofNat z)]]) = ((bs ++ [(UInt8.ofNat z)]).map fun b => [yv b]) from by simp] at hst
 refine wlv hfr (v_conv_sls (hst.ownAt (i := 1) rfl) rfl Tryz.underlying62 Tryz.underlying5 Tryz.underlying9) fun a hfr => ?_
 refine wla hfr rfl fun a hfr => ?_
 refine wla hfr rfl fun a hfr => ?_
 refine wl_nil (hK10 _ _ ?_)
 replace hfr : Fr 31 [(2, _), (3, _)] [] a := hfr.pick [2, 3]
 replace hst : St No w0 [] w6 := hst.mask [false, false]
 refine wc_ret ?_
 refine fin_ret hfr Tryz.results127 (resAre_tmp rfl (resAre_tmp rfl resAre_nil)) ?_
 exact ⟨by rw [← hb]; rfl, hst.ext⟩
/-- dialtone/wire.groups -/
theorem groups_ok (z : Nat) (w0 : World) :
  Ret Tryz.prog 146 #[.int .u64 (z : Int)] w0 (MemR w0 (fun b : Nat => .func (.func 163) #[] #[.pointer (some ⟨b, 0, none⟩)]) (fun b => [blk b [.int .u64 (z : Int)] 215]) (fun _ => True)) := by
 refine ret_of Tryz.func146 rfl Tryz.ntmps146 (Nat.le_of_ble_eq_true rfl) fun a hfr => ?_
 replace hfr : Fr 4 [(0, _)] [] a := hfr
 replace hst : St No w0 [] w0 := St.init w0
 refine wc_seq_region fun K1 hK1 => ?_
 refine wl_box hfr hst (by decide) rfl (cs := [.int .u64 (z : Int)]) rfl ?_
 clear hfr hst
 intro a w1 hfr hst
 refine wla hfr rfl fun a hfr => ?_
 refine wl_nil (hK1 _ _ ?_)
 refine wc_seq_region fun K2 hK2 => ?_
 refine wlv hfr (v_makeFunc rfl rfl) fun a hfr => ?_
 refine wla hfr rfl fun a hfr => ?_
 refine wl_nil (hK2 _ _ ?_)
 refine wc_ret ?_
 refine fin_ret hfr Tryz.results146 (resAre_tmp rfl resAre_nil) ?_
 exact ⟨w0.heap.size, rfl, trivial, hst.ext, St.out (H := []) hst⟩
/-- dialtone/wire.groups$1 -/
theorem groups_run {M : Nat → Prop} {w0 : World} (z0 lp bg : Nat) (J Jx : List (UInt8 × Bool) → Ent → Prop) (hY : Rounds Tryz.prog M w0 lp encG NxG J Jx) (e0 : Ent) (ws : World) (hz0 : z0 < 128 ^ (8 + 1)) (hz06 : z0 < 18446744073709551616) (hJ : J [] e0) (hst : St M w0 [e0, blk bg [.int .u64 (z0 : Int)] 215] ws) :
  Ret Tryz.prog 163 #[.func (.yield lp) #[] #[], .pointer (some ⟨bg, 0, none⟩)] ws fun _ w => ∃ e1 Hi1, St M w0 (e1 :: Hi1) w ∧ ((∃ xs, (xs = gs 8 z0 ∧ ∃ z1 : Nat, Hi1 = [blk bg [.int .u64 (z1 : Int)] 215]) ∧ J xs e1) ∨ (∃ pre, (∃ z1 : Nat, Hi1 = [blk bg [.int .u64 (z1 : Int)] 215]) ∧ Jx pre e1)) := by
 refine ret_of Tryz.func163 rfl Tryz.ntmps163 (Nat.le_of_ble_eq_true rfl) fun a hfr => ?_
 replace hfr : Fr 18 [(0, _), (1, _)] [] a := hfr
 skip
 refine wc_block ?_
 refine wc_loop (fun m a w => ∃ (f : Nat) (z : Nat) (e : Ent) (dn : List (UInt8 × Bool)), m = f ∧ (dn ++ gs f z = gs 8 z0) ∧ (z < 128 ^ (f + 1)) ∧ (dn.length + f = 8) ∧ (z < 18446744073709551616) ∧ (J dn e) ∧ Fr 18 [(0, .func (.yield lp) #[] #[]), (1, .pointer (some ⟨bg, 0, none⟩))] [] a ∧ St M w0 [e, blk bg [.int .u64 (z : Int)] 215] w) _ ⟨8, z0, e0, [], rfl, rfl, hz0, rfl, hz06, hJ, hfr.pick [0, 1], hst⟩ ?_
 rintro _ a w1 ⟨f, z, e, dn, rfl, hg, hz, hl, hz6, hJ, hfr, hst⟩
 refine wc_block ?_
 refine wc_seq_region fun K1 hK1 => ?_
 refine wlv hfr (v_load_blk1 (hst.get (k := 1) rfl) rfl (Tryz.isAgg215 _) rfl) fun a hfr => ?_
 refine wlv hfr (v_lt rfl rfl) fun a hfr => ?_
 refine wla hfr rfl fun a hfr => ?_
 refine wl_nil (hK1 _ _ ?_)
 refine wc_seq_k fun K2 hK2 => ?_
 refine wc_seq_region fun K3 hK3 => ?_
 refine wlm hfr rfl fun a hfr => ?_
 refine wlv hfr (v_load_blk1 (hst.get (k := 1) rfl) rfl (Tryz.isAgg215 _) rfl) fun a hfr => ?_
 refine wlv hfr ((v_uand (m := z) (k := 7) (by omega) (by omega) rfl rfl).asi (m' := ((z % 128 : Nat) : Int)) rfl) fun a hfr => ?_
 refine wlv hfr (v_conv_uy (n := (z % 128)) rfl (by kernel_rfl) Tryz.underlying5) fun a hfr => ?_
 refine wlm hfr rfl fun a hfr => ?_
 refine wl_r (r_yield rfl rfl (hY.yield (pre := dn) (x := (UInt8.ofNat (z % 128), decide ((z : Int) < 128))) (by show dn.length < 9; omega) hJ (hst.only (i := 0) rfl))) rfl rfl hfr ?_
 clear hfr
 intro a v w2 hR hfr
 obtain ⟨y1, e2, rfl, hx, hok, hft, hJt, hJf⟩ := hR
 replace hst := hst.exchange (k := 0) rfl hx hok hft
 replace hst : St M w0 [e2, blk bg [.int .u64 (z : Int)] 215] w2 := hst
 clear hx hok hft
 refine wlv hfr (v_not rfl) fun a hfr => ?_
 refine wlm hfr rfl fun a hfr => ?_
 rcases Bool.eq_false_or_eq_true (!y1) with hb3 | hb3
 ·rw [hb3] at hfr
  try simp only [qz] at hb3
  have hJ := hJf hb3
  refine wln hfr fun a hfr => ?_
  refine wlv hfr (v_pick_t rfl rfl) fun a hfr => ?_
  refine wl_nil (hK3 _ _ ?_)
  replace hfr : Fr 18 [(0, _), (1, _), (15, _)] [] a := hfr.pick [0, 1, 15]
  refine wc_cond_t hfr rfl ?_
  refine wc_ret ?_
  refine fin_ret hfr Tryz.results163 resAre_nil ?_
  first | exact ⟨_, _, hst, .inl ⟨_, ⟨rfl, _, rfl⟩, hJ⟩⟩ | exact ⟨_, _, hst, .inr ⟨_, ⟨_, rfl⟩, hJ⟩⟩
 rw [hb3] at hfr
 try simp only [qz] at hb3
 have hJ := hJt hb3
 refine wly hfr (v_move rfl) fun a hfr => ?_
 refine wlv hfr (v_pick_f rfl rfl) fun a hfr => ?_
 refine wl_nil (hK3 _ _ ?_)
 replace hfr : Fr 18 [(0, _), (1, _), (15, _)] [] a := hfr.pick [0, 1, 15]
 refine wc_cond hfr rfl (fun hc4 => ?_) (fun hc4 => ?_)
 ·rw [hc4] at hfr
  try simp only [qz] at hc4
  rw [decide_eq_true hc4] at hJ
  rw [gs_last (by omega)] at hg
  rw [hg] at hJ
  refine wc_ret ?_
  refine fin_ret hfr Tryz.results163 resAre_nil ?_
  first | exact ⟨_, _, hst, .inl ⟨_, ⟨rfl, _, rfl⟩, hJ⟩⟩ | exact ⟨_, _, hst, .inr ⟨_, ⟨_, rfl⟩, hJ⟩⟩
 rw [hc4] at hfr
 try simp only [qz] at hc4
 rw [decide_eq_false hc4] at hJ
 obtain ⟨g, rfl⟩ := vb_pos hz (by omega)
 rw [gs_more (by omega)] at hg
 refine wc_skip ?_
 refine hK2 _ _ ?_
 refine wc_region ?_
 refine wlv hfr (v_load_blk1 (hst.get (k := 1) rfl) rfl (Tryz.isAgg215 _) rfl) fun a hfr => ?_
 refine wlv hfr ((v_ushr (m := z) (n := 7) (by omega) rfl rfl).asi (m' := ((z / 128 : Nat) : Int)) rfl) fun a hfr => ?_
 refine wl_store 1 hfr hst rfl rfl rfl (Tryz.sizeOf215 _) rfl (Nat.le_of_ble_eq_true rfl) (ds := [.int .u64 ((z / 128 : Nat) : Int)]) rfl rfl ?_
 clear hfr hst
 intro a w3 hfr hst
 refine wl_nil ?_
 refine ⟨_, ?_, g, z / 128, e2, dn ++ [(UInt8.ofNat (z % 128), false)], rfl, (by rw [List.append_assoc]; exact hg), (vb_less hz), (by rw [List.length_append]; simp; omega), (by omega), hJ, hfr.pick [0, 1], hst⟩
 omega
theorem groups_iter {M : Nat → Prop} {w0 : World} (z0 bg : Nat) (hz0 : z0 < 128 ^ (8 + 1)) (hz06 : z0 < 18446744073709551616) :
  Iter Tryz.prog 163 [.pointer (some ⟨bg, 0, none⟩)] encG NxG (fun xs Hi1 => xs = gs 8 z0 ∧ ∃ z1 : Nat, Hi1 = [blk bg [.int .u64 (z1 : Int)] 215]) (fun pre Hi1 => ∃ z1 : Nat, Hi1 = [blk bg [.int .u64 (z1 : Int)] 215]) M w0 [blk bg [.int .u64 (z0 : Int)] 215] :=
 fun lp J Jx w e hY hJ hst => groups_run z0 lp bg J Jx hY e w hz0 hz06 hJ hst
/-- dialtone/wire.PutInt -/
theorem putInt_ok (n : Int) (w0 : World) (hs : small n) :
  Ret Tryz.prog 125 #[.int .i64 n] w0 fun v w => v = .tuple #[sv (putI n), .int .i64 0] ∧ Ext No w0 w := by
 have hs1 := hs.1
 have hs2 := hs.2
 refine ret_of Tryz.func125 rfl Tryz.ntmps125 (Nat.le_of_ble_eq_true rfl) fun a hfr => ?_
 replace hfr : Fr 33 [(0, _)] [] a := hfr
 replace hst : St No w0 [] w0 := St.init w0
 refine wc_seq_region fun K1 hK1 => ?_
 refine wla hfr rfl fun a hfr => ?_
 refine wla hfr rfl fun a hfr => ?_
 refine wl_nil (hK1 _ _ ?_)
 refine wc_seq_k fun K2 hK2 => ?_
 refine wc_seq_region fun K3 hK3 => ?_
 refine wlm hfr rfl fun a hfr => ?_
 refine wlv hfr ((v_lt rfl rfl).asb (b' := false) (by rw [decide_eq_false_iff_not]; have := hs.1; omega)) fun a hfr => ?_
 refine wlm hfr rfl fun a hfr => ?_
 refine wly hfr (v_move rfl) fun a hfr => ?_
 refine wly hfr ((v_gt rfl rfl).asb (b' := false) (by rw [decide_eq_false_iff_not]; have := hs.2; omega)) fun a hfr => ?_
 refine wlv hfr (v_pick_f rfl rfl) fun a hfr => ?_
 refine wl_nil (hK3 _ _ ?_)
 refine wc_cond_f hfr rfl ?_
 refine wc_skip ?_
 refine hK2 _ _ ?_
 refine wc_seq_region fun K4 hK4 => ?_
 refine wl_alloc hfr hst (by decide) (Tryz.zeroValue62 _) (cs := [.slice none 0 0]) rfl ?_
 clear hfr hst
 intro a w1 hfr hst
 refine wl_nil (hK4 _ _ ?_)
 replace hfr : Fr 33 [(0, _), (2, _), (3, _), (4, _)] [] a := hfr.pick [0, 2, 3, 4]
 refine wc_seq_k fun K5 hK5 => ?_
 refine wc_seq_region fun K6 hK6 => ?_
 refine wlm hfr rfl fun a hfr => ?_
 refine wlv hfr ((v_conv_iu rfl (by kernel_rfl) Tryz.underlying215).asi (m' := ((cu (n) : Nat) : Int)) rfl) fun a hfr => ?_
 refine wlv hfr (v_ushl (m := cu n) (n := 1) (by omega) rfl rfl) fun a hfr => ?_
 refine wlm hfr rfl fun a hfr => ?_
 refine wlv hfr (v_isign (by omega) (by omega) rfl rfl) fun a hfr => ?_
 refine wlv hfr ((v_conv_iu rfl (by kernel_rfl) Tryz.underlying215).asi (m' := ((cu (if n < 0 then -1 else 0) : Nat) : Int)) rfl) fun a hfr => ?_
 refine wlv hfr (v_zz hs rfl rfl) fun a hfr => ?_
 refine wl_callm hfr hst (by decide) Tryz.call146 rfl (groups_ok (zz n) _) ?_
 clear hfr hst
 intro a w2 x1 hp hfr hst
 revert x1 hp hfr hst; rintro bg hp hfr hst
 clear hp
 replace hst : St No w0 [blk bg [.int .u64 (zz n : Int)] 215, blk w0.heap.size [.slice none 0 0] 62] w2 := hst
 refine wl_nil (hK6 _ _ ?_)
 replace hfr : Fr 33 [(2, _), (3, _), (4, _), (20, _)] [] a := hfr.pick [2, 3, 4, 20]
 refine wc_block ?_
 replace hst : St No w0 [own (.slice none 0 0) 5 1 ((([] : List (UInt8 × Bool)).map enc1).map fun b => [yv b]), blk bg [.int .u64 (zz n : Int)] 215, blk w0.heap.size [.slice none 0 0] 62] w2 := hst.nil_own
 replace hst : St No w0 [blk w0.heap.size [.slice none 0 0] 62, own (.slice none 0 0) 5 1 ((([] : List (UInt8 × Bool)).map enc1).map fun b => [yv b]), blk bg [.int .u64 (zz n : Int)] 215] w2 := hst.select [2, 0, 1] (by decide)
 replace hfr : Fr 33 [(2, sv ([])), (3, .int .i64 0), (4, .pointer (some ⟨w0.heap.size, 0, none⟩)), (20, .func (.func 163) #[] #[.pointer (some ⟨bg, 0, none⟩)])] [] a := hfr.pick [2, 3, 4, 20]
 refine wc_range (M := No) (w0 := w0) (encs := encG) (Hi := [blk bg [.int .u64 (zz n : Int)] 215]) (Hc := [blk w0.heap.size [.slice none 0 0] 62, own (.slice none 0 0) 5 1 ((([] : List (UInt8 × Bool)).map enc1).map fun b => [yv b])]) (fun pre H => ∃ (v : Value), H = [blk w0.heap.size [v] 62, own v 5 1 ((pre.map enc1).map fun b => [yv b])]) (fun _ _ _ => False) (fun pre xs H a => Fr 33 [(2, sv ([])), (3, .int .i64 0), (4, .pointer (some ⟨w0.heap.size, 0, none⟩)), (20, .func (.func 163) #[] #[.pointer (some ⟨bg, 0, none⟩)]), (5, yv xs.1), (6, .bool xs.2)] [] a ∧ ∃ (v : Value), H = [blk w0.heap.size [v] 62, own v 5 1 ((pre.map enc1).map fun b => [yv b])]) rfl Tryz.call163 hfr hst (groups_iter (zz n) bg (zz_pow hs) (zz_u64 hs)) (by decide) (fun _ => rfl) ⟨.slice none 0 0, rfl⟩ ?_ ?_ ?_ ?_
 ·clear hfr hst
  rintro lp pre xs _ a w3 hnx ⟨v, rfl⟩ hfr hst
  generalize (join [blk w0.heap.size [v] 62, own v 5 1 ((pre.map enc1).map fun b => [yv b])]).foot = M1 at hst ⊢
  replace hfr : Fr 33 [(22, .bool xs.2), (21, yv xs.1), (2, sv ([])), (3, .int .i64 0), (4, .pointer (some ⟨w0.heap.size, 0, none⟩)), (20, .func (.func 163) #[] #[.pointer (some ⟨bg, 0, none⟩)])] [] a := hfr
  refine wc_seq_region fun K7 hK7 => ?_
  refine wla hfr rfl fun a hfr => ?_
  refine wl_nil (hK7 _ _ ?_)
  refine wc_region ?_
  refine wla hfr rfl fun a hfr => ?_
  refine wl_nil ?_
  exact ⟨_, ⟨hfr.pick [2, 3, 4, 20, 5, 6], v, rfl⟩, hst⟩
 ·rintro lp pre xs _ a w4 hnx ⟨hfr, v, rfl⟩ hout hrec hnl hst
  clear hrec hnl
  generalize (join [blk w0.heap.size [v] 62, own v 5 1 ((pre.map enc1).map fun b => [yv b])]).foot = M1 at hst hout ⊢
  refine wc_block ?_
  refine wc_seq_k fun K8 hK8 => ?_
  refine wc_seq_region fun K9 hK9 => ?_
  refine wlm hfr rfl fun a hfr => ?_
  refine wlv hfr (v_not rfl) fun a hfr => ?_
  refine wl_nil (hK9 _ _ ?_)
  refine wc_cond hfr rfl (fun hc2 => ?_) (fun hc2 => ?_)
  ·rw [hc2] at hfr
   try simp only [qz] at hc2
   refine wc_region ?_
   refine wlm hfr rfl fun a hfr => ?_
   refine wlv hfr (v_yor (a := xs.1) (b := (128 : UInt8)) rfl rfl) fun a hfr => ?_
   refine wla hfr rfl fun a hfr => ?_
   refine wl_nil ?_
   refine hK8 _ _ ?_
   replace hfr : Fr 33 [(2, _), (3, _), (4, _), (5, _)] [] a := hfr.pick [2, 3, 4, 5]
   refine wc_region ?_
   refine wlv hfr (v_load_blk1 (hst.get (k := 0) rfl) rfl (Tryz.isAgg62 _) rfl) fun a hfr => ?_
   refine wlm hfr rfl fun a hfr => ?_
   refine wl_buildSlice (E := 5) (sz := 1) rfl [[yv (xs.1 ||| (128 : UInt8))]] (by kernel_rfl) (by simp) rfl (by decide) (by decide) hfr hst ?_
   clear hfr hst
   intro a w5 hfr hst
   refine wl_append (i := 2) (sT := 62) (inf := Tryz.t5) (z := yv (0 : UInt8)) (b := 0) (off := 0) (m := 0) (c := 0) rfl rfl rfl (hst.ownAt (i := 0) rfl) (by simp) Tryz.underlying62 rfl rfl rfl rfl (by decide) (by simp [Value.oneCell', yv, wv, sv]) (by have hby : Tryz.t5.bytes = 1 := rfl; have : pre.length < 9 := hnx; simp [big, hby] <;> omega) (by have hby : Tryz.t5.bytes = 1 := rfl; have : pre.length < 9 := hnx; simp [big, hby] <;> omega) (by decide) hfr hst fun a w6 s3 hfr hst _ => ?_
   rw [show ((pre.map enc1).map fun b => [yv b]) ++ ([[yv (xs.1 ||| (128 : UInt8))]]) = (((pre ++ [xs]).map enc1).map fun b => [yv b]) from by simp [enc1, hc2]] at hst
   refine wl_store_sl 1 hfr hst (hst.ownAt (i := 2) rfl) rfl rfl rfl (Tryz.sizeOf62 _) (Nat.le_of_ble_eq_true rfl) (ds := [s3]) rfl rfl ?_
   clear hfr hst
   intro a w7 hfr hst
   refine wl_nil ?_
   exact ⟨_, ⟨s3, rfl⟩, hst.select [1, 2] (by decide)⟩
  rw [hc2] at hfr
  try simp only [qz] at hc2
  refine wc_skip ?_
  refine hK8 _ _ ?_
  refine wc_region ?_
  refine wlv hfr (v_load_blk1 (hst.get (k := 0) rfl) rfl (Tryz.isAgg62 _) rfl) fun a hfr => ?_
  refine wlm hfr rfl fun a hfr => ?_
  refine wl_buildSlice (E := 5) (sz := 1) rfl [[yv xs.1]] (by kernel_rfl) (by simp) rfl (by decide) (by decide) hfr hst ?_
  clear hfr hst
  intro a w8 hfr hst
  refine wl_append (i := 2) (sT := 62) (inf := Tryz.t5) (z := yv (0 : UInt8)) (b := 0) (off := 0) (m := 0) (c := 0) rfl rfl rfl (hst.ownAt (i := 0) rfl) (by simp) Tryz.underlying62 rfl rfl rfl rfl (by decide) (by simp [Value.oneCell', yv, wv, sv]) (by have hby : Tryz.t5.bytes = 1 := rfl; have : pre.length < 9 := hnx; simp [big, hby] <;> omega) (by have hby : Tryz.t5.bytes = 1 := rfl; have : pre.length < 9 := hnx; simp [big, hby] <;> omega) (by decide) hfr hst fun a w9 s4 hfr hst _ => ?_
  rw [show ((pre.map enc1).map fun b => [yv b]) ++ ([[yv xs.1]]) = (((pre ++ [xs]).map enc1).map fun b => [yv b]) from by simp [enc1, hc2]] at hst
  refine wl_store_sl 1 hfr hst (hst.ownAt (i := 2) rfl) rfl rfl rfl (Tryz.sizeOf62 _) (Nat.le_of_ble_eq_true rfl) (ds := [s4]) rfl rfl ?_
  clear hfr hst
  intro a w10 hfr hst
  refine wl_nil ?_
  exact ⟨_, ⟨s4, rfl⟩, hst.select [1, 2] (by decide)⟩
 ·rintro D pre _ _ a w11 ⟨rfl, z1, rfl⟩ ⟨v, rfl⟩ hst hfr
  replace hfr : Fr 33 [(2, sv ([])), (3, .int .i64 0), (4, .pointer (some ⟨w0.heap.size, 0, none⟩)), (20, .func (.func 163) #[] #[.pointer (some ⟨bg, 0, none⟩)])] [{ target := .collected D, args := #[] }] a := hfr
  replace hst : St No w0 [obj D (.deferred (some [])), blk w0.heap.size [v] 62, own v 5 1 (((gs 8 (zz n)).map enc1).map fun b => [yv b]), blk bg [.int .u64 (z1 : Int)] 215] w11 := hst
  refine hK5 _ _ ?_
  refine wc_seq_region fun K10 hK10 => ?_
  refine wlv hfr (v_load_blk1 (hst.get (k := 1) rfl) rfl (Tryz.isAgg62 _) rfl) fun a hfr => ?_
  refine wlv hfr (v_conv_sls (hst.ownAt (i := 2) rfl) rfl Tryz.underlying62 Tryz.underlying5 Tryz.underlying9) fun a hfr => ?_
  refine wla hfr rfl fun a hfr => ?_
  refine wla hfr rfl fun a hfr => ?_
  refine wl_nil (hK10 _ _ ?_)
  refine wc_ret ?_
  have hD := hst.get (k := 0) rfl
  replace hst := hst.unmark (i := 0) (o' := .deferred none) rfl
  replace hst : St No w0 [blk w0.heap.size [v] 62, own v 5 1 (((gs 8 (zz n)).map enc1).map fun b => [yv b]), blk bg [.int .u64 (z1 : Int)] 215] _ := hst
  refine fin_ret1 hfr hD Tryz.results125 (resAre_tmp rfl (resAre_tmp rfl resAre_nil)) ?_
  exact ⟨by rw [gs_vb 8 _ (zz_pow hs)]; rfl, hst.ext⟩
 ·rintro D c pre _ _ a w12 _ h
  exact h.elim
end Go.Proofs.YtmmfieceinmloaaGreatDoor
namespace Go.Proofs.YtmmfieceinmloaaGreatDoor
open Go.RowKit Go.PW
set_option linter.unusedVariables false
set_option linter.unusedSimpArgs false
set_option maxRecDepth 4000
def Wsh.nums (x : Wsh) : List Int := [1, x.signer, x.holder, x.rf, x.rt, x.carrier, x.serial, x.sf, x.st]
def Pxy.nums (x : Pxy) : List Int := [2, x.frm, x.to, x.rf, x.rt, x.sf, x.st]
def smalls (l : List Int) : Prop := ∀ n ∈ l, small n
theorem Wsh.smalls_of {x : Wsh} (h : x.ok = true) : smalls x.nums := by
 simp only [Wsh.ok, inB, isRangeB, isSpellB, Bool.and_eq_true, decide_eq_true_eq] at h
 intro n hn
 simp only [Wsh.nums, List.mem_cons, List.not_mem_nil, or_false] at hn
 unfold small
 rcases hn with rfl | rfl | rfl | rfl | rfl | rfl | rfl | rfl | rfl <;> omega
theorem Pxy.smalls_of {x : Pxy} (h : x.ok = true) : smalls x.nums := by
 simp only [Pxy.ok, inB, isRangeB, isSpellB, Bool.and_eq_true, decide_eq_true_eq] at h
 intro n hn
 simp only [Pxy.nums, List.mem_cons, List.not_mem_nil, or_false] at hn
 unfold small
 rcases hn with rfl | rfl | rfl | rfl | rfl | rfl | rfl <;> omega
theorem Wsh.content_len (x : Wsh) : x.content.length ≤ 81 := Nat.le_trans (puts_len _) (Nat.le_refl _)
theorem Pxy.content_len (x : Pxy) : x.content.length ≤ 63 := Nat.le_trans (puts_len _) (Nat.le_refl _)
/-- dialtone/dialtoneref15.in -/
theorem in_ok (n lo hi : Int) (w0 : World) :
  Ret Tryz.prog 86 #[.int .i64 n, .int .i64 lo, .int .i64 hi] w0 fun v w => v = .bool (inB n lo hi) ∧ Ext No w0 w := by
 refine ret_of Tryz.func86 rfl Tryz.ntmps86 (Nat.le_of_ble_eq_true rfl) fun a hfr => ?_
 replace hfr : Fr 15 [(0, _), (1, _), (2, _)] [] a := hfr
 replace hst : St No w0 [] w0 := St.init w0
 refine wc_seq_region fun K1 hK1 => ?_
 refine wla hfr rfl fun a hfr => ?_
 refine wl_nil (hK1 _ _ ?_)
 refine wc_seq_region fun K2 hK2 => ?_
 refine wlm hfr rfl fun a hfr => ?_
 refine wlm hfr rfl fun a hfr => ?_
 refine wlv hfr (v_ge rfl rfl) fun a hfr => ?_
 refine wlm hfr rfl fun a hfr => ?_
 refine wl_join (N := 15) (df := []) 4 [(14, .bool ((decide (lo ≤ n)) && (decide (n ≤ hi)))), (0, .int .i64 n), (1, .int .i64 lo), (2, .int .i64 hi), (6, .bool false)] ?_ (fun hj => ?_)
 rotate_left
 ·rcases Bool.eq_false_or_eq_true (decide (lo ≤ n)) with hb1 | hb1
  ·rw [hb1] at hfr
   have hb1b := hb1
   try simp only [qz, Bool.and_eq_true, Bool.or_eq_true, Bool.and_eq_false_iff, Bool.or_eq_false_iff] at hb1
   refine wly hfr (v_move rfl) fun a hfr => ?_
   refine wly hfr (v_move rfl) fun a hfr => ?_
   refine wly hfr (v_le rfl rfl) fun a hfr => ?_
   refine wlv hfr (v_pick_t rfl rfl) fun a hfr => ?_
   refine hj _ ?_
   try rw [hb1b]
   exact hfr.pick [14, 0, 1, 2, 6]
  rw [hb1] at hfr
  have hb1b := hb1
  try simp only [qz, Bool.and_eq_true, Bool.or_eq_true, Bool.and_eq_false_iff, Bool.or_eq_false_iff] at hb1
  refine wln hfr fun a hfr => ?_
  refine wln hfr fun a hfr => ?_
  refine wln hfr fun a hfr => ?_
  refine wlv hfr (v_pick_f rfl rfl) fun a hfr => ?_
  refine hj _ ?_
  try rw [hb1b]
  exact hfr.pick [14, 0, 1, 2, 6]
 intro a hfr
 refine wla hfr rfl fun a hfr => ?_
 refine wl_nil (hK2 _ _ ?_)
 refine wc_ret ?_
 refine fin_ret hfr Tryz.results86 (resAre_tmp rfl resAre_nil) ?_
 exact ⟨by rfl, hst.ext⟩
/-- dialtone/dialtoneref15.Range -/
theorem rrange_ok (b d : Int) (w0 : World) :
  Ret Tryz.prog 122 #[.agg #[.int .i64 b, .int .i64 d]] w0 fun v w => v = .bool (isRangeB b d) ∧ Ext No w0 w := by
 refine ret_of Tryz.func122 rfl Tryz.ntmps122 (Nat.le_of_ble_eq_true rfl) fun a hfr => ?_
 replace hfr : Fr 18 [(0, _)] [] a := hfr
 replace hst : St No w0 [] w0 := St.init w0
 refine wc_seq_region fun K1 hK1 => ?_
 refine wl_box hfr hst (by decide) rfl (cs := [.int .i64 b, .int .i64 d]) rfl ?_
 clear hfr hst
 intro a w1 hfr hst
 refine wla hfr rfl fun a hfr => ?_
 refine wl_nil (hK1 _ _ ?_)
 refine wc_seq_region fun K2 hK2 => ?_
 refine wlv hfr (v_fieldAddr (v := .pointer (some ⟨w0.heap.size, 0, none⟩)) rfl (by kernel_rfl)) fun a hfr => ?_
 refine wlv hfr (v_load_blk1 (hst.get (k := 0) rfl) rfl (Tryz.isAgg3 _) rfl) fun a hfr => ?_
 refine wlv hfr (v_ge rfl rfl) fun a hfr => ?_
 refine wlm hfr rfl fun a hfr => ?_
 refine wl_join (N := 18) (df := []) 6 [(12, .bool ((decide (0 ≤ b)) && (decide (b < d)))), (0, .agg #[.int .i64 b, .int .i64 d]), (1, .pointer (some ⟨w0.heap.size, 0, none⟩)), (2, .bool false)] ?_ (fun hj => ?_)
 rotate_left
 ·rcases Bool.eq_false_or_eq_true (decide (0 ≤ b)) with hb1 | hb1
  ·rw [hb1] at hfr
   have hb1b := hb1
   try simp only [qz, Bool.and_eq_true, Bool.or_eq_true, Bool.and_eq_false_iff, Bool.or_eq_false_iff] at hb1
   refine wly hfr (v_fieldAddr (v := .pointer (some ⟨w0.heap.size, 0, none⟩)) rfl (by kernel_rfl)) fun a hfr => ?_
   refine wly hfr (v_load_blk1 (hst.get (k := 0) rfl) rfl (Tryz.isAgg3 _) rfl) fun a hfr => ?_
   refine wly hfr (v_fieldAddr (v := .pointer (some ⟨w0.heap.size, 1, none⟩)) rfl (by kernel_rfl)) fun a hfr => ?_
   refine wly hfr (v_load_blk1 (hst.get (k := 0) rfl) rfl (Tryz.isAgg3 _) rfl) fun a hfr => ?_
   refine wly hfr (v_lt rfl rfl) fun a hfr => ?_
   refine wlv hfr (v_pick_t rfl rfl) fun a hfr => ?_
   refine hj _ ?_
   try rw [hb1b]
   exact hfr.pick [12, 0, 1, 2]
  rw [hb1] at hfr
  have hb1b := hb1
  try simp only [qz, Bool.and_eq_true, Bool.or_eq_true, Bool.and_eq_false_iff, Bool.or_eq_false_iff] at hb1
  refine wln hfr fun a hfr => ?_
  refine wln hfr fun a hfr => ?_
  refine wln hfr fun a hfr => ?_
  refine wln hfr fun a hfr => ?_
  refine wln hfr fun a hfr => ?_
  refine wlv hfr (v_pick_f rfl rfl) fun a hfr => ?_
  refine hj _ ?_
  try rw [hb1b]
  exact hfr.pick [12, 0, 1, 2]
 intro a hfr
 refine wlm hfr rfl fun a hfr => ?_
 refine wl_join (N := 18) (df := []) 4 [(17, .bool (((decide (0 ≤ b)) && (decide (b < d))) && (decide (d ≤ 100000000)))), (0, .agg #[.int .i64 b, .int .i64 d]), (1, .pointer (some ⟨w0.heap.size, 0, none⟩)), (2, .bool false)] ?_ (fun hj => ?_)
 rotate_left
 ·rcases Bool.eq_false_or_eq_true ((decide (0 ≤ b)) && (decide (b < d))) with hb2 | hb2
  ·rw [hb2] at hfr
   have hb2b := hb2
   try simp only [qz, Bool.and_eq_true, Bool.or_eq_true, Bool.and_eq_false_iff, Bool.or_eq_false_iff] at hb2
   refine wly hfr (v_fieldAddr (v := .pointer (some ⟨w0.heap.size, 1, none⟩)) rfl (by kernel_rfl)) fun a hfr => ?_
   refine wly hfr (v_load_blk1 (hst.get (k := 0) rfl) rfl (Tryz.isAgg3 _) rfl) fun a hfr => ?_
   refine wly hfr (v_le rfl rfl) fun a hfr => ?_
   refine wlv hfr (v_pick_t rfl rfl) fun a hfr => ?_
   refine hj _ ?_
   try rw [hb2b]
   exact hfr.pick [17, 0, 1, 2]
  rw [hb2] at hfr
  have hb2b := hb2
  try simp only [qz, Bool.and_eq_true, Bool.or_eq_true, Bool.and_eq_false_iff, Bool.or_eq_false_iff] at hb2
  refine wln hfr fun a hfr => ?_
  refine wln hfr fun a hfr => ?_
  refine wln hfr fun a hfr => ?_
  refine wlv hfr (v_pick_f rfl rfl) fun a hfr => ?_
  refine hj _ ?_
  try rw [hb2b]
  exact hfr.pick [17, 0, 1, 2]
 intro a hfr
 refine wla hfr rfl fun a hfr => ?_
 refine wl_nil (hK2 _ _ ?_)
 refine wc_ret ?_
 refine fin_ret hfr Tryz.results122 (resAre_tmp rfl resAre_nil) ?_
 exact ⟨by rfl, hst.ext⟩
/-- dialtone/dialtoneref15.Spell -/
theorem rspell_ok (b d : Int) (w0 : World) :
  Ret Tryz.prog 123 #[.agg #[.int .i64 b, .int .i64 d]] w0 fun v w => v = .bool (isSpellB b d) ∧ Ext No w0 w := by
 refine ret_of Tryz.func123 rfl Tryz.ntmps123 (Nat.le_of_ble_eq_true rfl) fun a hfr => ?_
 replace hfr : Fr 18 [(0, _)] [] a := hfr
 replace hst : St No w0 [] w0 := St.init w0
 refine wc_seq_region fun K1 hK1 => ?_
 refine wl_box hfr hst (by decide) rfl (cs := [.int .i64 b, .int .i64 d]) rfl ?_
 clear hfr hst
 intro a w1 hfr hst
 refine wla hfr rfl fun a hfr => ?_
 refine wl_nil (hK1 _ _ ?_)
 refine wc_seq_region fun K2 hK2 => ?_
 refine wlv hfr (v_fieldAddr (v := .pointer (some ⟨w0.heap.size, 0, none⟩)) rfl (by kernel_rfl)) fun a hfr => ?_
 refine wlv hfr (v_load_blk1 (hst.get (k := 0) rfl) rfl (Tryz.isAgg3 _) rfl) fun a hfr => ?_
 refine wlv hfr (v_ge rfl rfl) fun a hfr => ?_
 refine wlm hfr rfl fun a hfr => ?_
 refine wl_join (N := 18) (df := []) 6 [(12, .bool ((decide (0 ≤ b)) && (decide (b < d)))), (0, .agg #[.int .i64 b, .int .i64 d]), (1, .pointer (some ⟨w0.heap.size, 0, none⟩)), (2, .bool false)] ?_ (fun hj => ?_)
 rotate_left
 ·rcases Bool.eq_false_or_eq_true (decide (0 ≤ b)) with hb1 | hb1
  ·rw [hb1] at hfr
   have hb1b := hb1
   try simp only [qz, Bool.and_eq_true, Bool.or_eq_true, Bool.and_eq_false_iff, Bool.or_eq_false_iff] at hb1
   refine wly hfr (v_fieldAddr (v := .pointer (some ⟨w0.heap.size, 0, none⟩)) rfl (by kernel_rfl)) fun a hfr => ?_
   refine wly hfr (v_load_blk1 (hst.get (k := 0) rfl) rfl (Tryz.isAgg3 _) rfl) fun a hfr => ?_
   refine wly hfr (v_fieldAddr (v := .pointer (some ⟨w0.heap.size, 1, none⟩)) rfl (by kernel_rfl)) fun a hfr => ?_
   refine wly hfr (v_load_blk1 (hst.get (k := 0) rfl) rfl (Tryz.isAgg3 _) rfl) fun a hfr => ?_
   refine wly hfr (v_lt rfl rfl) fun a hfr => ?_
   refine wlv hfr (v_pick_t rfl rfl) fun a hfr => ?_
   refine hj _ ?_
   try rw [hb1b]
   exact hfr.pick [12, 0, 1, 2]
  rw [hb1] at hfr
  have hb1b := hb1
  try simp only [qz, Bool.and_eq_true, Bool.or_eq_true, Bool.and_eq_false_iff, Bool.or_eq_false_iff] at hb1
  refine wln hfr fun a hfr => ?_
  refine wln hfr fun a hfr => ?_
  refine wln hfr fun a hfr => ?_
  refine wln hfr fun a hfr => ?_
  refine wln hfr fun a hfr => ?_
  refine wlv hfr (v_pick_f rfl rfl) fun a hfr => ?_
  refine hj _ ?_
  try rw [hb1b]
  exact hfr.pick [12, 0, 1, 2]
 intro a hfr
 refine wlm hfr rfl fun a hfr => ?_
 refine wl_join (N := 18) (df := []) 4 [(17, .bool (((decide (0 ≤ b)) && (decide (b < d))) && (decide (d ≤ 10000001)))), (0, .agg #[.int .i64 b, .int .i64 d]), (1, .pointer (some ⟨w0.heap.size, 0, none⟩)), (2, .bool false)] ?_ (fun hj => ?_)
 rotate_left
 ·rcases Bool.eq_false_or_eq_true ((decide (0 ≤ b)) && (decide (b < d))) with hb2 | hb2
  ·rw [hb2] at hfr
   have hb2b := hb2
   try simp only [qz, Bool.and_eq_true, Bool.or_eq_true, Bool.and_eq_false_iff, Bool.or_eq_false_iff] at hb2
   refine wly hfr (v_fieldAddr (v := .pointer (some ⟨w0.heap.size, 1, none⟩)) rfl (by kernel_rfl)) fun a hfr => ?_
   refine wly hfr (v_load_blk1 (hst.get (k := 0) rfl) rfl (Tryz.isAgg3 _) rfl) fun a hfr => ?_
   refine wly hfr (v_le rfl rfl) fun a hfr => ?_
   refine wlv hfr (v_pick_t rfl rfl) fun a hfr => ?_
   refine hj _ ?_
   try rw [hb2b]
   exact hfr.pick [17, 0, 1, 2]
  rw [hb2] at hfr
  have hb2b := hb2
  try simp only [qz, Bool.and_eq_true, Bool.or_eq_true, Bool.and_eq_false_iff, Bool.or_eq_false_iff] at hb2
  refine wln hfr fun a hfr => ?_
  refine wln hfr fun a hfr => ?_
  refine wln hfr fun a hfr => ?_
  refine wlv hfr (v_pick_f rfl rfl) fun a hfr => ?_
  refine hj _ ?_
  try rw [hb2b]
  exact hfr.pick [17, 0, 1, 2]
 intro a hfr
 refine wla hfr rfl fun a hfr => ?_
 refine wl_nil (hK2 _ _ ?_)
 refine wc_ret ?_
 refine fin_ret hfr Tryz.results123 (resAre_tmp rfl resAre_nil) ?_
 exact ⟨by rfl, hst.ext⟩
set_option maxHeartbeats 4000000 in
/-- dialtone/dialtoneref15.wish -/
theorem rwish_ok (x : Wsh) (w0 : World) :
  Ret Tryz.prog 68 #[.agg #[.int .i64 x.signer, .int .i64 x.holder, .int .i64 x.rf, .int .i64 x.rt, .int .i64 x.carrier, .int .i64 x.serial, .int .i64 x.sf, .int .i64 x.st, sv x.sig]] w0 fun v w => v = .bool x.ok ∧ Ext No w0 w := by
 refine ret_of Tryz.func68 rfl Tryz.ntmps68 (Nat.le_of_ble_eq_true rfl) fun a hfr => ?_
 replace hfr : Fr 31 [(0, _)] [] a := hfr
 replace hst : St No w0 [] w0 := St.init w0
 refine wc_seq_region fun K1 hK1 => ?_
 refine wl_box hfr hst (by decide) rfl (cs := [.int .i64 x.signer, .int .i64 x.holder, .int .i64 x.rf, .int .i64 x.rt, .int .i64 x.carrier, .int .i64 x.serial, .int .i64 x.sf, .int .i64 x.st, sv x.sig]) rfl ?_
 clear hfr hst
 intro a w1 hfr hst
 refine wla hfr rfl fun a hfr => ?_
 refine wl_nil (hK1 _ _ ?_)
 refine wc_seq_region fun K2 hK2 => ?_
 refine wlv hfr (v_fieldAddr (v := .pointer (some ⟨w0.heap.size, 0, none⟩)) rfl (by kernel_rfl)) fun a hfr => ?_
 refine wlv hfr (v_load_blk1 (hst.get (k := 0) rfl) rfl (Tryz.isAgg3 _) rfl) fun a hfr => ?_
 refine wl_callp hfr hst (by decide) Tryz.call86 rfl (in_ok x.signer 0 63 _) ?_
 clear hfr hst
 intro a w2 hfr hst
 refine wlm hfr rfl fun a hfr => ?_
 rcases Bool.eq_false_or_eq_true (inB x.signer 0 63) with hb1 | hb1
 ·rw [hb1] at hfr
  try simp only [qz] at hb1
  refine wly hfr (v_fieldAddr (v := .pointer (some ⟨w0.heap.size, 1, none⟩)) rfl (by kernel_rfl)) fun a hfr => ?_
  refine wly hfr (v_load_blk1 (hst.get (k := 0) rfl) rfl (Tryz.isAgg3 _) rfl) fun a hfr => ?_
  refine wl_callpy hfr hst (by decide) rfl (by decide) rfl Tryz.call86 rfl (in_ok x.holder 0 63 _) ?_
  clear hfr hst
  intro a w3 hfr hst
  refine wlv hfr (v_pick_t rfl rfl) fun a hfr => ?_
  refine wlm hfr rfl fun a hfr => ?_
  rcases Bool.eq_false_or_eq_true (inB x.holder 0 63) with hb2 | hb2
  ·rw [hb2] at hfr
   try simp only [qz] at hb2
   refine wly hfr (v_fieldAddr (v := .pointer (some ⟨w0.heap.size, 2, none⟩)) rfl (by kernel_rfl)) fun a hfr => ?_
   refine wly hfr (v_load_blk (ds := [.int .i64 x.rf, .int .i64 x.rt]) (hst.get (k := 0) rfl) rfl (Tryz.isAgg27 _) (Tryz.sizeOf27 _) rfl) fun a hfr => ?_
   refine wl_callpy hfr hst (by decide) rfl (by decide) rfl Tryz.call122 rfl (rrange_ok x.rf x.rt _) ?_
   clear hfr hst
   intro a w4 hfr hst
   refine wlv hfr (v_pick_t rfl rfl) fun a hfr => ?_
   refine wlm hfr rfl fun a hfr => ?_
   rcases Bool.eq_false_or_eq_true (isRangeB x.rf x.rt) with hb3 | hb3
   ·rw [hb3] at hfr
    try simp only [qz] at hb3
    refine wly hfr (v_fieldAddr (v := .pointer (some ⟨w0.heap.size, 4, none⟩)) rfl (by kernel_rfl)) fun a hfr => ?_
    refine wly hfr (v_load_blk1 (hst.get (k := 0) rfl) rfl (Tryz.isAgg3 _) rfl) fun a hfr => ?_
    refine wl_callpy hfr hst (by decide) rfl (by decide) rfl Tryz.call86 rfl (in_ok x.carrier 0 7 _) ?_
    clear hfr hst
    intro a w5 hfr hst
    refine wlv hfr (v_pick_t rfl rfl) fun a hfr => ?_
    refine wlm hfr rfl fun a hfr => ?_
    rcases Bool.eq_false_or_eq_true (inB x.carrier 0 7) with hb4 | hb4
    ·rw [hb4] at hfr
     try simp only [qz] at hb4
     refine wly hfr (v_fieldAddr (v := .pointer (some ⟨w0.heap.size, 5, none⟩)) rfl (by kernel_rfl)) fun a hfr => ?_
     refine wly hfr (v_load_blk1 (hst.get (k := 0) rfl) rfl (Tryz.isAgg3 _) rfl) fun a hfr => ?_
     refine wl_callpy hfr hst (by decide) rfl (by decide) rfl Tryz.call86 rfl (in_ok x.serial 0 1000000 _) ?_
     clear hfr hst
     intro a w6 hfr hst
     refine wlv hfr (v_pick_t rfl rfl) fun a hfr => ?_
     refine wlm hfr rfl fun a hfr => ?_
     rcases Bool.eq_false_or_eq_true (inB x.serial 0 1000000) with hb5 | hb5
     ·rw [hb5] at hfr
      try simp only [qz] at hb5
      refine wly hfr (v_fieldAddr (v := .pointer (some ⟨w0.heap.size, 6, none⟩)) rfl (by kernel_rfl)) fun a hfr => ?_
      refine wly hfr (v_load_blk (ds := [.int .i64 x.sf, .int .i64 x.st]) (hst.get (k := 0) rfl) rfl (Tryz.isAgg28 _) (Tryz.sizeOf28 _) rfl) fun a hfr => ?_
      refine wl_callpy hfr hst (by decide) rfl (by decide) rfl Tryz.call123 rfl (rspell_ok x.sf x.st _) ?_
      clear hfr hst
      intro a w7 hfr hst
      refine wlv hfr (v_pick_t rfl rfl) fun a hfr => ?_
      refine wla hfr rfl fun a hfr => ?_
      refine wl_nil (hK2 _ _ ?_)
      replace hfr : Fr 31 [(2, _)] [] a := hfr.pick [2]
      replace hst : St No w0 [] w7 := hst.mask [false]
      refine wc_ret ?_
      refine fin_ret hfr Tryz.results68 (resAre_tmp rfl resAre_nil) ?_
      exact ⟨by simp only [retv]; unfold Wsh.ok; simp [hb1, hb2, hb3, hb4, hb5], hst.ext⟩
     rw [hb5] at hfr
     try simp only [qz] at hb5
     refine wln hfr fun a hfr => ?_
     refine wln hfr fun a hfr => ?_
     refine wln hfr fun a hfr => ?_
     refine wlv hfr (v_pick_f rfl rfl) fun a hfr => ?_
     refine wla hfr rfl fun a hfr => ?_
     refine wl_nil (hK2 _ _ ?_)
     replace hfr : Fr 31 [(2, _)] [] a := hfr.pick [2]
     replace hst : St No w0 [] w6 := hst.mask [false]
     refine wc_ret ?_
     refine fin_ret hfr Tryz.results68 (resAre_tmp rfl resAre_nil) ?_
     exact ⟨by simp only [retv]; unfold Wsh.ok; simp [hb1, hb2, hb3, hb4, hb5], hst.ext⟩
    rw [hb4] at hfr
    try simp only [qz] at hb4
    refine wln hfr fun a hfr => ?_
    refine wln hfr fun a hfr => ?_
    refine wln hfr fun a hfr => ?_
    refine wlv hfr (v_pick_f rfl rfl) fun a hfr => ?_
    refine wlm hfr rfl fun a hfr => ?_
    refine wln hfr fun a hfr => ?_
    refine wln hfr fun a hfr => ?_
    refine wln hfr fun a hfr => ?_
    refine wlv hfr (v_pick_f rfl rfl) fun a hfr => ?_
    refine wla hfr rfl fun a hfr => ?_
    refine wl_nil (hK2 _ _ ?_)
    replace hfr : Fr 31 [(2, _)] [] a := hfr.pick [2]
    replace hst : St No w0 [] w5 := hst.mask [false]
    refine wc_ret ?_
    refine fin_ret hfr Tryz.results68 (resAre_tmp rfl resAre_nil) ?_
    exact ⟨by simp only [retv]; unfold Wsh.ok; simp [hb1, hb2, hb3, hb4], hst.ext⟩
   rw [hb3] at hfr
   try simp only [qz] at hb3
   refine wln hfr fun a hfr => ?_
   refine wln hfr fun a hfr => ?_
   refine wln hfr fun a hfr => ?_
   refine wlv hfr (v_pick_f rfl rfl) fun a hfr => ?_
   refine wlm hfr rfl fun a hfr => ?_
   refine wln hfr fun a hfr => ?_
   refine wln hfr fun a hfr => ?_
   refine wln hfr fun a hfr => ?_
   refine wlv hfr (v_pick_f rfl rfl) fun a hfr => ?_
   refine wlm hfr rfl fun a hfr => ?_
   refine wln hfr fun a hfr => ?_
   refine wln hfr fun a hfr => ?_
   refine wln hfr fun a hfr => ?_
   refine wlv hfr (v_pick_f rfl rfl) fun a hfr => ?_
   refine wla hfr rfl fun a hfr => ?_
   refine wl_nil (hK2 _ _ ?_)
   replace hfr : Fr 31 [(2, _)] [] a := hfr.pick [2]
   replace hst : St No w0 [] w4 := hst.mask [false]
   refine wc_ret ?_
   refine fin_ret hfr Tryz.results68 (resAre_tmp rfl resAre_nil) ?_
   exact ⟨by simp only [retv]; unfold Wsh.ok; simp [hb1, hb2, hb3], hst.ext⟩
  rw [hb2] at hfr
  try simp only [qz] at hb2
  refine wln hfr fun a hfr => ?_
  refine wln hfr fun a hfr => ?_
  refine wln hfr fun a hfr => ?_
  refine wlv hfr (v_pick_f rfl rfl) fun a hfr => ?_
  refine wlm hfr rfl fun a hfr => ?_
  refine wln hfr fun a hfr => ?_
  refine wln hfr fun a hfr => ?_
  refine wln hfr fun a hfr => ?_
  refine wlv hfr (v_pick_f rfl rfl) fun a hfr => ?_
  refine wlm hfr rfl fun a hfr => ?_
  refine wln hfr fun a hfr => ?_
  refine wln hfr fun a hfr => ?_
  refine wln hfr fun a hfr => ?_
  refine wlv hfr (v_pick_f rfl rfl) fun a hfr => ?_
  refine wlm hfr rfl fun a hfr => ?_
  refine wln hfr fun a hfr => ?_
  refine wln hfr fun a hfr => ?_
  refine wln hfr fun a hfr => ?_
  refine wlv hfr (v_pick_f rfl rfl) fun a hfr => ?_
  refine wla hfr rfl fun a hfr => ?_
  refine wl_nil (hK2 _ _ ?_)
  replace hfr : Fr 31 [(2, _)] [] a := hfr.pick [2]
  replace hst : St No w0 [] w3 := hst.mask [false]
  refine wc_ret ?_
  refine fin_ret hfr Tryz.results68 (resAre_tmp rfl resAre_nil) ?_
  exact ⟨by simp only [retv]; unfold Wsh.ok; simp [hb1, hb2], hst.ext⟩
 rw [hb1] at hfr
 try simp only [qz] at hb1
 refine wln hfr fun a hfr => ?_
 refine wln hfr fun a hfr => ?_
 refine wln hfr fun a hfr => ?_
 refine wlv hfr (v_pick_f rfl rfl) fun a hfr => ?_
 refine wlm hfr rfl fun a hfr => ?_
 refine wln hfr fun a hfr => ?_
 refine wln hfr fun a hfr => ?_
 refine wln hfr fun a hfr => ?_
 refine wlv hfr (v_pick_f rfl rfl) fun a hfr => ?_
 refine wlm hfr rfl fun a hfr => ?_
 refine wln hfr fun a hfr => ?_
 refine wln hfr fun a hfr => ?_
 refine wln hfr fun a hfr => ?_
 refine wlv hfr (v_pick_f rfl rfl) fun a hfr => ?_
 refine wlm hfr rfl fun a hfr => ?_
 refine wln hfr fun a hfr => ?_
 refine wln hfr fun a hfr => ?_
 refine wln hfr fun a hfr => ?_
 refine wlv hfr (v_pick_f rfl rfl) fun a hfr => ?_
 refine wlm hfr rfl fun a hfr => ?_
 refine wln hfr fun a hfr => ?_
 refine wln hfr fun a hfr => ?_
 refine wln hfr fun a hfr => ?_
 refine wlv hfr (v_pick_f rfl rfl) fun a hfr => ?_
 refine wla hfr rfl fun a hfr => ?_
 refine wl_nil (hK2 _ _ ?_)
 replace hfr : Fr 31 [(2, _)] [] a := hfr.pick [2]
 replace hst : St No w0 [] w2 := hst.mask [false]
 refine wc_ret ?_
 refine fin_ret hfr Tryz.results68 (resAre_tmp rfl resAre_nil) ?_
 exact ⟨by simp only [retv]; unfold Wsh.ok; simp [hb1], hst.ext⟩
set_option maxHeartbeats 4000000 in
/-- dialtone/dialtoneref15.proxy -/
theorem rproxy_ok (x : Pxy) (w0 : World) :
  Ret Tryz.prog 69 #[.agg #[.int .i64 x.frm, .int .i64 x.to, .int .i64 x.rf, .int .i64 x.rt, .int .i64 x.sf, .int .i64 x.st, sv x.sig]] w0 fun v w => v = .bool x.ok ∧ Ext No w0 w := by
 refine ret_of Tryz.func69 rfl Tryz.ntmps69 (Nat.le_of_ble_eq_true rfl) fun a hfr => ?_
 replace hfr : Fr 28 [(0, _)] [] a := hfr
 replace hst : St No w0 [] w0 := St.init w0
 refine wc_seq_region fun K1 hK1 => ?_
 refine wl_box hfr hst (by decide) rfl (cs := [.int .i64 x.frm, .int .i64 x.to, .int .i64 x.rf, .int .i64 x.rt, .int .i64 x.sf, .int .i64 x.st, sv x.sig]) rfl ?_
 clear hfr hst
 intro a w1 hfr hst
 refine wla hfr rfl fun a hfr => ?_
 refine wl_nil (hK1 _ _ ?_)
 refine wc_seq_region fun K2 hK2 => ?_
 refine wlv hfr (v_fieldAddr (v := .pointer (some ⟨w0.heap.size, 0, none⟩)) rfl (by kernel_rfl)) fun a hfr => ?_
 refine wlv hfr (v_load_blk1 (hst.get (k := 0) rfl) rfl (Tryz.isAgg3 _) rfl) fun a hfr => ?_
 refine wl_callp hfr hst (by decide) Tryz.call86 rfl (in_ok x.frm 0 63 _) ?_
 clear hfr hst
 intro a w2 hfr hst
 refine wlm hfr rfl fun a hfr => ?_
 rcases Bool.eq_false_or_eq_true (inB x.frm 0 63) with hb1 | hb1
 ·rw [hb1] at hfr
  try simp only [qz] at hb1
  refine wly hfr (v_fieldAddr (v := .pointer (some ⟨w0.heap.size, 1, none⟩)) rfl (by kernel_rfl)) fun a hfr => ?_
  refine wly hfr (v_load_blk1 (hst.get (k := 0) rfl) rfl (Tryz.isAgg3 _) rfl) fun a hfr => ?_
  refine wl_callpy hfr hst (by decide) rfl (by decide) rfl Tryz.call86 rfl (in_ok x.to 0 63 _) ?_
  clear hfr hst
  intro a w3 hfr hst
  refine wlv hfr (v_pick_t rfl rfl) fun a hfr => ?_
  refine wlm hfr rfl fun a hfr => ?_
  rcases Bool.eq_false_or_eq_true (inB x.to 0 63) with hb2 | hb2
  ·rw [hb2] at hfr
   try simp only [qz] at hb2
   refine wly hfr (v_fieldAddr (v := .pointer (some ⟨w0.heap.size, 0, none⟩)) rfl (by kernel_rfl)) fun a hfr => ?_
   refine wly hfr (v_load_blk1 (hst.get (k := 0) rfl) rfl (Tryz.isAgg3 _) rfl) fun a hfr => ?_
   refine wly hfr (v_fieldAddr (v := .pointer (some ⟨w0.heap.size, 1, none⟩)) rfl (by kernel_rfl)) fun a hfr => ?_
   refine wly hfr (v_load_blk1 (hst.get (k := 0) rfl) rfl (Tryz.isAgg3 _) rfl) fun a hfr => ?_
   refine wly hfr (v_ne rfl rfl) fun a hfr => ?_
   refine wlv hfr (v_pick_t rfl rfl) fun a hfr => ?_
   refine wlm hfr rfl fun a hfr => ?_
   rcases Bool.eq_false_or_eq_true (!decide (x.frm = x.to)) with hb3 | hb3
   ·rw [hb3] at hfr
    try simp only [qz] at hb3
    refine wly hfr (v_fieldAddr (v := .pointer (some ⟨w0.heap.size, 2, none⟩)) rfl (by kernel_rfl)) fun a hfr => ?_
    refine wly hfr (v_load_blk (ds := [.int .i64 x.rf, .int .i64 x.rt]) (hst.get (k := 0) rfl) rfl (Tryz.isAgg27 _) (Tryz.sizeOf27 _) rfl) fun a hfr => ?_
    refine wl_callpy hfr hst (by decide) rfl (by decide) rfl Tryz.call122 rfl (rrange_ok x.rf x.rt _) ?_
    clear hfr hst
    intro a w4 hfr hst
    refine wlv hfr (v_pick_t rfl rfl) fun a hfr => ?_
    refine wlm hfr rfl fun a hfr => ?_
    rcases Bool.eq_false_or_eq_true (isRangeB x.rf x.rt) with hb4 | hb4
    ·rw [hb4] at hfr
     try simp only [qz] at hb4
     refine wly hfr (v_fieldAddr (v := .pointer (some ⟨w0.heap.size, 4, none⟩)) rfl (by kernel_rfl)) fun a hfr => ?_
     refine wly hfr (v_load_blk (ds := [.int .i64 x.sf, .int .i64 x.st]) (hst.get (k := 0) rfl) rfl (Tryz.isAgg28 _) (Tryz.sizeOf28 _) rfl) fun a hfr => ?_
     refine wl_callpy hfr hst (by decide) rfl (by decide) rfl Tryz.call123 rfl (rspell_ok x.sf x.st _) ?_
     clear hfr hst
     intro a w5 hfr hst
     refine wlv hfr (v_pick_t rfl rfl) fun a hfr => ?_
     refine wla hfr rfl fun a hfr => ?_
     refine wl_nil (hK2 _ _ ?_)
     replace hfr : Fr 28 [(2, _)] [] a := hfr.pick [2]
     replace hst : St No w0 [] w5 := hst.mask [false]
     refine wc_ret ?_
     refine fin_ret hfr Tryz.results69 (resAre_tmp rfl resAre_nil) ?_
     exact ⟨by simp only [retv]; unfold Pxy.ok; simp [hb1, hb2, hb3, hb4], hst.ext⟩
    rw [hb4] at hfr
    try simp only [qz] at hb4
    refine wln hfr fun a hfr => ?_
    refine wln hfr fun a hfr => ?_
    refine wln hfr fun a hfr => ?_
    refine wlv hfr (v_pick_f rfl rfl) fun a hfr => ?_
    refine wla hfr rfl fun a hfr => ?_
    refine wl_nil (hK2 _ _ ?_)
    replace hfr : Fr 28 [(2, _)] [] a := hfr.pick [2]
    replace hst : St No w0 [] w4 := hst.mask [false]
    refine wc_ret ?_
    refine fin_ret hfr Tryz.results69 (resAre_tmp rfl resAre_nil) ?_
    exact ⟨by simp only [retv]; unfold Pxy.ok; simp [hb1, hb2, hb3, hb4], hst.ext⟩
   rw [hb3] at hfr
   try simp only [qz] at hb3
   refine wln hfr fun a hfr => ?_
   refine wln hfr fun a hfr => ?_
   refine wln hfr fun a hfr => ?_
   refine wlv hfr (v_pick_f rfl rfl) fun a hfr => ?_
   refine wlm hfr rfl fun a hfr => ?_
   refine wln hfr fun a hfr => ?_
   refine wln hfr fun a hfr => ?_
   refine wln hfr fun a hfr => ?_
   refine wlv hfr (v_pick_f rfl rfl) fun a hfr => ?_
   refine wla hfr rfl fun a hfr => ?_
   refine wl_nil (hK2 _ _ ?_)
   replace hfr : Fr 28 [(2, _)] [] a := hfr.pick [2]
   replace hst : St No w0 [] w3 := hst.mask [false]
   refine wc_ret ?_
   refine fin_ret hfr Tryz.results69 (resAre_tmp rfl resAre_nil) ?_
   exact ⟨by simp only [retv]; unfold Pxy.ok; simp [hb1, hb2, hb3], hst.ext⟩
  rw [hb2] at hfr
  try simp only [qz] at hb2
  refine wln hfr fun a hfr => ?_
  refine wln hfr fun a hfr => ?_
  refine wln hfr fun a hfr => ?_
  refine wln hfr fun a hfr => ?_
  refine wln hfr fun a hfr => ?_
  refine wlv hfr (v_pick_f rfl rfl) fun a hfr => ?_
  refine wlm hfr rfl fun a hfr => ?_
  refine wln hfr fun a hfr => ?_
  refine wln hfr fun a hfr => ?_
  refine wln hfr fun a hfr => ?_
  refine wlv hfr (v_pick_f rfl rfl) fun a hfr => ?_
  refine wlm hfr rfl fun a hfr => ?_
  refine wln hfr fun a hfr => ?_
  refine wln hfr fun a hfr => ?_
  refine wln hfr fun a hfr => ?_
  refine wlv hfr (v_pick_f rfl rfl) fun a hfr => ?_
  refine wla hfr rfl fun a hfr => ?_
  refine wl_nil (hK2 _ _ ?_)
  replace hfr : Fr 28 [(2, _)] [] a := hfr.pick [2]
  replace hst : St No w0 [] w3 := hst.mask [false]
  refine wc_ret ?_
  refine fin_ret hfr Tryz.results69 (resAre_tmp rfl resAre_nil) ?_
  exact ⟨by simp only [retv]; unfold Pxy.ok; simp [hb1, hb2], hst.ext⟩
 rw [hb1] at hfr
 try simp only [qz] at hb1
 refine wln hfr fun a hfr => ?_
 refine wln hfr fun a hfr => ?_
 refine wln hfr fun a hfr => ?_
 refine wlv hfr (v_pick_f rfl rfl) fun a hfr => ?_
 refine wlm hfr rfl fun a hfr => ?_
 refine wln hfr fun a hfr => ?_
 refine wln hfr fun a hfr => ?_
 refine wln hfr fun a hfr => ?_
 refine wln hfr fun a hfr => ?_
 refine wln hfr fun a hfr => ?_
 refine wlv hfr (v_pick_f rfl rfl) fun a hfr => ?_
 refine wlm hfr rfl fun a hfr => ?_
 refine wln hfr fun a hfr => ?_
 refine wln hfr fun a hfr => ?_
 refine wln hfr fun a hfr => ?_
 refine wlv hfr (v_pick_f rfl rfl) fun a hfr => ?_
 refine wlm hfr rfl fun a hfr => ?_
 refine wln hfr fun a hfr => ?_
 refine wln hfr fun a hfr => ?_
 refine wln hfr fun a hfr => ?_
 refine wlv hfr (v_pick_f rfl rfl) fun a hfr => ?_
 refine wla hfr rfl fun a hfr => ?_
 refine wl_nil (hK2 _ _ ?_)
 replace hfr : Fr 28 [(2, _)] [] a := hfr.pick [2]
 replace hst : St No w0 [] w2 := hst.mask [false]
 refine wc_ret ?_
 refine fin_ret hfr Tryz.results69 (resAre_tmp rfl resAre_nil) ?_
 exact ⟨by simp only [retv]; unfold Pxy.ok; simp [hb1], hst.ext⟩
/-- dialtone/dialtoneref15.puts -/
theorem rputs_ok (ns : List Int) (lv : Value) (w0 : World) (hlv : SlAt w0 lv 1 ((ns).map fun n => [Value.int .i64 n])) (hns : smalls ns) (hnl : ns.length ≤ 1000) :
  Ret Tryz.prog 80 #[lv] w0 fun v w => v = sv (puts ns) ∧ Ext No w0 w := by
 refine ret_of Tryz.func80 rfl Tryz.ntmps80 (Nat.le_of_ble_eq_true rfl) fun a hfr => ?_
 replace hfr : Fr 25 [(0, _)] [] a := hfr
 replace hst : St No w0 [] w0 := St.init w0
 refine wc_seq_region fun K1 hK1 => ?_
 refine wla hfr rfl fun a hfr => ?_
 refine wl_nil (hK1 _ _ ?_)
 refine wc_seq_region fun K2 hK2 => ?_
 refine wla hfr rfl fun a hfr => ?_
 refine wl_nil (hK2 _ _ ?_)
 refine wc_seq_k fun K3 hK3 => ?_
 refine wc_seq_region fun K4 hK4 => ?_
 refine wla hfr rfl fun a hfr => ?_
 refine wl_nil (hK4 _ _ ?_)
 refine wc_block ?_
 have hp0 : ([] : By) = puts (ns.take 0) := rfl
 rw [hp0] at hfr
 refine wc_loop (fun m a w => ∃ (k : Nat), m = ns.length - k ∧ (k ≤ ns.length) ∧ Fr 25 [(0, lv), (2, sv (puts (ns.take 0))), (4, .int .i64 (k : Int)), (3, sv (puts (ns.take k)))] [] a ∧ St No w0 [] w) _ ⟨0, rfl, Nat.zero_le _, hfr.pick [0, 2, 4, 3], hst.select [] (by decide)⟩ ?_
 rintro _ a w1 ⟨k, rfl, hk, hfr, hst⟩
 refine wc_seq_k fun K5 hK5 => ?_
 refine wc_seq_region fun K6 hK6 => ?_
 refine wlm hfr rfl fun a hfr => ?_
 refine wlm hfr rfl fun a hfr => ?_
 refine wlv hfr ((v_len_sl (sT := 88) (hst.arg hlv) rfl rfl (Tryz.runUnderlying88 _)).asi (m' := (ns.length : Int)) (by rw [List.length_map])) fun a hfr => ?_
 refine wlv hfr (v_lt rfl rfl) fun a hfr => ?_
 refine wl_nil (hK6 _ _ ?_)
 refine wc_cond hfr rfl (fun hc1 => ?_) (fun hc1 => ?_)
 ·rw [hc1] at hfr
  try simp only [qz] at hc1
  refine wc_skip ?_
  refine hK5 _ _ ?_
  refine wc_seq_k fun K7 hK7 => ?_
  refine wc_block ?_
  refine wc_seq_region fun K8 hK8 => ?_
  refine wlm hfr rfl fun a hfr => ?_
  refine wlm hfr rfl fun a hfr => ?_
  refine wlv hfr ((v_indexAddr_sl (i := (k : Int)) (sT := 88) (hst.arg hlv) rfl rfl (Tryz.runUnderlying88 _) (Tryz.sizeOf3 _) (by omega) (by rw [List.length_map]; omega)).as (v' := slAddr lv (k * 1)) rfl) fun a hfr => ?_
  refine wlv hfr (v_load_sl1 (u := .int .i64 (ns.getD k 0)) (i := k) (j := 0) (hst.arg hlv) (by rw [List.length_map]; omega) rfl (Tryz.isAgg3 _) (by rw [el_at (0 : Int)]; rfl)) fun a hfr => ?_
  refine wl_callp hfr hst (by decide) Tryz.call127 rfl (rputInt_ok (ns.getD k 0) _ (hns _ (getD_mem (by omega)))) ?_
  clear hfr hst
  intro a w2 hfr hst
  refine wlm hfr rfl fun a hfr => ?_
  refine wlv hfr (v_extract rfl rfl) fun a hfr => ?_
  refine wlv hfr (v_extract rfl rfl) fun a hfr => ?_
  refine wla hfr rfl fun a hfr => ?_
  refine wla hfr rfl fun a hfr => ?_
  refine wl_nil (hK8 _ _ ?_)
  replace hfr : Fr 25 [(0, _), (2, _), (4, _), (3, _), (5, _)] [] a := hfr.pick [0, 2, 4, 3, 5]
  refine wc_region ?_
  refine wlm hfr rfl fun a hfr => ?_
  refine wlm hfr rfl fun a hfr => ?_
  refine wlv hfr (v_sadd rfl rfl (by have h1 := puts_len (ns.take k); have h2 := (putI_len (ns.getD k 0)).2; rw [List.length_take] at h1; omega)) fun a hfr => ?_
  refine wla hfr rfl fun a hfr => ?_
  refine wl_nil ?_
  refine hK7 _ _ ?_
  refine wc_region ?_
  refine wlm hfr rfl fun a hfr => ?_
  refine wlv hfr (v_add rfl rfl ⟨by omega, by omega⟩) fun a hfr => ?_
  refine wla hfr rfl fun a hfr => ?_
  refine wl_nil ?_
  rw [show puts (ns.take k) ++ putI (ns.getD k 0) = puts (ns.take (k + 1)) from by rw [take_snoc 0 (by omega), puts_snoc]] at hfr
  refine ⟨_, ?_, k + 1, rfl, (by omega), hfr.pick [0, 2, 4, 3], hst.select [] (by decide)⟩
  omega
 rw [hc1] at hfr
 try simp only [qz] at hc1
 obtain rfl : k = ns.length := by omega
 rw [List.take_length] at hfr
 refine wc_exit ?_
 refine hK3 _ _ ?_
 refine wc_seq_region fun K9 hK9 => ?_
 refine wlm hfr rfl fun a hfr => ?_
 refine wla hfr rfl fun a hfr => ?_
 refine wl_nil (hK9 _ _ ?_)
 replace hfr : Fr 25 [(2, _)] [] a := hfr.pick [2]
 refine wc_ret ?_
 refine fin_ret hfr Tryz.results80 (resAre_tmp rfl resAre_nil) ?_
 exact ⟨rfl, hst.ext⟩
/-- dialtone/dialtoneref15.WishContent -/
theorem rwcontent_ok (x : Wsh) (w0 : World) (hx : smalls x.nums) :
  Ret Tryz.prog 37 #[.agg #[.int .i64 x.signer, .int .i64 x.holder, .int .i64 x.rf, .int .i64 x.rt, .int .i64 x.carrier, .int .i64 x.serial, .int .i64 x.sf, .int .i64 x.st, sv x.sig]] w0 fun v w => v = sv x.content ∧ Ext No w0 w := by
 refine ret_of Tryz.func37 rfl Tryz.ntmps37 (Nat.le_of_ble_eq_true rfl) fun a hfr => ?_
 replace hfr : Fr 25 [(0, _)] [] a := hfr
 replace hst : St No w0 [] w0 := St.init w0
 refine wc_seq_region fun K1 hK1 => ?_
 refine wl_box hfr hst (by decide) rfl (cs := [.int .i64 x.signer, .int .i64 x.holder, .int .i64 x.rf, .int .i64 x.rt, .int .i64 x.carrier, .int .i64 x.serial, .int .i64 x.sf, .int .i64 x.st, sv x.sig]) rfl ?_
 clear hfr hst
 intro a w1 hfr hst
 refine wla hfr rfl fun a hfr => ?_
 refine wl_nil (hK1 _ _ ?_)
 refine wc_seq_region fun K2 hK2 => ?_
 refine wlv hfr (v_fieldAddr (v := .pointer (some ⟨w0.heap.size, 0, none⟩)) rfl (by kernel_rfl)) fun a hfr => ?_
 refine wlv hfr (v_load_blk1 (hst.get (k := 0) rfl) rfl (Tryz.isAgg3 _) rfl) fun a hfr => ?_
 refine wlv hfr (v_fieldAddr (v := .pointer (some ⟨w0.heap.size, 1, none⟩)) rfl (by kernel_rfl)) fun a hfr => ?_
 refine wlv hfr (v_load_blk1 (hst.get (k := 0) rfl) rfl (Tryz.isAgg3 _) rfl) fun a hfr => ?_
 refine wlv hfr (v_fieldAddr (v := .pointer (some ⟨w0.heap.size, 2, none⟩)) rfl (by kernel_rfl)) fun a hfr => ?_
 refine wlv hfr (v_fieldAddr (v := .pointer (some ⟨w0.heap.size, 2, none⟩)) rfl (by kernel_rfl)) fun a hfr => ?_
 refine wlv hfr (v_load_blk1 (hst.get (k := 0) rfl) rfl (Tryz.isAgg3 _) rfl) fun a hfr => ?_
 refine wlv hfr (v_fieldAddr (v := .pointer (some ⟨w0.heap.size, 2, none⟩)) rfl (by kernel_rfl)) fun a hfr => ?_
 refine wlv hfr (v_fieldAddr (v := .pointer (some ⟨w0.heap.size, 3, none⟩)) rfl (by kernel_rfl)) fun a hfr => ?_
 refine wlv hfr (v_load_blk1 (hst.get (k := 0) rfl) rfl (Tryz.isAgg3 _) rfl) fun a hfr => ?_
 refine wlv hfr (v_fieldAddr (v := .pointer (some ⟨w0.heap.size, 4, none⟩)) rfl (by kernel_rfl)) fun a hfr => ?_
 refine wlv hfr (v_load_blk1 (hst.get (k := 0) rfl) rfl (Tryz.isAgg3 _) rfl) fun a hfr => ?_
 refine wlv hfr (v_fieldAddr (v := .pointer (some ⟨w0.heap.size, 5, none⟩)) rfl (by kernel_rfl)) fun a hfr => ?_
 refine wlv hfr (v_load_blk1 (hst.get (k := 0) rfl) rfl (Tryz.isAgg3 _) rfl) fun a hfr => ?_
 refine wlv hfr (v_fieldAddr (v := .pointer (some ⟨w0.heap.size, 6, none⟩)) rfl (by kernel_rfl)) fun a hfr => ?_
 refine wlv hfr (v_fieldAddr (v := .pointer (some ⟨w0.heap.size, 6, none⟩)) rfl (by kernel_rfl)) fun a hfr => ?_
 refine wlv hfr (v_load_blk1 (hst.get (k := 0) rfl) rfl (Tryz.isAgg3 _) rfl) fun a hfr => ?_
 refine wlv hfr (v_fieldAddr (v := .pointer (some ⟨w0.heap.size, 6, none⟩)) rfl (by kernel_rfl)) fun a hfr => ?_
 refine wlv hfr (v_fieldAddr (v := .pointer (some ⟨w0.heap.size, 7, none⟩)) rfl (by kernel_rfl)) fun a hfr => ?_
 refine wlv hfr (v_load_blk1 (hst.get (k := 0) rfl) rfl (Tryz.isAgg3 _) rfl) fun a hfr => ?_
 refine wl_buildSlice (E := 3) (sz := 1) rfl [[.int .i64 1], [.int .i64 x.signer], [.int .i64 x.holder], [.int .i64 x.rf], [.int .i64 x.rt], [.int .i64 x.carrier], [.int .i64 x.serial], [.int .i64 x.sf], [.int .i64 x.st]] (by kernel_rfl) (by simp) rfl (by decide) (by decide) hfr hst ?_
 clear hfr hst
 intro a w2 hfr hst
 refine wl_callp hfr hst (by decide) Tryz.call80 rfl (rputs_ok [1, x.signer, x.holder, x.rf, x.rt, x.carrier, x.serial, x.sf, x.st] (.slice (some ⟨w1.heap.size, 0, none⟩) 9 9) _ (hst.ownAt (i := 0) rfl) (hx) (by simp)) ?_
 clear hfr hst
 intro a w3 hfr hst
 refine wla hfr rfl fun a hfr => ?_
 refine wl_nil (hK2 _ _ ?_)
 replace hfr : Fr 25 [(2, _)] [] a := hfr.pick [2]
 replace hst : St No w0 [] w3 := hst.mask [false, false]
 refine wc_ret ?_
 refine fin_ret hfr Tryz.results37 (resAre_tmp rfl resAre_nil) ?_
 exact ⟨by rfl, hst.ext⟩
/-- dialtone/dialtoneref15.ProxyContent -/
theorem rpcontent_ok (x : Pxy) (w0 : World) (hx : smalls x.nums) :
  Ret Tryz.prog 38 #[.agg #[.int .i64 x.frm, .int .i64 x.to, .int .i64 x.rf, .int .i64 x.rt, .int .i64 x.sf, .int .i64 x.st, sv x.sig]] w0 fun v w => v = sv x.content ∧ Ext No w0 w := by
 refine ret_of Tryz.func38 rfl Tryz.ntmps38 (Nat.le_of_ble_eq_true rfl) fun a hfr => ?_
 replace hfr : Fr 21 [(0, _)] [] a := hfr
 replace hst : St No w0 [] w0 := St.init w0
 refine wc_seq_region fun K1 hK1 => ?_
 refine wl_box hfr hst (by decide) rfl (cs := [.int .i64 x.frm, .int .i64 x.to, .int .i64 x.rf, .int .i64 x.rt, .int .i64 x.sf, .int .i64 x.st, sv x.sig]) rfl ?_
 clear hfr hst
 intro a w1 hfr hst
 refine wla hfr rfl fun a hfr => ?_
 refine wl_nil (hK1 _ _ ?_)
 refine wc_seq_region fun K2 hK2 => ?_
 refine wlv hfr (v_fieldAddr (v := .pointer (some ⟨w0.heap.size, 0, none⟩)) rfl (by kernel_rfl)) fun a hfr => ?_
 refine wlv hfr (v_load_blk1 (hst.get (k := 0) rfl) rfl (Tryz.isAgg3 _) rfl) fun a hfr => ?_
 refine wlv hfr (v_fieldAddr (v := .pointer (some ⟨w0.heap.size, 1, none⟩)) rfl (by kernel_rfl)) fun a hfr => ?_
 refine wlv hfr (v_load_blk1 (hst.get (k := 0) rfl) rfl (Tryz.isAgg3 _) rfl) fun a hfr => ?_
 refine wlv hfr (v_fieldAddr (v := .pointer (some ⟨w0.heap.size, 2, none⟩)) rfl (by kernel_rfl)) fun a hfr => ?_
 refine wlv hfr (v_fieldAddr (v := .pointer (some ⟨w0.heap.size, 2, none⟩)) rfl (by kernel_rfl)) fun a hfr => ?_
 refine wlv hfr (v_load_blk1 (hst.get (k := 0) rfl) rfl (Tryz.isAgg3 _) rfl) fun a hfr => ?_
 refine wlv hfr (v_fieldAddr (v := .pointer (some ⟨w0.heap.size, 2, none⟩)) rfl (by kernel_rfl)) fun a hfr => ?_
 refine wlv hfr (v_fieldAddr (v := .pointer (some ⟨w0.heap.size, 3, none⟩)) rfl (by kernel_rfl)) fun a hfr => ?_
 refine wlv hfr (v_load_blk1 (hst.get (k := 0) rfl) rfl (Tryz.isAgg3 _) rfl) fun a hfr => ?_
 refine wlv hfr (v_fieldAddr (v := .pointer (some ⟨w0.heap.size, 4, none⟩)) rfl (by kernel_rfl)) fun a hfr => ?_
 refine wlv hfr (v_fieldAddr (v := .pointer (some ⟨w0.heap.size, 4, none⟩)) rfl (by kernel_rfl)) fun a hfr => ?_
 refine wlv hfr (v_load_blk1 (hst.get (k := 0) rfl) rfl (Tryz.isAgg3 _) rfl) fun a hfr => ?_
 refine wlv hfr (v_fieldAddr (v := .pointer (some ⟨w0.heap.size, 4, none⟩)) rfl (by kernel_rfl)) fun a hfr => ?_
 refine wlv hfr (v_fieldAddr (v := .pointer (some ⟨w0.heap.size, 5, none⟩)) rfl (by kernel_rfl)) fun a hfr => ?_
 refine wlv hfr (v_load_blk1 (hst.get (k := 0) rfl) rfl (Tryz.isAgg3 _) rfl) fun a hfr => ?_
 refine wl_buildSlice (E := 3) (sz := 1) rfl [[.int .i64 2], [.int .i64 x.frm], [.int .i64 x.to], [.int .i64 x.rf], [.int .i64 x.rt], [.int .i64 x.sf], [.int .i64 x.st]] (by kernel_rfl) (by simp) rfl (by decide) (by decide) hfr hst ?_
 clear hfr hst
 intro a w2 hfr hst
 refine wl_callp hfr hst (by decide) Tryz.call80 rfl (rputs_ok [2, x.frm, x.to, x.rf, x.rt, x.sf, x.st] (.slice (some ⟨w1.heap.size, 0, none⟩) 7 7) _ (hst.ownAt (i := 0) rfl) (hx) (by simp)) ?_
 clear hfr hst
 intro a w3 hfr hst
 refine wla hfr rfl fun a hfr => ?_
 refine wl_nil (hK2 _ _ ?_)
 replace hfr : Fr 21 [(2, _)] [] a := hfr.pick [2]
 replace hst : St No w0 [] w3 := hst.mask [false, false]
 refine wc_ret ?_
 refine fin_ret hfr Tryz.results38 (resAre_tmp rfl resAre_nil) ?_
 exact ⟨by rfl, hst.ext⟩
/-- dialtone/dialtoneref15.Seal -/
theorem rseal_ok (key s : By) (w0 : World) (hk : key.length ≤ 40000000) (hs : s.length ≤ 40000000) :
  Ret Tryz.prog 71 #[sv key, sv s] w0 fun v w => v = sv (sealH key s) ∧ Ext No w0 w := by
 refine ret_of Tryz.func71 rfl Tryz.ntmps71 (Nat.le_of_ble_eq_true rfl) fun a hfr => ?_
 replace hfr : Fr 9 [(0, _), (1, _)] [] a := hfr
 replace hst : St No w0 [] w0 := St.init w0
 refine wc_seq_region fun K1 hK1 => ?_
 refine wla hfr rfl fun a hfr => ?_
 refine wl_nil (hK1 _ _ ?_)
 refine wc_seq_region fun K2 hK2 => ?_
 refine wlm hfr rfl fun a hfr => ?_
 refine wlm hfr rfl fun a hfr => ?_
 refine wl_callp hfr hst (by decide) Tryz.call92 rfl (rleaf_ok s _ (by omega)) ?_
 clear hfr hst
 intro a w1 hfr hst
 refine wl_callp hfr hst (by decide) Tryz.call124 rfl (rnode_ok key (leafH sha s) _ (by omega) (by rw [leaf_len sha_len]; decide)) ?_
 clear hfr hst
 intro a w2 hfr hst
 refine wla hfr rfl fun a hfr => ?_
 refine wl_nil (hK2 _ _ ?_)
 replace hfr : Fr 9 [(4, _)] [] a := hfr.pick [4]
 refine wc_ret ?_
 refine fin_ret hfr Tryz.results71 (resAre_tmp rfl resAre_nil) ?_
 exact ⟨by rfl, hst.ext⟩
end Go.Proofs.YtmmfieceinmloaaGreatDoor
namespace Go.Proofs.YtmmfieceinmloaaGreatDoor
open Go.RowKit Go.PW
set_option linter.unusedVariables false
set_option linter.unusedSimpArgs false
set_option maxRecDepth 4000
theorem v_conv_iy2 {P : Program} {w : World} {L : List (Nat × Value)} {dst : Option Tmp} {T T' ty : TypeId} {pos : String} {af : Array Edge} {gd : Option (Nat × Bool)} {x : Operand} {n : Int} (hx : ev L x = some (.int .i64 n)) (hs : (P.underlying T).isSome = true) (hd : P.underlying T' = some (.int .u8)) : OpV P ⟨dst, .convert T T' x, ty, pos, af, gd⟩ L w (yv (UInt8.ofNat (n % 256).toNat)) :=
 (v_iconv hx hs hd).as (by
  have h1 : 0 ≤ n % 256 := Int.emod_nonneg _ (by decide)
  have h2 : n % 256 < 256 := Int.emod_lt_of_pos _ (by decide)
  have e : ((UInt8.ofNat (n % 256).toNat).toNat : Int) = n % 256 := by rw [ofNat_lt (by omega)]; omega
  unfold yv
  rw [e]
  simp [IntKind.wrap, IntKind.signed, IntKind.bits])
def kfill (b : UInt8) (k : Nat) : By := List.replicate k b ++ List.replicate (32 - k) 0
theorem kfill_set {b : UInt8} {k : Nat} (h : k < 32) : (kfill b k).set k b = kfill b (k + 1) := by
 unfold kfill
 rw [List.set_append_right _ _ (by simp), List.length_replicate, Nat.sub_self, show 32 - k = (32 - (k + 1)) + 1 from by omega, List.replicate_succ, List.set_cons_zero, List.replicate_succ']
 simp
theorem kfill_len {b : UInt8} {k : Nat} (h : k ≤ 32) : (kfill b k).length = 32 := by simp [kfill]; omega
theorem kfill_all (b : UInt8) : kfill b 32 = List.replicate 32 b := by simp [kfill]
/-- dialtone/dialtoneref15.pick -/
theorem pick15_ok (n m : Int) (w0 : World) (hn : -9223372036854775808 ≤ n ∧ n ≤ 9223372036854775807) (hm : 0 < m ∧ m ≤ 9223372036854775807) :
  Ret Tryz.prog 53 #[.int .i64 n, .int .i64 m] w0 fun v w => v = .int .i64 (pickI n m) ∧ Ext No w0 w := by
 refine ret_of Tryz.func53 rfl Tryz.ntmps53 (Nat.le_of_ble_eq_true rfl) fun a hfr => ?_
 replace hfr : Fr 13 [(0, _), (1, _)] [] a := hfr
 replace hst : St No w0 [] w0 := St.init w0
 refine wc_seq_region fun K1 hK1 => ?_
 refine wla hfr rfl fun a hfr => ?_
 refine wl_nil (hK1 _ _ ?_)
 refine wc_seq_k fun K2 hK2 => ?_
 refine wc_seq_region fun K3 hK3 => ?_
 refine wlm hfr rfl fun a hfr => ?_
 refine wlv hfr (v_lt rfl rfl) fun a hfr => ?_
 refine wl_nil (hK3 _ _ ?_)
 refine wc_cond hfr rfl (fun hc1 => ?_) (fun hc1 => ?_)
 ·rw [hc1] at hfr
  try simp only [qz] at hc1
  refine wc_region ?_
  refine wlm hfr rfl fun a hfr => ?_
  refine wlv hfr (v_add rfl rfl ⟨by omega, by omega⟩) fun a hfr => ?_
  refine wlv hfr (v_neg rfl (by omega) (by omega)) fun a hfr => ?_
  refine wla hfr rfl fun a hfr => ?_
  refine wl_nil ?_
  refine hK2 _ _ ?_
  refine wc_seq_region fun K4 hK4 => ?_
  refine wlm hfr rfl fun a hfr => ?_
  refine wlm hfr rfl fun a hfr => ?_
  refine wlv hfr (v_rem rfl rfl (by omega) (by omega)) fun a hfr => ?_
  refine wla hfr rfl fun a hfr => ?_
  refine wl_nil (hK4 _ _ ?_)
  replace hfr : Fr 13 [(4, _)] [] a := hfr.pick [4]
  refine wc_ret ?_
  refine fin_ret hfr Tryz.results53 (resAre_tmp rfl resAre_nil) ?_
  exact ⟨by simp only [retv, pickI]; simp [hc1], hst.ext⟩
 rw [hc1] at hfr
 try simp only [qz] at hc1
 refine wc_skip ?_
 refine hK2 _ _ ?_
 refine wc_seq_region fun K5 hK5 => ?_
 refine wlm hfr rfl fun a hfr => ?_
 refine wlm hfr rfl fun a hfr => ?_
 refine wlv hfr (v_rem rfl rfl (by omega) (by omega)) fun a hfr => ?_
 refine wla hfr rfl fun a hfr => ?_
 refine wl_nil (hK5 _ _ ?_)
 replace hfr : Fr 13 [(4, _)] [] a := hfr.pick [4]
 refine wc_ret ?_
 refine fin_ret hfr Tryz.results53 (resAre_tmp rfl resAre_nil) ?_
 exact ⟨by simp only [retv, pickI]; simp [hc1], hst.ext⟩
/-- dialtone/dialtoneref15.Key -/
theorem key_ok (h : Int) (w0 : World) :
  Ret Tryz.prog 21 #[.int .i64 h] w0 fun v w => v = sv (keyH h) ∧ Ext No w0 w := by
 refine ret_of Tryz.func21 rfl Tryz.ntmps21 (Nat.le_of_ble_eq_true rfl) fun a hfr => ?_
 replace hfr : Fr 19 [(0, _)] [] a := hfr
 replace hst : St No w0 [] w0 := St.init w0
 refine wc_seq_region fun K1 hK1 => ?_
 refine wla hfr rfl fun a hfr => ?_
 refine wl_nil (hK1 _ _ ?_)
 refine wc_seq_region fun K2 hK2 => ?_
 refine wl_makeSlice (n := 32) (E := 5) (sz := 1) rfl rfl ((kfill (UInt8.ofNat (h % 256).toNat) 0).map fun b => [yv b]) (by kernel_rfl) (by intro e he; first | (simp at he; simp [he]; done) | (obtain ⟨_, _, rfl⟩ := List.mem_map.1 he; rfl)) (by simp [kfill]) (by decide) (by decide) hfr hst ?_
 clear hfr hst
 intro a w1 hfr hst
 refine wla hfr rfl fun a hfr => ?_
 refine wl_nil (hK2 _ _ ?_)
 refine wc_seq_k fun K3 hK3 => ?_
 refine wc_seq_region fun K4 hK4 => ?_
 refine wla hfr rfl fun a hfr => ?_
 refine wl_nil (hK4 _ _ ?_)
 refine wc_block ?_
 refine wc_loop (fun m a w => ∃ (k : Nat), m = 32 - k ∧ (k ≤ 32) ∧ Fr 19 [(0, .int .i64 h), (2, sv ([])), (3, (.slice (some ⟨w0.heap.size, 0, none⟩) 32 32)), (4, .int .i64 (k : Int))] [] a ∧ St No w0 [own (.slice (some ⟨w0.heap.size, 0, none⟩) 32 32) 5 1 ((kfill (UInt8.ofNat (h % 256).toNat) k).map fun b => [yv b])] w) _ ⟨0, rfl, Nat.zero_le _, hfr.pick [0, 2, 3, 4], hst⟩ ?_
 rintro _ a w2 ⟨k, rfl, hk, hfr, hst⟩
 refine wc_seq_k fun K5 hK5 => ?_
 refine wc_seq_region fun K6 hK6 => ?_
 refine wlm hfr rfl fun a hfr => ?_
 refine wlm hfr rfl fun a hfr => ?_
 refine wlv hfr ((v_len_sl (sT := 62) (hst.ownAt (i := 0) rfl) rfl rfl (Tryz.runUnderlying62 _)).asi (m' := 32) (by rw [List.length_map, kfill_len (by omega)]; rfl)) fun a hfr => ?_
 refine wlv hfr (v_lt rfl rfl) fun a hfr => ?_
 refine wl_nil (hK6 _ _ ?_)
 refine wc_cond hfr rfl (fun hc1 => ?_) (fun hc1 => ?_)
 ·rw [hc1] at hfr
  try simp only [qz] at hc1
  have hk2 : k < 32 := by omega
  refine wc_skip ?_
  refine hK5 _ _ ?_
  refine wc_seq_k fun K7 hK7 => ?_
  refine wc_block ?_
  refine wc_region ?_
  refine wlm hfr rfl fun a hfr => ?_
  refine wlm hfr rfl fun a hfr => ?_
  refine wlm hfr rfl fun a hfr => ?_
  refine wlv hfr (v_conv_iy2 (n := h) rfl (by kernel_rfl) Tryz.underlying5) fun a hfr => ?_
  refine wlv hfr ((v_indexAddr_sl (i := (k : Int)) (sT := 62) (hst.ownAt (i := 0) rfl) rfl rfl (Tryz.runUnderlying62 _) (Tryz.sizeOf5 _) (by omega) (by rw [List.length_map, kfill_len (by omega)]; omega)).as (v' := slAddr (.slice (some ⟨w0.heap.size, 0, none⟩) 32 32) (k * 1)) rfl) fun a hfr => ?_
  refine wl_store_el (k := k) (us := [yv (UInt8.ofNat (h % 256).toNat)]) 0 hfr hst rfl rfl rfl (by rw [List.length_map, kfill_len (by omega)]; omega) (by omega) (Tryz.sizeOf5 _) rfl (by first | rfl | simp [Value.oneCell', yv, wv, sv]) rfl rfl ?_
  clear hfr hst
  intro a w3 hfr hst
  refine wl_nil ?_
  refine hK7 _ _ ?_
  replace hfr : Fr 19 [(0, _), (2, _), (3, _), (4, _)] [] a := hfr.pick [0, 2, 3, 4]
  refine wc_region ?_
  refine wlm hfr rfl fun a hfr => ?_
  refine wlv hfr (v_add rfl rfl ⟨by omega, by omega⟩) fun a hfr => ?_
  refine wla hfr rfl fun a hfr => ?_
  refine wl_nil ?_
  rw [show ((kfill (UInt8.ofNat (h % 256).toNat) k).map fun b => [yv b]).set k [yv (UInt8.ofNat (h % 256).toNat)] = ((kfill (UInt8.ofNat (h % 256).toNat) (k + 1)).map fun b => [yv b]) from by rw [← kfill_set hk2, List.map_set]] at hst
  refine ⟨_, ?_, k + 1, rfl, (by omega), hfr.pick [0, 2, 3, 4], hst⟩
  omega
 rw [hc1] at hfr
 try simp only [qz] at hc1
 obtain rfl : k = 32 := by omega
 refine wc_exit ?_
 refine hK3 _ _ ?_
 refine wc_seq_region fun K8 hK8 => ?_
 refine wlm hfr rfl fun a hfr => ?_
 refine wlv hfr (v_conv_sls (hst.ownAt (i := 0) rfl) rfl Tryz.underlying62 Tryz.underlying5 Tryz.underlying9) fun a hfr => ?_
 refine wla hfr rfl fun a hfr => ?_
 refine wl_nil (hK8 _ _ ?_)
 replace hfr : Fr 19 [(2, _)] [] a := hfr.pick [2]
 replace hst : St No w0 [] w2 := hst.mask [false]
 refine wc_ret ?_
 refine fin_ret hfr Tryz.results21 (resAre_tmp rfl resAre_nil) ?_
 exact ⟨by rw [kfill_all]; rfl, hst.ext⟩
def keysTo (k : Nat) : List By := (List.range k).map fun h : Nat => keyH (h : Int)
theorem keysTo_succ (k : Nat) : keysTo (k + 1) = keysTo k ++ [keyH (k : Int)] := by simp [keysTo, List.range_succ]
theorem keysTo_len (k : Nat) : (keysTo k).length = k := by simp [keysTo]
/-- dialtone/dialtoneref15.Keys -/
theorem keys_ok (w0 : World) :
  Ret Tryz.prog 13 #[] w0 (MemR w0 (fun v : Value => v) (fun v => [own v 9 1 (keysH.map fun s => [sv s])]) (fun _ => True)) := by
 refine ret_of Tryz.func13 rfl Tryz.ntmps13 (Nat.le_of_ble_eq_true rfl) fun a hfr => ?_
 replace hfr : Fr 13 [] [] a := hfr
 replace hst : St No w0 [] w0 := St.init w0
 refine wc_seq_region fun K1 hK1 => ?_
 refine wla hfr rfl fun a hfr => ?_
 refine wl_nil (hK1 _ _ ?_)
 refine wc_seq_region fun K2 hK2 => ?_
 refine wla hfr rfl fun a hfr => ?_
 refine wl_nil (hK2 _ _ ?_)
 refine wc_seq_k fun K3 hK3 => ?_
 refine wc_seq_region fun K4 hK4 => ?_
 refine wla hfr rfl fun a hfr => ?_
 refine wl_nil (hK4 _ _ ?_)
 refine wc_block ?_
 replace hst : St No w0 [own (.slice none 0 0) 9 1 ((keysTo 0).map fun s => [sv s])] w0 := hst.nil_own
 refine wc_loop (fun m a w => ∃ (k : Nat) (v : Value), m = 10 - k ∧ (k ≤ 10) ∧ Fr 13 [(0, .slice none 0 0), (1, v), (2, .int .i64 (k : Int))] [] a ∧ St No w0 [own v 9 1 ((keysTo k).map fun s => [sv s])] w) _ ⟨0, .slice none 0 0, rfl, Nat.zero_le _, hfr.pick [0, 1, 2], hst⟩ ?_
 rintro _ a w1 ⟨k, v, rfl, hk, hfr, hst⟩
 refine wc_seq_k fun K5 hK5 => ?_
 refine wc_seq_region fun K6 hK6 => ?_
 refine wlm hfr rfl fun a hfr => ?_
 refine wlv hfr (v_lt rfl rfl) fun a hfr => ?_
 refine wl_nil (hK6 _ _ ?_)
 refine wc_cond hfr rfl (fun hc1 => ?_) (fun hc1 => ?_)
 ·rw [hc1] at hfr
  try simp only [qz] at hc1
  refine wc_skip ?_
  refine hK5 _ _ ?_
  refine wc_seq_k fun K7 hK7 => ?_
  refine wc_block ?_
  refine wc_region ?_
  refine wlm hfr rfl fun a hfr => ?_
  refine wlm hfr rfl fun a hfr => ?_
  refine wl_callp hfr hst (by decide) Tryz.call21 rfl (key_ok (k : Int) _) ?_
  clear hfr hst
  intro a w2 hfr hst
  refine wl_buildSlice (E := 9) (sz := 1) rfl [[sv (keyH (k : Int))]] (by kernel_rfl) (by simp) rfl (by decide) (by decide) hfr hst ?_
  clear hfr hst
  intro a w3 hfr hst
  refine wl_append (i := 1) (sT := 32) (inf := Tryz.t9) (z := .string (⟨#[]⟩)) (b := 0) (off := 0) (m := 0) (c := 0) rfl rfl rfl (hst.ownAt (i := 0) rfl) (by simp) Tryz.underlying32 rfl rfl rfl rfl (by decide) (by simp [Value.oneCell', yv, wv, sv]) (by have hby : Tryz.t9.bytes = 16 := rfl; simp [big, hby, keysTo_len] <;> omega) (by have hby : Tryz.t9.bytes = 16 := rfl; simp [big, hby, keysTo_len] <;> omega) (by decide) hfr hst fun a w4 s2 hfr hst _ => ?_
  rw [show ((keysTo k).map fun s => [sv s]) ++ ([[sv (keyH (k : Int))]]) = ((keysTo (k + 1)).map fun s => [sv s]) from by rw [keysTo_succ]; simp] at hst
  refine wla hfr rfl fun a hfr => ?_
  refine wl_nil ?_
  refine hK7 _ _ ?_
  replace hfr : Fr 13 [(0, _), (2, _), (1, _)] [] a := hfr.pick [0, 2, 1]
  replace hst : St No w0 [_] w4 := hst.mask [false, true]
  refine wc_region ?_
  refine wlm hfr rfl fun a hfr => ?_
  refine wlv hfr (v_add rfl rfl ⟨by omega, by omega⟩) fun a hfr => ?_
  refine wla hfr rfl fun a hfr => ?_
  refine wl_nil ?_
  refine ⟨_, ?_, k + 1, s2, rfl, (by omega), hfr.pick [0, 1, 2], hst⟩
  omega
 rw [hc1] at hfr
 try simp only [qz] at hc1
 obtain rfl : k = 10 := by omega
 refine wc_exit ?_
 refine hK3 _ _ ?_
 refine wc_seq_region fun K8 hK8 => ?_
 refine wlm hfr rfl fun a hfr => ?_
 refine wla hfr rfl fun a hfr => ?_
 refine wl_nil (hK8 _ _ ?_)
 refine wc_ret ?_
 refine fin_ret hfr Tryz.results13 (resAre_tmp rfl resAre_nil) ?_
 exact ⟨v, rfl, trivial, hst.ext, St.out (E := [own v 9 1 (keysH.map fun s => [sv s])]) (H := []) hst⟩
/-- dialtone/dialtoneref15.narrowed -/
theorem narrowed_ok (b d l r : Int) (w0 : World) (hb : 0 ≤ b) (hbd : b < d) (hd : d ≤ 1000000000) (hl : (-9223372036854775808 ≤ l ∧ l ≤ 9223372036854775807)) (hr : (-9223372036854775808 ≤ r ∧ r ≤ 9223372036854775807)) :
  Ret Tryz.prog 54 #[.int .i64 b, .int .i64 d, .int .i64 l, .int .i64 r] w0 fun v w => v = .tuple #[.int .i64 (b + pickI l (d - b)), .int .i64 (d - pickI r (d - (b + pickI l (d - b))))] ∧ Ext No w0 w := by
 refine ret_of Tryz.func54 rfl Tryz.ntmps54 (Nat.le_of_ble_eq_true rfl) fun a hfr => ?_
 replace hfr : Fr 26 [(0, _), (1, _), (2, _), (3, _)] [] a := hfr
 replace hst : St No w0 [] w0 := St.init w0
 have hp1 := pickI_lt l (n := d - b) (by omega)
 refine wc_seq_region fun K1 hK1 => ?_
 refine wla hfr rfl fun a hfr => ?_
 refine wla hfr rfl fun a hfr => ?_
 refine wl_nil (hK1 _ _ ?_)
 refine wc_seq_region fun K2 hK2 => ?_
 refine wlm hfr rfl fun a hfr => ?_
 refine wlm hfr rfl fun a hfr => ?_
 refine wlm hfr rfl fun a hfr => ?_
 refine wlm hfr rfl fun a hfr => ?_
 refine wlv hfr (v_sub rfl rfl ⟨by omega, by omega⟩) fun a hfr => ?_
 refine wl_callp hfr hst (by decide) Tryz.call53 rfl (pick15_ok l (d - b) _ (by omega) (by omega)) ?_
 clear hfr hst
 intro a w1 hfr hst
 refine wlv hfr (v_add rfl rfl ⟨by omega, by omega⟩) fun a hfr => ?_
 refine wla hfr rfl fun a hfr => ?_
 refine wl_nil (hK2 _ _ ?_)
 replace hfr : Fr 26 [(1, _), (3, _), (8, _), (9, _), (10, _)] [] a := hfr.pick [1, 3, 8, 9, 10]
 have hp2 := pickI_lt r (n := d - (b + pickI l (d - b))) (by omega)
 refine wc_seq_region fun K3 hK3 => ?_
 refine wlm hfr rfl fun a hfr => ?_
 refine wlm hfr rfl fun a hfr => ?_
 refine wlm hfr rfl fun a hfr => ?_
 refine wlm hfr rfl fun a hfr => ?_
 refine wlm hfr rfl fun a hfr => ?_
 refine wlv hfr (v_sub rfl rfl ⟨by omega, by omega⟩) fun a hfr => ?_
 refine wl_callp hfr hst (by decide) Tryz.call53 rfl (pick15_ok r (d - (b + (pickI l (d - b)))) _ (by omega) (by omega)) ?_
 clear hfr hst
 intro a w2 hfr hst
 refine wlv hfr (v_sub rfl rfl ⟨by omega, by omega⟩) fun a hfr => ?_
 refine wla hfr rfl fun a hfr => ?_
 refine wla hfr rfl fun a hfr => ?_
 refine wl_nil (hK3 _ _ ?_)
 replace hfr : Fr 26 [(8, _), (9, _)] [] a := hfr.pick [8, 9]
 refine wc_ret ?_
 refine fin_ret hfr Tryz.results54 (resAre_tmp rfl (resAre_tmp rfl resAre_nil)) ?_
 exact ⟨by rfl, hst.ext⟩
/-- dialtone/dialtoneref15.SignWish -/
theorem rsignwish_ok (key : By) (x : Wsh) (w0 : World) (hk : key.length = 32) (hok : x.ok = true) :
  Ret Tryz.prog 23 #[sv key, .agg #[.int .i64 x.signer, .int .i64 x.holder, .int .i64 x.rf, .int .i64 x.rt, .int .i64 x.carrier, .int .i64 x.serial, .int .i64 x.sf, .int .i64 x.st, sv x.sig]] w0 fun v w => v = .tuple #[.agg #[.int .i64 x.signer, .int .i64 x.holder, .int .i64 x.rf, .int .i64 x.rt, .int .i64 x.carrier, .int .i64 x.serial, .int .i64 x.sf, .int .i64 x.st, sv (sealH key x.content)], .int .i64 0] ∧ Ext No w0 w := by
 refine ret_of Tryz.func23 rfl Tryz.ntmps23 (Nat.le_of_ble_eq_true rfl) fun a hfr => ?_
 replace hfr : Fr 21 [(0, _), (1, _)] [] a := hfr
 replace hst : St No w0 [] w0 := St.init w0
 refine wc_seq_region fun K1 hK1 => ?_
 refine wl_box hfr hst (by decide) rfl (cs := [.int .i64 x.signer, .int .i64 x.holder, .int .i64 x.rf, .int .i64 x.rt, .int .i64 x.carrier, .int .i64 x.serial, .int .i64 x.sf, .int .i64 x.st, sv x.sig]) rfl ?_
 clear hfr hst
 intro a w1 hfr hst
 refine wl_alloc hfr hst (by decide) (Tryz.zeroValue30 _) (cs := [.int .i64 0, .int .i64 0, .int .i64 0, .int .i64 0, .int .i64 0, .int .i64 0, .int .i64 0, .int .i64 0, .string (⟨#[]⟩)]) rfl ?_
 clear hfr hst
 intro a w2 hfr hst
 refine wla hfr rfl fun a hfr => ?_
 refine wl_nil (hK1 _ _ ?_)
 refine wc_seq_k fun K2 hK2 => ?_
 refine wc_seq_region fun K3 hK3 => ?_
 refine wlm hfr rfl fun a hfr => ?_
 refine wlv hfr (v_len_str rfl rfl (Tryz.runUnderlying9 _)) fun a hfr => ?_
 refine wlv hfr ((v_ne rfl rfl).asb (b' := false) (by simp [hk])) fun a hfr => ?_
 refine wlm hfr rfl fun a hfr => ?_
 refine wly hfr (v_load_all (hst.get (k := 1) rfl) rfl (Tryz.isAgg30 _) (Tryz.sizeOf30 _)) fun a hfr => ?_
 refine wl_callpy hfr hst (by decide) rfl (by decide) rfl Tryz.call68 rfl (rwish_ok x _) ?_
 clear hfr hst
 intro a w3 hfr hst
 refine wly hfr (v_not rfl) fun a hfr => ?_
 refine wlv hfr (v_pick_f rfl rfl) fun a hfr => ?_
 refine wl_nil (hK3 _ _ ?_)
 replace hfr : Fr 21 [(0, _), (3, _), (4, _), (5, _), (13, _)] [] a := hfr.pick [0, 3, 4, 5, 13]
 refine wc_cond hfr rfl (fun hc1 => ?_) (fun hc1 => ?_)
 ·rw [hc1] at hfr
  try simp only [qz] at hc1
  simp [hok] at hc1
 rw [hc1] at hfr
 try simp only [qz] at hc1
 refine wc_skip ?_
 refine hK2 _ _ ?_
 refine wc_seq_region fun K4 hK4 => ?_
 refine wlm hfr rfl fun a hfr => ?_
 refine wlv hfr (v_load_all (hst.get (k := 1) rfl) rfl (Tryz.isAgg30 _) (Tryz.sizeOf30 _)) fun a hfr => ?_
 refine wl_callp hfr hst (by decide) Tryz.call37 rfl (rwcontent_ok x _ (Wsh.smalls_of hok)) ?_
 clear hfr hst
 intro a w4 hfr hst
 refine wl_callp hfr hst (by decide) Tryz.call71 rfl (rseal_ok key x.content _ (by omega) (Nat.le_trans x.content_len (by decide))) ?_
 clear hfr hst
 intro a w5 hfr hst
 refine wlv hfr (v_fieldAddr (v := .pointer (some ⟨w0.heap.size, 8, none⟩)) rfl (by kernel_rfl)) fun a hfr => ?_
 refine wl_store 1 hfr hst rfl rfl rfl (Tryz.sizeOf9 _) rfl (Nat.le_of_ble_eq_true rfl) (ds := [.int .i64 x.signer, .int .i64 x.holder, .int .i64 x.rf, .int .i64 x.rt, .int .i64 x.carrier, .int .i64 x.serial, .int .i64 x.sf, .int .i64 x.st, sv (sealH key x.content)]) rfl rfl ?_
 clear hfr hst
 intro a w6 hfr hst
 refine wl_nil (hK4 _ _ ?_)
 replace hfr : Fr 21 [(3, _), (4, _), (5, _)] [] a := hfr.pick [3, 4, 5]
 refine wc_seq_region fun K5 hK5 => ?_
 refine wlv hfr (v_load_all (hst.get (k := 1) rfl) rfl (Tryz.isAgg30 _) (Tryz.sizeOf30 _)) fun a hfr => ?_
 refine wl_store 0 hfr hst rfl rfl rfl (Tryz.sizeOf30 _) rfl (Nat.le_of_ble_eq_true rfl) (ds := [.int .i64 x.signer, .int .i64 x.holder, .int .i64 x.rf, .int .i64 x.rt, .int .i64 x.carrier, .int .i64 x.serial, .int .i64 x.sf, .int .i64 x.st, sv (sealH key x.content)]) rfl rfl ?_
 clear hfr hst
 intro a w7 hfr hst
 refine wla hfr rfl fun a hfr => ?_
 refine wl_nil (hK5 _ _ ?_)
 refine wc_ret ?_
 refine fin_ret hfr Tryz.results23 (resAre_cell rfl (res_all (hst.get (k := 0) rfl) (Tryz.isAgg30 _) (Tryz.sizeOf30 _)) (resAre_tmp rfl resAre_nil)) ?_
 exact ⟨by rfl, hst.ext⟩
/-- dialtone/dialtoneref15.SignProxy -/
theorem rsignproxy_ok (key : By) (x : Pxy) (w0 : World) (hk : key.length = 32) (hok : x.ok = true) :
  Ret Tryz.prog 25 #[sv key, .agg #[.int .i64 x.frm, .int .i64 x.to, .int .i64 x.rf, .int .i64 x.rt, .int .i64 x.sf, .int .i64 x.st, sv x.sig]] w0 fun v w => v = .tuple #[.agg #[.int .i64 x.frm, .int .i64 x.to, .int .i64 x.rf, .int .i64 x.rt, .int .i64 x.sf, .int .i64 x.st, sv (sealH key x.content)], .int .i64 0] ∧ Ext No w0 w := by
 refine ret_of Tryz.func25 rfl Tryz.ntmps25 (Nat.le_of_ble_eq_true rfl) fun a hfr => ?_
 replace hfr : Fr 21 [(0, _), (1, _)] [] a := hfr
 replace hst : St No w0 [] w0 := St.init w0
 refine wc_seq_region fun K1 hK1 => ?_
 refine wl_box hfr hst (by decide) rfl (cs := [.int .i64 x.frm, .int .i64 x.to, .int .i64 x.rf, .int .i64 x.rt, .int .i64 x.sf, .int .i64 x.st, sv x.sig]) rfl ?_
 clear hfr hst
 intro a w1 hfr hst
 refine wl_alloc hfr hst (by decide) (Tryz.zeroValue40 _) (cs := [.int .i64 0, .int .i64 0, .int .i64 0, .int .i64 0, .int .i64 0, .int .i64 0, .string (⟨#[]⟩)]) rfl ?_
 clear hfr hst
 intro a w2 hfr hst
 refine wla hfr rfl fun a hfr => ?_
 refine wl_nil (hK1 _ _ ?_)
 refine wc_seq_k fun K2 hK2 => ?_
 refine wc_seq_region fun K3 hK3 => ?_
 refine wlm hfr rfl fun a hfr => ?_
 refine wlv hfr (v_len_str rfl rfl (Tryz.runUnderlying9 _)) fun a hfr => ?_
 refine wlv hfr ((v_ne rfl rfl).asb (b' := false) (by simp [hk])) fun a hfr => ?_
 refine wlm hfr rfl fun a hfr => ?_
 refine wly hfr (v_load_all (hst.get (k := 1) rfl) rfl (Tryz.isAgg40 _) (Tryz.sizeOf40 _)) fun a hfr => ?_
 refine wl_callpy hfr hst (by decide) rfl (by decide) rfl Tryz.call69 rfl (rproxy_ok x _) ?_
 clear hfr hst
 intro a w3 hfr hst
 refine wly hfr (v_not rfl) fun a hfr => ?_
 refine wlv hfr (v_pick_f rfl rfl) fun a hfr => ?_
 refine wl_nil (hK3 _ _ ?_)
 replace hfr : Fr 21 [(0, _), (3, _), (4, _), (5, _), (13, _)] [] a := hfr.pick [0, 3, 4, 5, 13]
 refine wc_cond hfr rfl (fun hc1 => ?_) (fun hc1 => ?_)
 ·rw [hc1] at hfr
  try simp only [qz] at hc1
  simp [hok] at hc1
 rw [hc1] at hfr
 try simp only [qz] at hc1
 refine wc_skip ?_
 refine hK2 _ _ ?_
 refine wc_seq_region fun K4 hK4 => ?_
 refine wlm hfr rfl fun a hfr => ?_
 refine wlv hfr (v_load_all (hst.get (k := 1) rfl) rfl (Tryz.isAgg40 _) (Tryz.sizeOf40 _)) fun a hfr => ?_
 refine wl_callp hfr hst (by decide) Tryz.call38 rfl (rpcontent_ok x _ (Pxy.smalls_of hok)) ?_
 clear hfr hst
 intro a w4 hfr hst
 refine wl_callp hfr hst (by decide) Tryz.call71 rfl (rseal_ok key x.content _ (by omega) (Nat.le_trans x.content_len (by decide))) ?_
 clear hfr hst
 intro a w5 hfr hst
 refine wlv hfr (v_fieldAddr (v := .pointer (some ⟨w0.heap.size, 6, none⟩)) rfl (by kernel_rfl)) fun a hfr => ?_
 refine wl_store 1 hfr hst rfl rfl rfl (Tryz.sizeOf9 _) rfl (Nat.le_of_ble_eq_true rfl) (ds := [.int .i64 x.frm, .int .i64 x.to, .int .i64 x.rf, .int .i64 x.rt, .int .i64 x.sf, .int .i64 x.st, sv (sealH key x.content)]) rfl rfl ?_
 clear hfr hst
 intro a w6 hfr hst
 refine wl_nil (hK4 _ _ ?_)
 replace hfr : Fr 21 [(3, _), (4, _), (5, _)] [] a := hfr.pick [3, 4, 5]
 refine wc_seq_region fun K5 hK5 => ?_
 refine wlv hfr (v_load_all (hst.get (k := 1) rfl) rfl (Tryz.isAgg40 _) (Tryz.sizeOf40 _)) fun a hfr => ?_
 refine wl_store 0 hfr hst rfl rfl rfl (Tryz.sizeOf40 _) rfl (Nat.le_of_ble_eq_true rfl) (ds := [.int .i64 x.frm, .int .i64 x.to, .int .i64 x.rf, .int .i64 x.rt, .int .i64 x.sf, .int .i64 x.st, sv (sealH key x.content)]) rfl rfl ?_
 clear hfr hst
 intro a w7 hfr hst
 refine wla hfr rfl fun a hfr => ?_
 refine wl_nil (hK5 _ _ ?_)
 refine wc_ret ?_
 refine fin_ret hfr Tryz.results25 (resAre_cell rfl (res_all (hst.get (k := 0) rfl) (Tryz.isAgg40 _) (Tryz.sizeOf40 _)) (resAre_tmp rfl resAre_nil)) ?_
 exact ⟨by rfl, hst.ext⟩
end Go.Proofs.YtmmfieceinmloaaGreatDoor
namespace Go.Proofs.YtmmfieceinmloaaGreatDoor
open Go.RowKit Go.PW
set_option linter.unusedVariables false
set_option linter.unusedSimpArgs false
set_option maxRecDepth 4000
def Pxy.cells (x : Pxy) : List Value := [.int .i64 x.frm, .int .i64 x.to, .int .i64 x.rf, .int .i64 x.rt, .int .i64 x.sf, .int .i64 x.st, sv x.sig]
def Pxy.z : Pxy := ⟨0, 0, 0, 0, 0, 0, []⟩
def Wsh.cells (x : Wsh) : List Value := [.int .i64 x.signer, .int .i64 x.holder, .int .i64 x.rf, .int .i64 x.rt, .int .i64 x.carrier, .int .i64 x.serial, .int .i64 x.sf, .int .i64 x.st, sv x.sig]
def Cin.cells (y : Cin) : List Value := [.int .i64 y.y0, .int .i64 y.y1, .int .i64 y.y2, .int .i64 y.y3, .int .i64 y.y4]
def Cin.z : Cin := ⟨0, 0, 0, 0, 0⟩
def i64 (n : Int) : Prop := -9223372036854775808 ≤ n ∧ n ≤ 9223372036854775807
def Cin.wt (y : Cin) : Prop := i64 y.y0 ∧ i64 y.y1 ∧ i64 y.y2 ∧ i64 y.y3 ∧ i64 y.y4
theorem leftOf_snoc : ∀ (l : List Cin) (o : Left) (y : Cin), leftOf o (l ++ [y]) = (leftOf o l).next y
 | [], o, y => rfl
 | x :: l, o, y => leftOf_snoc l (o.next x) y
theorem pxysOf_snoc : ∀ (l : List Cin) (o : Left) (y : Cin), pxysOf o (l ++ [y]) = pxysOf o l ++ [(leftOf o l).pxy y]
 | [], o, y => rfl
 | x :: l, o, y => by rw [List.cons_append, pxysOf, pxysOf_snoc l (o.next x) y]; rfl
theorem bareW_ok {o : Left} (h : o.ok) (holder carrier serial : Int) : (bareW o holder carrier serial).ok = true := by
 obtain ⟨a1, a2, a3, a4, a5, a6, a7, a8⟩ := h
 have h1 := pickI_lt holder (n := 10) (by omega)
 have h2 := pickI_lt carrier (n := 8) (by omega)
 have h3 := pickI_lt serial (n := 1000) (by omega)
 show (Wsh.mk o.who (pickI holder 10) o.rf o.rt (pickI carrier 8) (pickI serial 1000) o.sf o.st []).ok = true
 simp only [Wsh.ok, inB, isRangeB, isSpellB, Bool.and_eq_true, decide_eq_true_eq]
 omega
theorem take_min4 {α : Type} (l : List α) : l.take (min 4 l.length) = l.take 4 := by
 rw [Nat.min_def]
 split
 ·rfl
 ·rw [List.take_of_length_le (Nat.le_refl _), List.take_of_length_le (by omega)]
set_option maxHeartbeats 4000000 in
/-- dialtone/dialtoneref15.Made -/
theorem made_ok (holder r0 r1 s0 s1 carrier serial : Int) (cv : Value) (ys : List Cin) (w0 : World) (hcv : SlAt w0 cv 5 (ys.map Cin.cells)) (hys : ∀ y ∈ ys, y.wt) (h0 : i64 holder) (h1 : i64 r0) (h2 : i64 r1) (h3 : i64 s0) (h4 : i64 s1) (h5 : i64 carrier) (h6 : i64 serial) :
  Ret Tryz.prog 9 #[.agg #[.int .i64 holder, .int .i64 r0, .int .i64 r1, .int .i64 s0, .int .i64 s1, .int .i64 carrier, .int .i64 serial, cv]] w0 (MemR w0 (fun v : Value => .tuple #[.agg (madeW holder r0 r1 s0 s1 carrier serial ys).cells.toArray, v]) (fun v => [own v 40 7 ((madeL holder r0 r1 s0 s1 ys).map Pxy.cells)]) (fun _ => True)) := by
 have hp0 := pickI_lt holder (n := 10) (by omega)
 have hp1 := pickI_lt r0 (n := 10000) (by omega)
 have hp2 := pickI_lt r1 (n := 1000) (by omega)
 have hp3 := pickI_lt s0 (n := 10000) (by omega)
 have hp4 := pickI_lt s1 (n := 1000) (by omega)
 have hp5 := pickI_lt carrier (n := 8) (by omega)
 have hp6 := pickI_lt serial (n := 1000) (by omega)
 refine ret_of Tryz.func9 rfl Tryz.ntmps9 (Nat.le_of_ble_eq_true rfl) fun a hfr => ?_
 replace hfr : Fr 138 [(0, _)] [] a := hfr
 replace hst : St No w0 [] w0 := St.init w0
 refine wc_seq_region fun K1 hK1 => ?_
 refine wl_box hfr hst (by decide) rfl (cs := [.int .i64 holder, .int .i64 r0, .int .i64 r1, .int .i64 s0, .int .i64 s1, .int .i64 carrier, .int .i64 serial, cv]) rfl ?_
 clear hfr hst
 intro a w1 hfr hst
 refine wl_alloc hfr hst (by decide) (Tryz.zeroValue30 _) (cs := [.int .i64 0, .int .i64 0, .int .i64 0, .int .i64 0, .int .i64 0, .int .i64 0, .int .i64 0, .int .i64 0, .string (⟨#[]⟩)]) rfl ?_
 clear hfr hst
 intro a w2 hfr hst
 refine wla hfr rfl fun a hfr => ?_
 refine wl_nil (hK1 _ _ ?_)
 refine wc_seq_region fun K2 hK2 => ?_
 refine wlv hfr (v_fieldAddr (v := .pointer (some ⟨w0.heap.size, 1, none⟩)) rfl (by kernel_rfl)) fun a hfr => ?_
 refine wlv hfr (v_indexAddr (v := .pointer (some ⟨w0.heap.size, 1, none⟩)) rfl rfl (by kernel_rfl)) fun a hfr => ?_
 refine wlv hfr (v_load_blk1 (hst.get (k := 1) rfl) rfl (Tryz.isAgg3 _) rfl) fun a hfr => ?_
 refine wl_callp hfr hst (by decide) Tryz.call53 rfl (pick15_ok r0 10000 _ (by first | assumption | omega) (by omega)) ?_
 clear hfr hst
 intro a w3 hfr hst
 refine wla hfr rfl fun a hfr => ?_
 refine wl_nil (hK2 _ _ ?_)
 refine wc_seq_region fun K3 hK3 => ?_
 refine wlm hfr rfl fun a hfr => ?_
 refine wlm hfr rfl fun a hfr => ?_
 refine wlv hfr (v_add rfl rfl ⟨by omega, by omega⟩) fun a hfr => ?_
 refine wlv hfr (v_fieldAddr (v := .pointer (some ⟨w0.heap.size, 1, none⟩)) rfl (by kernel_rfl)) fun a hfr => ?_
 refine wlv hfr (v_indexAddr (v := .pointer (some ⟨w0.heap.size, 2, none⟩)) rfl rfl (by kernel_rfl)) fun a hfr => ?_
 refine wlv hfr (v_load_blk1 (hst.get (k := 1) rfl) rfl (Tryz.isAgg3 _) rfl) fun a hfr => ?_
 refine wl_callp hfr hst (by decide) Tryz.call53 rfl (pick15_ok r1 1000 _ (by first | assumption | omega) (by omega)) ?_
 clear hfr hst
 intro a w4 hfr hst
 refine wlv hfr (v_add rfl rfl ⟨by omega, by omega⟩) fun a hfr => ?_
 refine wlv hfr (v_build (v := .agg #[.int .i64 (pickI r0 10000), .int .i64 (((pickI r0 10000) + 1) + (pickI r1 1000))]) rfl (by kernel_rfl)) fun a hfr => ?_
 refine wl_alloc hfr hst (by decide) (Tryz.zeroValue27 _) (cs := [.int .i64 0, .int .i64 0]) rfl ?_
 clear hfr hst
 intro a w5 hfr hst
 refine wl_store 0 hfr hst rfl rfl rfl (Tryz.sizeOf27 _) rfl (Nat.le_of_ble_eq_true rfl) (ds := [.int .i64 (pickI r0 10000), .int .i64 (((pickI r0 10000) + 1) + (pickI r1 1000))]) rfl rfl ?_
 clear hfr hst
 intro a w6 hfr hst
 refine wl_nil (hK3 _ _ ?_)
 replace hfr : Fr 138 [(1, _), (2, _), (3, _), (5, _)] [] a := hfr.pick [1, 2, 3, 5]
 refine wc_seq_region fun K4 hK4 => ?_
 refine wlv hfr (v_fieldAddr (v := .pointer (some ⟨w0.heap.size, 3, none⟩)) rfl (by kernel_rfl)) fun a hfr => ?_
 refine wlv hfr (v_indexAddr (v := .pointer (some ⟨w0.heap.size, 3, none⟩)) rfl rfl (by kernel_rfl)) fun a hfr => ?_
 refine wlv hfr (v_load_blk1 (hst.get (k := 2) rfl) rfl (Tryz.isAgg3 _) rfl) fun a hfr => ?_
 refine wl_callp hfr hst (by decide) Tryz.call53 rfl (pick15_ok s0 10000 _ (by first | assumption | omega) (by omega)) ?_
 clear hfr hst
 intro a w7 hfr hst
 refine wla hfr rfl fun a hfr => ?_
 refine wl_nil (hK4 _ _ ?_)
 refine wc_seq_region fun K5 hK5 => ?_
 refine wlm hfr rfl fun a hfr => ?_
 refine wlm hfr rfl fun a hfr => ?_
 refine wlv hfr (v_add rfl rfl ⟨by omega, by omega⟩) fun a hfr => ?_
 refine wlv hfr (v_fieldAddr (v := .pointer (some ⟨w0.heap.size, 3, none⟩)) rfl (by kernel_rfl)) fun a hfr => ?_
 refine wlv hfr (v_indexAddr (v := .pointer (some ⟨w0.heap.size, 4, none⟩)) rfl rfl (by kernel_rfl)) fun a hfr => ?_
 refine wlv hfr (v_load_blk1 (hst.get (k := 2) rfl) rfl (Tryz.isAgg3 _) rfl) fun a hfr => ?_
 refine wl_callp hfr hst (by decide) Tryz.call53 rfl (pick15_ok s1 1000 _ (by first | assumption | omega) (by omega)) ?_
 clear hfr hst
 intro a w8 hfr hst
 refine wlv hfr (v_add rfl rfl ⟨by omega, by omega⟩) fun a hfr => ?_
 refine wlv hfr (v_build (v := .agg #[.int .i64 (pickI s0 10000), .int .i64 (((pickI s0 10000) + 1) + (pickI s1 1000))]) rfl (by kernel_rfl)) fun a hfr => ?_
 refine wl_alloc hfr hst (by decide) (Tryz.zeroValue28 _) (cs := [.int .i64 0, .int .i64 0]) rfl ?_
 clear hfr hst
 intro a w9 hfr hst
 refine wl_store 0 hfr hst rfl rfl rfl (Tryz.sizeOf28 _) rfl (Nat.le_of_ble_eq_true rfl) (ds := [.int .i64 (pickI s0 10000), .int .i64 (((pickI s0 10000) + 1) + (pickI s1 1000))]) rfl rfl ?_
 clear hfr hst
 intro a w10 hfr hst
 refine wl_nil (hK5 _ _ ?_)
 replace hfr : Fr 138 [(1, _), (2, _), (3, _), (5, _), (7, _)] [] a := hfr.pick [1, 2, 3, 5, 7]
 refine wc_seq_region fun K6 hK6 => ?_
 refine wlv hfr (v_fieldAddr (v := .pointer (some ⟨w0.heap.size, 0, none⟩)) rfl (by kernel_rfl)) fun a hfr => ?_
 refine wlv hfr (v_load_blk1 (hst.get (k := 3) rfl) rfl (Tryz.isAgg3 _) rfl) fun a hfr => ?_
 refine wl_callp hfr hst (by decide) Tryz.call53 rfl (pick15_ok holder 10 _ (by first | assumption | omega) (by omega)) ?_
 clear hfr hst
 intro a w11 hfr hst
 refine wla hfr rfl fun a hfr => ?_
 refine wl_nil (hK6 _ _ ?_)
 refine wc_seq_k fun K7 hK7 => ?_
 refine wc_of_dr (by kernel_rfl) (dr_of_wd (by kernel_rfl) fun w12 hxz => ?_)
 replace hst := hst.grow hxz
 refine wd_sub (k := 0) 9 [7, 8] hfr (by kernel_rfl) (by kernel_rfl) (by kernel_rfl) (by rfl) ?_
 replace hfr : Fr 138 [(1, _), (2, _), (3, _), (5, _), (7, _), (44, _), (45, _), (46, _), (8, _)] [] a := hfr.pick [1, 2, 3, 5, 7, 44, 45, 46, 8]
 refine wc_phases_q [8] (fun i => match i with | 8 => pm (fun b : Nat => .pointer (some ⟨b, 0, none⟩)) (fun b => [blk b [.int .i64 0, .int .i64 0, .int .i64 0, .int .i64 0, .int .i64 0, .int .i64 0, .int .i64 0, .int .i64 0, .string (⟨#[]⟩)] 30]) (fun _ => True) | _ => fun _ _ => False) 9 [[], [], [1], [2], [], [4], [5], [0, 3, 6], []] [.int .i64 (pickI holder 10), .pointer (some ⟨w0.heap.size, 5, none⟩), .int .i64 carrier, .int .i64 (pickI carrier 8), .pointer (some ⟨w0.heap.size, 6, none⟩), .int .i64 serial, .int .i64 (pickI serial 1000), .agg #[.int .i64 0, .int .i64 (pickI holder 10), .int .i64 0, .int .i64 0, .int .i64 (pickI carrier 8), .int .i64 (pickI serial 1000), .int .i64 0, .int .i64 0, .string (⟨#[]⟩)], undef] hfr hst (by kernel_rfl) (by kernel_rfl) (by kernel_rfl) ?_ ?_ ?_
 ·intro i hi hiq
  match i, hi, hiq with
  | 0, _, _ =>
   intro w hst
   exact OpV.g (v_move rfl)
  | 1, _, _ =>
   intro w hst
   exact OpV.g (v_fieldAddr (v := .pointer (some ⟨w0.heap.size, 5, none⟩)) rfl (by kernel_rfl))
  | 2, _, _ =>
   intro w hst
   exact OpV.g (v_load_blk1 (hst.get (k := 3) rfl) rfl (Tryz.isAgg3 _) rfl)
  | 3, _, _ =>
   intro w hst
   exact g_callp Tryz.call53 rfl (pick15_ok carrier 8 _ (by first | assumption | omega) (by omega))
  | 4, _, _ =>
   intro w hst
   exact OpV.g (v_fieldAddr (v := .pointer (some ⟨w0.heap.size, 6, none⟩)) rfl (by kernel_rfl))
  | 5, _, _ =>
   intro w hst
   exact OpV.g (v_load_blk1 (hst.get (k := 3) rfl) rfl (Tryz.isAgg3 _) rfl)
  | 6, _, _ =>
   intro w hst
   exact g_callp Tryz.call53 rfl (pick15_ok serial 1000 _ (by first | assumption | omega) (by omega))
  | 7, _, _ =>
   intro w hst
   exact OpV.g (v_build (v := .agg #[.int .i64 0, .int .i64 (pickI holder 10), .int .i64 0, .int .i64 0, .int .i64 (pickI carrier 8), .int .i64 (pickI serial 1000), .int .i64 0, .int .i64 0, .string (⟨#[]⟩)]) rfl (by kernel_rfl))
  | 8, _, h => exact absurd (by simp) h
 ·intro i hi
  simp only [List.mem_cons, List.not_mem_nil, or_false] at hi
  subst hi
  ·intro w hst
   exact g_alloc (Tryz.zeroValue30 _) (cs := [.int .i64 0, .int .i64 0, .int .i64 0, .int .i64 0, .int .i64 0, .int .i64 0, .int .i64 0, .int .i64 0, .string (⟨#[]⟩)]) rfl
 clear hfr hst
 rintro _ _ ⟨b1, rfl, -, rfl⟩ a w13 hfr hst
 replace hfr : Fr 138 [(47, .int .i64 (pickI holder 10)), (48, .pointer (some ⟨w0.heap.size, 5, none⟩)), (49, .int .i64 carrier), (50, .int .i64 (pickI carrier 8)), (51, .pointer (some ⟨w0.heap.size, 6, none⟩)), (52, .int .i64 serial), (53, .int .i64 (pickI serial 1000)), (54, .agg #[.int .i64 0, .int .i64 (pickI holder 10), .int .i64 0, .int .i64 0, .int .i64 (pickI carrier 8), .int .i64 (pickI serial 1000), .int .i64 0, .int .i64 0, .string (⟨#[]⟩)]), (9, _), (1, _), (2, _), (3, _), (5, _), (7, _), (44, _), (45, _), (46, _), (8, _)] [] a := hfr
 replace hst : St No w0 [_, _, _, _, _] w13 := hst
 refine wl_nil ?_
 refine wd_lin (k := 9) 10 [9] (by kernel_rfl) (by kernel_rfl) (by kernel_rfl) ?_
 refine wl_store 0 hfr hst rfl rfl rfl (Tryz.sizeOf30 _) rfl (Nat.le_of_ble_eq_true rfl) (ds := [.int .i64 0, .int .i64 (pickI holder 10), .int .i64 0, .int .i64 0, .int .i64 (pickI carrier 8), .int .i64 (pickI serial 1000), .int .i64 0, .int .i64 0, .string (⟨#[]⟩)]) rfl rfl ?_
 clear hfr hst
 intro a w14 hfr hst
 refine wl_nil ?_
 refine wd_end (by kernel_rfl) ?_
 refine hK7 _ _ ?_
 replace hfr : Fr 138 [(1, _), (2, _), (3, _), (5, _), (7, _), (8, _), (9, _)] [] a := hfr.pick [1, 2, 3, 5, 7, 8, 9]
 refine wc_seq_region fun K8 hK8 => ?_
 refine wla hfr rfl fun a hfr => ?_
 refine wl_nil (hK8 _ _ ?_)
 refine wc_seq_k fun K9 hK9 => ?_
 refine wc_seq_region fun K10 hK10 => ?_
 refine wla hfr rfl fun a hfr => ?_
 refine wl_nil (hK10 _ _ ?_)
 refine wc_block ?_
 replace hst : St No w0 [own (.slice none 0 0) 40 7 ((pxysOf (firstOf holder r0 r1 s0 s1) (ys.take 0)).map Pxy.cells), blk b1 [.int .i64 0, .int .i64 (pickI holder 10), .int .i64 0, .int .i64 0, .int .i64 (pickI carrier 8), .int .i64 (pickI serial 1000), .int .i64 0, .int .i64 0, .string (⟨#[]⟩)] 30, blk w8.heap.size [.int .i64 (pickI s0 10000), .int .i64 (((pickI s0 10000) + 1) + (pickI s1 1000))] 28, blk w4.heap.size [.int .i64 (pickI r0 10000), .int .i64 (((pickI r0 10000) + 1) + (pickI r1 1000))] 27, blk w1.heap.size [.int .i64 0, .int .i64 0, .int .i64 0, .int .i64 0, .int .i64 0, .int .i64 0, .int .i64 0, .int .i64 0, .string (⟨#[]⟩)] 30, blk w0.heap.size [.int .i64 holder, .int .i64 r0, .int .i64 r1, .int .i64 s0, .int .i64 s1, .int .i64 carrier, .int .i64 serial, cv] 25] w14 := hst.nil_own
 refine wc_loop (fun m a w => ∃ (k : Nat) (o : Left) (v : Value), m = 4 - k ∧ (k ≤ min 4 ys.length) ∧ (leftOf (firstOf holder r0 r1 s0 s1) (ys.take k) = o) ∧ (o.ok) ∧ Fr 138 [(1, .pointer (some ⟨w0.heap.size, 0, none⟩)), (2, .pointer (some ⟨w1.heap.size, 0, none⟩)), (3, .slice none 0 0), (5, .pointer (some ⟨w4.heap.size, 0, none⟩)), (7, .pointer (some ⟨w8.heap.size, 0, none⟩)), (9, .pointer (some ⟨b1, 0, none⟩)), (8, .int .i64 o.who), (10, v), (11, .int .i64 (k : Int))] [] a ∧ St No w0 [blk w0.heap.size [.int .i64 holder, .int .i64 r0, .int .i64 r1, .int .i64 s0, .int .i64 s1, .int .i64 carrier, .int .i64 serial, cv] 25, blk w1.heap.size [.int .i64 0, .int .i64 0, .int .i64 0, .int .i64 0, .int .i64 0, .int .i64 0, .int .i64 0, .int .i64 0, .string (⟨#[]⟩)] 30, blk w4.heap.size [.int .i64 o.rf, .int .i64 o.rt] 27, blk w8.heap.size [.int .i64 o.sf, .int .i64 o.st] 28, blk b1 [.int .i64 0, .int .i64 (pickI holder 10), .int .i64 0, .int .i64 0, .int .i64 (pickI carrier 8), .int .i64 (pickI serial 1000), .int .i64 0, .int .i64 0, .string (⟨#[]⟩)] 30, own v 40 7 ((pxysOf (firstOf holder r0 r1 s0 s1) (ys.take k)).map Pxy.cells)] w) _ ⟨0, (firstOf holder r0 r1 s0 s1), .slice none 0 0, rfl, (Nat.zero_le _), rfl, firstOf_ok _ _ _ _ _, hfr.pick [1, 2, 3, 5, 7, 9, 8, 10, 11], hst.select [5, 4, 3, 2, 1, 0] (by decide)⟩ ?_
 rintro _ a w15 ⟨k, o, v, rfl, hk, ho, hok, hfr, hst⟩
 refine wc_seq_k fun K11 hK11 => ?_
 refine wc_seq_region fun K12 hK12 => ?_
 refine wlm hfr rfl fun a hfr => ?_
 refine wlv hfr (v_fieldAddr (v := .pointer (some ⟨w0.heap.size, 7, none⟩)) rfl (by kernel_rfl)) fun a hfr => ?_
 refine wlv hfr (v_load_blk1 (hst.get (k := 0) rfl) rfl (Tryz.isAgg23 _) rfl) fun a hfr => ?_
 refine wlv hfr ((v_len_sl (sT := 23) (hst.arg hcv) rfl rfl (Tryz.runUnderlying23 _)).asi (m' := (ys.length : Int)) (by rw [List.length_map])) fun a hfr => ?_
 refine wlv hfr (v_lt rfl rfl) fun a hfr => ?_
 refine wlm hfr rfl fun a hfr => ?_
 rcases Bool.eq_false_or_eq_true (decide ((k : Int) < (ys.length : Int))) with hb2 | hb2
 ·rw [hb2] at hfr
  try simp only [qz] at hb2
  have hky : k < ys.length := by omega
  obtain ⟨y, hy⟩ : ∃ y, ys.getD k Cin.z = y := ⟨_, rfl⟩
  obtain ⟨hy0, hy1, hy2, hy3, hy4⟩ : y.wt := by rw [← hy]; exact hys _ (getD_mem hky)
  obtain ⟨ho1, ho2, ho3, ho4, ho5, ho6, ho7, ho8⟩ := id hok
  have hp9 := pickI_lt y.y0 (n := 9) (by omega)
  refine wly hfr (v_move rfl) fun a hfr => ?_
  refine wly hfr (v_lt rfl rfl) fun a hfr => ?_
  refine wlv hfr (v_pick_t rfl rfl) fun a hfr => ?_
  refine wl_nil (hK12 _ _ ?_)
  replace hfr : Fr 138 [(1, _), (2, _), (3, _), (5, _), (7, _), (9, _), (8, _), (10, _), (11, _), (63, _)] [] a := hfr.pick [1, 2, 3, 5, 7, 9, 8, 10, 11, 63]
  refine wc_cond hfr rfl (fun hc3 => ?_) (fun hc3 => ?_)
  ·rw [hc3] at hfr
   try simp only [qz] at hc3
   refine wc_skip ?_
   refine hK11 _ _ ?_
   refine wc_seq_k fun K13 hK13 => ?_
   refine wc_block ?_
   refine wc_seq_region fun K14 hK14 => ?_
   refine wlv hfr (v_fieldAddr (v := .pointer (some ⟨w0.heap.size, 7, none⟩)) rfl (by kernel_rfl)) fun a hfr => ?_
   refine wlv hfr (v_load_blk1 (hst.get (k := 0) rfl) rfl (Tryz.isAgg23 _) rfl) fun a hfr => ?_
   refine wlm hfr rfl fun a hfr => ?_
   refine wlv hfr ((v_indexAddr_sl (i := (k : Int)) (sT := 23) (hst.arg hcv) rfl rfl (Tryz.runUnderlying23 _) (Tryz.sizeOf108 _) (by omega) (by rw [List.length_map]; exact hky)).as (v' := slAddr cv (k * 5)) rfl) fun a hfr => ?_
   refine wlv hfr ((v_load_sl (hst.arg hcv) (i := k) (by rw [List.length_map]; exact hky) rfl (Tryz.isAgg108 _) (Tryz.sizeOf108 _)).as (v' := .agg #[.int .i64 y.y0, .int .i64 y.y1, .int .i64 y.y2, .int .i64 y.y3, .int .i64 y.y4]) (by rw [el_at Cin.z, hy]; rfl)) fun a hfr => ?_
   refine wl_alloc hfr hst (by decide) (Tryz.zeroValue108 _) (cs := [.int .i64 0, .int .i64 0, .int .i64 0, .int .i64 0, .int .i64 0]) rfl ?_
   clear hfr hst
   intro a w16 hfr hst
   refine wl_store 0 hfr hst rfl rfl rfl (Tryz.sizeOf108 _) rfl (Nat.le_of_ble_eq_true rfl) (ds := [.int .i64 y.y0, .int .i64 y.y1, .int .i64 y.y2, .int .i64 y.y3, .int .i64 y.y4]) rfl rfl ?_
   clear hfr hst
   intro a w17 hfr hst
   refine wl_nil (hK14 _ _ ?_)
   replace hfr : Fr 138 [(1, _), (2, _), (3, _), (5, _), (7, _), (9, _), (8, _), (10, _), (11, _), (12, _)] [] a := hfr.pick [1, 2, 3, 5, 7, 9, 8, 10, 11, 12]
   refine wc_seq_k fun K15 hK15 => ?_
   refine wc_of_dr (by kernel_rfl) (dr_of_wd (by kernel_rfl) fun w18 hxz => ?_)
   replace hst := hst.grow hxz
   refine wd_sub (k := 0) 12 [10, 11] hfr (by kernel_rfl) (by kernel_rfl) (by kernel_rfl) (by rfl) ?_
   replace hfr : Fr 138 [(1, _), (2, _), (3, _), (5, _), (7, _), (9, _), (8, _), (10, _), (11, _), (12, _)] [] a := hfr.pick [1, 2, 3, 5, 7, 9, 8, 10, 11, 12]
   refine wc_phases_q [11] (fun i => match i with | 11 => pm (fun b : Nat => .pointer (some ⟨b, 0, none⟩)) (fun b => [blk b [.int .i64 0, .int .i64 0, .int .i64 0, .int .i64 0, .int .i64 0, .int .i64 0, .string (⟨#[]⟩)] 40]) (fun _ => True) | _ => fun _ _ => False) 12 [[], [], [1], [], [3], [4], [2, 5], [6], [], [], [0, 7, 8, 9], []] [.int .i64 o.who, .int .i64 o.who, .int .i64 (o.who + 1), .pointer (some ⟨w15.heap.size, 0, none⟩), .int .i64 y.y0, .int .i64 (pickI y.y0 9), .int .i64 ((o.who + 1) + (pickI y.y0 9)), .int .i64 (((o.who + 1) + (pickI y.y0 9)) % 10), .agg #[.int .i64 o.rf, .int .i64 o.rt], .agg #[.int .i64 o.sf, .int .i64 o.st], .agg #[.int .i64 o.who, .int .i64 (((o.who + 1) + (pickI y.y0 9)) % 10), .int .i64 o.rf, .int .i64 o.rt, .int .i64 o.sf, .int .i64 o.st, .string (⟨#[]⟩)], undef] hfr hst (by kernel_rfl) (by kernel_rfl) (by kernel_rfl) ?_ ?_ ?_
   ·intro i hi hiq
    match i, hi, hiq with
    | 0, _, _ =>
     intro w hst
     exact OpV.g (v_move rfl)
    | 1, _, _ =>
     intro w hst
     exact OpV.g (v_move rfl)
    | 2, _, _ =>
     intro w hst
     exact OpV.g (v_add rfl rfl ⟨by omega, by omega⟩)
    | 3, _, _ =>
     intro w hst
     exact OpV.g (v_indexAddr (v := .pointer (some ⟨w15.heap.size, 0, none⟩)) rfl rfl (by kernel_rfl))
    | 4, _, _ =>
     intro w hst
     exact OpV.g (v_load_blk1 (hst.get (k := 0) rfl) rfl (Tryz.isAgg3 _) rfl)
    | 5, _, _ =>
     intro w hst
     exact g_callp Tryz.call53 rfl (pick15_ok y.y0 9 _ (by first | assumption | omega) (by omega))
    | 6, _, _ =>
     intro w hst
     exact OpV.g (v_add rfl rfl ⟨by omega, by omega⟩)
    | 7, _, _ =>
     intro w hst
     exact OpV.g (v_rem rfl rfl (by omega) (by omega))
    | 8, _, _ =>
     intro w hst
     exact OpV.g (v_load_all (hst.get (k := 3) rfl) rfl (Tryz.isAgg27 _) (Tryz.sizeOf27 _))
    | 9, _, _ =>
     intro w hst
     exact OpV.g (v_load_all (hst.get (k := 4) rfl) rfl (Tryz.isAgg28 _) (Tryz.sizeOf28 _))
    | 10, _, _ =>
     intro w hst
     exact OpV.g (v_build (v := .agg #[.int .i64 o.who, .int .i64 (((o.who + 1) + (pickI y.y0 9)) % 10), .int .i64 o.rf, .int .i64 o.rt, .int .i64 o.sf, .int .i64 o.st, .string (⟨#[]⟩)]) rfl (by kernel_rfl))
    | 11, _, h => exact absurd (by simp) h
    | i + 12, h, _ => exact absurd h (by omega)
   ·intro i hi
    simp only [List.mem_cons, List.not_mem_nil, or_false] at hi
    subst hi
    ·intro w hst
     exact g_alloc (Tryz.zeroValue40 _) (cs := [.int .i64 0, .int .i64 0, .int .i64 0, .int .i64 0, .int .i64 0, .int .i64 0, .string (⟨#[]⟩)]) rfl
   clear hfr hst
   rintro _ _ ⟨b4, rfl, -, rfl⟩ a w19 hfr hst
   replace hfr : Fr 138 [(71, .int .i64 o.who), (72, .int .i64 o.who), (73, .int .i64 (o.who + 1)), (74, .pointer (some ⟨w15.heap.size, 0, none⟩)), (75, .int .i64 y.y0), (76, .int .i64 (pickI y.y0 9)), (77, .int .i64 ((o.who + 1) + (pickI y.y0 9))), (78, .int .i64 (((o.who + 1) + (pickI y.y0 9)) % 10)), (79, .agg #[.int .i64 o.rf, .int .i64 o.rt]), (80, .agg #[.int .i64 o.sf, .int .i64 o.st]), (81, .agg #[.int .i64 o.who, .int .i64 (((o.who + 1) + (pickI y.y0 9)) % 10), .int .i64 o.rf, .int .i64 o.rt, .int .i64 o.sf, .int .i64 o.st, .string (⟨#[]⟩)]), (13, _), (1, _), (2, _), (3, _), (5, _), (7, _), (9, _), (8, _), (10, _), (11, _), (12, _)] [] a := hfr
   replace hst : St No w0 [_, _, _, _, _, _, _, _] w19 := hst
   refine wl_nil ?_
   refine wd_lin (k := 12) 13 [12] (by kernel_rfl) (by kernel_rfl) (by kernel_rfl) ?_
   refine wl_store 0 hfr hst rfl rfl rfl (Tryz.sizeOf40 _) rfl (Nat.le_of_ble_eq_true rfl) (ds := [.int .i64 o.who, .int .i64 (((o.who + 1) + (pickI y.y0 9)) % 10), .int .i64 o.rf, .int .i64 o.rt, .int .i64 o.sf, .int .i64 o.st, .string (⟨#[]⟩)]) rfl rfl ?_
   clear hfr hst
   intro a w20 hfr hst
   refine wl_nil ?_
   refine wd_end (by kernel_rfl) ?_
   refine hK15 _ _ ?_
   replace hfr : Fr 138 [(1, _), (2, _), (3, _), (5, _), (7, _), (9, _), (8, _), (10, _), (11, _), (12, _), (13, _)] [] a := hfr.pick [1, 2, 3, 5, 7, 9, 8, 10, 11, 12, 13]
   refine wc_seq_k fun K16 hK16 => ?_
   refine wc_of_dr (by kernel_rfl) (dr_of_wd (by kernel_rfl) fun w21 hxz => ?_)
   replace hst := hst.grow hxz
   refine wd_sub (k := 0) 9 [6, 8] hfr (by kernel_rfl) (by kernel_rfl) (by kernel_rfl) (by rfl) ?_
   replace hfr : Fr 138 [(1, _), (2, _), (3, _), (5, _), (7, _), (9, _), (8, _), (10, _), (11, _), (12, _), (13, _)] [] a := hfr.pick [1, 2, 3, 5, 7, 9, 8, 10, 11, 12, 13]
   refine wc_phases_new 7 8 40 [.int .i64 0, .int .i64 0, .int .i64 0, .int .i64 0, .int .i64 0, .int .i64 0, .string (⟨#[]⟩)] [.int .i64 o.who, .int .i64 ((o.who + 1 + pickI y.y0 9) % 10), .int .i64 o.rf, .int .i64 o.rt, .int .i64 o.sf, .int .i64 o.st, sv (sealH (keyH o.who) (o.bare y).content)] 9 [[], [0], [], [1, 2], [3], [4], [4], [], [5, 7]] (fun i => match i with | 0 => pv (.int .i64 o.who) | 1 => pv (sv (keyH o.who)) | 2 => pv (.agg #[.int .i64 o.who, .int .i64 (((o.who + 1) + (pickI y.y0 9)) % 10), .int .i64 o.rf, .int .i64 o.rt, .int .i64 o.sf, .int .i64 o.st, .string (⟨#[]⟩)]) | 3 => pv (.tuple #[.agg #[.int .i64 o.who, .int .i64 ((o.who + 1 + pickI y.y0 9) % 10), .int .i64 o.rf, .int .i64 o.rt, .int .i64 o.sf, .int .i64 o.st, sv (sealH (keyH o.who) (o.bare y).content)], .int .i64 0]) | 4 => pv (.tuple #[.agg #[.int .i64 o.who, .int .i64 ((o.who + 1 + pickI y.y0 9) % 10), .int .i64 o.rf, .int .i64 o.rt, .int .i64 o.sf, .int .i64 o.st, sv (sealH (keyH o.who) (o.bare y).content)], .int .i64 0]) | 5 => pv (.agg #[.int .i64 o.who, .int .i64 ((o.who + 1 + pickI y.y0 9) % 10), .int .i64 o.rf, .int .i64 o.rt, .int .i64 o.sf, .int .i64 o.st, sv (sealH (keyH o.who) (o.bare y).content)]) | 6 => pv (.int .i64 0) | 7 => fun v E => ∃ b, v = ptr b ∧ E = [] | 8 => fun v E => v = undef ∧ E = [] | _ => fun _ _ => False) hfr (H := [blk b4 [.int .i64 o.who, .int .i64 (((o.who + 1) + (pickI y.y0 9)) % 10), .int .i64 o.rf, .int .i64 o.rt, .int .i64 o.sf, .int .i64 o.st, .string (⟨#[]⟩)] 40, blk w15.heap.size [.int .i64 y.y0, .int .i64 y.y1, .int .i64 y.y2, .int .i64 y.y3, .int .i64 y.y4] 108, blk w0.heap.size [.int .i64 holder, .int .i64 r0, .int .i64 r1, .int .i64 s0, .int .i64 s1, .int .i64 carrier, .int .i64 serial, cv] 25, blk w1.heap.size [.int .i64 0, .int .i64 0, .int .i64 0, .int .i64 0, .int .i64 0, .int .i64 0, .int .i64 0, .int .i64 0, .string (⟨#[]⟩)] 30, blk w4.heap.size [.int .i64 o.rf, .int .i64 o.rt] 27, blk w8.heap.size [.int .i64 o.sf, .int .i64 o.st] 28, blk b1 [.int .i64 0, .int .i64 (pickI holder 10), .int .i64 0, .int .i64 0, .int .i64 (pickI carrier 8), .int .i64 (pickI serial 1000), .int .i64 0, .int .i64 0, .string (⟨#[]⟩)] 30, own v 40 7 ((pxysOf (firstOf holder r0 r1 s0 s1) (ys.take k)).map Pxy.cells)]) hst (by kernel_rfl) (by kernel_rfl) (by kernel_rfl) (by kernel_rfl) (by decide) (by decide) (by decide) (by decide) (by decide) ?_ (fun v E h => h) ⟨rfl, rfl⟩ (fun v E => Iff.rfl) ?_ ?_ ?_ ?_
   ·intro i v E h
    match i, h with
    | 0, _ => exact by decide
    | 1, _ => exact by decide
    | 2, _ => exact by decide
    | 3, _ => exact by decide
    | 4, _ => exact by decide
    | 5, _ => exact by decide
    | 6, _ => exact by decide
    | 7, _ => exact by decide
    | 8, _ => exact by decide
    | i + 9, h => exact h.elim
   ·intro i hi hia hij e
    match i, hi, hia, hij with
    | 0, _, _, _ =>
     intro w hst
     exact OpV.g (v_move rfl)
    | 1, _, _, _ =>
     rintro _ _ ⟨rfl, rfl⟩
     intro w hst
     exact g_callp Tryz.call21 rfl (key_ok o.who _)
    | 2, _, _, _ =>
     intro w hst
     exact OpV.g (v_load_all (hst.get (k := 1) rfl) rfl (Tryz.isAgg40 _) (Tryz.sizeOf40 _))
    | 3, _, _, _ =>
     rintro _ _ ⟨rfl, rfl⟩ _ _ ⟨rfl, rfl⟩
     intro w hst
     exact g_callp Tryz.call25 rfl (rsignproxy_ok (keyH o.who) (o.bare y) _ (keyH_len _) (Left.pxy_ok hok y))
    | 4, _, _, _ =>
     rintro _ _ ⟨rfl, rfl⟩
     intro w hst
     exact OpV.g (v_move rfl)
    | 5, _, _, _ =>
     rintro _ _ ⟨rfl, rfl⟩
     intro w hst
     exact OpV.g (v_extract rfl rfl)
    | 6, _, _, _ =>
     rintro _ _ ⟨rfl, rfl⟩
     intro w hst
     exact OpV.g (v_extract rfl rfl)
    | 7, _, h, _ => exact absurd rfl h
    | 8, _, _, h => exact absurd rfl h
   ·exact fun Lv w => r_alloc (Tryz.zeroValue40 _)
   ·rintro _ _ ⟨rfl, rfl⟩ _ _ ⟨b5, rfl, rfl⟩
    intro b hb w h
    have hb : some (ptr b5) = some (ptr b) := hb
    cases hb
    exact r_storeU rfl rfl h (Tryz.sizeOf40 _) rfl (Nat.le_of_ble_eq_true rfl) rfl
   clear hfr hst
   rintro bq _ _ ⟨⟨rfl, rfl⟩, -⟩ _ _ ⟨⟨rfl, rfl⟩, -⟩ _ _ ⟨⟨rfl, rfl⟩, -⟩ _ _ ⟨⟨rfl, rfl⟩, -⟩ _ _ ⟨⟨rfl, rfl⟩, -⟩ _ _ ⟨⟨rfl, rfl⟩, -⟩ _ _ ⟨⟨rfl, rfl⟩, -⟩ _ _ ⟨⟨b5, rfl, rfl⟩, hva⟩ a w22 hfr hst
   obtain rfl : b5 = bq := ptr_inj (hva rfl)
   replace hfr : Fr 138 [(83, _), (84, _), (85, _), (86, _), (82, _), (87, _), (88, _), (14, _), (1, _), (2, _), (3, _), (5, _), (7, _), (9, _), (8, _), (10, _), (11, _), (12, _), (13, _)] [] a := hfr
   replace hst : St No w0 [blk b5 [.int .i64 o.who, .int .i64 ((o.who + 1 + pickI y.y0 9) % 10), .int .i64 o.rf, .int .i64 o.rt, .int .i64 o.sf, .int .i64 o.st, sv (sealH (keyH o.who) (o.bare y).content)] 40, blk b4 [.int .i64 o.who, .int .i64 (((o.who + 1) + (pickI y.y0 9)) % 10), .int .i64 o.rf, .int .i64 o.rt, .int .i64 o.sf, .int .i64 o.st, .string (⟨#[]⟩)] 40, blk w15.heap.size [.int .i64 y.y0, .int .i64 y.y1, .int .i64 y.y2, .int .i64 y.y3, .int .i64 y.y4] 108, blk w0.heap.size [.int .i64 holder, .int .i64 r0, .int .i64 r1, .int .i64 s0, .int .i64 s1, .int .i64 carrier, .int .i64 serial, cv] 25, blk w1.heap.size [.int .i64 0, .int .i64 0, .int .i64 0, .int .i64 0, .int .i64 0, .int .i64 0, .int .i64 0, .int .i64 0, .string (⟨#[]⟩)] 30, blk w4.heap.size [.int .i64 o.rf, .int .i64 o.rt] 27, blk w8.heap.size [.int .i64 o.sf, .int .i64 o.st] 28, blk b1 [.int .i64 0, .int .i64 (pickI holder 10), .int .i64 0, .int .i64 0, .int .i64 (pickI carrier 8), .int .i64 (pickI serial 1000), .int .i64 0, .int .i64 0, .string (⟨#[]⟩)] 30, own v 40 7 ((pxysOf (firstOf holder r0 r1 s0 s1) (ys.take k)).map Pxy.cells)] w22 := hst
   refine wl_nil ?_
   refine wd_lin (k := 9) 10 [9] (by kernel_rfl) (by kernel_rfl) (by kernel_rfl) ?_
   refine wla hfr rfl fun a hfr => ?_
   refine wl_nil ?_
   refine wd_end (by kernel_rfl) ?_
   refine hK16 _ _ ?_
   replace hfr : Fr 138 [(1, _), (2, _), (3, _), (5, _), (7, _), (9, _), (10, _), (11, _), (12, _), (13, _), (14, _)] [] a := hfr.pick [1, 2, 3, 5, 7, 9, 10, 11, 12, 13, 14]
   refine wc_seq_region fun K17 hK17 => ?_
   refine wlm hfr rfl fun a hfr => ?_
   refine wlv hfr (v_load_all (hst.get (k := 0) rfl) rfl (Tryz.isAgg40 _) (Tryz.sizeOf40 _)) fun a hfr => ?_
   refine wl_buildSlice (E := 40) (sz := 7) rfl [[.int .i64 o.who, .int .i64 ((o.who + 1 + pickI y.y0 9) % 10), .int .i64 o.rf, .int .i64 o.rt, .int .i64 o.sf, .int .i64 o.st, sv (sealH (keyH o.who) (o.bare y).content)]] (by kernel_rfl) (by simp) rfl (by decide) (by decide) hfr hst ?_
   clear hfr hst
   intro a w23 hfr hst
   refine wl_append (i := 9) (sT := 31) (inf := Tryz.t40) (z := .agg #[.int .i64 0, .int .i64 0, .int .i64 0, .int .i64 0, .int .i64 0, .int .i64 0, .string (⟨#[]⟩)]) (b := 0) (off := 0) (m := 0) (c := 0) rfl rfl rfl (hst.ownAt (i := 0) rfl) (by simp) Tryz.underlying31 rfl rfl rfl rfl (by decide) (by simp [Value.oneCell', yv, wv, sv]) (by have hby : Tryz.t40.bytes = 64 := rfl; simp [big, hby, pxys_len] <;> omega) (by have hby : Tryz.t40.bytes = 64 := rfl; simp [big, hby, pxys_len] <;> omega) (by decide) hfr hst fun a w24 s6 hfr hst _ => ?_
   rw [show ((pxysOf (firstOf holder r0 r1 s0 s1) (ys.take k)).map Pxy.cells) ++ ([[.int .i64 o.who, .int .i64 ((o.who + 1 + pickI y.y0 9) % 10), .int .i64 o.rf, .int .i64 o.rt, .int .i64 o.sf, .int .i64 o.st, sv (sealH (keyH o.who) (o.bare y).content)]]) = ((pxysOf (firstOf holder r0 r1 s0 s1) (ys.take (k + 1))).map Pxy.cells) from by rw [take_snoc Cin.z hky, pxysOf_snoc, ho, hy, List.map_append]; rfl] at hst
   refine wla hfr rfl fun a hfr => ?_
   refine wl_nil (hK17 _ _ ?_)
   refine wc_seq_region fun K18 hK18 => ?_
   refine wlv hfr (v_fieldAddr (v := .pointer (some ⟨b4, 1, none⟩)) rfl (by kernel_rfl)) fun a hfr => ?_
   refine wlv hfr (v_load_blk1 (hst.get (k := 2) rfl) rfl (Tryz.isAgg3 _) rfl) fun a hfr => ?_
   refine wla hfr rfl fun a hfr => ?_
   refine wl_nil (hK18 _ _ ?_)
   replace hfr : Fr 138 [(1, _), (2, _), (3, _), (5, _), (7, _), (9, _), (11, _), (12, _), (10, _), (8, _)] [] a := hfr.pick [1, 2, 3, 5, 7, 9, 11, 12, 10, 8]
   replace hst : St No w0 [_, _, _, _, _, _, _] w24 := hst.mask [false, false, false, true, true, true, true, true, true, true]
   refine wc_seq_region fun K19 hK19 => ?_
   refine wlv hfr (v_fieldAddr (v := .pointer (some ⟨w4.heap.size, 0, none⟩)) rfl (by kernel_rfl)) fun a hfr => ?_
   refine wlv hfr (v_load_blk1 (hst.get (k := 3) rfl) rfl (Tryz.isAgg3 _) rfl) fun a hfr => ?_
   refine wlv hfr (v_fieldAddr (v := .pointer (some ⟨w4.heap.size, 1, none⟩)) rfl (by kernel_rfl)) fun a hfr => ?_
   refine wlv hfr (v_load_blk1 (hst.get (k := 3) rfl) rfl (Tryz.isAgg3 _) rfl) fun a hfr => ?_
   refine wlv hfr (v_indexAddr (v := .pointer (some ⟨w15.heap.size, 1, none⟩)) rfl rfl (by kernel_rfl)) fun a hfr => ?_
   refine wlv hfr (v_load_blk1 (hst.get (k := 0) rfl) rfl (Tryz.isAgg3 _) rfl) fun a hfr => ?_
   refine wlv hfr (v_indexAddr (v := .pointer (some ⟨w15.heap.size, 2, none⟩)) rfl rfl (by kernel_rfl)) fun a hfr => ?_
   refine wlv hfr (v_load_blk1 (hst.get (k := 0) rfl) rfl (Tryz.isAgg3 _) rfl) fun a hfr => ?_
   refine wl_callp hfr hst (by decide) Tryz.call54 rfl (narrowed_ok o.rf o.rt y.y1 y.y2 _ (by omega) (by omega) (by omega) (by assumption) (by assumption)) ?_
   clear hfr hst
   intro a w25 hfr hst
   refine wlm hfr rfl fun a hfr => ?_
   refine wlv hfr (v_extract rfl rfl) fun a hfr => ?_
   refine wlv hfr (v_extract rfl rfl) fun a hfr => ?_
   refine wlv hfr (v_fieldAddr (v := .pointer (some ⟨w4.heap.size, 0, none⟩)) rfl (by kernel_rfl)) fun a hfr => ?_
   refine wl_store 3 hfr hst rfl rfl rfl (Tryz.sizeOf3 _) rfl (Nat.le_of_ble_eq_true rfl) (ds := [.int .i64 (o.rf + pickI y.y1 (o.rt - o.rf)), .int .i64 o.rt]) rfl rfl ?_
   clear hfr hst
   intro a w26 hfr hst
   refine wlv hfr (v_fieldAddr (v := .pointer (some ⟨w4.heap.size, 1, none⟩)) rfl (by kernel_rfl)) fun a hfr => ?_
   refine wl_store 3 hfr hst rfl rfl rfl (Tryz.sizeOf3 _) rfl (Nat.le_of_ble_eq_true rfl) (ds := [.int .i64 (o.rf + pickI y.y1 (o.rt - o.rf)), .int .i64 (o.rt - pickI y.y2 (o.rt - (o.rf + pickI y.y1 (o.rt - o.rf))))]) rfl rfl ?_
   clear hfr hst
   intro a w27 hfr hst
   refine wl_nil (hK19 _ _ ?_)
   replace hfr : Fr 138 [(1, _), (2, _), (3, _), (5, _), (7, _), (9, _), (11, _), (12, _), (10, _), (8, _)] [] a := hfr.pick [1, 2, 3, 5, 7, 9, 11, 12, 10, 8]
   refine wc_region ?_
   refine wlv hfr (v_fieldAddr (v := .pointer (some ⟨w8.heap.size, 0, none⟩)) rfl (by kernel_rfl)) fun a hfr => ?_
   refine wlv hfr (v_load_blk1 (hst.get (k := 4) rfl) rfl (Tryz.isAgg3 _) rfl) fun a hfr => ?_
   refine wlv hfr (v_fieldAddr (v := .pointer (some ⟨w8.heap.size, 1, none⟩)) rfl (by kernel_rfl)) fun a hfr => ?_
   refine wlv hfr (v_load_blk1 (hst.get (k := 4) rfl) rfl (Tryz.isAgg3 _) rfl) fun a hfr => ?_
   refine wlv hfr (v_indexAddr (v := .pointer (some ⟨w15.heap.size, 3, none⟩)) rfl rfl (by kernel_rfl)) fun a hfr => ?_
   refine wlv hfr (v_load_blk1 (hst.get (k := 0) rfl) rfl (Tryz.isAgg3 _) rfl) fun a hfr => ?_
   refine wlv hfr (v_indexAddr (v := .pointer (some ⟨w15.heap.size, 4, none⟩)) rfl rfl (by kernel_rfl)) fun a hfr => ?_
   refine wlv hfr (v_load_blk1 (hst.get (k := 0) rfl) rfl (Tryz.isAgg3 _) rfl) fun a hfr => ?_
   refine wl_callp hfr hst (by decide) Tryz.call54 rfl (narrowed_ok o.sf o.st y.y3 y.y4 _ (by omega) (by omega) (by omega) (by assumption) (by assumption)) ?_
   clear hfr hst
   intro a w28 hfr hst
   refine wlm hfr rfl fun a hfr => ?_
   refine wlv hfr (v_extract rfl rfl) fun a hfr => ?_
   refine wlv hfr (v_extract rfl rfl) fun a hfr => ?_
   refine wlv hfr (v_fieldAddr (v := .pointer (some ⟨w8.heap.size, 0, none⟩)) rfl (by kernel_rfl)) fun a hfr => ?_
   refine wl_store 4 hfr hst rfl rfl rfl (Tryz.sizeOf3 _) rfl (Nat.le_of_ble_eq_true rfl) (ds := [.int .i64 (o.sf + pickI y.y3 (o.st - o.sf)), .int .i64 o.st]) rfl rfl ?_
   clear hfr hst
   intro a w29 hfr hst
   refine wlv hfr (v_fieldAddr (v := .pointer (some ⟨w8.heap.size, 1, none⟩)) rfl (by kernel_rfl)) fun a hfr => ?_
   refine wl_store 4 hfr hst rfl rfl rfl (Tryz.sizeOf3 _) rfl (Nat.le_of_ble_eq_true rfl) (ds := [.int .i64 (o.sf + pickI y.y3 (o.st - o.sf)), .int .i64 (o.st - pickI y.y4 (o.st - (o.sf + pickI y.y3 (o.st - o.sf))))]) rfl rfl ?_
   clear hfr hst
   intro a w30 hfr hst
   refine wl_nil ?_
   refine hK13 _ _ ?_
   replace hfr : Fr 138 [(1, _), (2, _), (3, _), (5, _), (7, _), (9, _), (11, _), (10, _), (8, _)] [] a := hfr.pick [1, 2, 3, 5, 7, 9, 11, 10, 8]
   replace hst : St No w0 [_, _, _, _, _, _] w30 := hst.mask [false, true, true, true, true, true, true]
   refine wc_region ?_
   refine wlm hfr rfl fun a hfr => ?_
   refine wlv hfr (v_add rfl rfl ⟨by omega, by omega⟩) fun a hfr => ?_
   refine wla hfr rfl fun a hfr => ?_
   refine wl_nil ?_
   refine ⟨_, ?_, k + 1, o.next y, s6, rfl, (by omega), (by rw [take_snoc Cin.z hky, leftOf_snoc, ho, hy]), (Left.next_ok hok y).1, hfr.pick [1, 2, 3, 5, 7, 9, 8, 10, 11], hst.select [0, 1, 2, 3, 4, 5] (by decide)⟩
   omega
  rw [hc3] at hfr
  try simp only [qz] at hc3
  refine wc_exit ?_
  refine hK9 _ _ ?_
  obtain ⟨ho1, ho2, ho3, ho4, ho5, ho6, ho7, ho8⟩ := id hok
  have hwok := bareW_ok hok holder carrier serial
  have hkm : k = min 4 ys.length := by omega
  have hk4 : ys.take k = ys.take 4 := by rw [hkm]; exact take_min4 ys
  refine wc_seq_region fun K20 hK20 => ?_
  refine wlm hfr rfl fun a hfr => ?_
  refine wlv hfr (v_fieldAddr (v := .pointer (some ⟨b1, 0, none⟩)) rfl (by kernel_rfl)) fun a hfr => ?_
  refine wl_store 4 hfr hst rfl rfl rfl (Tryz.sizeOf3 _) rfl (Nat.le_of_ble_eq_true rfl) (ds := [.int .i64 o.who, .int .i64 (pickI holder 10), .int .i64 0, .int .i64 0, .int .i64 (pickI carrier 8), .int .i64 (pickI serial 1000), .int .i64 0, .int .i64 0, .string (⟨#[]⟩)]) rfl rfl ?_
  clear hfr hst
  intro a w31 hfr hst
  refine wl_nil (hK20 _ _ ?_)
  refine wc_seq_region fun K21 hK21 => ?_
  refine wlv hfr (v_load_all (hst.get (k := 2) rfl) rfl (Tryz.isAgg27 _) (Tryz.sizeOf27 _)) fun a hfr => ?_
  refine wlv hfr (v_fieldAddr (v := .pointer (some ⟨b1, 2, none⟩)) rfl (by kernel_rfl)) fun a hfr => ?_
  refine wl_store 4 hfr hst rfl rfl rfl (Tryz.sizeOf27 _) rfl (Nat.le_of_ble_eq_true rfl) (ds := [.int .i64 o.who, .int .i64 (pickI holder 10), .int .i64 o.rf, .int .i64 o.rt, .int .i64 (pickI carrier 8), .int .i64 (pickI serial 1000), .int .i64 0, .int .i64 0, .string (⟨#[]⟩)]) rfl rfl ?_
  clear hfr hst
  intro a w32 hfr hst
  refine wl_nil (hK21 _ _ ?_)
  replace hfr : Fr 138 [(2, _), (3, _), (7, _), (9, _), (8, _), (10, _)] [] a := hfr.pick [2, 3, 7, 9, 8, 10]
  replace hst : St No w0 [_, _, _, _] w32 := hst.mask [false, true, false, true, true, true]
  refine wc_seq_region fun K22 hK22 => ?_
  refine wlv hfr (v_load_all (hst.get (k := 1) rfl) rfl (Tryz.isAgg28 _) (Tryz.sizeOf28 _)) fun a hfr => ?_
  refine wlv hfr (v_fieldAddr (v := .pointer (some ⟨b1, 6, none⟩)) rfl (by kernel_rfl)) fun a hfr => ?_
  refine wl_store 2 hfr hst rfl rfl rfl (Tryz.sizeOf28 _) rfl (Nat.le_of_ble_eq_true rfl) (ds := [.int .i64 o.who, .int .i64 (pickI holder 10), .int .i64 o.rf, .int .i64 o.rt, .int .i64 (pickI carrier 8), .int .i64 (pickI serial 1000), .int .i64 o.sf, .int .i64 o.st, .string (⟨#[]⟩)]) rfl rfl ?_
  clear hfr hst
  intro a w33 hfr hst
  refine wl_nil (hK22 _ _ ?_)
  refine wc_seq_k fun K23 hK23 => ?_
  refine wc_of_dr (by kernel_rfl) (dr_of_wd (by kernel_rfl) fun w34 hxz => ?_)
  replace hst := hst.grow hxz
  refine wd_sub (k := 0) 9 [6, 8] hfr (by kernel_rfl) (by kernel_rfl) (by kernel_rfl) (by rfl) ?_
  replace hfr : Fr 138 [(2, _), (3, _), (7, _), (9, _), (8, _), (10, _), (127, _), (128, _)] [] a := hfr.pick [2, 3, 7, 9, 8, 10, 127, 128]
  refine wc_phases_new 7 8 30 [.int .i64 0, .int .i64 0, .int .i64 0, .int .i64 0, .int .i64 0, .int .i64 0, .int .i64 0, .int .i64 0, .string (⟨#[]⟩)] [.int .i64 o.who, .int .i64 (pickI holder 10), .int .i64 o.rf, .int .i64 o.rt, .int .i64 (pickI carrier 8), .int .i64 (pickI serial 1000), .int .i64 o.sf, .int .i64 o.st, sv (sealH (keyH o.who) (bareW o holder carrier serial).content)] 9 [[], [0], [], [1, 2], [3], [4], [4], [], [5, 7]] (fun i => match i with | 0 => pv (.int .i64 o.who) | 1 => pv (sv (keyH o.who)) | 2 => pv (.agg #[.int .i64 o.who, .int .i64 (pickI holder 10), .int .i64 o.rf, .int .i64 o.rt, .int .i64 (pickI carrier 8), .int .i64 (pickI serial 1000), .int .i64 o.sf, .int .i64 o.st, .string (⟨#[]⟩)]) | 3 => pv (.tuple #[.agg #[.int .i64 o.who, .int .i64 (pickI holder 10), .int .i64 o.rf, .int .i64 o.rt, .int .i64 (pickI carrier 8), .int .i64 (pickI serial 1000), .int .i64 o.sf, .int .i64 o.st, sv (sealH (keyH o.who) (bareW o holder carrier serial).content)], .int .i64 0]) | 4 => pv (.tuple #[.agg #[.int .i64 o.who, .int .i64 (pickI holder 10), .int .i64 o.rf, .int .i64 o.rt, .int .i64 (pickI carrier 8), .int .i64 (pickI serial 1000), .int .i64 o.sf, .int .i64 o.st, sv (sealH (keyH o.who) (bareW o holder carrier serial).content)], .int .i64 0]) | 5 => pv (.agg #[.int .i64 o.who, .int .i64 (pickI holder 10), .int .i64 o.rf, .int .i64 o.rt, .int .i64 (pickI carrier 8), .int .i64 (pickI serial 1000), .int .i64 o.sf, .int .i64 o.st, sv (sealH (keyH o.who) (bareW o holder carrier serial).content)]) | 6 => pv (.int .i64 0) | 7 => fun v E => ∃ b, v = ptr b ∧ E = [] | 8 => fun v E => v = undef ∧ E = [] | _ => fun _ _ => False) hfr (H := [blk w1.heap.size [.int .i64 0, .int .i64 0, .int .i64 0, .int .i64 0, .int .i64 0, .int .i64 0, .int .i64 0, .int .i64 0, .string (⟨#[]⟩)] 30, blk w8.heap.size [.int .i64 o.sf, .int .i64 o.st] 28, blk b1 [.int .i64 o.who, .int .i64 (pickI holder 10), .int .i64 o.rf, .int .i64 o.rt, .int .i64 (pickI carrier 8), .int .i64 (pickI serial 1000), .int .i64 o.sf, .int .i64 o.st, .string (⟨#[]⟩)] 30, own v 40 7 ((pxysOf (firstOf holder r0 r1 s0 s1) (ys.take k)).map Pxy.cells)]) hst (by kernel_rfl) (by kernel_rfl) (by kernel_rfl) (by kernel_rfl) (by decide) (by decide) (by decide) (by decide) (by decide) ?_ (fun v E h => h) ⟨rfl, rfl⟩ (fun v E => Iff.rfl) ?_ ?_ ?_ ?_
  ·intro i v E h
   match i, h with
   | 0, _ => exact by decide
   | 1, _ => exact by decide
   | 2, _ => exact by decide
   | 3, _ => exact by decide
   | 4, _ => exact by decide
   | 5, _ => exact by decide
   | 6, _ => exact by decide
   | 7, _ => exact by decide
   | 8, _ => exact by decide
   | i + 9, h => exact h.elim
  ·intro i hi hia hij e
   match i, hi, hia, hij with
   | 0, _, _, _ =>
    intro w hst
    exact OpV.g (v_move rfl)
   | 1, _, _, _ =>
    rintro _ _ ⟨rfl, rfl⟩
    intro w hst
    exact g_callp Tryz.call21 rfl (key_ok o.who _)
   | 2, _, _, _ =>
    intro w hst
    exact OpV.g (v_load_all (hst.get (k := 3) rfl) rfl (Tryz.isAgg30 _) (Tryz.sizeOf30 _))
   | 3, _, _, _ =>
    rintro _ _ ⟨rfl, rfl⟩ _ _ ⟨rfl, rfl⟩
    intro w hst
    exact g_callp Tryz.call23 rfl (rsignwish_ok (keyH o.who) (bareW o holder carrier serial) _ (keyH_len _) hwok)
   | 4, _, _, _ =>
    rintro _ _ ⟨rfl, rfl⟩
    intro w hst
    exact OpV.g (v_move rfl)
   | 5, _, _, _ =>
    rintro _ _ ⟨rfl, rfl⟩
    intro w hst
    exact OpV.g (v_extract rfl rfl)
   | 6, _, _, _ =>
    rintro _ _ ⟨rfl, rfl⟩
    intro w hst
    exact OpV.g (v_extract rfl rfl)
   | 7, _, h, _ => exact absurd rfl h
   | 8, _, _, h => exact absurd rfl h
  ·exact fun Lv w => r_alloc (Tryz.zeroValue30 _)
  ·rintro _ _ ⟨rfl, rfl⟩ _ _ ⟨b7, rfl, rfl⟩
   intro b hb w h
   have hb : some (ptr b7) = some (ptr b) := hb
   cases hb
   exact r_storeU rfl rfl h (Tryz.sizeOf30 _) rfl (Nat.le_of_ble_eq_true rfl) rfl
  clear hfr hst
  rintro bq _ _ ⟨⟨rfl, rfl⟩, -⟩ _ _ ⟨⟨rfl, rfl⟩, -⟩ _ _ ⟨⟨rfl, rfl⟩, -⟩ _ _ ⟨⟨rfl, rfl⟩, -⟩ _ _ ⟨⟨rfl, rfl⟩, -⟩ _ _ ⟨⟨rfl, rfl⟩, -⟩ _ _ ⟨⟨rfl, rfl⟩, -⟩ _ _ ⟨⟨b7, rfl, rfl⟩, hva⟩ a w35 hfr hst
  obtain rfl : b7 = bq := ptr_inj (hva rfl)
  replace hfr : Fr 138 [(130, _), (131, _), (132, _), (133, _), (129, _), (134, _), (135, _), (16, _), (2, _), (3, _), (7, _), (9, _), (8, _), (10, _), (127, _), (128, _)] [] a := hfr
  replace hst : St No w0 [blk b7 [.int .i64 o.who, .int .i64 (pickI holder 10), .int .i64 o.rf, .int .i64 o.rt, .int .i64 (pickI carrier 8), .int .i64 (pickI serial 1000), .int .i64 o.sf, .int .i64 o.st, sv (sealH (keyH o.who) (bareW o holder carrier serial).content)] 30, blk w1.heap.size [.int .i64 0, .int .i64 0, .int .i64 0, .int .i64 0, .int .i64 0, .int .i64 0, .int .i64 0, .int .i64 0, .string (⟨#[]⟩)] 30, blk w8.heap.size [.int .i64 o.sf, .int .i64 o.st] 28, blk b1 [.int .i64 o.who, .int .i64 (pickI holder 10), .int .i64 o.rf, .int .i64 o.rt, .int .i64 (pickI carrier 8), .int .i64 (pickI serial 1000), .int .i64 o.sf, .int .i64 o.st, .string (⟨#[]⟩)] 30, own v 40 7 ((pxysOf (firstOf holder r0 r1 s0 s1) (ys.take k)).map Pxy.cells)] w35 := hst
  refine wl_nil ?_
  refine wd_lin (k := 9) 10 [9] (by kernel_rfl) (by kernel_rfl) (by kernel_rfl) ?_
  refine wla hfr rfl fun a hfr => ?_
  refine wl_nil ?_
  refine wd_end (by kernel_rfl) ?_
  refine hK23 _ _ ?_
  replace hfr : Fr 138 [(2, _), (3, _), (10, _), (16, _)] [] a := hfr.pick [2, 3, 10, 16]
  replace hst : St No w0 [_, _, _] w35 := hst.mask [true, true, false, false, true]
  refine wc_seq_region fun K24 hK24 => ?_
  refine wlv hfr (v_load_all (hst.get (k := 0) rfl) rfl (Tryz.isAgg30 _) (Tryz.sizeOf30 _)) fun a hfr => ?_
  refine wlm hfr rfl fun a hfr => ?_
  refine wl_store 1 hfr hst rfl rfl rfl (Tryz.sizeOf30 _) rfl (Nat.le_of_ble_eq_true rfl) (ds := [.int .i64 o.who, .int .i64 (pickI holder 10), .int .i64 o.rf, .int .i64 o.rt, .int .i64 (pickI carrier 8), .int .i64 (pickI serial 1000), .int .i64 o.sf, .int .i64 o.st, sv (sealH (keyH o.who) (bareW o holder carrier serial).content)]) rfl rfl ?_
  clear hfr hst
  intro a w36 hfr hst
  refine wla hfr rfl fun a hfr => ?_
  refine wl_nil (hK24 _ _ ?_)
  refine wc_ret ?_
  refine fin_ret hfr Tryz.results9 (resAre_cell rfl (res_all (hst.get (k := 1) rfl) (Tryz.isAgg30 _) (Tryz.sizeOf30 _)) (resAre_tmp rfl resAre_nil)) ?_
  rw [hk4] at hst ho
  subst ho
  exact ⟨v, rfl, trivial, hst.ext, St.out (E := [own v 40 7 ((madeL holder r0 r1 s0 s1 ys).map Pxy.cells)]) (H := []) (hst.select [2] (by decide))⟩
 rw [hb2] at hfr
 try simp only [qz] at hb2
 refine wln hfr fun a hfr => ?_
 refine wln hfr fun a hfr => ?_
 refine wlv hfr (v_pick_f rfl rfl) fun a hfr => ?_
 refine wl_nil (hK12 _ _ ?_)
 replace hfr : Fr 138 [(1, _), (2, _), (3, _), (5, _), (7, _), (9, _), (8, _), (10, _), (11, _), (63, _)] [] a := hfr.pick [1, 2, 3, 5, 7, 9, 8, 10, 11, 63]
 refine wc_cond_f hfr rfl ?_
 refine wc_exit ?_
 refine hK9 _ _ ?_
 obtain ⟨ho1, ho2, ho3, ho4, ho5, ho6, ho7, ho8⟩ := id hok
 have hwok := bareW_ok hok holder carrier serial
 have hkm : k = min 4 ys.length := by omega
 have hk4 : ys.take k = ys.take 4 := by rw [hkm]; exact take_min4 ys
 refine wc_seq_region fun K25 hK25 => ?_
 refine wlm hfr rfl fun a hfr => ?_
 refine wlv hfr (v_fieldAddr (v := .pointer (some ⟨b1, 0, none⟩)) rfl (by kernel_rfl)) fun a hfr => ?_
 refine wl_store 4 hfr hst rfl rfl rfl (Tryz.sizeOf3 _) rfl (Nat.le_of_ble_eq_true rfl) (ds := [.int .i64 o.who, .int .i64 (pickI holder 10), .int .i64 0, .int .i64 0, .int .i64 (pickI carrier 8), .int .i64 (pickI serial 1000), .int .i64 0, .int .i64 0, .string (⟨#[]⟩)]) rfl rfl ?_
 clear hfr hst
 intro a w37 hfr hst
 refine wl_nil (hK25 _ _ ?_)
 refine wc_seq_region fun K26 hK26 => ?_
 refine wlv hfr (v_load_all (hst.get (k := 2) rfl) rfl (Tryz.isAgg27 _) (Tryz.sizeOf27 _)) fun a hfr => ?_
 refine wlv hfr (v_fieldAddr (v := .pointer (some ⟨b1, 2, none⟩)) rfl (by kernel_rfl)) fun a hfr => ?_
 refine wl_store 4 hfr hst rfl rfl rfl (Tryz.sizeOf27 _) rfl (Nat.le_of_ble_eq_true rfl) (ds := [.int .i64 o.who, .int .i64 (pickI holder 10), .int .i64 o.rf, .int .i64 o.rt, .int .i64 (pickI carrier 8), .int .i64 (pickI serial 1000), .int .i64 0, .int .i64 0, .string (⟨#[]⟩)]) rfl rfl ?_
 clear hfr hst
 intro a w38 hfr hst
 refine wl_nil (hK26 _ _ ?_)
 replace hfr : Fr 138 [(2, _), (3, _), (7, _), (9, _), (8, _), (10, _)] [] a := hfr.pick [2, 3, 7, 9, 8, 10]
 replace hst : St No w0 [_, _, _, _] w38 := hst.mask [false, true, false, true, true, true]
 refine wc_seq_region fun K27 hK27 => ?_
 refine wlv hfr (v_load_all (hst.get (k := 1) rfl) rfl (Tryz.isAgg28 _) (Tryz.sizeOf28 _)) fun a hfr => ?_
 refine wlv hfr (v_fieldAddr (v := .pointer (some ⟨b1, 6, none⟩)) rfl (by kernel_rfl)) fun a hfr => ?_
 refine wl_store 2 hfr hst rfl rfl rfl (Tryz.sizeOf28 _) rfl (Nat.le_of_ble_eq_true rfl) (ds := [.int .i64 o.who, .int .i64 (pickI holder 10), .int .i64 o.rf, .int .i64 o.rt, .int .i64 (pickI carrier 8), .int .i64 (pickI serial 1000), .int .i64 o.sf, .int .i64 o.st, .string (⟨#[]⟩)]) rfl rfl ?_
 clear hfr hst
 intro a w39 hfr hst
 refine wl_nil (hK27 _ _ ?_)
 refine wc_seq_k fun K28 hK28 => ?_
 refine wc_of_dr (by kernel_rfl) (dr_of_wd (by kernel_rfl) fun w40 hxz => ?_)
 replace hst := hst.grow hxz
 refine wd_sub (k := 0) 9 [6, 8] hfr (by kernel_rfl) (by kernel_rfl) (by kernel_rfl) (by rfl) ?_
 replace hfr : Fr 138 [(2, _), (3, _), (7, _), (9, _), (8, _), (10, _), (127, _), (128, _)] [] a := hfr.pick [2, 3, 7, 9, 8, 10, 127, 128]
 refine wc_phases_new 7 8 30 [.int .i64 0, .int .i64 0, .int .i64 0, .int .i64 0, .int .i64 0, .int .i64 0, .int .i64 0, .int .i64 0, .string (⟨#[]⟩)] [.int .i64 o.who, .int .i64 (pickI holder 10), .int .i64 o.rf, .int .i64 o.rt, .int .i64 (pickI carrier 8), .int .i64 (pickI serial 1000), .int .i64 o.sf, .int .i64 o.st, sv (sealH (keyH o.who) (bareW o holder carrier serial).content)] 9 [[], [0], [], [1, 2], [3], [4], [4], [], [5, 7]] (fun i => match i with | 0 => pv (.int .i64 o.who) | 1 => pv (sv (keyH o.who)) | 2 => pv (.agg #[.int .i64 o.who, .int .i64 (pickI holder 10), .int .i64 o.rf, .int .i64 o.rt, .int .i64 (pickI carrier 8), .int .i64 (pickI serial 1000), .int .i64 o.sf, .int .i64 o.st, .string (⟨#[]⟩)]) | 3 => pv (.tuple #[.agg #[.int .i64 o.who, .int .i64 (pickI holder 10), .int .i64 o.rf, .int .i64 o.rt, .int .i64 (pickI carrier 8), .int .i64 (pickI serial 1000), .int .i64 o.sf, .int .i64 o.st, sv (sealH (keyH o.who) (bareW o holder carrier serial).content)], .int .i64 0]) | 4 => pv (.tuple #[.agg #[.int .i64 o.who, .int .i64 (pickI holder 10), .int .i64 o.rf, .int .i64 o.rt, .int .i64 (pickI carrier 8), .int .i64 (pickI serial 1000), .int .i64 o.sf, .int .i64 o.st, sv (sealH (keyH o.who) (bareW o holder carrier serial).content)], .int .i64 0]) | 5 => pv (.agg #[.int .i64 o.who, .int .i64 (pickI holder 10), .int .i64 o.rf, .int .i64 o.rt, .int .i64 (pickI carrier 8), .int .i64 (pickI serial 1000), .int .i64 o.sf, .int .i64 o.st, sv (sealH (keyH o.who) (bareW o holder carrier serial).content)]) | 6 => pv (.int .i64 0) | 7 => fun v E => ∃ b, v = ptr b ∧ E = [] | 8 => fun v E => v = undef ∧ E = [] | _ => fun _ _ => False) hfr (H := [blk w1.heap.size [.int .i64 0, .int .i64 0, .int .i64 0, .int .i64 0, .int .i64 0, .int .i64 0, .int .i64 0, .int .i64 0, .string (⟨#[]⟩)] 30, blk w8.heap.size [.int .i64 o.sf, .int .i64 o.st] 28, blk b1 [.int .i64 o.who, .int .i64 (pickI holder 10), .int .i64 o.rf, .int .i64 o.rt, .int .i64 (pickI carrier 8), .int .i64 (pickI serial 1000), .int .i64 o.sf, .int .i64 o.st, .string (⟨#[]⟩)] 30, own v 40 7 ((pxysOf (firstOf holder r0 r1 s0 s1) (ys.take k)).map Pxy.cells)]) hst (by kernel_rfl) (by kernel_rfl) (by kernel_rfl) (by kernel_rfl) (by decide) (by decide) (by decide) (by decide) (by decide) ?_ (fun v E h => h) ⟨rfl, rfl⟩ (fun v E => Iff.rfl) ?_ ?_ ?_ ?_
 ·intro i v E h
  match i, h with
  | 0, _ => exact by decide
  | 1, _ => exact by decide
  | 2, _ => exact by decide
  | 3, _ => exact by decide
  | 4, _ => exact by decide
  | 5, _ => exact by decide
  | 6, _ => exact by decide
  | 7, _ => exact by decide
  | 8, _ => exact by decide
  | i + 9, h => exact h.elim
 ·intro i hi hia hij e
  match i, hi, hia, hij with
  | 0, _, _, _ =>
   intro w hst
   exact OpV.g (v_move rfl)
  | 1, _, _, _ =>
   rintro _ _ ⟨rfl, rfl⟩
   intro w hst
   exact g_callp Tryz.call21 rfl (key_ok o.who _)
  | 2, _, _, _ =>
   intro w hst
   exact OpV.g (v_load_all (hst.get (k := 3) rfl) rfl (Tryz.isAgg30 _) (Tryz.sizeOf30 _))
  | 3, _, _, _ =>
   rintro _ _ ⟨rfl, rfl⟩ _ _ ⟨rfl, rfl⟩
   intro w hst
   exact g_callp Tryz.call23 rfl (rsignwish_ok (keyH o.who) (bareW o holder carrier serial) _ (keyH_len _) hwok)
  | 4, _, _, _ =>
   rintro _ _ ⟨rfl, rfl⟩
   intro w hst
   exact OpV.g (v_move rfl)
  | 5, _, _, _ =>
   rintro _ _ ⟨rfl, rfl⟩
   intro w hst
   exact OpV.g (v_extract rfl rfl)
  | 6, _, _, _ =>
   rintro _ _ ⟨rfl, rfl⟩
   intro w hst
   exact OpV.g (v_extract rfl rfl)
  | 7, _, h, _ => exact absurd rfl h
  | 8, _, _, h => exact absurd rfl h
 ·exact fun Lv w => r_alloc (Tryz.zeroValue30 _)
 ·rintro _ _ ⟨rfl, rfl⟩ _ _ ⟨b8, rfl, rfl⟩
  intro b hb w h
  have hb : some (ptr b8) = some (ptr b) := hb
  cases hb
  exact r_storeU rfl rfl h (Tryz.sizeOf30 _) rfl (Nat.le_of_ble_eq_true rfl) rfl
 clear hfr hst
 rintro bq _ _ ⟨⟨rfl, rfl⟩, -⟩ _ _ ⟨⟨rfl, rfl⟩, -⟩ _ _ ⟨⟨rfl, rfl⟩, -⟩ _ _ ⟨⟨rfl, rfl⟩, -⟩ _ _ ⟨⟨rfl, rfl⟩, -⟩ _ _ ⟨⟨rfl, rfl⟩, -⟩ _ _ ⟨⟨rfl, rfl⟩, -⟩ _ _ ⟨⟨b8, rfl, rfl⟩, hva⟩ a w41 hfr hst
 obtain rfl : b8 = bq := ptr_inj (hva rfl)
 replace hfr : Fr 138 [(130, _), (131, _), (132, _), (133, _), (129, _), (134, _), (135, _), (16, _), (2, _), (3, _), (7, _), (9, _), (8, _), (10, _), (127, _), (128, _)] [] a := hfr
 replace hst : St No w0 [blk b8 [.int .i64 o.who, .int .i64 (pickI holder 10), .int .i64 o.rf, .int .i64 o.rt, .int .i64 (pickI carrier 8), .int .i64 (pickI serial 1000), .int .i64 o.sf, .int .i64 o.st, sv (sealH (keyH o.who) (bareW o holder carrier serial).content)] 30, blk w1.heap.size [.int .i64 0, .int .i64 0, .int .i64 0, .int .i64 0, .int .i64 0, .int .i64 0, .int .i64 0, .int .i64 0, .string (⟨#[]⟩)] 30, blk w8.heap.size [.int .i64 o.sf, .int .i64 o.st] 28, blk b1 [.int .i64 o.who, .int .i64 (pickI holder 10), .int .i64 o.rf, .int .i64 o.rt, .int .i64 (pickI carrier 8), .int .i64 (pickI serial 1000), .int .i64 o.sf, .int .i64 o.st, .string (⟨#[]⟩)] 30, own v 40 7 ((pxysOf (firstOf holder r0 r1 s0 s1) (ys.take k)).map Pxy.cells)] w41 := hst
 refine wl_nil ?_
 refine wd_lin (k := 9) 10 [9] (by kernel_rfl) (by kernel_rfl) (by kernel_rfl) ?_
 refine wla hfr rfl fun a hfr => ?_
 refine wl_nil ?_
 refine wd_end (by kernel_rfl) ?_
 refine hK28 _ _ ?_
 replace hfr : Fr 138 [(2, _), (3, _), (10, _), (16, _)] [] a := hfr.pick [2, 3, 10, 16]
 replace hst : St No w0 [_, _, _] w41 := hst.mask [true, true, false, false, true]
 refine wc_seq_region fun K29 hK29 => ?_
 refine wlv hfr (v_load_all (hst.get (k := 0) rfl) rfl (Tryz.isAgg30 _) (Tryz.sizeOf30 _)) fun a hfr => ?_
 refine wlm hfr rfl fun a hfr => ?_
 refine wl_store 1 hfr hst rfl rfl rfl (Tryz.sizeOf30 _) rfl (Nat.le_of_ble_eq_true rfl) (ds := [.int .i64 o.who, .int .i64 (pickI holder 10), .int .i64 o.rf, .int .i64 o.rt, .int .i64 (pickI carrier 8), .int .i64 (pickI serial 1000), .int .i64 o.sf, .int .i64 o.st, sv (sealH (keyH o.who) (bareW o holder carrier serial).content)]) rfl rfl ?_
 clear hfr hst
 intro a w42 hfr hst
 refine wla hfr rfl fun a hfr => ?_
 refine wl_nil (hK29 _ _ ?_)
 refine wc_ret ?_
 refine fin_ret hfr Tryz.results9 (resAre_cell rfl (res_all (hst.get (k := 1) rfl) (Tryz.isAgg30 _) (Tryz.sizeOf30 _)) (resAre_tmp rfl resAre_nil)) ?_
 rw [hk4] at hst ho
 subst ho
 exact ⟨v, rfl, trivial, hst.ext, St.out (E := [own v 40 7 ((madeL holder r0 r1 s0 s1 ys).map Pxy.cells)]) (H := []) (hst.select [2] (by decide))⟩
end Go.Proofs.YtmmfieceinmloaaGreatDoor
