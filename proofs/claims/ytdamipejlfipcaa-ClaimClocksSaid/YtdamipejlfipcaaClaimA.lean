import Derived.Test.YtdamipejlfipcaaRows
import Derived.Test.YtdamipejlfipcaaDrawM
import Derived.Test.YtdamipejlfipcaaClaimP
namespace Go.Proofs.Ytdamipejlfipcaa
open Go.RowKit Go.PW
set_option linter.unusedVariables false
set_option linter.unusedSimpArgs false
set_option maxRecDepth 4000

/-- dialtone/dialtonelaw16.pick -/
theorem pick16_ok (c n : Int) (w0 : World) (hc1 : -9223372036854775808 ≤ c) (hc2 : c ≤ 9223372036854775807) (hn : 0 < n) (hn2 : n ≤ 9223372036854775807) :
    Ret Try.prog 15 #[.int .i64 c, .int .i64 n] w0 fun v w => v = .int .i64 (pick c n) ∧ Ext No w0 w := by
  refine ret_of Try.func15 rfl Try.ntmps15 (Nat.le_of_ble_eq_true rfl) fun a hfr => ?_
  have hfr : Fr 13 [(0, _), (1, _)] [] a := hfr
  have hst : St No w0 [] w0 := St.init w0
  refine wc_seq_region fun K1 hK1 => ?_
  refine wl_v hfr (by decide) (v_assign rfl) fun a hfr => ?_
  refine wl_nil (hK1 _ _ ?_)
  refine wc_seq_k fun K2 hK2 => ?_
  refine wc_seq_region fun K3 hK3 => ?_
  refine wl_v hfr (by decide) (v_move rfl) fun a hfr => ?_
  refine wl_v hfr (by decide) (v_lt rfl rfl) fun a hfr => ?_
  refine wl_nil (hK3 _ _ ?_)
  refine wc_cond hfr rfl (fun hc1 => ?_) (fun hc1 => ?_)
  · rw [hc1] at hfr
    try simp only [Bool.not_eq_true', Bool.not_eq_false', decide_eq_true_eq, decide_eq_false_iff_not] at hc1
    refine wc_region ?_
    refine wl_v hfr (by decide) (v_move rfl) fun a hfr => ?_
    refine wl_v hfr (by decide) (v_add rfl rfl ⟨by omega, by omega⟩) fun a hfr => ?_
    refine wl_v hfr (by decide) (v_neg rfl (by omega) (by omega)) fun a hfr => ?_
    refine wl_v hfr (by decide) (v_assign rfl) fun a hfr => ?_
    refine wl_nil ?_
    refine hK2 _ _ ?_
    refine wc_seq_region fun K4 hK4 => ?_
    refine wl_v hfr (by decide) (v_move rfl) fun a hfr => ?_
    refine wl_v hfr (by decide) (v_move rfl) fun a hfr => ?_
    refine wl_v hfr (by decide) (v_rem rfl rfl (by omega) (by omega)) fun a hfr => ?_
    refine wl_v hfr (by decide) (v_assign rfl) fun a hfr => ?_
    refine wl_nil (hK4 _ _ ?_)
    refine wc_ret ?_
    refine fin_ret hfr Try.results15 (resAre_tmp rfl resAre_nil) ?_
    exact ⟨by simp only [retv, pick]; congr 2; split <;> simp_all <;> omega, hst.ext⟩
  rw [hc1] at hfr
  try simp only [Bool.not_eq_true', Bool.not_eq_false', decide_eq_true_eq, decide_eq_false_iff_not] at hc1
  refine wc_skip ?_
  refine hK2 _ _ ?_
  refine wc_seq_region fun K5 hK5 => ?_
  refine wl_v hfr (by decide) (v_move rfl) fun a hfr => ?_
  refine wl_v hfr (by decide) (v_move rfl) fun a hfr => ?_
  refine wl_v hfr (by decide) (v_rem rfl rfl (by omega) (by omega)) fun a hfr => ?_
  refine wl_v hfr (by decide) (v_assign rfl) fun a hfr => ?_
  refine wl_nil (hK5 _ _ ?_)
  refine wc_ret ?_
  refine fin_ret hfr Try.results15 (resAre_tmp rfl resAre_nil) ?_
  exact ⟨by simp only [retv, pick]; congr 2; split <;> simp_all <;> omega, hst.ext⟩

/-- dialtone/dialtoneref16.pick -/
theorem pickr16_ok (c n : Int) (w0 : World) (hc1 : -9223372036854775808 ≤ c) (hc2 : c ≤ 9223372036854775807) (hn : 0 < n) (hn2 : n ≤ 9223372036854775807) :
    Ret Try.prog 35 #[.int .i64 c, .int .i64 n] w0 fun v w => v = .int .i64 (pick c n) ∧ Ext No w0 w := by
  refine ret_of Try.func35 rfl Try.ntmps35 (Nat.le_of_ble_eq_true rfl) fun a hfr => ?_
  have hfr : Fr 13 [(0, _), (1, _)] [] a := hfr
  have hst : St No w0 [] w0 := St.init w0
  refine wc_seq_region fun K1 hK1 => ?_
  refine wl_v hfr (by decide) (v_assign rfl) fun a hfr => ?_
  refine wl_nil (hK1 _ _ ?_)
  refine wc_seq_k fun K2 hK2 => ?_
  refine wc_seq_region fun K3 hK3 => ?_
  refine wl_v hfr (by decide) (v_move rfl) fun a hfr => ?_
  refine wl_v hfr (by decide) (v_lt rfl rfl) fun a hfr => ?_
  refine wl_nil (hK3 _ _ ?_)
  refine wc_cond hfr rfl (fun hc1 => ?_) (fun hc1 => ?_)
  · rw [hc1] at hfr
    try simp only [Bool.not_eq_true', Bool.not_eq_false', decide_eq_true_eq, decide_eq_false_iff_not] at hc1
    refine wc_region ?_
    refine wl_v hfr (by decide) (v_move rfl) fun a hfr => ?_
    refine wl_v hfr (by decide) (v_add rfl rfl ⟨by omega, by omega⟩) fun a hfr => ?_
    refine wl_v hfr (by decide) (v_neg rfl (by omega) (by omega)) fun a hfr => ?_
    refine wl_v hfr (by decide) (v_assign rfl) fun a hfr => ?_
    refine wl_nil ?_
    refine hK2 _ _ ?_
    refine wc_seq_region fun K4 hK4 => ?_
    refine wl_v hfr (by decide) (v_move rfl) fun a hfr => ?_
    refine wl_v hfr (by decide) (v_move rfl) fun a hfr => ?_
    refine wl_v hfr (by decide) (v_rem rfl rfl (by omega) (by omega)) fun a hfr => ?_
    refine wl_v hfr (by decide) (v_assign rfl) fun a hfr => ?_
    refine wl_nil (hK4 _ _ ?_)
    refine wc_ret ?_
    refine fin_ret hfr Try.results35 (resAre_tmp rfl resAre_nil) ?_
    exact ⟨by simp only [retv, pick]; congr 2; split <;> simp_all <;> omega, hst.ext⟩
  rw [hc1] at hfr
  try simp only [Bool.not_eq_true', Bool.not_eq_false', decide_eq_true_eq, decide_eq_false_iff_not] at hc1
  refine wc_skip ?_
  refine hK2 _ _ ?_
  refine wc_seq_region fun K5 hK5 => ?_
  refine wl_v hfr (by decide) (v_move rfl) fun a hfr => ?_
  refine wl_v hfr (by decide) (v_move rfl) fun a hfr => ?_
  refine wl_v hfr (by decide) (v_rem rfl rfl (by omega) (by omega)) fun a hfr => ?_
  refine wl_v hfr (by decide) (v_assign rfl) fun a hfr => ?_
  refine wl_nil (hK5 _ _ ?_)
  refine wc_ret ?_
  refine fin_ret hfr Try.results35 (resAre_tmp rfl resAre_nil) ?_
  exact ⟨by simp only [retv, pick]; congr 2; split <;> simp_all <;> omega, hst.ext⟩

/-- dialtone/claim.isIn -/
theorem isIn_ok (n lo hi : Int) (w0 : World) :
    Ret Try.prog 40 #[.int .i64 n, .int .i64 lo, .int .i64 hi] w0 fun v w => v = .bool (isIn n lo hi) ∧ Ext No w0 w := by
  refine ret_of Try.func40 rfl Try.ntmps40 (Nat.le_of_ble_eq_true rfl) fun a hfr => ?_
  have hfr : Fr 15 [(0, _), (1, _), (2, _)] [] a := hfr
  have hst : St No w0 [] w0 := St.init w0
  refine wc_seq_region fun K1 hK1 => ?_
  refine wl_v hfr (by decide) (v_assign rfl) fun a hfr => ?_
  refine wl_nil (hK1 _ _ ?_)
  refine wc_seq_region fun K2 hK2 => ?_
  refine wl_v hfr (by decide) (v_move rfl) fun a hfr => ?_
  refine wl_v hfr (by decide) (v_move rfl) fun a hfr => ?_
  refine wl_v hfr (by decide) (v_le rfl rfl) fun a hfr => ?_
  refine wl_v hfr (by decide) (v_move rfl) fun a hfr => ?_
  rcases Bool.eq_false_or_eq_true (decide (lo ≤ n)) with hb1 | hb1
  · rw [hb1] at hfr
    try simp only [Bool.not_eq_true', Bool.not_eq_false', decide_eq_true_eq, decide_eq_false_iff_not] at hb1
    refine wl_vy hfr (by decide) rfl (by decide) rfl (v_move rfl) fun a hfr => ?_
    refine wl_vy hfr (by decide) rfl (by decide) rfl (v_move rfl) fun a hfr => ?_
    refine wl_vy hfr (by decide) rfl (by decide) rfl (v_le rfl rfl) fun a hfr => ?_
    refine wl_v hfr (by decide) (v_pick_t rfl rfl) fun a hfr => ?_
    refine wl_v hfr (by decide) (v_assign rfl) fun a hfr => ?_
    refine wl_nil (hK2 _ _ ?_)
    have hfr : Fr 15 [(0, _), (1, _), (2, _), (6, _)] [] a := hfr.pick [0, 1, 2, 6]
    refine wc_ret ?_
    refine fin_ret hfr Try.results40 (resAre_tmp rfl resAre_nil) ?_
    exact ⟨by simp [retv, isIn, *], hst.ext⟩
  rw [hb1] at hfr
  try simp only [Bool.not_eq_true', Bool.not_eq_false', decide_eq_true_eq, decide_eq_false_iff_not] at hb1
  refine wl_vn hfr (by decide) rfl (by decide) rfl rfl fun a hfr => ?_
  refine wl_vn hfr (by decide) rfl (by decide) rfl rfl fun a hfr => ?_
  refine wl_vn hfr (by decide) rfl (by decide) rfl rfl fun a hfr => ?_
  refine wl_v hfr (by decide) (v_pick_f rfl rfl) fun a hfr => ?_
  refine wl_v hfr (by decide) (v_assign rfl) fun a hfr => ?_
  refine wl_nil (hK2 _ _ ?_)
  have hfr : Fr 15 [(0, _), (1, _), (2, _), (6, _)] [] a := hfr.pick [0, 1, 2, 6]
  refine wc_ret ?_
  refine fin_ret hfr Try.results40 (resAre_tmp rfl resAre_nil) ?_
  exact ⟨by simp [retv, isIn, *], hst.ext⟩

/-- (dialtone/claim.rules).areValid -/
theorem areValid_ok (ra rc rs rr : Int) (w0 : World) :
    Ret Try.prog 37 #[.agg #[.int .i64 ra, .int .i64 rc, .int .i64 rs, .int .i64 rr]] w0 fun v w => v = .bool (areValid ⟨ra, rc, rs, rr⟩) ∧ Ext No w0 w := by
  refine ret_of Try.func37 rfl Try.ntmps37 (Nat.le_of_ble_eq_true rfl) fun a hfr => ?_
  have hfr : Fr 23 [(0, _)] [] a := hfr
  have hst : St No w0 [] w0 := St.init w0
  refine wc_seq_region fun K1 hK1 => ?_
  refine wl_box hfr hst (by decide) rfl (cs := [.int .i64 ra, .int .i64 rc, .int .i64 rs, .int .i64 rr]) rfl fun a w1 hfr hst => ?_
  refine wl_v hfr (by decide) (v_assign rfl) fun a hfr => ?_
  refine wl_nil (hK1 _ _ ?_)
  refine wc_seq_k fun K2 hK2 => ?_
  refine wc_seq_region fun K3 hK3 => ?_
  refine wl_v hfr (by decide) (v_fieldAddr (v := .pointer (some ⟨w0.heap.size, 0, none⟩)) rfl (by kernel_rfl)) fun a hfr => ?_
  refine wl_v hfr (by decide) (v_load_blk1 (hst.get (k := 0) rfl) rfl (Try.isAgg3 _) rfl) fun a hfr => ?_
  refine wl_v hfr (by decide) (v_fieldAddr (v := .pointer (some ⟨w0.heap.size, 2, none⟩)) rfl (by kernel_rfl)) fun a hfr => ?_
  refine wl_v hfr (by decide) (v_load_blk1 (hst.get (k := 0) rfl) rfl (Try.isAgg3 _) rfl) fun a hfr => ?_
  refine wl_v hfr (by decide) (v_fieldAddr (v := .pointer (some ⟨w0.heap.size, 1, none⟩)) rfl (by kernel_rfl)) fun a hfr => ?_
  refine wl_v hfr (by decide) (v_load_blk1 (hst.get (k := 0) rfl) rfl (Try.isAgg3 _) rfl) fun a hfr => ?_
  refine wl_v hfr (by decide) (v_fieldAddr (v := .pointer (some ⟨w0.heap.size, 3, none⟩)) rfl (by kernel_rfl)) fun a hfr => ?_
  refine wl_v hfr (by decide) (v_load_blk1 (hst.get (k := 0) rfl) rfl (Try.isAgg3 _) rfl) fun a hfr => ?_
  refine wl_buildSlice (E := 3) (sz := 1) rfl [[.int .i64 ra], [.int .i64 rs], [.int .i64 rc], [.int .i64 rr]] (by kernel_rfl) (by simp) rfl (by decide) (by decide) hfr hst fun a w2 hfr hst => ?_
  refine wl_v hfr (by decide) ((v_len_sl (sT := 49) (hst.ownAt (i := 0) rfl) rfl rfl (Try.runUnderlying49 _)).asi (m' := 4) (by rfl)) fun a hfr => ?_
  refine wl_v hfr (by decide) (v_move rfl) fun a hfr => ?_
  refine wl_nil (hK3 _ _ ?_)
  have hfr : Fr 23 [(0, _), (1, _), (2, _), (13, _), (14, _), (15, _)] [] a := hfr.pick [0, 1, 2, 13, 14, 15]
  refine wc_block ?_
  refine wc_rounds 5 ?_
  refine wr_succ ?_
  refine wc_seq_region fun K4 hK4 => ?_
  refine wl_v hfr (by decide) ((v_lt rfl rfl).asb (b' := true) rfl) fun a hfr => ?_
  refine wl_nil (hK4 _ _ ?_)
  refine wc_seq_k fun K5 hK5 => ?_
  refine wc_cond_t hfr rfl ?_
  refine wc_skip ?_
  refine hK5 _ _ ?_
  refine wc_seq_k fun K6 hK6 => ?_
  refine wc_block ?_
  refine wc_seq_region fun K7 hK7 => ?_
  refine wl_v hfr (by decide) ((v_indexAddr_sl (i := 0) (sT := 49) (hst.ownAt (i := 0) rfl) rfl rfl (Try.runUnderlying49 _) (Try.sizeOf3 _) (by omega) (by simp)).as (v' := slAddr (.slice (some ⟨w1.heap.size, 0, none⟩) 4 4) (0 * 1)) rfl) fun a hfr => ?_
  refine wl_v hfr (by decide) (v_load_sl1 (u := .int .i64 ra) (i := 0) (j := 0) (hst.ownAt (i := 0) rfl) (by simp) rfl (Try.isAgg3 _) (by rfl)) fun a hfr => ?_
  refine wl_v hfr (by decide) (v_assign rfl) fun a hfr => ?_
  refine wl_nil (hK7 _ _ ?_)
  refine wc_seq_region fun K8 hK8 => ?_
  refine wl_v hfr (by decide) (v_move rfl) fun a hfr => ?_
  refine wl_callp hfr hst (by decide) Try.call40 rfl (isIn_ok _ _ _ _) fun a w3 hfr hst => ?_
  refine wl_v hfr (by decide) (v_not rfl) fun a hfr => ?_
  refine wl_nil (hK8 _ _ ?_)
  refine wc_cond hfr rfl (fun hc1 => ?_) (fun hc1 => ?_)
  · rw [hc1] at hfr
    try simp only [Bool.not_eq_true', Bool.not_eq_false', decide_eq_true_eq, decide_eq_false_iff_not] at hc1
    refine wc_seq_region fun K9 hK9 => ?_
    refine wl_v hfr (by decide) (v_assign rfl) fun a hfr => ?_
    refine wl_nil (hK9 _ _ ?_)
    refine wc_ret ?_
    refine fin_ret hfr Try.results37 (resAre_tmp rfl resAre_nil) ?_
    exact ⟨by simp [retv, areValid, *], hst.ext⟩
  rw [hc1] at hfr
  try simp only [Bool.not_eq_true', Bool.not_eq_false', decide_eq_true_eq, decide_eq_false_iff_not] at hc1
  refine wc_skip ?_
  refine hK6 _ _ ?_
  refine wc_region ?_
  refine wl_v hfr (by decide) ((v_add rfl rfl (by decide)).asi (m' := 1) rfl) fun a hfr => ?_
  refine wl_v hfr (by decide) (v_move rfl) fun a hfr => ?_
  refine wl_nil ?_
  refine wr_succ ?_
  refine wc_seq_region fun K10 hK10 => ?_
  refine wl_v hfr (by decide) ((v_lt rfl rfl).asb (b' := true) rfl) fun a hfr => ?_
  refine wl_nil (hK10 _ _ ?_)
  refine wc_seq_k fun K11 hK11 => ?_
  refine wc_cond_t hfr rfl ?_
  refine wc_skip ?_
  refine hK11 _ _ ?_
  refine wc_seq_k fun K12 hK12 => ?_
  refine wc_block ?_
  refine wc_seq_region fun K13 hK13 => ?_
  refine wl_v hfr (by decide) ((v_indexAddr_sl (i := 1) (sT := 49) (hst.ownAt (i := 0) rfl) rfl rfl (Try.runUnderlying49 _) (Try.sizeOf3 _) (by omega) (by simp)).as (v' := slAddr (.slice (some ⟨w1.heap.size, 0, none⟩) 4 4) (1 * 1)) rfl) fun a hfr => ?_
  refine wl_v hfr (by decide) (v_load_sl1 (u := .int .i64 rs) (i := 1) (j := 0) (hst.ownAt (i := 0) rfl) (by simp) rfl (Try.isAgg3 _) (by rfl)) fun a hfr => ?_
  refine wl_v hfr (by decide) (v_assign rfl) fun a hfr => ?_
  refine wl_nil (hK13 _ _ ?_)
  refine wc_seq_region fun K14 hK14 => ?_
  refine wl_v hfr (by decide) (v_move rfl) fun a hfr => ?_
  refine wl_callp hfr hst (by decide) Try.call40 rfl (isIn_ok _ _ _ _) fun a w4 hfr hst => ?_
  refine wl_v hfr (by decide) (v_not rfl) fun a hfr => ?_
  refine wl_nil (hK14 _ _ ?_)
  refine wc_cond hfr rfl (fun hc2 => ?_) (fun hc2 => ?_)
  · rw [hc2] at hfr
    try simp only [Bool.not_eq_true', Bool.not_eq_false', decide_eq_true_eq, decide_eq_false_iff_not] at hc2
    refine wc_seq_region fun K15 hK15 => ?_
    refine wl_v hfr (by decide) (v_assign rfl) fun a hfr => ?_
    refine wl_nil (hK15 _ _ ?_)
    refine wc_ret ?_
    refine fin_ret hfr Try.results37 (resAre_tmp rfl resAre_nil) ?_
    exact ⟨by simp [retv, areValid, *], hst.ext⟩
  rw [hc2] at hfr
  try simp only [Bool.not_eq_true', Bool.not_eq_false', decide_eq_true_eq, decide_eq_false_iff_not] at hc2
  refine wc_skip ?_
  refine hK12 _ _ ?_
  refine wc_region ?_
  refine wl_v hfr (by decide) ((v_add rfl rfl (by decide)).asi (m' := 2) rfl) fun a hfr => ?_
  refine wl_v hfr (by decide) (v_move rfl) fun a hfr => ?_
  refine wl_nil ?_
  refine wr_succ ?_
  refine wc_seq_region fun K16 hK16 => ?_
  refine wl_v hfr (by decide) ((v_lt rfl rfl).asb (b' := true) rfl) fun a hfr => ?_
  refine wl_nil (hK16 _ _ ?_)
  refine wc_seq_k fun K17 hK17 => ?_
  refine wc_cond_t hfr rfl ?_
  refine wc_skip ?_
  refine hK17 _ _ ?_
  refine wc_seq_k fun K18 hK18 => ?_
  refine wc_block ?_
  refine wc_seq_region fun K19 hK19 => ?_
  refine wl_v hfr (by decide) ((v_indexAddr_sl (i := 2) (sT := 49) (hst.ownAt (i := 0) rfl) rfl rfl (Try.runUnderlying49 _) (Try.sizeOf3 _) (by omega) (by simp)).as (v' := slAddr (.slice (some ⟨w1.heap.size, 0, none⟩) 4 4) (2 * 1)) rfl) fun a hfr => ?_
  refine wl_v hfr (by decide) (v_load_sl1 (u := .int .i64 rc) (i := 2) (j := 0) (hst.ownAt (i := 0) rfl) (by simp) rfl (Try.isAgg3 _) (by rfl)) fun a hfr => ?_
  refine wl_v hfr (by decide) (v_assign rfl) fun a hfr => ?_
  refine wl_nil (hK19 _ _ ?_)
  refine wc_seq_region fun K20 hK20 => ?_
  refine wl_v hfr (by decide) (v_move rfl) fun a hfr => ?_
  refine wl_callp hfr hst (by decide) Try.call40 rfl (isIn_ok _ _ _ _) fun a w5 hfr hst => ?_
  refine wl_v hfr (by decide) (v_not rfl) fun a hfr => ?_
  refine wl_nil (hK20 _ _ ?_)
  refine wc_cond hfr rfl (fun hc3 => ?_) (fun hc3 => ?_)
  · rw [hc3] at hfr
    try simp only [Bool.not_eq_true', Bool.not_eq_false', decide_eq_true_eq, decide_eq_false_iff_not] at hc3
    refine wc_seq_region fun K21 hK21 => ?_
    refine wl_v hfr (by decide) (v_assign rfl) fun a hfr => ?_
    refine wl_nil (hK21 _ _ ?_)
    refine wc_ret ?_
    refine fin_ret hfr Try.results37 (resAre_tmp rfl resAre_nil) ?_
    exact ⟨by simp [retv, areValid, *], hst.ext⟩
  rw [hc3] at hfr
  try simp only [Bool.not_eq_true', Bool.not_eq_false', decide_eq_true_eq, decide_eq_false_iff_not] at hc3
  refine wc_skip ?_
  refine hK18 _ _ ?_
  refine wc_region ?_
  refine wl_v hfr (by decide) ((v_add rfl rfl (by decide)).asi (m' := 3) rfl) fun a hfr => ?_
  refine wl_v hfr (by decide) (v_move rfl) fun a hfr => ?_
  refine wl_nil ?_
  refine wr_succ ?_
  refine wc_seq_region fun K22 hK22 => ?_
  refine wl_v hfr (by decide) ((v_lt rfl rfl).asb (b' := true) rfl) fun a hfr => ?_
  refine wl_nil (hK22 _ _ ?_)
  refine wc_seq_k fun K23 hK23 => ?_
  refine wc_cond_t hfr rfl ?_
  refine wc_skip ?_
  refine hK23 _ _ ?_
  refine wc_seq_k fun K24 hK24 => ?_
  refine wc_block ?_
  refine wc_seq_region fun K25 hK25 => ?_
  refine wl_v hfr (by decide) ((v_indexAddr_sl (i := 3) (sT := 49) (hst.ownAt (i := 0) rfl) rfl rfl (Try.runUnderlying49 _) (Try.sizeOf3 _) (by omega) (by simp)).as (v' := slAddr (.slice (some ⟨w1.heap.size, 0, none⟩) 4 4) (3 * 1)) rfl) fun a hfr => ?_
  refine wl_v hfr (by decide) (v_load_sl1 (u := .int .i64 rr) (i := 3) (j := 0) (hst.ownAt (i := 0) rfl) (by simp) rfl (Try.isAgg3 _) (by rfl)) fun a hfr => ?_
  refine wl_v hfr (by decide) (v_assign rfl) fun a hfr => ?_
  refine wl_nil (hK25 _ _ ?_)
  refine wc_seq_region fun K26 hK26 => ?_
  refine wl_v hfr (by decide) (v_move rfl) fun a hfr => ?_
  refine wl_callp hfr hst (by decide) Try.call40 rfl (isIn_ok _ _ _ _) fun a w6 hfr hst => ?_
  refine wl_v hfr (by decide) (v_not rfl) fun a hfr => ?_
  refine wl_nil (hK26 _ _ ?_)
  refine wc_cond hfr rfl (fun hc4 => ?_) (fun hc4 => ?_)
  · rw [hc4] at hfr
    try simp only [Bool.not_eq_true', Bool.not_eq_false', decide_eq_true_eq, decide_eq_false_iff_not] at hc4
    refine wc_seq_region fun K27 hK27 => ?_
    refine wl_v hfr (by decide) (v_assign rfl) fun a hfr => ?_
    refine wl_nil (hK27 _ _ ?_)
    refine wc_ret ?_
    refine fin_ret hfr Try.results37 (resAre_tmp rfl resAre_nil) ?_
    exact ⟨by simp [retv, areValid, *], hst.ext⟩
  rw [hc4] at hfr
  try simp only [Bool.not_eq_true', Bool.not_eq_false', decide_eq_true_eq, decide_eq_false_iff_not] at hc4
  refine wc_skip ?_
  refine hK24 _ _ ?_
  refine wc_region ?_
  refine wl_v hfr (by decide) ((v_add rfl rfl (by decide)).asi (m' := 4) rfl) fun a hfr => ?_
  refine wl_v hfr (by decide) (v_move rfl) fun a hfr => ?_
  refine wl_nil ?_
  refine wr_succ ?_
  refine wc_seq_region fun K28 hK28 => ?_
  refine wl_v hfr (by decide) ((v_lt rfl rfl).asb (b' := false) rfl) fun a hfr => ?_
  refine wl_nil (hK28 _ _ ?_)
  refine wc_seq_k fun K29 hK29 => ?_
  refine wc_cond_f hfr rfl ?_
  refine wc_exit ?_
  refine hK2 _ _ ?_
  refine wc_seq_region fun K30 hK30 => ?_
  refine wl_v hfr (by decide) (v_assign rfl) fun a hfr => ?_
  refine wl_nil (hK30 _ _ ?_)
  refine wc_ret ?_
  refine fin_ret hfr Try.results37 (resAre_tmp rfl resAre_nil) ?_
  exact ⟨by simp [retv, areValid, *], hst.ext⟩

/-- dialtone/claim.isClaim -/
theorem isClaim_ok (cl : Clm) (w0 : World) :
    Ret Try.prog 38 #[.agg #[.int .i64 cl.number, .int .i64 cl.frm, .int .i64 cl.to, .int .i64 cl.holder, .int .i64 cl.asked, .bool cl.backed]] w0 fun v w => v = .bool (isClaim cl) ∧ Ext No w0 w := by
  refine ret_of Try.func38 rfl Try.ntmps38 (Nat.le_of_ble_eq_true rfl) fun a hfr => ?_
  have hfr : Fr 33 [(0, _)] [] a := hfr
  have hst : St No w0 [] w0 := St.init w0
  refine wc_seq_region fun K1 hK1 => ?_
  refine wl_box hfr hst (by decide) rfl (cs := [.int .i64 cl.number, .int .i64 cl.frm, .int .i64 cl.to, .int .i64 cl.holder, .int .i64 cl.asked, .bool cl.backed]) rfl fun a w1 hfr hst => ?_
  refine wl_v hfr (by decide) (v_assign rfl) fun a hfr => ?_
  refine wl_nil (hK1 _ _ ?_)
  refine wc_seq_region fun K2 hK2 => ?_
  refine wl_v hfr (by decide) (v_fieldAddr (v := .pointer (some ⟨w0.heap.size, 0, none⟩)) rfl (by kernel_rfl)) fun a hfr => ?_
  refine wl_v hfr (by decide) (v_load_blk1 (hst.get (k := 0) rfl) rfl (Try.isAgg3 _) rfl) fun a hfr => ?_
  refine wl_callp hfr hst (by decide) Try.call40 rfl (isIn_ok _ _ _ _) fun a w2 hfr hst => ?_
  refine wl_v hfr (by decide) (v_move rfl) fun a hfr => ?_
  rcases Bool.eq_false_or_eq_true (isIn cl.number 0 99999999) with hb1 | hb1
  · rw [hb1] at hfr
    try simp only [Bool.not_eq_true', Bool.not_eq_false', decide_eq_true_eq, decide_eq_false_iff_not] at hb1
    refine wl_vy hfr (by decide) rfl (by decide) rfl (v_fieldAddr (v := .pointer (some ⟨w0.heap.size, 1, none⟩)) rfl (by kernel_rfl)) fun a hfr => ?_
    refine wl_vy hfr (by decide) rfl (by decide) rfl (v_load_blk1 (hst.get (k := 0) rfl) rfl (Try.isAgg3 _) rfl) fun a hfr => ?_
    refine wl_callpy hfr hst (by decide) rfl (by decide) rfl Try.call40 rfl (isIn_ok _ _ _ _) fun a w3 hfr hst => ?_
    refine wl_v hfr (by decide) (v_pick_t rfl rfl) fun a hfr => ?_
    refine wl_v hfr (by decide) (v_move rfl) fun a hfr => ?_
    rcases Bool.eq_false_or_eq_true (isIn cl.frm 0 7) with hb2 | hb2
    · rw [hb2] at hfr
      try simp only [Bool.not_eq_true', Bool.not_eq_false', decide_eq_true_eq, decide_eq_false_iff_not] at hb2
      refine wl_vy hfr (by decide) rfl (by decide) rfl (v_fieldAddr (v := .pointer (some ⟨w0.heap.size, 2, none⟩)) rfl (by kernel_rfl)) fun a hfr => ?_
      refine wl_vy hfr (by decide) rfl (by decide) rfl (v_load_blk1 (hst.get (k := 0) rfl) rfl (Try.isAgg3 _) rfl) fun a hfr => ?_
      refine wl_callpy hfr hst (by decide) rfl (by decide) rfl Try.call40 rfl (isIn_ok _ _ _ _) fun a w4 hfr hst => ?_
      refine wl_v hfr (by decide) (v_pick_t rfl rfl) fun a hfr => ?_
      refine wl_v hfr (by decide) (v_move rfl) fun a hfr => ?_
      rcases Bool.eq_false_or_eq_true (isIn cl.to 0 7) with hb3 | hb3
      · rw [hb3] at hfr
        try simp only [Bool.not_eq_true', Bool.not_eq_false', decide_eq_true_eq, decide_eq_false_iff_not] at hb3
        refine wl_vy hfr (by decide) rfl (by decide) rfl (v_fieldAddr (v := .pointer (some ⟨w0.heap.size, 1, none⟩)) rfl (by kernel_rfl)) fun a hfr => ?_
        refine wl_vy hfr (by decide) rfl (by decide) rfl (v_load_blk1 (hst.get (k := 0) rfl) rfl (Try.isAgg3 _) rfl) fun a hfr => ?_
        refine wl_vy hfr (by decide) rfl (by decide) rfl (v_fieldAddr (v := .pointer (some ⟨w0.heap.size, 2, none⟩)) rfl (by kernel_rfl)) fun a hfr => ?_
        refine wl_vy hfr (by decide) rfl (by decide) rfl (v_load_blk1 (hst.get (k := 0) rfl) rfl (Try.isAgg3 _) rfl) fun a hfr => ?_
        refine wl_vy hfr (by decide) rfl (by decide) rfl (v_ne rfl rfl) fun a hfr => ?_
        refine wl_v hfr (by decide) (v_pick_t rfl rfl) fun a hfr => ?_
        refine wl_v hfr (by decide) (v_move rfl) fun a hfr => ?_
        rcases Bool.eq_false_or_eq_true (!decide (cl.frm = cl.to)) with hb4 | hb4
        · rw [hb4] at hfr
          try simp only [Bool.not_eq_true', Bool.not_eq_false', decide_eq_true_eq, decide_eq_false_iff_not] at hb4
          refine wl_vy hfr (by decide) rfl (by decide) rfl (v_fieldAddr (v := .pointer (some ⟨w0.heap.size, 3, none⟩)) rfl (by kernel_rfl)) fun a hfr => ?_
          refine wl_vy hfr (by decide) rfl (by decide) rfl (v_load_blk1 (hst.get (k := 0) rfl) rfl (Try.isAgg3 _) rfl) fun a hfr => ?_
          refine wl_callpy hfr hst (by decide) rfl (by decide) rfl Try.call40 rfl (isIn_ok _ _ _ _) fun a w5 hfr hst => ?_
          refine wl_v hfr (by decide) (v_pick_t rfl rfl) fun a hfr => ?_
          refine wl_v hfr (by decide) (v_move rfl) fun a hfr => ?_
          rcases Bool.eq_false_or_eq_true (isIn cl.holder 0 63) with hb5 | hb5
          · rw [hb5] at hfr
            try simp only [Bool.not_eq_true', Bool.not_eq_false', decide_eq_true_eq, decide_eq_false_iff_not] at hb5
            refine wl_vy hfr (by decide) rfl (by decide) rfl (v_fieldAddr (v := .pointer (some ⟨w0.heap.size, 4, none⟩)) rfl (by kernel_rfl)) fun a hfr => ?_
            refine wl_vy hfr (by decide) rfl (by decide) rfl (v_load_blk1 (hst.get (k := 0) rfl) rfl (Try.isAgg3 _) rfl) fun a hfr => ?_
            refine wl_callpy hfr hst (by decide) rfl (by decide) rfl Try.call40 rfl (isIn_ok _ _ _ _) fun a w6 hfr hst => ?_
            refine wl_v hfr (by decide) (v_pick_t rfl rfl) fun a hfr => ?_
            refine wl_v hfr (by decide) (v_assign rfl) fun a hfr => ?_
            refine wl_nil (hK2 _ _ ?_)
            have hfr : Fr 33 [(0, _), (1, _), (2, _)] [] a := hfr.pick [0, 1, 2]
            refine wc_ret ?_
            refine fin_ret hfr Try.results38 (resAre_tmp rfl resAre_nil) ?_
            exact ⟨by simp [retv, isClaim, *], hst.ext⟩
          rw [hb5] at hfr
          try simp only [Bool.not_eq_true', Bool.not_eq_false', decide_eq_true_eq, decide_eq_false_iff_not] at hb5
          refine wl_vn hfr (by decide) rfl (by decide) rfl rfl fun a hfr => ?_
          refine wl_vn hfr (by decide) rfl (by decide) rfl rfl fun a hfr => ?_
          refine wl_vn hfr (by decide) rfl (by decide) rfl rfl fun a hfr => ?_
          refine wl_v hfr (by decide) (v_pick_f rfl rfl) fun a hfr => ?_
          refine wl_v hfr (by decide) (v_assign rfl) fun a hfr => ?_
          refine wl_nil (hK2 _ _ ?_)
          have hfr : Fr 33 [(0, _), (1, _), (2, _)] [] a := hfr.pick [0, 1, 2]
          refine wc_ret ?_
          refine fin_ret hfr Try.results38 (resAre_tmp rfl resAre_nil) ?_
          exact ⟨by simp [retv, isClaim, *], hst.ext⟩
        rw [hb4] at hfr
        try simp only [Bool.not_eq_true', Bool.not_eq_false', decide_eq_true_eq, decide_eq_false_iff_not] at hb4
        refine wl_vn hfr (by decide) rfl (by decide) rfl rfl fun a hfr => ?_
        refine wl_vn hfr (by decide) rfl (by decide) rfl rfl fun a hfr => ?_
        refine wl_vn hfr (by decide) rfl (by decide) rfl rfl fun a hfr => ?_
        refine wl_v hfr (by decide) (v_pick_f rfl rfl) fun a hfr => ?_
        refine wl_v hfr (by decide) (v_move rfl) fun a hfr => ?_
        refine wl_vn hfr (by decide) rfl (by decide) rfl rfl fun a hfr => ?_
        refine wl_vn hfr (by decide) rfl (by decide) rfl rfl fun a hfr => ?_
        refine wl_vn hfr (by decide) rfl (by decide) rfl rfl fun a hfr => ?_
        refine wl_v hfr (by decide) (v_pick_f rfl rfl) fun a hfr => ?_
        refine wl_v hfr (by decide) (v_assign rfl) fun a hfr => ?_
        refine wl_nil (hK2 _ _ ?_)
        have hfr : Fr 33 [(0, _), (1, _), (2, _)] [] a := hfr.pick [0, 1, 2]
        refine wc_ret ?_
        refine fin_ret hfr Try.results38 (resAre_tmp rfl resAre_nil) ?_
        exact ⟨by simp [retv, isClaim, *], hst.ext⟩
      rw [hb3] at hfr
      try simp only [Bool.not_eq_true', Bool.not_eq_false', decide_eq_true_eq, decide_eq_false_iff_not] at hb3
      refine wl_vn hfr (by decide) rfl (by decide) rfl rfl fun a hfr => ?_
      refine wl_vn hfr (by decide) rfl (by decide) rfl rfl fun a hfr => ?_
      refine wl_vn hfr (by decide) rfl (by decide) rfl rfl fun a hfr => ?_
      refine wl_vn hfr (by decide) rfl (by decide) rfl rfl fun a hfr => ?_
      refine wl_vn hfr (by decide) rfl (by decide) rfl rfl fun a hfr => ?_
      refine wl_v hfr (by decide) (v_pick_f rfl rfl) fun a hfr => ?_
      refine wl_v hfr (by decide) (v_move rfl) fun a hfr => ?_
      refine wl_vn hfr (by decide) rfl (by decide) rfl rfl fun a hfr => ?_
      refine wl_vn hfr (by decide) rfl (by decide) rfl rfl fun a hfr => ?_
      refine wl_vn hfr (by decide) rfl (by decide) rfl rfl fun a hfr => ?_
      refine wl_v hfr (by decide) (v_pick_f rfl rfl) fun a hfr => ?_
      refine wl_v hfr (by decide) (v_move rfl) fun a hfr => ?_
      refine wl_vn hfr (by decide) rfl (by decide) rfl rfl fun a hfr => ?_
      refine wl_vn hfr (by decide) rfl (by decide) rfl rfl fun a hfr => ?_
      refine wl_vn hfr (by decide) rfl (by decide) rfl rfl fun a hfr => ?_
      refine wl_v hfr (by decide) (v_pick_f rfl rfl) fun a hfr => ?_
      refine wl_v hfr (by decide) (v_assign rfl) fun a hfr => ?_
      refine wl_nil (hK2 _ _ ?_)
      have hfr : Fr 33 [(0, _), (1, _), (2, _)] [] a := hfr.pick [0, 1, 2]
      refine wc_ret ?_
      refine fin_ret hfr Try.results38 (resAre_tmp rfl resAre_nil) ?_
      exact ⟨by simp [retv, isClaim, *], hst.ext⟩
    rw [hb2] at hfr
    try simp only [Bool.not_eq_true', Bool.not_eq_false', decide_eq_true_eq, decide_eq_false_iff_not] at hb2
    refine wl_vn hfr (by decide) rfl (by decide) rfl rfl fun a hfr => ?_
    refine wl_vn hfr (by decide) rfl (by decide) rfl rfl fun a hfr => ?_
    refine wl_vn hfr (by decide) rfl (by decide) rfl rfl fun a hfr => ?_
    refine wl_v hfr (by decide) (v_pick_f rfl rfl) fun a hfr => ?_
    refine wl_v hfr (by decide) (v_move rfl) fun a hfr => ?_
    refine wl_vn hfr (by decide) rfl (by decide) rfl rfl fun a hfr => ?_
    refine wl_vn hfr (by decide) rfl (by decide) rfl rfl fun a hfr => ?_
    refine wl_vn hfr (by decide) rfl (by decide) rfl rfl fun a hfr => ?_
    refine wl_vn hfr (by decide) rfl (by decide) rfl rfl fun a hfr => ?_
    refine wl_vn hfr (by decide) rfl (by decide) rfl rfl fun a hfr => ?_
    refine wl_v hfr (by decide) (v_pick_f rfl rfl) fun a hfr => ?_
    refine wl_v hfr (by decide) (v_move rfl) fun a hfr => ?_
    refine wl_vn hfr (by decide) rfl (by decide) rfl rfl fun a hfr => ?_
    refine wl_vn hfr (by decide) rfl (by decide) rfl rfl fun a hfr => ?_
    refine wl_vn hfr (by decide) rfl (by decide) rfl rfl fun a hfr => ?_
    refine wl_v hfr (by decide) (v_pick_f rfl rfl) fun a hfr => ?_
    refine wl_v hfr (by decide) (v_move rfl) fun a hfr => ?_
    refine wl_vn hfr (by decide) rfl (by decide) rfl rfl fun a hfr => ?_
    refine wl_vn hfr (by decide) rfl (by decide) rfl rfl fun a hfr => ?_
    refine wl_vn hfr (by decide) rfl (by decide) rfl rfl fun a hfr => ?_
    refine wl_v hfr (by decide) (v_pick_f rfl rfl) fun a hfr => ?_
    refine wl_v hfr (by decide) (v_assign rfl) fun a hfr => ?_
    refine wl_nil (hK2 _ _ ?_)
    have hfr : Fr 33 [(0, _), (1, _), (2, _)] [] a := hfr.pick [0, 1, 2]
    refine wc_ret ?_
    refine fin_ret hfr Try.results38 (resAre_tmp rfl resAre_nil) ?_
    exact ⟨by simp [retv, isClaim, *], hst.ext⟩
  rw [hb1] at hfr
  try simp only [Bool.not_eq_true', Bool.not_eq_false', decide_eq_true_eq, decide_eq_false_iff_not] at hb1
  refine wl_vn hfr (by decide) rfl (by decide) rfl rfl fun a hfr => ?_
  refine wl_vn hfr (by decide) rfl (by decide) rfl rfl fun a hfr => ?_
  refine wl_vn hfr (by decide) rfl (by decide) rfl rfl fun a hfr => ?_
  refine wl_v hfr (by decide) (v_pick_f rfl rfl) fun a hfr => ?_
  refine wl_v hfr (by decide) (v_move rfl) fun a hfr => ?_
  refine wl_vn hfr (by decide) rfl (by decide) rfl rfl fun a hfr => ?_
  refine wl_vn hfr (by decide) rfl (by decide) rfl rfl fun a hfr => ?_
  refine wl_vn hfr (by decide) rfl (by decide) rfl rfl fun a hfr => ?_
  refine wl_v hfr (by decide) (v_pick_f rfl rfl) fun a hfr => ?_
  refine wl_v hfr (by decide) (v_move rfl) fun a hfr => ?_
  refine wl_vn hfr (by decide) rfl (by decide) rfl rfl fun a hfr => ?_
  refine wl_vn hfr (by decide) rfl (by decide) rfl rfl fun a hfr => ?_
  refine wl_vn hfr (by decide) rfl (by decide) rfl rfl fun a hfr => ?_
  refine wl_vn hfr (by decide) rfl (by decide) rfl rfl fun a hfr => ?_
  refine wl_vn hfr (by decide) rfl (by decide) rfl rfl fun a hfr => ?_
  refine wl_v hfr (by decide) (v_pick_f rfl rfl) fun a hfr => ?_
  refine wl_v hfr (by decide) (v_move rfl) fun a hfr => ?_
  refine wl_vn hfr (by decide) rfl (by decide) rfl rfl fun a hfr => ?_
  refine wl_vn hfr (by decide) rfl (by decide) rfl rfl fun a hfr => ?_
  refine wl_vn hfr (by decide) rfl (by decide) rfl rfl fun a hfr => ?_
  refine wl_v hfr (by decide) (v_pick_f rfl rfl) fun a hfr => ?_
  refine wl_v hfr (by decide) (v_move rfl) fun a hfr => ?_
  refine wl_vn hfr (by decide) rfl (by decide) rfl rfl fun a hfr => ?_
  refine wl_vn hfr (by decide) rfl (by decide) rfl rfl fun a hfr => ?_
  refine wl_vn hfr (by decide) rfl (by decide) rfl rfl fun a hfr => ?_
  refine wl_v hfr (by decide) (v_pick_f rfl rfl) fun a hfr => ?_
  refine wl_v hfr (by decide) (v_assign rfl) fun a hfr => ?_
  refine wl_nil (hK2 _ _ ?_)
  have hfr : Fr 33 [(0, _), (1, _), (2, _)] [] a := hfr.pick [0, 1, 2]
  refine wc_ret ?_
  refine fin_ret hfr Try.results38 (resAre_tmp rfl resAre_nil) ?_
  exact ⟨by simp [retv, isClaim, *], hst.ext⟩

/-- (dialtone/claim.rules).answer -/
theorem rule_answer_ok (ra rc rs rr : Int) (w0 : World) :
    Ret Try.prog 87 #[.agg #[.int .i64 ra, .int .i64 rc, .int .i64 rs, .int .i64 rr]] w0 fun v w => v = .int .i64 ra ∧ Ext No w0 w := by
  refine ret_of Try.func87 rfl Try.ntmps87 (Nat.le_of_ble_eq_true rfl) fun a hfr => ?_
  have hfr : Fr 5 [(0, _)] [] a := hfr
  have hst : St No w0 [] w0 := St.init w0
  refine wc_seq_region fun K1 hK1 => ?_
  refine wl_box hfr hst (by decide) rfl (cs := [.int .i64 ra, .int .i64 rc, .int .i64 rs, .int .i64 rr]) rfl fun a w1 hfr hst => ?_
  refine wl_v hfr (by decide) (v_assign rfl) fun a hfr => ?_
  refine wl_nil (hK1 _ _ ?_)
  refine wc_seq_region fun K2 hK2 => ?_
  refine wl_v hfr (by decide) (v_fieldAddr (v := .pointer (some ⟨w0.heap.size, 0, none⟩)) rfl (by kernel_rfl)) fun a hfr => ?_
  refine wl_v hfr (by decide) (v_load_blk1 (hst.get (k := 0) rfl) rfl (Try.isAgg3 _) rfl) fun a hfr => ?_
  refine wl_v hfr (by decide) (v_assign rfl) fun a hfr => ?_
  refine wl_nil (hK2 _ _ ?_)
  refine wc_ret ?_
  refine fin_ret hfr Try.results87 (resAre_tmp rfl resAre_nil) ?_
  exact ⟨by rfl, hst.ext⟩

/-- (dialtone/claim.rules).cooling -/
theorem rule_cooling_ok (ra rc rs rr : Int) (w0 : World) :
    Ret Try.prog 89 #[.agg #[.int .i64 ra, .int .i64 rc, .int .i64 rs, .int .i64 rr]] w0 fun v w => v = .int .i64 rc ∧ Ext No w0 w := by
  refine ret_of Try.func89 rfl Try.ntmps89 (Nat.le_of_ble_eq_true rfl) fun a hfr => ?_
  have hfr : Fr 5 [(0, _)] [] a := hfr
  have hst : St No w0 [] w0 := St.init w0
  refine wc_seq_region fun K1 hK1 => ?_
  refine wl_box hfr hst (by decide) rfl (cs := [.int .i64 ra, .int .i64 rc, .int .i64 rs, .int .i64 rr]) rfl fun a w1 hfr hst => ?_
  refine wl_v hfr (by decide) (v_assign rfl) fun a hfr => ?_
  refine wl_nil (hK1 _ _ ?_)
  refine wc_seq_region fun K2 hK2 => ?_
  refine wl_v hfr (by decide) (v_fieldAddr (v := .pointer (some ⟨w0.heap.size, 1, none⟩)) rfl (by kernel_rfl)) fun a hfr => ?_
  refine wl_v hfr (by decide) (v_load_blk1 (hst.get (k := 0) rfl) rfl (Try.isAgg3 _) rfl) fun a hfr => ?_
  refine wl_v hfr (by decide) (v_assign rfl) fun a hfr => ?_
  refine wl_nil (hK2 _ _ ?_)
  refine wc_ret ?_
  refine fin_ret hfr Try.results89 (resAre_tmp rfl resAre_nil) ?_
  exact ⟨by rfl, hst.ext⟩

/-- (dialtone/claim.rules).settle -/
theorem rule_settle_ok (ra rc rs rr : Int) (w0 : World) :
    Ret Try.prog 88 #[.agg #[.int .i64 ra, .int .i64 rc, .int .i64 rs, .int .i64 rr]] w0 fun v w => v = .int .i64 rs ∧ Ext No w0 w := by
  refine ret_of Try.func88 rfl Try.ntmps88 (Nat.le_of_ble_eq_true rfl) fun a hfr => ?_
  have hfr : Fr 5 [(0, _)] [] a := hfr
  have hst : St No w0 [] w0 := St.init w0
  refine wc_seq_region fun K1 hK1 => ?_
  refine wl_box hfr hst (by decide) rfl (cs := [.int .i64 ra, .int .i64 rc, .int .i64 rs, .int .i64 rr]) rfl fun a w1 hfr hst => ?_
  refine wl_v hfr (by decide) (v_assign rfl) fun a hfr => ?_
  refine wl_nil (hK1 _ _ ?_)
  refine wc_seq_region fun K2 hK2 => ?_
  refine wl_v hfr (by decide) (v_fieldAddr (v := .pointer (some ⟨w0.heap.size, 2, none⟩)) rfl (by kernel_rfl)) fun a hfr => ?_
  refine wl_v hfr (by decide) (v_load_blk1 (hst.get (k := 0) rfl) rfl (Try.isAgg3 _) rfl) fun a hfr => ?_
  refine wl_v hfr (by decide) (v_assign rfl) fun a hfr => ?_
  refine wl_nil (hK2 _ _ ?_)
  refine wc_ret ?_
  refine fin_ret hfr Try.results88 (resAre_tmp rfl resAre_nil) ?_
  exact ⟨by rfl, hst.ext⟩

/-- (dialtone/claim.rules).reverse -/
theorem rule_reverse_ok (ra rc rs rr : Int) (w0 : World) :
    Ret Try.prog 90 #[.agg #[.int .i64 ra, .int .i64 rc, .int .i64 rs, .int .i64 rr]] w0 fun v w => v = .int .i64 rr ∧ Ext No w0 w := by
  refine ret_of Try.func90 rfl Try.ntmps90 (Nat.le_of_ble_eq_true rfl) fun a hfr => ?_
  have hfr : Fr 5 [(0, _)] [] a := hfr
  have hst : St No w0 [] w0 := St.init w0
  refine wc_seq_region fun K1 hK1 => ?_
  refine wl_box hfr hst (by decide) rfl (cs := [.int .i64 ra, .int .i64 rc, .int .i64 rs, .int .i64 rr]) rfl fun a w1 hfr hst => ?_
  refine wl_v hfr (by decide) (v_assign rfl) fun a hfr => ?_
  refine wl_nil (hK1 _ _ ?_)
  refine wc_seq_region fun K2 hK2 => ?_
  refine wl_v hfr (by decide) (v_fieldAddr (v := .pointer (some ⟨w0.heap.size, 3, none⟩)) rfl (by kernel_rfl)) fun a hfr => ?_
  refine wl_v hfr (by decide) (v_load_blk1 (hst.get (k := 0) rfl) rfl (Try.isAgg3 _) rfl) fun a hfr => ?_
  refine wl_v hfr (by decide) (v_assign rfl) fun a hfr => ?_
  refine wl_nil (hK2 _ _ ?_)
  refine wc_ret ?_
  refine fin_ret hfr Try.results90 (resAre_tmp rfl resAre_nil) ?_
  exact ⟨by rfl, hst.ext⟩

/-- dialtone/claim.Ends -/
theorem ends_ok (rl : Rul) (cl : Clm) (w0 : World) :
    Ret Try.prog 13 #[.agg #[.int .i64 rl.answer, .int .i64 rl.cooling, .int .i64 rl.settle, .int .i64 rl.reverse], .agg #[.int .i64 cl.number, .int .i64 cl.frm, .int .i64 cl.to, .int .i64 cl.holder, .int .i64 cl.asked, .bool cl.backed]] w0 fun v w => v = (if areValid rl && isClaim cl then .tuple #[.int .i64 (ends rl cl), .int .i64 0] else .tuple #[.int .i64 0, .int .i64 160]) ∧ Ext No w0 w := by
  refine ret_of Try.func13 rfl Try.ntmps13 (Nat.le_of_ble_eq_true rfl) fun a hfr => ?_
  have hfr : Fr 29 [(0, _), (1, _)] [] a := hfr
  have hst : St No w0 [] w0 := St.init w0
  refine wc_seq_region fun K1 hK1 => ?_
  refine wl_box hfr hst (by decide) rfl (cs := [.int .i64 rl.answer, .int .i64 rl.cooling, .int .i64 rl.settle, .int .i64 rl.reverse]) rfl fun a w1 hfr hst => ?_
  refine wl_box hfr hst (by decide) rfl (cs := [.int .i64 cl.number, .int .i64 cl.frm, .int .i64 cl.to, .int .i64 cl.holder, .int .i64 cl.asked, .bool cl.backed]) rfl fun a w2 hfr hst => ?_
  refine wl_v hfr (by decide) (v_assign rfl) fun a hfr => ?_
  refine wl_v hfr (by decide) (v_assign rfl) fun a hfr => ?_
  refine wl_nil (hK1 _ _ ?_)
  refine wc_seq_k fun K2 hK2 => ?_
  refine wc_seq_region fun K3 hK3 => ?_
  refine wl_v hfr (by decide) (v_load_all (hst.get (k := 1) rfl) rfl (Try.isAgg29 _) (Try.sizeOf29 _)) fun a hfr => ?_
  refine wl_callp hfr hst (by decide) Try.call37 rfl (areValid_ok _ _ _ _ _) fun a w3 hfr hst => ?_
  refine wl_v hfr (by decide) (v_not rfl) fun a hfr => ?_
  refine wl_v hfr (by decide) (v_move rfl) fun a hfr => ?_
  rcases Bool.eq_false_or_eq_true (!(areValid rl)) with hb1 | hb1
  · rw [hb1] at hfr
    try simp only [Bool.not_eq_true', Bool.not_eq_false', decide_eq_true_eq, decide_eq_false_iff_not] at hb1
    refine wl_vn hfr (by decide) rfl (by decide) rfl rfl fun a hfr => ?_
    refine wl_vn hfr (by decide) rfl (by decide) rfl rfl fun a hfr => ?_
    refine wl_vn hfr (by decide) rfl (by decide) rfl rfl fun a hfr => ?_
    refine wl_v hfr (by decide) (v_pick_t rfl rfl) fun a hfr => ?_
    refine wl_nil (hK3 _ _ ?_)
    have hfr : Fr 29 [(0, _), (1, _), (2, _), (3, _), (4, _), (5, _), (13, _)] [] a := hfr.pick [0, 1, 2, 3, 4, 5, 13]
    refine wc_cond_t hfr rfl ?_
    refine wc_seq_region fun K4 hK4 => ?_
    refine wl_v hfr (by decide) (v_assign rfl) fun a hfr => ?_
    refine wl_v hfr (by decide) (v_assign rfl) fun a hfr => ?_
    refine wl_nil (hK4 _ _ ?_)
    refine wc_ret ?_
    refine fin_ret hfr Try.results13 (resAre_tmp rfl (resAre_tmp rfl resAre_nil)) ?_
    exact ⟨by simp_all [retv, ends], hst.ext⟩
  rw [hb1] at hfr
  try simp only [Bool.not_eq_true', Bool.not_eq_false', decide_eq_true_eq, decide_eq_false_iff_not] at hb1
  have hhb1 := areValid_le hb1
  refine wl_vy hfr (by decide) rfl (by decide) rfl (v_load_all (hst.get (k := 0) rfl) rfl (Try.isAgg31 _) (Try.sizeOf31 _)) fun a hfr => ?_
  refine wl_callpy hfr hst (by decide) rfl (by decide) rfl Try.call38 rfl (isClaim_ok cl _) fun a w4 hfr hst => ?_
  refine wl_vy hfr (by decide) rfl (by decide) rfl (v_not rfl) fun a hfr => ?_
  refine wl_v hfr (by decide) (v_pick_f rfl rfl) fun a hfr => ?_
  refine wl_nil (hK3 _ _ ?_)
  have hfr : Fr 29 [(0, _), (1, _), (2, _), (3, _), (4, _), (5, _), (13, _)] [] a := hfr.pick [0, 1, 2, 3, 4, 5, 13]
  refine wc_cond hfr rfl (fun hc2 => ?_) (fun hc2 => ?_)
  · rw [hc2] at hfr
    try simp only [Bool.not_eq_true', Bool.not_eq_false', decide_eq_true_eq, decide_eq_false_iff_not] at hc2
    refine wc_seq_region fun K5 hK5 => ?_
    refine wl_v hfr (by decide) (v_assign rfl) fun a hfr => ?_
    refine wl_v hfr (by decide) (v_assign rfl) fun a hfr => ?_
    refine wl_nil (hK5 _ _ ?_)
    refine wc_ret ?_
    refine fin_ret hfr Try.results13 (resAre_tmp rfl (resAre_tmp rfl resAre_nil)) ?_
    exact ⟨by simp_all [retv, ends], hst.ext⟩
  rw [hc2] at hfr
  try simp only [Bool.not_eq_true', Bool.not_eq_false', decide_eq_true_eq, decide_eq_false_iff_not] at hc2
  have hhc2 := isClaim_le hc2
  refine wc_skip ?_
  refine hK2 _ _ ?_
  refine wc_seq_region fun K6 hK6 => ?_
  refine wl_v hfr (by decide) (v_fieldAddr (v := .pointer (some ⟨w1.heap.size, 4, none⟩)) rfl (by kernel_rfl)) fun a hfr => ?_
  refine wl_v hfr (by decide) (v_load_blk1 (hst.get (k := 0) rfl) rfl (Try.isAgg3 _) rfl) fun a hfr => ?_
  refine wl_v hfr (by decide) (v_fieldAddr (v := .pointer (some ⟨w0.heap.size, 0, none⟩)) rfl (by kernel_rfl)) fun a hfr => ?_
  refine wl_v hfr (by decide) (v_load_blk1 (hst.get (k := 1) rfl) rfl (Try.isAgg3 _) rfl) fun a hfr => ?_
  refine wl_v hfr (by decide) (v_add rfl rfl ⟨by omega, by omega⟩) fun a hfr => ?_
  refine wl_v hfr (by decide) (v_sub rfl rfl ⟨by omega, by omega⟩) fun a hfr => ?_
  refine wl_v hfr (by decide) (v_fieldAddr (v := .pointer (some ⟨w0.heap.size, 2, none⟩)) rfl (by kernel_rfl)) fun a hfr => ?_
  refine wl_v hfr (by decide) (v_load_blk1 (hst.get (k := 1) rfl) rfl (Try.isAgg3 _) rfl) fun a hfr => ?_
  refine wl_v hfr (by decide) (v_add rfl rfl ⟨by omega, by omega⟩) fun a hfr => ?_
  refine wl_v hfr (by decide) (v_fieldAddr (v := .pointer (some ⟨w0.heap.size, 1, none⟩)) rfl (by kernel_rfl)) fun a hfr => ?_
  refine wl_v hfr (by decide) (v_load_blk1 (hst.get (k := 1) rfl) rfl (Try.isAgg3 _) rfl) fun a hfr => ?_
  refine wl_v hfr (by decide) (v_add rfl rfl ⟨by omega, by omega⟩) fun a hfr => ?_
  refine wl_v hfr (by decide) (v_fieldAddr (v := .pointer (some ⟨w0.heap.size, 3, none⟩)) rfl (by kernel_rfl)) fun a hfr => ?_
  refine wl_v hfr (by decide) (v_load_blk1 (hst.get (k := 1) rfl) rfl (Try.isAgg3 _) rfl) fun a hfr => ?_
  refine wl_v hfr (by decide) (v_add rfl rfl ⟨by omega, by omega⟩) fun a hfr => ?_
  refine wl_v hfr (by decide) (v_assign rfl) fun a hfr => ?_
  refine wl_v hfr (by decide) (v_assign rfl) fun a hfr => ?_
  refine wl_nil (hK6 _ _ ?_)
  have hfr : Fr 29 [(0, _), (1, _), (2, _), (3, _), (13, _), (4, _), (5, _)] [] a := hfr.pick [0, 1, 2, 3, 13, 4, 5]
  refine wc_ret ?_
  refine fin_ret hfr Try.results13 (resAre_tmp rfl (resAre_tmp rfl resAre_nil)) ?_
  exact ⟨by simp_all [retv, ends], hst.ext⟩
end Go.Proofs.Ytdamipejlfipcaa
