import Derived.Test.YtdamipejlfipcaaClaimA
namespace Go.Proofs.Ytdamipejlfipcaa
open Go.RowKit Go.PW
set_option linter.unusedVariables false
set_option linter.unusedSimpArgs false
set_option maxRecDepth 4000

set_option maxHeartbeats 4000000 in
/-- dialtone/claim.Valid$1 -/
theorem valid1_ok (ev0 : Evt) (bb : Nat) (last : Int) (w0 : World) (hb : (blk bb [.int .i64 last] 3).ok w0) :
    Ret Try.prog 53 #[.agg #[.int .i64 ev0.kind, .int .i64 ev0.at_, .int .i64 ev0.reason], .pointer (some ⟨bb, 0, none⟩)] w0 fun v w => v = .bool (badEvt last ev0) ∧ Ext (· = bb) w0 w ∧ (blk bb [.int .i64 ev0.at_] 3).ok w := by
  refine ret_of Try.func53 rfl Try.ntmps53 (Nat.le_of_ble_eq_true rfl) fun a hfr => ?_
  have hfr : Fr 37 [(0, _), (1, _)] [] a := hfr
  have hst : St (· = bb) w0 [blk bb [.int .i64 last] 3] w0 := St.one hb
  refine wc_seq_region fun K1 hK1 => ?_
  refine wl_box hfr hst (by decide) rfl (cs := [.int .i64 ev0.kind, .int .i64 ev0.at_, .int .i64 ev0.reason]) rfl fun a w1 hfr hst => ?_
  refine wl_v hfr (by decide) (v_assign rfl) fun a hfr => ?_
  refine wl_nil (hK1 _ _ ?_)
  refine wc_seq_region fun K2 hK2 => ?_
  refine wl_v hfr (by decide) (v_load_blk1 (hst.get (k := 1) rfl) rfl (Try.isAgg3 _) rfl) fun a hfr => ?_
  refine wl_v hfr (by decide) (v_assign rfl) fun a hfr => ?_
  refine wl_nil (hK2 _ _ ?_)
  refine wc_seq_region fun K3 hK3 => ?_
  refine wl_v hfr (by decide) (v_fieldAddr (v := .pointer (some ⟨w0.heap.size, 1, none⟩)) rfl (by kernel_rfl)) fun a hfr => ?_
  refine wl_v hfr (by decide) (v_load_blk1 (hst.get (k := 0) rfl) rfl (Try.isAgg3 _) rfl) fun a hfr => ?_
  refine wl_store 1 hfr hst rfl rfl rfl (Try.sizeOf3 _) rfl (Nat.le_of_ble_eq_true rfl) (ds := [.int .i64 ev0.at_]) rfl rfl fun a w2 hfr hst => ?_
  refine wl_nil (hK3 _ _ ?_)
  refine wc_seq_region fun K4 hK4 => ?_
  refine wl_v hfr (by decide) (v_assign rfl) fun a hfr => ?_
  refine wl_v hfr (by decide) (v_assign rfl) fun a hfr => ?_
  refine wl_nil (hK4 _ _ ?_)
  refine wc_seq_k fun K5 hK5 => ?_
  refine wc_seq_region fun K6 hK6 => ?_
  refine wl_v hfr (by decide) (v_fieldAddr (v := .pointer (some ⟨w0.heap.size, 0, none⟩)) rfl (by kernel_rfl)) fun a hfr => ?_
  refine wl_v hfr (by decide) (v_load_blk1 (hst.get (k := 0) rfl) rfl (Try.isAgg3 _) rfl) fun a hfr => ?_
  refine wl_v hfr (by decide) (v_eq rfl rfl) fun a hfr => ?_
  refine wl_v hfr (by decide) (v_move rfl) fun a hfr => ?_
  rcases Bool.eq_false_or_eq_true (decide (ev0.kind = 2)) with hb1 | hb1
  · rw [hb1] at hfr
    try simp only [Bool.not_eq_true', Bool.not_eq_false', decide_eq_true_eq, decide_eq_false_iff_not] at hb1
    refine wl_vn hfr (by decide) rfl (by decide) rfl rfl fun a hfr => ?_
    refine wl_vn hfr (by decide) rfl (by decide) rfl rfl fun a hfr => ?_
    refine wl_vn hfr (by decide) rfl (by decide) rfl rfl fun a hfr => ?_
    refine wl_v hfr (by decide) (v_pick_t rfl rfl) fun a hfr => ?_
    refine wl_nil (hK6 _ _ ?_)
    have hfr : Fr 37 [(0, _), (1, _), (2, _), (3, _), (7, _), (4, _), (8, _), (9, _), (5, _), (6, _), (17, _)] [] a := hfr.pick [0, 1, 2, 3, 7, 4, 8, 9, 5, 6, 17]
    refine wc_cond_t hfr rfl ?_
    refine wc_region ?_
    refine wl_v hfr (by decide) (v_assign rfl) fun a hfr => ?_
    refine wl_v hfr (by decide) (v_assign rfl) fun a hfr => ?_
    refine wl_nil ?_
    refine hK5 _ _ ?_
    refine wc_seq_region fun K7 hK7 => ?_
    refine wl_v hfr (by decide) (v_fieldAddr (v := .pointer (some ⟨w0.heap.size, 0, none⟩)) rfl (by kernel_rfl)) fun a hfr => ?_
    refine wl_v hfr (by decide) (v_load_blk1 (hst.get (k := 0) rfl) rfl (Try.isAgg3 _) rfl) fun a hfr => ?_
    refine wl_callp hfr hst (by decide) Try.call40 rfl (isIn_ok _ _ _ _) fun a w3 hfr hst => ?_
    refine wl_v hfr (by decide) (v_not rfl) fun a hfr => ?_
    refine wl_v hfr (by decide) (v_move rfl) fun a hfr => ?_
    rcases Bool.eq_false_or_eq_true (!(isIn ev0.kind 1 6)) with hb2 | hb2
    · rw [hb2] at hfr
      try simp only [Bool.not_eq_true', Bool.not_eq_false', decide_eq_true_eq, decide_eq_false_iff_not] at hb2
      refine wl_vn hfr (by decide) rfl (by decide) rfl rfl fun a hfr => ?_
      refine wl_vn hfr (by decide) rfl (by decide) rfl rfl fun a hfr => ?_
      refine wl_vn hfr (by decide) rfl (by decide) rfl rfl fun a hfr => ?_
      refine wl_vn hfr (by decide) rfl (by decide) rfl rfl fun a hfr => ?_
      refine wl_vn hfr (by decide) rfl (by decide) rfl rfl fun a hfr => ?_
      refine wl_v hfr (by decide) (v_pick_t rfl rfl) fun a hfr => ?_
      refine wl_v hfr (by decide) (v_move rfl) fun a hfr => ?_
      refine wl_vn hfr (by decide) rfl (by decide) rfl rfl fun a hfr => ?_
      refine wl_vn hfr (by decide) rfl (by decide) rfl rfl fun a hfr => ?_
      refine wl_vn hfr (by decide) rfl (by decide) rfl rfl fun a hfr => ?_
      refine wl_vn hfr (by decide) rfl (by decide) rfl rfl fun a hfr => ?_
      refine wl_vn hfr (by decide) rfl (by decide) rfl rfl fun a hfr => ?_
      refine wl_vn hfr (by decide) rfl (by decide) rfl rfl fun a hfr => ?_
      refine wl_v hfr (by decide) (v_pick_t rfl rfl) fun a hfr => ?_
      refine wl_v hfr (by decide) (v_assign rfl) fun a hfr => ?_
      refine wl_nil (hK7 _ _ ?_)
      have hfr : Fr 37 [(0, _), (1, _), (2, _), (7, _), (4, _), (8, _), (9, _), (17, _), (5, _), (6, _), (3, _)] [] a := hfr.pick [0, 1, 2, 7, 4, 8, 9, 17, 5, 6, 3]
      refine wc_ret ?_
      refine fin_ret hfr Try.results53 (resAre_tmp rfl resAre_nil) ?_
      exact ⟨by simp_all [retv, badEvt], hst.ext, hst.get (k := 1) rfl⟩
    rw [hb2] at hfr
    try simp only [Bool.not_eq_true', Bool.not_eq_false', decide_eq_true_eq, decide_eq_false_iff_not] at hb2
    refine wl_vy hfr (by decide) rfl (by decide) rfl (v_fieldAddr (v := .pointer (some ⟨w0.heap.size, 1, none⟩)) rfl (by kernel_rfl)) fun a hfr => ?_
    refine wl_vy hfr (by decide) rfl (by decide) rfl (v_load_blk1 (hst.get (k := 0) rfl) rfl (Try.isAgg3 _) rfl) fun a hfr => ?_
    refine wl_vy hfr (by decide) rfl (by decide) rfl (v_move rfl) fun a hfr => ?_
    refine wl_callpy hfr hst (by decide) rfl (by decide) rfl Try.call40 rfl (isIn_ok _ _ _ _) fun a w4 hfr hst => ?_
    refine wl_vy hfr (by decide) rfl (by decide) rfl (v_not rfl) fun a hfr => ?_
    refine wl_v hfr (by decide) (v_pick_f rfl rfl) fun a hfr => ?_
    refine wl_v hfr (by decide) (v_move rfl) fun a hfr => ?_
    rcases Bool.eq_false_or_eq_true (!(isIn ev0.at_ last 20000000)) with hb3 | hb3
    · rw [hb3] at hfr
      try simp only [Bool.not_eq_true', Bool.not_eq_false', decide_eq_true_eq, decide_eq_false_iff_not] at hb3
      refine wl_vn hfr (by decide) rfl (by decide) rfl rfl fun a hfr => ?_
      refine wl_vn hfr (by decide) rfl (by decide) rfl rfl fun a hfr => ?_
      refine wl_vn hfr (by decide) rfl (by decide) rfl rfl fun a hfr => ?_
      refine wl_vn hfr (by decide) rfl (by decide) rfl rfl fun a hfr => ?_
      refine wl_vn hfr (by decide) rfl (by decide) rfl rfl fun a hfr => ?_
      refine wl_vn hfr (by decide) rfl (by decide) rfl rfl fun a hfr => ?_
      refine wl_v hfr (by decide) (v_pick_t rfl rfl) fun a hfr => ?_
      refine wl_v hfr (by decide) (v_assign rfl) fun a hfr => ?_
      refine wl_nil (hK7 _ _ ?_)
      have hfr : Fr 37 [(0, _), (1, _), (2, _), (7, _), (4, _), (8, _), (9, _), (17, _), (5, _), (6, _), (3, _)] [] a := hfr.pick [0, 1, 2, 7, 4, 8, 9, 17, 5, 6, 3]
      refine wc_ret ?_
      refine fin_ret hfr Try.results53 (resAre_tmp rfl resAre_nil) ?_
      exact ⟨by simp_all [retv, badEvt], hst.ext, hst.get (k := 1) rfl⟩
    rw [hb3] at hfr
    try simp only [Bool.not_eq_true', Bool.not_eq_false', decide_eq_true_eq, decide_eq_false_iff_not] at hb3
    refine wl_vy hfr (by decide) rfl (by decide) rfl (v_fieldAddr (v := .pointer (some ⟨w0.heap.size, 2, none⟩)) rfl (by kernel_rfl)) fun a hfr => ?_
    refine wl_vy hfr (by decide) rfl (by decide) rfl (v_load_blk1 (hst.get (k := 0) rfl) rfl (Try.isAgg3 _) rfl) fun a hfr => ?_
    refine wl_vy hfr (by decide) rfl (by decide) rfl (v_move rfl) fun a hfr => ?_
    refine wl_vy hfr (by decide) rfl (by decide) rfl (v_move rfl) fun a hfr => ?_
    refine wl_callpy hfr hst (by decide) rfl (by decide) rfl Try.call40 rfl (isIn_ok _ _ _ _) fun a w5 hfr hst => ?_
    refine wl_vy hfr (by decide) rfl (by decide) rfl (v_not rfl) fun a hfr => ?_
    refine wl_v hfr (by decide) (v_pick_f rfl rfl) fun a hfr => ?_
    refine wl_v hfr (by decide) (v_assign rfl) fun a hfr => ?_
    refine wl_nil (hK7 _ _ ?_)
    have hfr : Fr 37 [(0, _), (1, _), (2, _), (7, _), (4, _), (8, _), (9, _), (17, _), (5, _), (6, _), (3, _)] [] a := hfr.pick [0, 1, 2, 7, 4, 8, 9, 17, 5, 6, 3]
    refine wc_ret ?_
    refine fin_ret hfr Try.results53 (resAre_tmp rfl resAre_nil) ?_
    exact ⟨by simp_all [retv, badEvt], hst.ext, hst.get (k := 1) rfl⟩
  rw [hb1] at hfr
  try simp only [Bool.not_eq_true', Bool.not_eq_false', decide_eq_true_eq, decide_eq_false_iff_not] at hb1
  refine wl_vy hfr (by decide) rfl (by decide) rfl (v_fieldAddr (v := .pointer (some ⟨w0.heap.size, 0, none⟩)) rfl (by kernel_rfl)) fun a hfr => ?_
  refine wl_vy hfr (by decide) rfl (by decide) rfl (v_load_blk1 (hst.get (k := 0) rfl) rfl (Try.isAgg3 _) rfl) fun a hfr => ?_
  refine wl_vy hfr (by decide) rfl (by decide) rfl (v_eq rfl rfl) fun a hfr => ?_
  refine wl_v hfr (by decide) (v_pick_f rfl rfl) fun a hfr => ?_
  refine wl_nil (hK6 _ _ ?_)
  have hfr : Fr 37 [(0, _), (1, _), (2, _), (3, _), (7, _), (4, _), (8, _), (9, _), (5, _), (6, _), (17, _)] [] a := hfr.pick [0, 1, 2, 3, 7, 4, 8, 9, 5, 6, 17]
  refine wc_cond hfr rfl (fun hc4 => ?_) (fun hc4 => ?_)
  · rw [hc4] at hfr
    try simp only [Bool.not_eq_true', Bool.not_eq_false', decide_eq_true_eq, decide_eq_false_iff_not] at hc4
    refine wc_region ?_
    refine wl_v hfr (by decide) (v_assign rfl) fun a hfr => ?_
    refine wl_v hfr (by decide) (v_assign rfl) fun a hfr => ?_
    refine wl_nil ?_
    refine hK5 _ _ ?_
    refine wc_seq_region fun K8 hK8 => ?_
    refine wl_v hfr (by decide) (v_fieldAddr (v := .pointer (some ⟨w0.heap.size, 0, none⟩)) rfl (by kernel_rfl)) fun a hfr => ?_
    refine wl_v hfr (by decide) (v_load_blk1 (hst.get (k := 0) rfl) rfl (Try.isAgg3 _) rfl) fun a hfr => ?_
    refine wl_callp hfr hst (by decide) Try.call40 rfl (isIn_ok _ _ _ _) fun a w6 hfr hst => ?_
    refine wl_v hfr (by decide) (v_not rfl) fun a hfr => ?_
    refine wl_v hfr (by decide) (v_move rfl) fun a hfr => ?_
    rcases Bool.eq_false_or_eq_true (!(isIn ev0.kind 1 6)) with hb5 | hb5
    · rw [hb5] at hfr
      try simp only [Bool.not_eq_true', Bool.not_eq_false', decide_eq_true_eq, decide_eq_false_iff_not] at hb5
      refine wl_vn hfr (by decide) rfl (by decide) rfl rfl fun a hfr => ?_
      refine wl_vn hfr (by decide) rfl (by decide) rfl rfl fun a hfr => ?_
      refine wl_vn hfr (by decide) rfl (by decide) rfl rfl fun a hfr => ?_
      refine wl_vn hfr (by decide) rfl (by decide) rfl rfl fun a hfr => ?_
      refine wl_vn hfr (by decide) rfl (by decide) rfl rfl fun a hfr => ?_
      refine wl_v hfr (by decide) (v_pick_t rfl rfl) fun a hfr => ?_
      refine wl_v hfr (by decide) (v_move rfl) fun a hfr => ?_
      refine wl_vn hfr (by decide) rfl (by decide) rfl rfl fun a hfr => ?_
      refine wl_vn hfr (by decide) rfl (by decide) rfl rfl fun a hfr => ?_
      refine wl_vn hfr (by decide) rfl (by decide) rfl rfl fun a hfr => ?_
      refine wl_vn hfr (by decide) rfl (by decide) rfl rfl fun a hfr => ?_
      refine wl_vn hfr (by decide) rfl (by decide) rfl rfl fun a hfr => ?_
      refine wl_vn hfr (by decide) rfl (by decide) rfl rfl fun a hfr => ?_
      refine wl_v hfr (by decide) (v_pick_t rfl rfl) fun a hfr => ?_
      refine wl_v hfr (by decide) (v_assign rfl) fun a hfr => ?_
      refine wl_nil (hK8 _ _ ?_)
      have hfr : Fr 37 [(0, _), (1, _), (2, _), (7, _), (4, _), (8, _), (9, _), (17, _), (5, _), (6, _), (3, _)] [] a := hfr.pick [0, 1, 2, 7, 4, 8, 9, 17, 5, 6, 3]
      refine wc_ret ?_
      refine fin_ret hfr Try.results53 (resAre_tmp rfl resAre_nil) ?_
      exact ⟨by simp_all [retv, badEvt], hst.ext, hst.get (k := 1) rfl⟩
    rw [hb5] at hfr
    try simp only [Bool.not_eq_true', Bool.not_eq_false', decide_eq_true_eq, decide_eq_false_iff_not] at hb5
    refine wl_vy hfr (by decide) rfl (by decide) rfl (v_fieldAddr (v := .pointer (some ⟨w0.heap.size, 1, none⟩)) rfl (by kernel_rfl)) fun a hfr => ?_
    refine wl_vy hfr (by decide) rfl (by decide) rfl (v_load_blk1 (hst.get (k := 0) rfl) rfl (Try.isAgg3 _) rfl) fun a hfr => ?_
    refine wl_vy hfr (by decide) rfl (by decide) rfl (v_move rfl) fun a hfr => ?_
    refine wl_callpy hfr hst (by decide) rfl (by decide) rfl Try.call40 rfl (isIn_ok _ _ _ _) fun a w7 hfr hst => ?_
    refine wl_vy hfr (by decide) rfl (by decide) rfl (v_not rfl) fun a hfr => ?_
    refine wl_v hfr (by decide) (v_pick_f rfl rfl) fun a hfr => ?_
    refine wl_v hfr (by decide) (v_move rfl) fun a hfr => ?_
    rcases Bool.eq_false_or_eq_true (!(isIn ev0.at_ last 20000000)) with hb6 | hb6
    · rw [hb6] at hfr
      try simp only [Bool.not_eq_true', Bool.not_eq_false', decide_eq_true_eq, decide_eq_false_iff_not] at hb6
      refine wl_vn hfr (by decide) rfl (by decide) rfl rfl fun a hfr => ?_
      refine wl_vn hfr (by decide) rfl (by decide) rfl rfl fun a hfr => ?_
      refine wl_vn hfr (by decide) rfl (by decide) rfl rfl fun a hfr => ?_
      refine wl_vn hfr (by decide) rfl (by decide) rfl rfl fun a hfr => ?_
      refine wl_vn hfr (by decide) rfl (by decide) rfl rfl fun a hfr => ?_
      refine wl_vn hfr (by decide) rfl (by decide) rfl rfl fun a hfr => ?_
      refine wl_v hfr (by decide) (v_pick_t rfl rfl) fun a hfr => ?_
      refine wl_v hfr (by decide) (v_assign rfl) fun a hfr => ?_
      refine wl_nil (hK8 _ _ ?_)
      have hfr : Fr 37 [(0, _), (1, _), (2, _), (7, _), (4, _), (8, _), (9, _), (17, _), (5, _), (6, _), (3, _)] [] a := hfr.pick [0, 1, 2, 7, 4, 8, 9, 17, 5, 6, 3]
      refine wc_ret ?_
      refine fin_ret hfr Try.results53 (resAre_tmp rfl resAre_nil) ?_
      exact ⟨by simp_all [retv, badEvt], hst.ext, hst.get (k := 1) rfl⟩
    rw [hb6] at hfr
    try simp only [Bool.not_eq_true', Bool.not_eq_false', decide_eq_true_eq, decide_eq_false_iff_not] at hb6
    refine wl_vy hfr (by decide) rfl (by decide) rfl (v_fieldAddr (v := .pointer (some ⟨w0.heap.size, 2, none⟩)) rfl (by kernel_rfl)) fun a hfr => ?_
    refine wl_vy hfr (by decide) rfl (by decide) rfl (v_load_blk1 (hst.get (k := 0) rfl) rfl (Try.isAgg3 _) rfl) fun a hfr => ?_
    refine wl_vy hfr (by decide) rfl (by decide) rfl (v_move rfl) fun a hfr => ?_
    refine wl_vy hfr (by decide) rfl (by decide) rfl (v_move rfl) fun a hfr => ?_
    refine wl_callpy hfr hst (by decide) rfl (by decide) rfl Try.call40 rfl (isIn_ok _ _ _ _) fun a w8 hfr hst => ?_
    refine wl_vy hfr (by decide) rfl (by decide) rfl (v_not rfl) fun a hfr => ?_
    refine wl_v hfr (by decide) (v_pick_f rfl rfl) fun a hfr => ?_
    refine wl_v hfr (by decide) (v_assign rfl) fun a hfr => ?_
    refine wl_nil (hK8 _ _ ?_)
    have hfr : Fr 37 [(0, _), (1, _), (2, _), (7, _), (4, _), (8, _), (9, _), (17, _), (5, _), (6, _), (3, _)] [] a := hfr.pick [0, 1, 2, 7, 4, 8, 9, 17, 5, 6, 3]
    refine wc_ret ?_
    refine fin_ret hfr Try.results53 (resAre_tmp rfl resAre_nil) ?_
    exact ⟨by simp_all [retv, badEvt], hst.ext, hst.get (k := 1) rfl⟩
  rw [hc4] at hfr
  try simp only [Bool.not_eq_true', Bool.not_eq_false', decide_eq_true_eq, decide_eq_false_iff_not] at hc4
  refine wc_skip ?_
  refine hK5 _ _ ?_
  refine wc_seq_region fun K9 hK9 => ?_
  refine wl_v hfr (by decide) (v_fieldAddr (v := .pointer (some ⟨w0.heap.size, 0, none⟩)) rfl (by kernel_rfl)) fun a hfr => ?_
  refine wl_v hfr (by decide) (v_load_blk1 (hst.get (k := 0) rfl) rfl (Try.isAgg3 _) rfl) fun a hfr => ?_
  refine wl_callp hfr hst (by decide) Try.call40 rfl (isIn_ok _ _ _ _) fun a w9 hfr hst => ?_
  refine wl_v hfr (by decide) (v_not rfl) fun a hfr => ?_
  refine wl_v hfr (by decide) (v_move rfl) fun a hfr => ?_
  rcases Bool.eq_false_or_eq_true (!(isIn ev0.kind 1 6)) with hb7 | hb7
  · rw [hb7] at hfr
    try simp only [Bool.not_eq_true', Bool.not_eq_false', decide_eq_true_eq, decide_eq_false_iff_not] at hb7
    refine wl_vn hfr (by decide) rfl (by decide) rfl rfl fun a hfr => ?_
    refine wl_vn hfr (by decide) rfl (by decide) rfl rfl fun a hfr => ?_
    refine wl_vn hfr (by decide) rfl (by decide) rfl rfl fun a hfr => ?_
    refine wl_vn hfr (by decide) rfl (by decide) rfl rfl fun a hfr => ?_
    refine wl_vn hfr (by decide) rfl (by decide) rfl rfl fun a hfr => ?_
    refine wl_v hfr (by decide) (v_pick_t rfl rfl) fun a hfr => ?_
    refine wl_v hfr (by decide) (v_move rfl) fun a hfr => ?_
    refine wl_vn hfr (by decide) rfl (by decide) rfl rfl fun a hfr => ?_
    refine wl_vn hfr (by decide) rfl (by decide) rfl rfl fun a hfr => ?_
    refine wl_vn hfr (by decide) rfl (by decide) rfl rfl fun a hfr => ?_
    refine wl_vn hfr (by decide) rfl (by decide) rfl rfl fun a hfr => ?_
    refine wl_vn hfr (by decide) rfl (by decide) rfl rfl fun a hfr => ?_
    refine wl_vn hfr (by decide) rfl (by decide) rfl rfl fun a hfr => ?_
    refine wl_v hfr (by decide) (v_pick_t rfl rfl) fun a hfr => ?_
    refine wl_v hfr (by decide) (v_assign rfl) fun a hfr => ?_
    refine wl_nil (hK9 _ _ ?_)
    have hfr : Fr 37 [(0, _), (1, _), (2, _), (7, _), (4, _), (8, _), (9, _), (5, _), (6, _), (17, _), (3, _)] [] a := hfr.pick [0, 1, 2, 7, 4, 8, 9, 5, 6, 17, 3]
    refine wc_ret ?_
    refine fin_ret hfr Try.results53 (resAre_tmp rfl resAre_nil) ?_
    exact ⟨by simp_all [retv, badEvt], hst.ext, hst.get (k := 1) rfl⟩
  rw [hb7] at hfr
  try simp only [Bool.not_eq_true', Bool.not_eq_false', decide_eq_true_eq, decide_eq_false_iff_not] at hb7
  refine wl_vy hfr (by decide) rfl (by decide) rfl (v_fieldAddr (v := .pointer (some ⟨w0.heap.size, 1, none⟩)) rfl (by kernel_rfl)) fun a hfr => ?_
  refine wl_vy hfr (by decide) rfl (by decide) rfl (v_load_blk1 (hst.get (k := 0) rfl) rfl (Try.isAgg3 _) rfl) fun a hfr => ?_
  refine wl_vy hfr (by decide) rfl (by decide) rfl (v_move rfl) fun a hfr => ?_
  refine wl_callpy hfr hst (by decide) rfl (by decide) rfl Try.call40 rfl (isIn_ok _ _ _ _) fun a w10 hfr hst => ?_
  refine wl_vy hfr (by decide) rfl (by decide) rfl (v_not rfl) fun a hfr => ?_
  refine wl_v hfr (by decide) (v_pick_f rfl rfl) fun a hfr => ?_
  refine wl_v hfr (by decide) (v_move rfl) fun a hfr => ?_
  rcases Bool.eq_false_or_eq_true (!(isIn ev0.at_ last 20000000)) with hb8 | hb8
  · rw [hb8] at hfr
    try simp only [Bool.not_eq_true', Bool.not_eq_false', decide_eq_true_eq, decide_eq_false_iff_not] at hb8
    refine wl_vn hfr (by decide) rfl (by decide) rfl rfl fun a hfr => ?_
    refine wl_vn hfr (by decide) rfl (by decide) rfl rfl fun a hfr => ?_
    refine wl_vn hfr (by decide) rfl (by decide) rfl rfl fun a hfr => ?_
    refine wl_vn hfr (by decide) rfl (by decide) rfl rfl fun a hfr => ?_
    refine wl_vn hfr (by decide) rfl (by decide) rfl rfl fun a hfr => ?_
    refine wl_vn hfr (by decide) rfl (by decide) rfl rfl fun a hfr => ?_
    refine wl_v hfr (by decide) (v_pick_t rfl rfl) fun a hfr => ?_
    refine wl_v hfr (by decide) (v_assign rfl) fun a hfr => ?_
    refine wl_nil (hK9 _ _ ?_)
    have hfr : Fr 37 [(0, _), (1, _), (2, _), (7, _), (4, _), (8, _), (9, _), (5, _), (6, _), (17, _), (3, _)] [] a := hfr.pick [0, 1, 2, 7, 4, 8, 9, 5, 6, 17, 3]
    refine wc_ret ?_
    refine fin_ret hfr Try.results53 (resAre_tmp rfl resAre_nil) ?_
    exact ⟨by simp_all [retv, badEvt], hst.ext, hst.get (k := 1) rfl⟩
  rw [hb8] at hfr
  try simp only [Bool.not_eq_true', Bool.not_eq_false', decide_eq_true_eq, decide_eq_false_iff_not] at hb8
  refine wl_vy hfr (by decide) rfl (by decide) rfl (v_fieldAddr (v := .pointer (some ⟨w0.heap.size, 2, none⟩)) rfl (by kernel_rfl)) fun a hfr => ?_
  refine wl_vy hfr (by decide) rfl (by decide) rfl (v_load_blk1 (hst.get (k := 0) rfl) rfl (Try.isAgg3 _) rfl) fun a hfr => ?_
  refine wl_vy hfr (by decide) rfl (by decide) rfl (v_move rfl) fun a hfr => ?_
  refine wl_vy hfr (by decide) rfl (by decide) rfl (v_move rfl) fun a hfr => ?_
  refine wl_callpy hfr hst (by decide) rfl (by decide) rfl Try.call40 rfl (isIn_ok _ _ _ _) fun a w11 hfr hst => ?_
  refine wl_vy hfr (by decide) rfl (by decide) rfl (v_not rfl) fun a hfr => ?_
  refine wl_v hfr (by decide) (v_pick_f rfl rfl) fun a hfr => ?_
  refine wl_v hfr (by decide) (v_assign rfl) fun a hfr => ?_
  refine wl_nil (hK9 _ _ ?_)
  have hfr : Fr 37 [(0, _), (1, _), (2, _), (7, _), (4, _), (8, _), (9, _), (5, _), (6, _), (17, _), (3, _)] [] a := hfr.pick [0, 1, 2, 7, 4, 8, 9, 5, 6, 17, 3]
  refine wc_ret ?_
  refine fin_ret hfr Try.results53 (resAre_tmp rfl resAre_nil) ?_
  exact ⟨by simp_all [retv, badEvt], hst.ext, hst.get (k := 1) rfl⟩

/-- slices.IndexFunc[[]dialtone/api.ClaimEvent,dialtone/api.ClaimEvent]: the first index at which the closure says yes. -/
theorem indexFuncEvt_ok {M : Nat → Prop} {wb : World} {H : List Ent} {sv : Value} {els : List (List Value)} {caps : List Value} {g : FuncId} (p : Nat → Bool) (ev_ : Nat → Value) (J : Nat → Ent → Prop) (e0 : Ent) (w0 : World)
    (hen : ∀ args w, (callFunc g args).run Try.prog w = .ok (.enter g args) w) (hs : ∀ e w, St M wb (e :: H) w → SlAt w sv 3 els)
    (hev : ∀ k (h : k < els.length), .agg (els[k]).toArray = ev_ k) (hJ0 : J 0 e0) (hst : St M wb (e0 :: H) w0)
    (hcl : ∀ k e w, k < els.length → J k e → e.ok w → (∀ b, e.foot b → b < w.heap.size) → Ret Try.prog g ([ev_ k] ++ caps).toArray w fun v w' => v = .bool (p k) ∧ ∃ e', Ext e.foot w w' ∧ e'.ok w' ∧ (∀ b, e'.foot b → b < w'.heap.size ∧ (e.foot b ∨ w.heap.size ≤ b)) ∧ J (k + 1) e') :
    Ret Try.prog 81 #[sv, .func (.func g) #[] caps.toArray] w0 fun v w => v = .int .i64 (fstIdx p els.length) ∧ ∃ k e', J k e' ∧ St M wb (e' :: H) w := by
  have hsl := (hs _ _ hst).le
  refine ret_of Try.func81 rfl Try.ntmps81 (Nat.le_of_ble_eq_true rfl) fun a hfr => ?_
  have hfr : Fr 19 [(0, _), (1, _)] [] a := hfr
  refine wc_seq_region fun K1 hK1 => ?_
  refine wl_v hfr (by decide) (v_assign rfl) fun a hfr => ?_
  refine wl_nil (hK1 _ _ ?_)
  refine wc_seq_k fun K2 hK2 => ?_
  refine wc_seq_region fun K3 hK3 => ?_
  refine wl_v hfr (by decide) (v_move rfl) fun a hfr => ?_
  refine wl_v hfr (by decide) (v_len_sl (sT := 32) (hs _ _ hst) rfl rfl (Try.runUnderlying32 _)) fun a hfr => ?_
  refine wl_v hfr (by decide) (v_move rfl) fun a hfr => ?_
  refine wl_nil (hK3 _ _ ?_)
  refine wc_block ?_
  refine wc_loop (fun m a w => ∃ (k : Nat) (e : Ent), m = els.length - k ∧ (k ≤ els.length) ∧ (∀ j, j < k → p j = false) ∧ (J k e) ∧ Fr 19 [(0, sv), (1, .func (.func g) #[] caps.toArray), (6, sv), (7, .int .i64 els.length), (8, .int .i64 (k : Int))] [] a ∧ St M wb (e :: H) w) _ ⟨0, e0, rfl, Nat.zero_le _, (by intro j hj; omega), hJ0, hfr.pick [0, 1, 6, 7, 8], hst⟩ ?_
  rintro _ a w1 ⟨k, e, rfl, hk, hp, hJ, hfr, hst⟩
  refine wc_seq_region fun K4 hK4 => ?_
  refine wl_v hfr (by decide) (v_lt rfl rfl) fun a hfr => ?_
  refine wl_nil (hK4 _ _ ?_)
  refine wc_seq_k fun K5 hK5 => ?_
  refine wc_cond hfr rfl (fun hc1 => ?_) (fun hc1 => ?_)
  · rw [hc1] at hfr
    try simp only [Bool.not_eq_true', Bool.not_eq_false', decide_eq_true_eq, decide_eq_false_iff_not] at hc1
    refine wc_skip ?_
    refine hK5 _ _ ?_
    refine wc_seq_k fun K6 hK6 => ?_
    refine wc_block ?_
    refine wc_seq_region fun K7 hK7 => ?_
    refine wl_v hfr (by decide) (v_move rfl) fun a hfr => ?_
    refine wl_v hfr (by decide) (v_assign rfl) fun a hfr => ?_
    refine wl_nil (hK7 _ _ ?_)
    refine wc_seq_region fun K8 hK8 => ?_
    refine wl_v hfr (by decide) (v_move rfl) fun a hfr => ?_
    refine wl_v hfr (by decide) (v_move rfl) fun a hfr => ?_
    refine wl_v hfr (by decide) (v_move rfl) fun a hfr => ?_
    refine wl_v hfr (by decide) ((v_indexAddr_sl (i := (k : Int)) (sT := 32) (hs _ _ hst) rfl rfl (Try.runUnderlying32 _) (Try.sizeOf45 _) (by omega) (by omega)).as (v' := slAddr sv (k * 3)) rfl) fun a hfr => ?_
    refine wl_v hfr (by decide) ((v_load_sl (hs _ _ hst) (i := k) (by omega) rfl (Try.isAgg45 _) (Try.sizeOf45 _)).as (v' := ev_ k) (hev k (by omega))) fun a hfr => ?_
    refine wl_r (r_callv (cap := caps) rfl hen rfl (hcl k _ _ (by omega) hJ (hst.get (k := 0) rfl) (fun b hb => hst.lt (k := 0) rfl hb))) rfl rfl hfr fun a v w2 hR hfr => ?_
    obtain ⟨rfl, e1, hx, hok, hft, hJ1⟩ := hR
    have hst := hst.exchange (k := 0) rfl hx hok hft
    have hst : St M wb (e1 :: H) w2 := hst
    refine wl_nil (hK8 _ _ ?_)
    refine wc_cond hfr rfl (fun hc2 => ?_) (fun hc2 => ?_)
    · rw [hc2] at hfr
      try simp only [Bool.not_eq_true', Bool.not_eq_false', decide_eq_true_eq, decide_eq_false_iff_not] at hc2
      refine wc_seq_region fun K9 hK9 => ?_
      refine wl_v hfr (by decide) (v_move rfl) fun a hfr => ?_
      refine wl_v hfr (by decide) (v_assign rfl) fun a hfr => ?_
      refine wl_nil (hK9 _ _ ?_)
      refine wc_ret ?_
      refine fin_ret hfr Try.results81 (resAre_tmp rfl resAre_nil) ?_
      exact ⟨by rw [fstIdx_some (k := k) (by omega) hp (by assumption)]; rfl, _, _, hJ1, hst⟩
    rw [hc2] at hfr
    try simp only [Bool.not_eq_true', Bool.not_eq_false', decide_eq_true_eq, decide_eq_false_iff_not] at hc2
    refine wc_skip ?_
    refine hK6 _ _ ?_
    refine wc_region ?_
    refine wl_v hfr (by decide) (v_add rfl rfl ⟨by omega, by omega⟩) fun a hfr => ?_
    refine wl_v hfr (by decide) (v_move rfl) fun a hfr => ?_
    refine wl_nil ?_
    refine ⟨_, ?_, k + 1, e1, rfl, (by omega), (by intro j hj; by_cases h : j = k; (subst h; assumption); exact hp j (by omega)), hJ1, hfr.pick [0, 1, 6, 7, 8], hst⟩
    omega
  rw [hc1] at hfr
  try simp only [Bool.not_eq_true', Bool.not_eq_false', decide_eq_true_eq, decide_eq_false_iff_not] at hc1
  refine wc_exit ?_
  refine hK2 _ _ ?_
  refine wc_seq_region fun K10 hK10 => ?_
  refine wl_v hfr (by decide) (v_assign rfl) fun a hfr => ?_
  refine wl_nil (hK10 _ _ ?_)
  refine wc_ret ?_
  refine fin_ret hfr Try.results81 (resAre_tmp rfl resAre_nil) ?_
  have hkl : k = els.length := by omega
  subst hkl
  exact ⟨by rw [fstIdx_none hp]; rfl, _, _, hJ, hst⟩

/-- slices.ContainsFunc[[]dialtone/api.ClaimEvent,dialtone/api.ClaimEvent]: does the closure say yes anywhere? -/
theorem containsFuncEvt_ok {M : Nat → Prop} {wb : World} {H : List Ent} {sv : Value} {els : List (List Value)} {caps : List Value} {g : FuncId} (p : Nat → Bool) (ev_ : Nat → Value) (J : Nat → Ent → Prop) (e0 : Ent) (w0 : World)
    (hen : ∀ args w, (callFunc g args).run Try.prog w = .ok (.enter g args) w) (hs : ∀ e w, St M wb (e :: H) w → SlAt w sv 3 els)
    (hev : ∀ k (h : k < els.length), .agg (els[k]).toArray = ev_ k) (hJ0 : J 0 e0) (hst : St M wb (e0 :: H) w0)
    (hcl : ∀ k e w, k < els.length → J k e → e.ok w → (∀ b, e.foot b → b < w.heap.size) → Ret Try.prog g ([ev_ k] ++ caps).toArray w fun v w' => v = .bool (p k) ∧ ∃ e', Ext e.foot w w' ∧ e'.ok w' ∧ (∀ b, e'.foot b → b < w'.heap.size ∧ (e.foot b ∨ w.heap.size ≤ b)) ∧ J (k + 1) e') :
    Ret Try.prog 54 #[sv, .func (.func g) #[] caps.toArray] w0 fun v w => v = .bool ((List.range els.length).any p) ∧ ∃ k e', J k e' ∧ St M wb (e' :: H) w := by
  refine ret_of Try.func54 rfl Try.ntmps54 (Nat.le_of_ble_eq_true rfl) fun a hfr => ?_
  have hfr : Fr 9 [(0, _), (1, _)] [] a := hfr
  refine wc_seq_region fun K1 hK1 => ?_
  refine wl_v hfr (by decide) (v_assign rfl) fun a hfr => ?_
  refine wl_nil (hK1 _ _ ?_)
  refine wc_seq_region fun K2 hK2 => ?_
  refine wl_v hfr (by decide) (v_move rfl) fun a hfr => ?_
  refine wl_v hfr (by decide) (v_move rfl) fun a hfr => ?_
  refine wl_r (r_call Try.call81 rfl (indexFuncEvt_ok p ev_ J e0 _ hen hs hev hJ0 hst hcl)) rfl rfl hfr fun a v w1 hR hfr => ?_
  obtain ⟨rfl, kk, e1, hJ1, hst⟩ := hR
  refine wl_v hfr (by decide) (v_ge rfl rfl) fun a hfr => ?_
  refine wl_v hfr (by decide) (v_assign rfl) fun a hfr => ?_
  refine wl_nil (hK2 _ _ ?_)
  refine wc_ret ?_
  refine fin_ret hfr Try.results54 (resAre_tmp rfl resAre_nil) ?_
  exact ⟨by rw [fstIdx_any]; rfl, _, _, hJ1, hst⟩

/-- dialtone/claim.Valid -/
theorem valid_ok (rl : Rul) (cl : Clm) (sv : Value) (l : List Evt) (w0 : World) (hsv : SlAt w0 sv 3 (l.map Evt.cells)) :
    Ret Try.prog 33 #[.agg #[.int .i64 rl.answer, .int .i64 rl.cooling, .int .i64 rl.settle, .int .i64 rl.reverse], .agg #[.int .i64 cl.number, .int .i64 cl.frm, .int .i64 cl.to, .int .i64 cl.holder, .int .i64 cl.asked, .bool cl.backed], sv] w0 fun v w => v = .bool (valid rl cl l) ∧ Ext No w0 w := by
  refine ret_of Try.func33 rfl Try.ntmps33 (Nat.le_of_ble_eq_true rfl) fun a hfr => ?_
  have hfr : Fr 29 [(0, _), (1, _), (2, _)] [] a := hfr
  have hst : St No w0 [] w0 := St.init w0
  refine wc_seq_region fun K1 hK1 => ?_
  refine wl_box hfr hst (by decide) rfl (cs := [.int .i64 rl.answer, .int .i64 rl.cooling, .int .i64 rl.settle, .int .i64 rl.reverse]) rfl fun a w1 hfr hst => ?_
  refine wl_box hfr hst (by decide) rfl (cs := [.int .i64 cl.number, .int .i64 cl.frm, .int .i64 cl.to, .int .i64 cl.holder, .int .i64 cl.asked, .bool cl.backed]) rfl fun a w2 hfr hst => ?_
  refine wl_v hfr (by decide) (v_assign rfl) fun a hfr => ?_
  refine wl_nil (hK1 _ _ ?_)
  refine wc_seq_k fun K2 hK2 => ?_
  refine wc_seq_region fun K3 hK3 => ?_
  refine wl_v hfr (by decide) (v_load_all (hst.get (k := 1) rfl) rfl (Try.isAgg29 _) (Try.sizeOf29 _)) fun a hfr => ?_
  refine wl_callp hfr hst (by decide) Try.call37 rfl (areValid_ok _ _ _ _ _) fun a w3 hfr hst => ?_
  refine wl_v hfr (by decide) (v_not rfl) fun a hfr => ?_
  refine wl_v hfr (by decide) (v_move rfl) fun a hfr => ?_
  rcases Bool.eq_false_or_eq_true (!(areValid rl)) with hb1 | hb1
  · rw [hb1] at hfr
    try simp only [Bool.not_eq_true', Bool.not_eq_false', decide_eq_true_eq, decide_eq_false_iff_not] at hb1
    refine wl_vn hfr (by decide) rfl (by decide) rfl rfl fun a hfr => ?_
    refine wl_vn hfr (by decide) rfl (by decide) rfl rfl fun a hfr => ?_
    refine wl_vn hfr (by decide) rfl (by decide) rfl rfl fun a hfr => ?_
    refine wl_v hfr (by decide) (v_pick_t rfl rfl) fun a hfr => ?_
    refine wl_v hfr (by decide) (v_move rfl) fun a hfr => ?_
    refine wl_vn hfr (by decide) rfl (by decide) rfl rfl fun a hfr => ?_
    refine wl_vn hfr (by decide) rfl (by decide) rfl rfl fun a hfr => ?_
    refine wl_vn hfr (by decide) rfl (by decide) rfl rfl fun a hfr => ?_
    refine wl_v hfr (by decide) (v_pick_t rfl rfl) fun a hfr => ?_
    refine wl_nil (hK3 _ _ ?_)
    have hfr : Fr 29 [(0, _), (1, _), (2, _), (3, _), (4, _), (6, _), (21, _)] [] a := hfr.pick [0, 1, 2, 3, 4, 6, 21]
    refine wc_cond_t hfr rfl ?_
    refine wc_seq_region fun K4 hK4 => ?_
    refine wl_v hfr (by decide) (v_assign rfl) fun a hfr => ?_
    refine wl_nil (hK4 _ _ ?_)
    refine wc_ret ?_
    refine fin_ret hfr Try.results33 (resAre_tmp rfl resAre_nil) ?_
    exact ⟨by simp_all [retv, valid] <;> omega, hst.ext⟩
  rw [hb1] at hfr
  try simp only [Bool.not_eq_true', Bool.not_eq_false', decide_eq_true_eq, decide_eq_false_iff_not] at hb1
  have hhb1 := areValid_le hb1
  refine wl_vy hfr (by decide) rfl (by decide) rfl (v_load_all (hst.get (k := 0) rfl) rfl (Try.isAgg31 _) (Try.sizeOf31 _)) fun a hfr => ?_
  refine wl_callpy hfr hst (by decide) rfl (by decide) rfl Try.call38 rfl (isClaim_ok cl _) fun a w4 hfr hst => ?_
  refine wl_vy hfr (by decide) rfl (by decide) rfl (v_not rfl) fun a hfr => ?_
  refine wl_v hfr (by decide) (v_pick_f rfl rfl) fun a hfr => ?_
  refine wl_v hfr (by decide) (v_move rfl) fun a hfr => ?_
  rcases Bool.eq_false_or_eq_true (!(isClaim cl)) with hb2 | hb2
  · rw [hb2] at hfr
    try simp only [Bool.not_eq_true', Bool.not_eq_false', decide_eq_true_eq, decide_eq_false_iff_not] at hb2
    refine wl_vn hfr (by decide) rfl (by decide) rfl rfl fun a hfr => ?_
    refine wl_vn hfr (by decide) rfl (by decide) rfl rfl fun a hfr => ?_
    refine wl_vn hfr (by decide) rfl (by decide) rfl rfl fun a hfr => ?_
    refine wl_v hfr (by decide) (v_pick_t rfl rfl) fun a hfr => ?_
    refine wl_nil (hK3 _ _ ?_)
    have hfr : Fr 29 [(0, _), (1, _), (2, _), (3, _), (4, _), (6, _), (21, _)] [] a := hfr.pick [0, 1, 2, 3, 4, 6, 21]
    refine wc_cond_t hfr rfl ?_
    refine wc_seq_region fun K5 hK5 => ?_
    refine wl_v hfr (by decide) (v_assign rfl) fun a hfr => ?_
    refine wl_nil (hK5 _ _ ?_)
    refine wc_ret ?_
    refine fin_ret hfr Try.results33 (resAre_tmp rfl resAre_nil) ?_
    exact ⟨by simp_all [retv, valid] <;> omega, hst.ext⟩
  rw [hb2] at hfr
  try simp only [Bool.not_eq_true', Bool.not_eq_false', decide_eq_true_eq, decide_eq_false_iff_not] at hb2
  have hhb2 := isClaim_le hb2
  refine wl_vy hfr (by decide) rfl (by decide) rfl (v_move rfl) fun a hfr => ?_
  refine wl_vy hfr (by decide) rfl (by decide) rfl ((v_len_sl (sT := 32) (hst.arg hsv) rfl rfl (Try.runUnderlying32 _)).asi (m' := (l.length : Int)) (by simp)) fun a hfr => ?_
  refine wl_vy hfr (by decide) rfl (by decide) rfl (v_gt rfl rfl) fun a hfr => ?_
  refine wl_v hfr (by decide) (v_pick_f rfl rfl) fun a hfr => ?_
  refine wl_nil (hK3 _ _ ?_)
  have hfr : Fr 29 [(0, _), (1, _), (2, _), (3, _), (4, _), (6, _), (21, _)] [] a := hfr.pick [0, 1, 2, 3, 4, 6, 21]
  refine wc_cond hfr rfl (fun hc3 => ?_) (fun hc3 => ?_)
  · rw [hc3] at hfr
    try simp only [Bool.not_eq_true', Bool.not_eq_false', decide_eq_true_eq, decide_eq_false_iff_not] at hc3
    refine wc_seq_region fun K6 hK6 => ?_
    refine wl_v hfr (by decide) (v_assign rfl) fun a hfr => ?_
    refine wl_nil (hK6 _ _ ?_)
    refine wc_ret ?_
    refine fin_ret hfr Try.results33 (resAre_tmp rfl resAre_nil) ?_
    exact ⟨by simp_all [retv, valid] <;> omega, hst.ext⟩
  rw [hc3] at hfr
  try simp only [Bool.not_eq_true', Bool.not_eq_false', decide_eq_true_eq, decide_eq_false_iff_not] at hc3
  refine wc_skip ?_
  refine hK2 _ _ ?_
  refine wc_seq_region fun K7 hK7 => ?_
  refine wl_v hfr (by decide) (v_fieldAddr (v := .pointer (some ⟨w1.heap.size, 4, none⟩)) rfl (by kernel_rfl)) fun a hfr => ?_
  refine wl_v hfr (by decide) (v_load_blk1 (hst.get (k := 0) rfl) rfl (Try.isAgg3 _) rfl) fun a hfr => ?_
  refine wl_alloc hfr hst (by decide) (Try.zeroValue3 _) (cs := [.int .i64 0]) rfl fun a w5 hfr hst => ?_
  refine wl_store 0 hfr hst rfl rfl rfl (Try.sizeOf3 _) rfl (Nat.le_of_ble_eq_true rfl) (ds := [.int .i64 cl.asked]) rfl rfl fun a w6 hfr hst => ?_
  refine wl_nil (hK7 _ _ ?_)
  refine wc_seq_region fun K8 hK8 => ?_
  refine wl_v hfr (by decide) (v_makeFunc rfl rfl) fun a hfr => ?_
  refine wl_v hfr (by decide) (v_assign rfl) fun a hfr => ?_
  refine wl_nil (hK8 _ _ ?_)
  refine wc_seq_region fun K9 hK9 => ?_
  refine wl_v hfr (by decide) (v_move rfl) fun a hfr => ?_
  refine wl_v hfr (by decide) (v_move rfl) fun a hfr => ?_
  refine wl_r (r_call Try.call54 rfl (containsFuncEvt_ok (M := No) (wb := w0) (H := [blk w1.heap.size [.int .i64 cl.number, .int .i64 cl.frm, .int .i64 cl.to, .int .i64 cl.holder, .int .i64 cl.asked, .bool cl.backed] 31, blk w0.heap.size [.int .i64 rl.answer, .int .i64 rl.cooling, .int .i64 rl.settle, .int .i64 rl.reverse] 29]) (els := l.map Evt.cells) (caps := [.pointer (some ⟨w4.heap.size, 0, none⟩)]) (g := 53) (fun k => badEvt (lastAt cl.asked l k) (l.getD k ⟨0, 0, 0⟩)) (fun k => .agg (l.getD k ⟨0, 0, 0⟩).cells.toArray) (fun k e => e = blk w4.heap.size [.int .i64 (lastAt cl.asked l k)] 3) _ w6 Try.call53 (fun e w h => h.arg hsv) (fun k hk => by simp at hk; simp [hk]) rfl hst ?_)) rfl rfl hfr ?_
  · rintro k _ w hk rfl hok _
    simp only [List.length_map] at hk
    refine (valid1_ok (l.getD k ⟨0, 0, 0⟩) _ (lastAt cl.asked l k) w hok).mono fun v w' ⟨h1, h2, h3⟩ => ⟨h1, _, h2, h3, fun b hb => ?_, rfl⟩
    cases hb; exact ⟨(Array.getElem?_eq_some_iff.1 h3).1, .inl rfl⟩
  rintro a v w7 ⟨rfl, kk, _, rfl, hst⟩ hfr
  rw [List.length_map, anyBad_range] at hfr
  refine wl_v hfr (by decide) (v_not rfl) fun a hfr => ?_
  refine wl_v hfr (by decide) (v_assign rfl) fun a hfr => ?_
  refine wl_nil (hK9 _ _ ?_)
  refine wc_ret ?_
  refine fin_ret hfr Try.results33 (resAre_tmp rfl resAre_nil) ?_
  exact ⟨by simp_all [retv, valid] <;> omega, hst.ext⟩
end Go.Proofs.Ytdamipejlfipcaa
