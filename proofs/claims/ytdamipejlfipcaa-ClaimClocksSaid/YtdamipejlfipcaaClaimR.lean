import Derived.Test.YtdamipejlfipcaaClaimA
import Derived.Test.YtdamipejlfipcaaClaimM
import Derived.Test.YtdamipejlfipcaaYield
namespace Go.Proofs.Ytdamipejlfipcaa
open Go.RowKit Go.PW
set_option linter.unusedVariables false
set_option linter.unusedSimpArgs false
set_option maxRecDepth 4000

/-- dialtone/dialtoneref16.in -/
theorem rin_ok (n lo hi : Int) (w0 : World) :
    Ret Try.prog 56 #[.int .i64 n, .int .i64 lo, .int .i64 hi] w0 fun v w => v = .bool (isIn n lo hi) ∧ Ext No w0 w := by
  refine ret_of Try.func56 rfl Try.ntmps56 (Nat.le_of_ble_eq_true rfl) fun a hfr => ?_
  have hfr : Fr 15 [(0, _), (1, _), (2, _)] [] a := hfr
  have hst : St No w0 [] w0 := St.init w0
  refine wc_seq_region fun K1 hK1 => ?_
  refine wl_v hfr (by decide) (v_assign rfl) fun a hfr => ?_
  refine wl_nil (hK1 _ _ ?_)
  refine wc_seq_region fun K2 hK2 => ?_
  refine wl_v hfr (by decide) (v_move rfl) fun a hfr => ?_
  refine wl_v hfr (by decide) (v_move rfl) fun a hfr => ?_
  refine wl_v hfr (by decide) (v_ge rfl rfl) fun a hfr => ?_
  refine wl_v hfr (by decide) (v_move rfl) fun a hfr => ?_
  rcases Bool.eq_false_or_eq_true (decide (lo ≤ n)) with hb1 | hb1
  · rw [hb1] at hfr
    try simp only [Bool.not_eq_true', Bool.not_eq_false', decide_eq_true_eq, decide_eq_false_iff_not] at hb1
    refine wl_vy hfr (by decide) rfl (by decide) rfl (v_move rfl) fun a hfr => ?_
    refine wl_vy hfr (by decide) rfl (by decide) rfl (v_move rfl) fun a hfr => ?_
    refine wl_vy hfr (by decide) rfl (by decide) rfl (v_le rfl rfl) fun a hfr => ?_
    refine wl_v hfr (by decide) (v_pick_t rfl rfl) fun a hfr => ?_
    refine wl_v hfr (by decide) (v_assign rfl) fun a hfr => ?_
    refine wl_nil (hK2 _ _ ?_)
    have hfr : Fr 15 [(0, _), (1, _), (2, _), (6, _)] [] a := hfr.pick [0, 1, 2, 6]
    refine wc_ret ?_
    refine fin_ret hfr Try.results56 (resAre_tmp rfl resAre_nil) ?_
    exact ⟨by simp [retv, isIn, *], hst.ext⟩
  rw [hb1] at hfr
  try simp only [Bool.not_eq_true', Bool.not_eq_false', decide_eq_true_eq, decide_eq_false_iff_not] at hb1
  refine wl_vn hfr (by decide) rfl (by decide) rfl rfl fun a hfr => ?_
  refine wl_vn hfr (by decide) rfl (by decide) rfl rfl fun a hfr => ?_
  refine wl_vn hfr (by decide) rfl (by decide) rfl rfl fun a hfr => ?_
  refine wl_v hfr (by decide) (v_pick_f rfl rfl) fun a hfr => ?_
  refine wl_v hfr (by decide) (v_assign rfl) fun a hfr => ?_
  refine wl_nil (hK2 _ _ ?_)
  have hfr : Fr 15 [(0, _), (1, _), (2, _), (6, _)] [] a := hfr.pick [0, 1, 2, 6]
  refine wc_ret ?_
  refine fin_ret hfr Try.results56 (resAre_tmp rfl resAre_nil) ?_
  exact ⟨by simp [retv, isIn, *], hst.ext⟩

/-- dialtone/dialtoneref16.Rules -/
theorem rrules_ok (ra rc rs rr : Int) (w0 : World) :
    Ret Try.prog 82 #[.agg #[.int .i64 ra, .int .i64 rc, .int .i64 rs, .int .i64 rr]] w0 fun v w => v = .bool (areValid ⟨ra, rc, rs, rr⟩) ∧ Ext No w0 w := by
  refine ret_of Try.func82 rfl Try.ntmps82 (Nat.le_of_ble_eq_true rfl) fun a hfr => ?_
  have hfr : Fr 21 [(0, _)] [] a := hfr
  have hst : St No w0 [] w0 := St.init w0
  refine wc_seq_region fun K1 hK1 => ?_
  refine wl_box hfr hst (by decide) rfl (cs := [.int .i64 ra, .int .i64 rc, .int .i64 rs, .int .i64 rr]) rfl fun a w1 hfr hst => ?_
  refine wl_v hfr (by decide) (v_assign rfl) fun a hfr => ?_
  refine wl_nil (hK1 _ _ ?_)
  refine wc_seq_region fun K2 hK2 => ?_
  refine wl_v hfr (by decide) (v_fieldAddr (v := .pointer (some ⟨w0.heap.size, 0, none⟩)) rfl (by kernel_rfl)) fun a hfr => ?_
  refine wl_v hfr (by decide) (v_load_blk1 (hst.get (k := 0) rfl) rfl (Try.isAgg3 _) rfl) fun a hfr => ?_
  refine wl_callp hfr hst (by decide) Try.call56 rfl (rin_ok _ _ _ _) fun a w2 hfr hst => ?_
  refine wl_v hfr (by decide) (v_move rfl) fun a hfr => ?_
  rcases Bool.eq_false_or_eq_true (isIn ra 1 1000000) with hb1 | hb1
  · rw [hb1] at hfr
    try simp only [Bool.not_eq_true', Bool.not_eq_false', decide_eq_true_eq, decide_eq_false_iff_not] at hb1
    refine wl_vy hfr (by decide) rfl (by decide) rfl (v_fieldAddr (v := .pointer (some ⟨w0.heap.size, 1, none⟩)) rfl (by kernel_rfl)) fun a hfr => ?_
    refine wl_vy hfr (by decide) rfl (by decide) rfl (v_load_blk1 (hst.get (k := 0) rfl) rfl (Try.isAgg3 _) rfl) fun a hfr => ?_
    refine wl_callpy hfr hst (by decide) rfl (by decide) rfl Try.call56 rfl (rin_ok _ _ _ _) fun a w3 hfr hst => ?_
    refine wl_v hfr (by decide) (v_pick_t rfl rfl) fun a hfr => ?_
    refine wl_v hfr (by decide) (v_move rfl) fun a hfr => ?_
    rcases Bool.eq_false_or_eq_true (isIn rc 1 1000000) with hb2 | hb2
    · rw [hb2] at hfr
      try simp only [Bool.not_eq_true', Bool.not_eq_false', decide_eq_true_eq, decide_eq_false_iff_not] at hb2
      refine wl_vy hfr (by decide) rfl (by decide) rfl (v_fieldAddr (v := .pointer (some ⟨w0.heap.size, 2, none⟩)) rfl (by kernel_rfl)) fun a hfr => ?_
      refine wl_vy hfr (by decide) rfl (by decide) rfl (v_load_blk1 (hst.get (k := 0) rfl) rfl (Try.isAgg3 _) rfl) fun a hfr => ?_
      refine wl_callpy hfr hst (by decide) rfl (by decide) rfl Try.call56 rfl (rin_ok _ _ _ _) fun a w4 hfr hst => ?_
      refine wl_v hfr (by decide) (v_pick_t rfl rfl) fun a hfr => ?_
      refine wl_v hfr (by decide) (v_move rfl) fun a hfr => ?_
      rcases Bool.eq_false_or_eq_true (isIn rs 1 1000000) with hb3 | hb3
      · rw [hb3] at hfr
        try simp only [Bool.not_eq_true', Bool.not_eq_false', decide_eq_true_eq, decide_eq_false_iff_not] at hb3
        refine wl_vy hfr (by decide) rfl (by decide) rfl (v_fieldAddr (v := .pointer (some ⟨w0.heap.size, 3, none⟩)) rfl (by kernel_rfl)) fun a hfr => ?_
        refine wl_vy hfr (by decide) rfl (by decide) rfl (v_load_blk1 (hst.get (k := 0) rfl) rfl (Try.isAgg3 _) rfl) fun a hfr => ?_
        refine wl_callpy hfr hst (by decide) rfl (by decide) rfl Try.call56 rfl (rin_ok _ _ _ _) fun a w5 hfr hst => ?_
        refine wl_v hfr (by decide) (v_pick_t rfl rfl) fun a hfr => ?_
        refine wl_v hfr (by decide) (v_assign rfl) fun a hfr => ?_
        refine wl_nil (hK2 _ _ ?_)
        have hfr : Fr 21 [(0, _), (1, _), (2, _)] [] a := hfr.pick [0, 1, 2]
        refine wc_ret ?_
        refine fin_ret hfr Try.results82 (resAre_tmp rfl resAre_nil) ?_
        exact ⟨by simp_all [retv, areValid], hst.ext⟩
      rw [hb3] at hfr
      try simp only [Bool.not_eq_true', Bool.not_eq_false', decide_eq_true_eq, decide_eq_false_iff_not] at hb3
      refine wl_vn hfr (by decide) rfl (by decide) rfl rfl fun a hfr => ?_
      refine wl_vn hfr (by decide) rfl (by decide) rfl rfl fun a hfr => ?_
      refine wl_vn hfr (by decide) rfl (by decide) rfl rfl fun a hfr => ?_
      refine wl_v hfr (by decide) (v_pick_f rfl rfl) fun a hfr => ?_
      refine wl_v hfr (by decide) (v_assign rfl) fun a hfr => ?_
      refine wl_nil (hK2 _ _ ?_)
      have hfr : Fr 21 [(0, _), (1, _), (2, _)] [] a := hfr.pick [0, 1, 2]
      refine wc_ret ?_
      refine fin_ret hfr Try.results82 (resAre_tmp rfl resAre_nil) ?_
      exact ⟨by simp_all [retv, areValid], hst.ext⟩
    rw [hb2] at hfr
    try simp only [Bool.not_eq_true', Bool.not_eq_false', decide_eq_true_eq, decide_eq_false_iff_not] at hb2
    refine wl_vn hfr (by decide) rfl (by decide) rfl rfl fun a hfr => ?_
    refine wl_vn hfr (by decide) rfl (by decide) rfl rfl fun a hfr => ?_
    refine wl_vn hfr (by decide) rfl (by decide) rfl rfl fun a hfr => ?_
    refine wl_v hfr (by decide) (v_pick_f rfl rfl) fun a hfr => ?_
    refine wl_v hfr (by decide) (v_move rfl) fun a hfr => ?_
    refine wl_vn hfr (by decide) rfl (by decide) rfl rfl fun a hfr => ?_
    refine wl_vn hfr (by decide) rfl (by decide) rfl rfl fun a hfr => ?_
    refine wl_vn hfr (by decide) rfl (by decide) rfl rfl fun a hfr => ?_
    refine wl_v hfr (by decide) (v_pick_f rfl rfl) fun a hfr => ?_
    refine wl_v hfr (by decide) (v_assign rfl) fun a hfr => ?_
    refine wl_nil (hK2 _ _ ?_)
    have hfr : Fr 21 [(0, _), (1, _), (2, _)] [] a := hfr.pick [0, 1, 2]
    refine wc_ret ?_
    refine fin_ret hfr Try.results82 (resAre_tmp rfl resAre_nil) ?_
    exact ⟨by simp_all [retv, areValid], hst.ext⟩
  rw [hb1] at hfr
  try simp only [Bool.not_eq_true', Bool.not_eq_false', decide_eq_true_eq, decide_eq_false_iff_not] at hb1
  refine wl_vn hfr (by decide) rfl (by decide) rfl rfl fun a hfr => ?_
  refine wl_vn hfr (by decide) rfl (by decide) rfl rfl fun a hfr => ?_
  refine wl_vn hfr (by decide) rfl (by decide) rfl rfl fun a hfr => ?_
  refine wl_v hfr (by decide) (v_pick_f rfl rfl) fun a hfr => ?_
  refine wl_v hfr (by decide) (v_move rfl) fun a hfr => ?_
  refine wl_vn hfr (by decide) rfl (by decide) rfl rfl fun a hfr => ?_
  refine wl_vn hfr (by decide) rfl (by decide) rfl rfl fun a hfr => ?_
  refine wl_vn hfr (by decide) rfl (by decide) rfl rfl fun a hfr => ?_
  refine wl_v hfr (by decide) (v_pick_f rfl rfl) fun a hfr => ?_
  refine wl_v hfr (by decide) (v_move rfl) fun a hfr => ?_
  refine wl_vn hfr (by decide) rfl (by decide) rfl rfl fun a hfr => ?_
  refine wl_vn hfr (by decide) rfl (by decide) rfl rfl fun a hfr => ?_
  refine wl_vn hfr (by decide) rfl (by decide) rfl rfl fun a hfr => ?_
  refine wl_v hfr (by decide) (v_pick_f rfl rfl) fun a hfr => ?_
  refine wl_v hfr (by decide) (v_assign rfl) fun a hfr => ?_
  refine wl_nil (hK2 _ _ ?_)
  have hfr : Fr 21 [(0, _), (1, _), (2, _)] [] a := hfr.pick [0, 1, 2]
  refine wc_ret ?_
  refine fin_ret hfr Try.results82 (resAre_tmp rfl resAre_nil) ?_
  exact ⟨by simp_all [retv, areValid], hst.ext⟩

/-- dialtone/dialtoneref16.Claim -/
theorem rclaim_ok (cl : Clm) (w0 : World) :
    Ret Try.prog 83 #[.agg #[.int .i64 cl.number, .int .i64 cl.frm, .int .i64 cl.to, .int .i64 cl.holder, .int .i64 cl.asked, .bool cl.backed]] w0 fun v w => v = .bool (isClaim cl) ∧ Ext No w0 w := by
  refine ret_of Try.func83 rfl Try.ntmps83 (Nat.le_of_ble_eq_true rfl) fun a hfr => ?_
  have hfr : Fr 33 [(0, _)] [] a := hfr
  have hst : St No w0 [] w0 := St.init w0
  refine wc_seq_region fun K1 hK1 => ?_
  refine wl_box hfr hst (by decide) rfl (cs := [.int .i64 cl.number, .int .i64 cl.frm, .int .i64 cl.to, .int .i64 cl.holder, .int .i64 cl.asked, .bool cl.backed]) rfl fun a w1 hfr hst => ?_
  refine wl_v hfr (by decide) (v_assign rfl) fun a hfr => ?_
  refine wl_nil (hK1 _ _ ?_)
  refine wc_seq_region fun K2 hK2 => ?_
  refine wl_v hfr (by decide) (v_fieldAddr (v := .pointer (some ⟨w0.heap.size, 0, none⟩)) rfl (by kernel_rfl)) fun a hfr => ?_
  refine wl_v hfr (by decide) (v_load_blk1 (hst.get (k := 0) rfl) rfl (Try.isAgg3 _) rfl) fun a hfr => ?_
  refine wl_callp hfr hst (by decide) Try.call56 rfl (rin_ok _ _ _ _) fun a w2 hfr hst => ?_
  refine wl_v hfr (by decide) (v_move rfl) fun a hfr => ?_
  rcases Bool.eq_false_or_eq_true (isIn cl.number 0 99999999) with hb1 | hb1
  · rw [hb1] at hfr
    try simp only [Bool.not_eq_true', Bool.not_eq_false', decide_eq_true_eq, decide_eq_false_iff_not] at hb1
    refine wl_vy hfr (by decide) rfl (by decide) rfl (v_fieldAddr (v := .pointer (some ⟨w0.heap.size, 1, none⟩)) rfl (by kernel_rfl)) fun a hfr => ?_
    refine wl_vy hfr (by decide) rfl (by decide) rfl (v_load_blk1 (hst.get (k := 0) rfl) rfl (Try.isAgg3 _) rfl) fun a hfr => ?_
    refine wl_callpy hfr hst (by decide) rfl (by decide) rfl Try.call56 rfl (rin_ok _ _ _ _) fun a w3 hfr hst => ?_
    refine wl_v hfr (by decide) (v_pick_t rfl rfl) fun a hfr => ?_
    refine wl_v hfr (by decide) (v_move rfl) fun a hfr => ?_
    rcases Bool.eq_false_or_eq_true (isIn cl.frm 0 7) with hb2 | hb2
    · rw [hb2] at hfr
      try simp only [Bool.not_eq_true', Bool.not_eq_false', decide_eq_true_eq, decide_eq_false_iff_not] at hb2
      refine wl_vy hfr (by decide) rfl (by decide) rfl (v_fieldAddr (v := .pointer (some ⟨w0.heap.size, 2, none⟩)) rfl (by kernel_rfl)) fun a hfr => ?_
      refine wl_vy hfr (by decide) rfl (by decide) rfl (v_load_blk1 (hst.get (k := 0) rfl) rfl (Try.isAgg3 _) rfl) fun a hfr => ?_
      refine wl_callpy hfr hst (by decide) rfl (by decide) rfl Try.call56 rfl (rin_ok _ _ _ _) fun a w4 hfr hst => ?_
      refine wl_v hfr (by decide) (v_pick_t rfl rfl) fun a hfr => ?_
      refine wl_v hfr (by decide) (v_move rfl) fun a hfr => ?_
      rcases Bool.eq_false_or_eq_true (isIn cl.to 0 7) with hb3 | hb3
      · rw [hb3] at hfr
        try simp only [Bool.not_eq_true', Bool.not_eq_false', decide_eq_true_eq, decide_eq_false_iff_not] at hb3
        refine wl_vy hfr (by decide) rfl (by decide) rfl (v_fieldAddr (v := .pointer (some ⟨w0.heap.size, 1, none⟩)) rfl (by kernel_rfl)) fun a hfr => ?_
        refine wl_vy hfr (by decide) rfl (by decide) rfl (v_load_blk1 (hst.get (k := 0) rfl) rfl (Try.isAgg3 _) rfl) fun a hfr => ?_
        refine wl_vy hfr (by decide) rfl (by decide) rfl (v_fieldAddr (v := .pointer (some ⟨w0.heap.size, 2, none⟩)) rfl (by kernel_rfl)) fun a hfr => ?_
        refine wl_vy hfr (by decide) rfl (by decide) rfl (v_load_blk1 (hst.get (k := 0) rfl) rfl (Try.isAgg3 _) rfl) fun a hfr => ?_
        refine wl_vy hfr (by decide) rfl (by decide) rfl (v_ne rfl rfl) fun a hfr => ?_
        refine wl_v hfr (by decide) (v_pick_t rfl rfl) fun a hfr => ?_
        refine wl_v hfr (by decide) (v_move rfl) fun a hfr => ?_
        rcases Bool.eq_false_or_eq_true (!decide (cl.frm = cl.to)) with hb4 | hb4
        · rw [hb4] at hfr
          try simp only [Bool.not_eq_true', Bool.not_eq_false', decide_eq_true_eq, decide_eq_false_iff_not] at hb4
          refine wl_vy hfr (by decide) rfl (by decide) rfl (v_fieldAddr (v := .pointer (some ⟨w0.heap.size, 3, none⟩)) rfl (by kernel_rfl)) fun a hfr => ?_
          refine wl_vy hfr (by decide) rfl (by decide) rfl (v_load_blk1 (hst.get (k := 0) rfl) rfl (Try.isAgg3 _) rfl) fun a hfr => ?_
          refine wl_callpy hfr hst (by decide) rfl (by decide) rfl Try.call56 rfl (rin_ok _ _ _ _) fun a w5 hfr hst => ?_
          refine wl_v hfr (by decide) (v_pick_t rfl rfl) fun a hfr => ?_
          refine wl_v hfr (by decide) (v_move rfl) fun a hfr => ?_
          rcases Bool.eq_false_or_eq_true (isIn cl.holder 0 63) with hb5 | hb5
          · rw [hb5] at hfr
            try simp only [Bool.not_eq_true', Bool.not_eq_false', decide_eq_true_eq, decide_eq_false_iff_not] at hb5
            refine wl_vy hfr (by decide) rfl (by decide) rfl (v_fieldAddr (v := .pointer (some ⟨w0.heap.size, 4, none⟩)) rfl (by kernel_rfl)) fun a hfr => ?_
            refine wl_vy hfr (by decide) rfl (by decide) rfl (v_load_blk1 (hst.get (k := 0) rfl) rfl (Try.isAgg3 _) rfl) fun a hfr => ?_
            refine wl_callpy hfr hst (by decide) rfl (by decide) rfl Try.call56 rfl (rin_ok _ _ _ _) fun a w6 hfr hst => ?_
            refine wl_v hfr (by decide) (v_pick_t rfl rfl) fun a hfr => ?_
            refine wl_v hfr (by decide) (v_assign rfl) fun a hfr => ?_
            refine wl_nil (hK2 _ _ ?_)
            have hfr : Fr 33 [(0, _), (1, _), (2, _)] [] a := hfr.pick [0, 1, 2]
            refine wc_ret ?_
            refine fin_ret hfr Try.results83 (resAre_tmp rfl resAre_nil) ?_
            exact ⟨by simp_all [retv, isClaim], hst.ext⟩
          rw [hb5] at hfr
          try simp only [Bool.not_eq_true', Bool.not_eq_false', decide_eq_true_eq, decide_eq_false_iff_not] at hb5
          refine wl_vn hfr (by decide) rfl (by decide) rfl rfl fun a hfr => ?_
          refine wl_vn hfr (by decide) rfl (by decide) rfl rfl fun a hfr => ?_
          refine wl_vn hfr (by decide) rfl (by decide) rfl rfl fun a hfr => ?_
          refine wl_v hfr (by decide) (v_pick_f rfl rfl) fun a hfr => ?_
          refine wl_v hfr (by decide) (v_assign rfl) fun a hfr => ?_
          refine wl_nil (hK2 _ _ ?_)
          have hfr : Fr 33 [(0, _), (1, _), (2, _)] [] a := hfr.pick [0, 1, 2]
          refine wc_ret ?_
          refine fin_ret hfr Try.results83 (resAre_tmp rfl resAre_nil) ?_
          exact ⟨by simp_all [retv, isClaim], hst.ext⟩
        rw [hb4] at hfr
        try simp only [Bool.not_eq_true', Bool.not_eq_false', decide_eq_true_eq, decide_eq_false_iff_not] at hb4
        refine wl_vn hfr (by decide) rfl (by decide) rfl rfl fun a hfr => ?_
        refine wl_vn hfr (by decide) rfl (by decide) rfl rfl fun a hfr => ?_
        refine wl_vn hfr (by decide) rfl (by decide) rfl rfl fun a hfr => ?_
        refine wl_v hfr (by decide) (v_pick_f rfl rfl) fun a hfr => ?_
        refine wl_v hfr (by decide) (v_move rfl) fun a hfr => ?_
        refine wl_vn hfr (by decide) rfl (by decide) rfl rfl fun a hfr => ?_
        refine wl_vn hfr (by decide) rfl (by decide) rfl rfl fun a hfr => ?_
        refine wl_vn hfr (by decide) rfl (by decide) rfl rfl fun a hfr => ?_
        refine wl_v hfr (by decide) (v_pick_f rfl rfl) fun a hfr => ?_
        refine wl_v hfr (by decide) (v_assign rfl) fun a hfr => ?_
        refine wl_nil (hK2 _ _ ?_)
        have hfr : Fr 33 [(0, _), (1, _), (2, _)] [] a := hfr.pick [0, 1, 2]
        refine wc_ret ?_
        refine fin_ret hfr Try.results83 (resAre_tmp rfl resAre_nil) ?_
        exact ⟨by simp_all [retv, isClaim], hst.ext⟩
      rw [hb3] at hfr
      try simp only [Bool.not_eq_true', Bool.not_eq_false', decide_eq_true_eq, decide_eq_false_iff_not] at hb3
      refine wl_vn hfr (by decide) rfl (by decide) rfl rfl fun a hfr => ?_
      refine wl_vn hfr (by decide) rfl (by decide) rfl rfl fun a hfr => ?_
      refine wl_vn hfr (by decide) rfl (by decide) rfl rfl fun a hfr => ?_
      refine wl_vn hfr (by decide) rfl (by decide) rfl rfl fun a hfr => ?_
      refine wl_vn hfr (by decide) rfl (by decide) rfl rfl fun a hfr => ?_
      refine wl_v hfr (by decide) (v_pick_f rfl rfl) fun a hfr => ?_
      refine wl_v hfr (by decide) (v_move rfl) fun a hfr => ?_
      refine wl_vn hfr (by decide) rfl (by decide) rfl rfl fun a hfr => ?_
      refine wl_vn hfr (by decide) rfl (by decide) rfl rfl fun a hfr => ?_
      refine wl_vn hfr (by decide) rfl (by decide) rfl rfl fun a hfr => ?_
      refine wl_v hfr (by decide) (v_pick_f rfl rfl) fun a hfr => ?_
      refine wl_v hfr (by decide) (v_move rfl) fun a hfr => ?_
      refine wl_vn hfr (by decide) rfl (by decide) rfl rfl fun a hfr => ?_
      refine wl_vn hfr (by decide) rfl (by decide) rfl rfl fun a hfr => ?_
      refine wl_vn hfr (by decide) rfl (by decide) rfl rfl fun a hfr => ?_
      refine wl_v hfr (by decide) (v_pick_f rfl rfl) fun a hfr => ?_
      refine wl_v hfr (by decide) (v_assign rfl) fun a hfr => ?_
      refine wl_nil (hK2 _ _ ?_)
      have hfr : Fr 33 [(0, _), (1, _), (2, _)] [] a := hfr.pick [0, 1, 2]
      refine wc_ret ?_
      refine fin_ret hfr Try.results83 (resAre_tmp rfl resAre_nil) ?_
      exact ⟨by simp_all [retv, isClaim], hst.ext⟩
    rw [hb2] at hfr
    try simp only [Bool.not_eq_true', Bool.not_eq_false', decide_eq_true_eq, decide_eq_false_iff_not] at hb2
    refine wl_vn hfr (by decide) rfl (by decide) rfl rfl fun a hfr => ?_
    refine wl_vn hfr (by decide) rfl (by decide) rfl rfl fun a hfr => ?_
    refine wl_vn hfr (by decide) rfl (by decide) rfl rfl fun a hfr => ?_
    refine wl_v hfr (by decide) (v_pick_f rfl rfl) fun a hfr => ?_
    refine wl_v hfr (by decide) (v_move rfl) fun a hfr => ?_
    refine wl_vn hfr (by decide) rfl (by decide) rfl rfl fun a hfr => ?_
    refine wl_vn hfr (by decide) rfl (by decide) rfl rfl fun a hfr => ?_
    refine wl_vn hfr (by decide) rfl (by decide) rfl rfl fun a hfr => ?_
    refine wl_vn hfr (by decide) rfl (by decide) rfl rfl fun a hfr => ?_
    refine wl_vn hfr (by decide) rfl (by decide) rfl rfl fun a hfr => ?_
    refine wl_v hfr (by decide) (v_pick_f rfl rfl) fun a hfr => ?_
    refine wl_v hfr (by decide) (v_move rfl) fun a hfr => ?_
    refine wl_vn hfr (by decide) rfl (by decide) rfl rfl fun a hfr => ?_
    refine wl_vn hfr (by decide) rfl (by decide) rfl rfl fun a hfr => ?_
    refine wl_vn hfr (by decide) rfl (by decide) rfl rfl fun a hfr => ?_
    refine wl_v hfr (by decide) (v_pick_f rfl rfl) fun a hfr => ?_
    refine wl_v hfr (by decide) (v_move rfl) fun a hfr => ?_
    refine wl_vn hfr (by decide) rfl (by decide) rfl rfl fun a hfr => ?_
    refine wl_vn hfr (by decide) rfl (by decide) rfl rfl fun a hfr => ?_
    refine wl_vn hfr (by decide) rfl (by decide) rfl rfl fun a hfr => ?_
    refine wl_v hfr (by decide) (v_pick_f rfl rfl) fun a hfr => ?_
    refine wl_v hfr (by decide) (v_assign rfl) fun a hfr => ?_
    refine wl_nil (hK2 _ _ ?_)
    have hfr : Fr 33 [(0, _), (1, _), (2, _)] [] a := hfr.pick [0, 1, 2]
    refine wc_ret ?_
    refine fin_ret hfr Try.results83 (resAre_tmp rfl resAre_nil) ?_
    exact ⟨by simp_all [retv, isClaim], hst.ext⟩
  rw [hb1] at hfr
  try simp only [Bool.not_eq_true', Bool.not_eq_false', decide_eq_true_eq, decide_eq_false_iff_not] at hb1
  refine wl_vn hfr (by decide) rfl (by decide) rfl rfl fun a hfr => ?_
  refine wl_vn hfr (by decide) rfl (by decide) rfl rfl fun a hfr => ?_
  refine wl_vn hfr (by decide) rfl (by decide) rfl rfl fun a hfr => ?_
  refine wl_v hfr (by decide) (v_pick_f rfl rfl) fun a hfr => ?_
  refine wl_v hfr (by decide) (v_move rfl) fun a hfr => ?_
  refine wl_vn hfr (by decide) rfl (by decide) rfl rfl fun a hfr => ?_
  refine wl_vn hfr (by decide) rfl (by decide) rfl rfl fun a hfr => ?_
  refine wl_vn hfr (by decide) rfl (by decide) rfl rfl fun a hfr => ?_
  refine wl_v hfr (by decide) (v_pick_f rfl rfl) fun a hfr => ?_
  refine wl_v hfr (by decide) (v_move rfl) fun a hfr => ?_
  refine wl_vn hfr (by decide) rfl (by decide) rfl rfl fun a hfr => ?_
  refine wl_vn hfr (by decide) rfl (by decide) rfl rfl fun a hfr => ?_
  refine wl_vn hfr (by decide) rfl (by decide) rfl rfl fun a hfr => ?_
  refine wl_vn hfr (by decide) rfl (by decide) rfl rfl fun a hfr => ?_
  refine wl_vn hfr (by decide) rfl (by decide) rfl rfl fun a hfr => ?_
  refine wl_v hfr (by decide) (v_pick_f rfl rfl) fun a hfr => ?_
  refine wl_v hfr (by decide) (v_move rfl) fun a hfr => ?_
  refine wl_vn hfr (by decide) rfl (by decide) rfl rfl fun a hfr => ?_
  refine wl_vn hfr (by decide) rfl (by decide) rfl rfl fun a hfr => ?_
  refine wl_vn hfr (by decide) rfl (by decide) rfl rfl fun a hfr => ?_
  refine wl_v hfr (by decide) (v_pick_f rfl rfl) fun a hfr => ?_
  refine wl_v hfr (by decide) (v_move rfl) fun a hfr => ?_
  refine wl_vn hfr (by decide) rfl (by decide) rfl rfl fun a hfr => ?_
  refine wl_vn hfr (by decide) rfl (by decide) rfl rfl fun a hfr => ?_
  refine wl_vn hfr (by decide) rfl (by decide) rfl rfl fun a hfr => ?_
  refine wl_v hfr (by decide) (v_pick_f rfl rfl) fun a hfr => ?_
  refine wl_v hfr (by decide) (v_assign rfl) fun a hfr => ?_
  refine wl_nil (hK2 _ _ ?_)
  have hfr : Fr 33 [(0, _), (1, _), (2, _)] [] a := hfr.pick [0, 1, 2]
  refine wc_ret ?_
  refine fin_ret hfr Try.results83 (resAre_tmp rfl resAre_nil) ?_
  exact ⟨by simp_all [retv, isClaim], hst.ext⟩

set_option maxHeartbeats 4000000 in
/-- dialtone/dialtoneref16.becomes -/
theorem becomes_ok (cl : Clm) (s : Int) (ev : Evt) (w0 : World) :
    Ret Try.prog 86 #[.agg #[.int .i64 cl.number, .int .i64 cl.frm, .int .i64 cl.to, .int .i64 cl.holder, .int .i64 cl.asked, .bool cl.backed], .int .i64 s, .agg #[.int .i64 ev.kind, .int .i64 ev.at_, .int .i64 ev.reason]] w0 fun v w => v = .int .i64 (becomes cl.backed s ev) ∧ Ext No w0 w := by
  refine ret_of Try.func86 rfl Try.ntmps86 (Nat.le_of_ble_eq_true rfl) fun a hfr => ?_
  have hfr : Fr 96 [(0, _), (1, _), (2, _)] [] a := hfr
  have hst : St No w0 [] w0 := St.init w0
  refine wc_seq_region fun K1 hK1 => ?_
  refine wl_box hfr hst (by decide) rfl (cs := [.int .i64 cl.number, .int .i64 cl.frm, .int .i64 cl.to, .int .i64 cl.holder, .int .i64 cl.asked, .bool cl.backed]) rfl fun a w1 hfr hst => ?_
  refine wl_box hfr hst (by decide) rfl (cs := [.int .i64 ev.kind, .int .i64 ev.at_, .int .i64 ev.reason]) rfl fun a w2 hfr hst => ?_
  refine wl_v hfr (by decide) (v_assign rfl) fun a hfr => ?_
  refine wl_nil (hK1 _ _ ?_)
  refine wc_seq_region fun K2 hK2 => ?_
  refine wl_v hfr (by decide) (v_fieldAddr (v := .pointer (some ⟨w1.heap.size, 2, none⟩)) rfl (by kernel_rfl)) fun a hfr => ?_
  refine wl_v hfr (by decide) (v_load_blk1 (hst.get (k := 0) rfl) rfl (Try.isAgg3 _) rfl) fun a hfr => ?_
  refine wl_v hfr (by decide) (v_eq rfl rfl) fun a hfr => ?_
  refine wl_v hfr (by decide) (v_assign rfl) fun a hfr => ?_
  refine wl_nil (hK2 _ _ ?_)
  refine wc_seq_k fun K3 hK3 => ?_
  refine wc_block ?_
  refine wc_seq_region fun K4 hK4 => ?_
  refine wl_v hfr (by decide) (v_fieldAddr (v := .pointer (some ⟨w1.heap.size, 0, none⟩)) rfl (by kernel_rfl)) fun a hfr => ?_
  refine wl_v hfr (by decide) (v_load_blk1 (hst.get (k := 0) rfl) rfl (Try.isAgg3 _) rfl) fun a hfr => ?_
  refine wl_v hfr (by decide) (v_eq rfl rfl) fun a hfr => ?_
  refine wl_v hfr (by decide) (v_move rfl) fun a hfr => ?_
  refine wl_join (N := 96) (df := []) 3 [(18, .bool ((decide (ev.kind = 1)) && (decide (s = 1)))), (0, .agg #[.int .i64 cl.number, .int .i64 cl.frm, .int .i64 cl.to, .int .i64 cl.holder, .int .i64 cl.asked, .bool cl.backed]), (1, .int .i64 s), (2, .agg #[.int .i64 ev.kind, .int .i64 ev.at_, .int .i64 ev.reason]), (3, .pointer (some ⟨w0.heap.size, 0, none⟩)), (5, .pointer (some ⟨w1.heap.size, 0, none⟩)), (6, .int .i64 0), (8, .pointer (some ⟨w1.heap.size, 2, none⟩)), (9, .int .i64 ev.reason), (10, .bool (decide (ev.reason = 1))), (7, .bool (decide (ev.reason = 1)))] ?_ (fun hj => ?_)
  rotate_left
  · rcases Bool.eq_false_or_eq_true (decide (ev.kind = 1)) with hb1 | hb1
    · rw [hb1] at hfr
      have hb1b := hb1
      try simp only [Bool.not_eq_true', Bool.not_eq_false', decide_eq_true_eq, decide_eq_false_iff_not, Bool.and_eq_true, Bool.or_eq_true, Bool.and_eq_false_iff, Bool.or_eq_false_iff] at hb1
      refine wl_vy hfr (by decide) rfl (by decide) rfl (v_move rfl) fun a hfr => ?_
      refine wl_vy hfr (by decide) rfl (by decide) rfl (v_eq rfl rfl) fun a hfr => ?_
      refine wl_v hfr (by decide) (v_pick_t rfl rfl) fun a hfr => ?_
      refine hj _ ?_
      rw [hb1b]
      exact hfr.pick [18, 0, 1, 2, 3, 5, 6, 8, 9, 10, 7]
    rw [hb1] at hfr
    have hb1b := hb1
    try simp only [Bool.not_eq_true', Bool.not_eq_false', decide_eq_true_eq, decide_eq_false_iff_not, Bool.and_eq_true, Bool.or_eq_true, Bool.and_eq_false_iff, Bool.or_eq_false_iff] at hb1
    refine wl_vn hfr (by decide) rfl (by decide) rfl rfl fun a hfr => ?_
    refine wl_vn hfr (by decide) rfl (by decide) rfl rfl fun a hfr => ?_
    refine wl_v hfr (by decide) (v_pick_f rfl rfl) fun a hfr => ?_
    refine hj _ ?_
    rw [hb1b]
    exact hfr.pick [18, 0, 1, 2, 3, 5, 6, 8, 9, 10, 7]
  intro a hfr
  refine wl_v hfr (by decide) (v_assign rfl) fun a hfr => ?_
  refine wl_nil (hK4 _ _ ?_)
  refine wc_cond hfr rfl (fun hc2 => ?_) (fun hc2 => ?_)
  · rw [hc2] at hfr
    refine wc_seq_region fun K5 hK5 => ?_
    refine wl_v hfr (by decide) (v_assign rfl) fun a hfr => ?_
    refine wl_nil (hK5 _ _ ?_)
    refine wc_ret ?_
    refine fin_ret hfr Try.results86 (resAre_tmp rfl resAre_nil) ?_
    exact ⟨by simp only [retv, becomes, cond_true, cond_false, hc2], hst.ext⟩
  rw [hc2] at hfr
  refine wc_seq_region fun K6 hK6 => ?_
  refine wl_v hfr (by decide) (v_fieldAddr (v := .pointer (some ⟨w1.heap.size, 0, none⟩)) rfl (by kernel_rfl)) fun a hfr => ?_
  refine wl_v hfr (by decide) (v_load_blk1 (hst.get (k := 0) rfl) rfl (Try.isAgg3 _) rfl) fun a hfr => ?_
  refine wl_v hfr (by decide) (v_eq rfl rfl) fun a hfr => ?_
  refine wl_v hfr (by decide) (v_move rfl) fun a hfr => ?_
  refine wl_join (N := 96) (df := []) 3 [(26, .bool ((decide (ev.kind = 2)) && (decide (s = 1)))), (18, .bool false), (0, .agg #[.int .i64 cl.number, .int .i64 cl.frm, .int .i64 cl.to, .int .i64 cl.holder, .int .i64 cl.asked, .bool cl.backed]), (1, .int .i64 s), (2, .agg #[.int .i64 ev.kind, .int .i64 ev.at_, .int .i64 ev.reason]), (3, .pointer (some ⟨w0.heap.size, 0, none⟩)), (5, .pointer (some ⟨w1.heap.size, 0, none⟩)), (6, .int .i64 0), (8, .pointer (some ⟨w1.heap.size, 2, none⟩)), (9, .int .i64 ev.reason), (10, .bool (decide (ev.reason = 1))), (7, .bool (decide (ev.reason = 1))), (11, .bool false)] ?_ (fun hj => ?_)
  rotate_left
  · rcases Bool.eq_false_or_eq_true (decide (ev.kind = 2)) with hb3 | hb3
    · rw [hb3] at hfr
      have hb3b := hb3
      try simp only [Bool.not_eq_true', Bool.not_eq_false', decide_eq_true_eq, decide_eq_false_iff_not, Bool.and_eq_true, Bool.or_eq_true, Bool.and_eq_false_iff, Bool.or_eq_false_iff] at hb3
      refine wl_vy hfr (by decide) rfl (by decide) rfl (v_move rfl) fun a hfr => ?_
      refine wl_vy hfr (by decide) rfl (by decide) rfl (v_eq rfl rfl) fun a hfr => ?_
      refine wl_v hfr (by decide) (v_pick_t rfl rfl) fun a hfr => ?_
      refine hj _ ?_
      rw [hb3b]
      exact hfr.pick [26, 18, 0, 1, 2, 3, 5, 6, 8, 9, 10, 7, 11]
    rw [hb3] at hfr
    have hb3b := hb3
    try simp only [Bool.not_eq_true', Bool.not_eq_false', decide_eq_true_eq, decide_eq_false_iff_not, Bool.and_eq_true, Bool.or_eq_true, Bool.and_eq_false_iff, Bool.or_eq_false_iff] at hb3
    refine wl_vn hfr (by decide) rfl (by decide) rfl rfl fun a hfr => ?_
    refine wl_vn hfr (by decide) rfl (by decide) rfl rfl fun a hfr => ?_
    refine wl_v hfr (by decide) (v_pick_f rfl rfl) fun a hfr => ?_
    refine hj _ ?_
    rw [hb3b]
    exact hfr.pick [26, 18, 0, 1, 2, 3, 5, 6, 8, 9, 10, 7, 11]
  intro a hfr
  refine wl_v hfr (by decide) (v_move rfl) fun a hfr => ?_
  refine wl_join (N := 96) (df := []) 2 [(29, .bool (((decide (ev.kind = 2)) && (decide (s = 1))) && (decide (ev.reason = 1)))), (18, .bool false), (0, .agg #[.int .i64 cl.number, .int .i64 cl.frm, .int .i64 cl.to, .int .i64 cl.holder, .int .i64 cl.asked, .bool cl.backed]), (1, .int .i64 s), (2, .agg #[.int .i64 ev.kind, .int .i64 ev.at_, .int .i64 ev.reason]), (3, .pointer (some ⟨w0.heap.size, 0, none⟩)), (5, .pointer (some ⟨w1.heap.size, 0, none⟩)), (6, .int .i64 0), (8, .pointer (some ⟨w1.heap.size, 2, none⟩)), (9, .int .i64 ev.reason), (10, .bool (decide (ev.reason = 1))), (7, .bool (decide (ev.reason = 1))), (11, .bool false)] ?_ (fun hj => ?_)
  rotate_left
  · rcases Bool.eq_false_or_eq_true ((decide (ev.kind = 2)) && (decide (s = 1))) with hb4 | hb4
    · rw [hb4] at hfr
      have hb4b := hb4
      try simp only [Bool.not_eq_true', Bool.not_eq_false', decide_eq_true_eq, decide_eq_false_iff_not, Bool.and_eq_true, Bool.or_eq_true, Bool.and_eq_false_iff, Bool.or_eq_false_iff] at hb4
      refine wl_vy hfr (by decide) rfl (by decide) rfl (v_move rfl) fun a hfr => ?_
      refine wl_v hfr (by decide) (v_pick_t rfl rfl) fun a hfr => ?_
      refine hj _ ?_
      rw [hb4b]
      exact hfr.pick [29, 18, 0, 1, 2, 3, 5, 6, 8, 9, 10, 7, 11]
    rw [hb4] at hfr
    have hb4b := hb4
    try simp only [Bool.not_eq_true', Bool.not_eq_false', decide_eq_true_eq, decide_eq_false_iff_not, Bool.and_eq_true, Bool.or_eq_true, Bool.and_eq_false_iff, Bool.or_eq_false_iff] at hb4
    refine wl_vn hfr (by decide) rfl (by decide) rfl rfl fun a hfr => ?_
    refine wl_v hfr (by decide) (v_pick_f rfl rfl) fun a hfr => ?_
    refine hj _ ?_
    rw [hb4b]
    exact hfr.pick [29, 18, 0, 1, 2, 3, 5, 6, 8, 9, 10, 7, 11]
  intro a hfr
  refine wl_v hfr (by decide) (v_move rfl) fun a hfr => ?_
  refine wl_join (N := 96) (df := []) 4 [(34, .bool ((((decide (ev.kind = 2)) && (decide (s = 1))) && (decide (ev.reason = 1))) && (!cl.backed))), (18, .bool false), (0, .agg #[.int .i64 cl.number, .int .i64 cl.frm, .int .i64 cl.to, .int .i64 cl.holder, .int .i64 cl.asked, .bool cl.backed]), (1, .int .i64 s), (2, .agg #[.int .i64 ev.kind, .int .i64 ev.at_, .int .i64 ev.reason]), (3, .pointer (some ⟨w0.heap.size, 0, none⟩)), (5, .pointer (some ⟨w1.heap.size, 0, none⟩)), (6, .int .i64 0), (8, .pointer (some ⟨w1.heap.size, 2, none⟩)), (9, .int .i64 ev.reason), (10, .bool (decide (ev.reason = 1))), (7, .bool (decide (ev.reason = 1))), (11, .bool false)] ?_ (fun hj => ?_)
  rotate_left
  · rcases Bool.eq_false_or_eq_true (((decide (ev.kind = 2)) && (decide (s = 1))) && (decide (ev.reason = 1))) with hb5 | hb5
    · rw [hb5] at hfr
      have hb5b := hb5
      try simp only [Bool.not_eq_true', Bool.not_eq_false', decide_eq_true_eq, decide_eq_false_iff_not, Bool.and_eq_true, Bool.or_eq_true, Bool.and_eq_false_iff, Bool.or_eq_false_iff] at hb5
      refine wl_vy hfr (by decide) rfl (by decide) rfl (v_fieldAddr (v := .pointer (some ⟨w0.heap.size, 5, none⟩)) rfl (by kernel_rfl)) fun a hfr => ?_
      refine wl_vy hfr (by decide) rfl (by decide) rfl (v_load_blk1 (hst.get (k := 1) rfl) rfl (Try.isAgg4 _) rfl) fun a hfr => ?_
      refine wl_vy hfr (by decide) rfl (by decide) rfl (v_not rfl) fun a hfr => ?_
      refine wl_v hfr (by decide) (v_pick_t rfl rfl) fun a hfr => ?_
      refine hj _ ?_
      rw [hb5b]
      exact hfr.pick [34, 18, 0, 1, 2, 3, 5, 6, 8, 9, 10, 7, 11]
    rw [hb5] at hfr
    have hb5b := hb5
    try simp only [Bool.not_eq_true', Bool.not_eq_false', decide_eq_true_eq, decide_eq_false_iff_not, Bool.and_eq_true, Bool.or_eq_true, Bool.and_eq_false_iff, Bool.or_eq_false_iff] at hb5
    refine wl_vn hfr (by decide) rfl (by decide) rfl rfl fun a hfr => ?_
    refine wl_vn hfr (by decide) rfl (by decide) rfl rfl fun a hfr => ?_
    refine wl_vn hfr (by decide) rfl (by decide) rfl rfl fun a hfr => ?_
    refine wl_v hfr (by decide) (v_pick_f rfl rfl) fun a hfr => ?_
    refine hj _ ?_
    rw [hb5b]
    exact hfr.pick [34, 18, 0, 1, 2, 3, 5, 6, 8, 9, 10, 7, 11]
  intro a hfr
  refine wl_v hfr (by decide) (v_assign rfl) fun a hfr => ?_
  refine wl_nil (hK6 _ _ ?_)
  refine wc_cond hfr rfl (fun hc6 => ?_) (fun hc6 => ?_)
  · rw [hc6] at hfr
    refine wc_seq_region fun K7 hK7 => ?_
    refine wl_v hfr (by decide) (v_assign rfl) fun a hfr => ?_
    refine wl_nil (hK7 _ _ ?_)
    refine wc_ret ?_
    refine fin_ret hfr Try.results86 (resAre_tmp rfl resAre_nil) ?_
    exact ⟨by simp only [retv, becomes, cond_true, cond_false, hc2, hc6], hst.ext⟩
  rw [hc6] at hfr
  refine wc_seq_region fun K8 hK8 => ?_
  refine wl_v hfr (by decide) (v_fieldAddr (v := .pointer (some ⟨w1.heap.size, 0, none⟩)) rfl (by kernel_rfl)) fun a hfr => ?_
  refine wl_v hfr (by decide) (v_load_blk1 (hst.get (k := 0) rfl) rfl (Try.isAgg3 _) rfl) fun a hfr => ?_
  refine wl_v hfr (by decide) (v_eq rfl rfl) fun a hfr => ?_
  refine wl_v hfr (by decide) (v_move rfl) fun a hfr => ?_
  refine wl_join (N := 96) (df := []) 3 [(42, .bool ((decide (ev.kind = 2)) && (decide (s = 1)))), (34, .bool false), (18, .bool false), (0, .agg #[.int .i64 cl.number, .int .i64 cl.frm, .int .i64 cl.to, .int .i64 cl.holder, .int .i64 cl.asked, .bool cl.backed]), (1, .int .i64 s), (2, .agg #[.int .i64 ev.kind, .int .i64 ev.at_, .int .i64 ev.reason]), (3, .pointer (some ⟨w0.heap.size, 0, none⟩)), (5, .pointer (some ⟨w1.heap.size, 0, none⟩)), (6, .int .i64 0), (8, .pointer (some ⟨w1.heap.size, 2, none⟩)), (9, .int .i64 ev.reason), (10, .bool (decide (ev.reason = 1))), (7, .bool (decide (ev.reason = 1))), (11, .bool false), (19, .bool false)] ?_ (fun hj => ?_)
  rotate_left
  · rcases Bool.eq_false_or_eq_true (decide (ev.kind = 2)) with hb7 | hb7
    · rw [hb7] at hfr
      have hb7b := hb7
      try simp only [Bool.not_eq_true', Bool.not_eq_false', decide_eq_true_eq, decide_eq_false_iff_not, Bool.and_eq_true, Bool.or_eq_true, Bool.and_eq_false_iff, Bool.or_eq_false_iff] at hb7
      refine wl_vy hfr (by decide) rfl (by decide) rfl (v_move rfl) fun a hfr => ?_
      refine wl_vy hfr (by decide) rfl (by decide) rfl (v_eq rfl rfl) fun a hfr => ?_
      refine wl_v hfr (by decide) (v_pick_t rfl rfl) fun a hfr => ?_
      refine hj _ ?_
      rw [hb7b]
      exact hfr.pick [42, 34, 18, 0, 1, 2, 3, 5, 6, 8, 9, 10, 7, 11, 19]
    rw [hb7] at hfr
    have hb7b := hb7
    try simp only [Bool.not_eq_true', Bool.not_eq_false', decide_eq_true_eq, decide_eq_false_iff_not, Bool.and_eq_true, Bool.or_eq_true, Bool.and_eq_false_iff, Bool.or_eq_false_iff] at hb7
    refine wl_vn hfr (by decide) rfl (by decide) rfl rfl fun a hfr => ?_
    refine wl_vn hfr (by decide) rfl (by decide) rfl rfl fun a hfr => ?_
    refine wl_v hfr (by decide) (v_pick_f rfl rfl) fun a hfr => ?_
    refine hj _ ?_
    rw [hb7b]
    exact hfr.pick [42, 34, 18, 0, 1, 2, 3, 5, 6, 8, 9, 10, 7, 11, 19]
  intro a hfr
  refine wl_v hfr (by decide) (v_move rfl) fun a hfr => ?_
  refine wl_join (N := 96) (df := []) 3 [(46, .bool (((decide (ev.kind = 2)) && (decide (s = 1))) && (!(decide (ev.reason = 1))))), (34, .bool false), (18, .bool false), (0, .agg #[.int .i64 cl.number, .int .i64 cl.frm, .int .i64 cl.to, .int .i64 cl.holder, .int .i64 cl.asked, .bool cl.backed]), (1, .int .i64 s), (2, .agg #[.int .i64 ev.kind, .int .i64 ev.at_, .int .i64 ev.reason]), (3, .pointer (some ⟨w0.heap.size, 0, none⟩)), (5, .pointer (some ⟨w1.heap.size, 0, none⟩)), (6, .int .i64 0), (8, .pointer (some ⟨w1.heap.size, 2, none⟩)), (9, .int .i64 ev.reason), (10, .bool (decide (ev.reason = 1))), (7, .bool (decide (ev.reason = 1))), (11, .bool false), (19, .bool false)] ?_ (fun hj => ?_)
  rotate_left
  · rcases Bool.eq_false_or_eq_true ((decide (ev.kind = 2)) && (decide (s = 1))) with hb8 | hb8
    · rw [hb8] at hfr
      have hb8b := hb8
      try simp only [Bool.not_eq_true', Bool.not_eq_false', decide_eq_true_eq, decide_eq_false_iff_not, Bool.and_eq_true, Bool.or_eq_true, Bool.and_eq_false_iff, Bool.or_eq_false_iff] at hb8
      refine wl_vy hfr (by decide) rfl (by decide) rfl (v_move rfl) fun a hfr => ?_
      refine wl_vy hfr (by decide) rfl (by decide) rfl (v_not rfl) fun a hfr => ?_
      refine wl_v hfr (by decide) (v_pick_t rfl rfl) fun a hfr => ?_
      refine hj _ ?_
      rw [hb8b]
      exact hfr.pick [46, 34, 18, 0, 1, 2, 3, 5, 6, 8, 9, 10, 7, 11, 19]
    rw [hb8] at hfr
    have hb8b := hb8
    try simp only [Bool.not_eq_true', Bool.not_eq_false', decide_eq_true_eq, decide_eq_false_iff_not, Bool.and_eq_true, Bool.or_eq_true, Bool.and_eq_false_iff, Bool.or_eq_false_iff] at hb8
    refine wl_vn hfr (by decide) rfl (by decide) rfl rfl fun a hfr => ?_
    refine wl_vn hfr (by decide) rfl (by decide) rfl rfl fun a hfr => ?_
    refine wl_v hfr (by decide) (v_pick_f rfl rfl) fun a hfr => ?_
    refine hj _ ?_
    rw [hb8b]
    exact hfr.pick [46, 34, 18, 0, 1, 2, 3, 5, 6, 8, 9, 10, 7, 11, 19]
  intro a hfr
  refine wl_v hfr (by decide) (v_assign rfl) fun a hfr => ?_
  refine wl_nil (hK8 _ _ ?_)
  refine wc_cond hfr rfl (fun hc9 => ?_) (fun hc9 => ?_)
  · rw [hc9] at hfr
    refine wc_seq_region fun K9 hK9 => ?_
    refine wl_v hfr (by decide) (v_assign rfl) fun a hfr => ?_
    refine wl_nil (hK9 _ _ ?_)
    refine wc_ret ?_
    refine fin_ret hfr Try.results86 (resAre_tmp rfl resAre_nil) ?_
    exact ⟨by simp only [retv, becomes, cond_true, cond_false, hc2, hc6, hc9], hst.ext⟩
  rw [hc9] at hfr
  refine wc_seq_region fun K10 hK10 => ?_
  refine wl_v hfr (by decide) (v_fieldAddr (v := .pointer (some ⟨w1.heap.size, 0, none⟩)) rfl (by kernel_rfl)) fun a hfr => ?_
  refine wl_v hfr (by decide) (v_load_blk1 (hst.get (k := 0) rfl) rfl (Try.isAgg3 _) rfl) fun a hfr => ?_
  refine wl_v hfr (by decide) (v_eq rfl rfl) fun a hfr => ?_
  refine wl_v hfr (by decide) (v_move rfl) fun a hfr => ?_
  refine wl_join (N := 96) (df := []) 3 [(54, .bool ((decide (ev.kind = 3)) && (decide (s = 2)))), (46, .bool false), (34, .bool false), (18, .bool false), (0, .agg #[.int .i64 cl.number, .int .i64 cl.frm, .int .i64 cl.to, .int .i64 cl.holder, .int .i64 cl.asked, .bool cl.backed]), (1, .int .i64 s), (2, .agg #[.int .i64 ev.kind, .int .i64 ev.at_, .int .i64 ev.reason]), (3, .pointer (some ⟨w0.heap.size, 0, none⟩)), (5, .pointer (some ⟨w1.heap.size, 0, none⟩)), (6, .int .i64 0), (8, .pointer (some ⟨w1.heap.size, 2, none⟩)), (9, .int .i64 ev.reason), (10, .bool (decide (ev.reason = 1))), (7, .bool (decide (ev.reason = 1))), (11, .bool false), (19, .bool false), (35, .bool false)] ?_ (fun hj => ?_)
  rotate_left
  · rcases Bool.eq_false_or_eq_true (decide (ev.kind = 3)) with hb10 | hb10
    · rw [hb10] at hfr
      have hb10b := hb10
      try simp only [Bool.not_eq_true', Bool.not_eq_false', decide_eq_true_eq, decide_eq_false_iff_not, Bool.and_eq_true, Bool.or_eq_true, Bool.and_eq_false_iff, Bool.or_eq_false_iff] at hb10
      refine wl_vy hfr (by decide) rfl (by decide) rfl (v_move rfl) fun a hfr => ?_
      refine wl_vy hfr (by decide) rfl (by decide) rfl (v_eq rfl rfl) fun a hfr => ?_
      refine wl_v hfr (by decide) (v_pick_t rfl rfl) fun a hfr => ?_
      refine hj _ ?_
      rw [hb10b]
      exact hfr.pick [54, 46, 34, 18, 0, 1, 2, 3, 5, 6, 8, 9, 10, 7, 11, 19, 35]
    rw [hb10] at hfr
    have hb10b := hb10
    try simp only [Bool.not_eq_true', Bool.not_eq_false', decide_eq_true_eq, decide_eq_false_iff_not, Bool.and_eq_true, Bool.or_eq_true, Bool.and_eq_false_iff, Bool.or_eq_false_iff] at hb10
    refine wl_vn hfr (by decide) rfl (by decide) rfl rfl fun a hfr => ?_
    refine wl_vn hfr (by decide) rfl (by decide) rfl rfl fun a hfr => ?_
    refine wl_v hfr (by decide) (v_pick_f rfl rfl) fun a hfr => ?_
    refine hj _ ?_
    rw [hb10b]
    exact hfr.pick [54, 46, 34, 18, 0, 1, 2, 3, 5, 6, 8, 9, 10, 7, 11, 19, 35]
  intro a hfr
  refine wl_v hfr (by decide) (v_assign rfl) fun a hfr => ?_
  refine wl_nil (hK10 _ _ ?_)
  refine wc_cond hfr rfl (fun hc11 => ?_) (fun hc11 => ?_)
  · rw [hc11] at hfr
    refine wc_seq_region fun K11 hK11 => ?_
    refine wl_v hfr (by decide) (v_assign rfl) fun a hfr => ?_
    refine wl_nil (hK11 _ _ ?_)
    refine wc_ret ?_
    refine fin_ret hfr Try.results86 (resAre_tmp rfl resAre_nil) ?_
    exact ⟨by simp only [retv, becomes, cond_true, cond_false, hc2, hc6, hc9, hc11], hst.ext⟩
  rw [hc11] at hfr
  refine wc_seq_region fun K12 hK12 => ?_
  refine wl_v hfr (by decide) (v_fieldAddr (v := .pointer (some ⟨w1.heap.size, 0, none⟩)) rfl (by kernel_rfl)) fun a hfr => ?_
  refine wl_v hfr (by decide) (v_load_blk1 (hst.get (k := 0) rfl) rfl (Try.isAgg3 _) rfl) fun a hfr => ?_
  refine wl_v hfr (by decide) (v_eq rfl rfl) fun a hfr => ?_
  refine wl_v hfr (by decide) (v_move rfl) fun a hfr => ?_
  refine wl_join (N := 96) (df := []) 3 [(62, .bool ((decide (ev.kind = 4)) && (decide (s = 2)))), (54, .bool false), (46, .bool false), (34, .bool false), (18, .bool false), (0, .agg #[.int .i64 cl.number, .int .i64 cl.frm, .int .i64 cl.to, .int .i64 cl.holder, .int .i64 cl.asked, .bool cl.backed]), (1, .int .i64 s), (2, .agg #[.int .i64 ev.kind, .int .i64 ev.at_, .int .i64 ev.reason]), (3, .pointer (some ⟨w0.heap.size, 0, none⟩)), (5, .pointer (some ⟨w1.heap.size, 0, none⟩)), (6, .int .i64 0), (8, .pointer (some ⟨w1.heap.size, 2, none⟩)), (9, .int .i64 ev.reason), (10, .bool (decide (ev.reason = 1))), (7, .bool (decide (ev.reason = 1))), (11, .bool false), (19, .bool false), (35, .bool false), (47, .bool false)] ?_ (fun hj => ?_)
  rotate_left
  · rcases Bool.eq_false_or_eq_true (decide (ev.kind = 4)) with hb12 | hb12
    · rw [hb12] at hfr
      have hb12b := hb12
      try simp only [Bool.not_eq_true', Bool.not_eq_false', decide_eq_true_eq, decide_eq_false_iff_not, Bool.and_eq_true, Bool.or_eq_true, Bool.and_eq_false_iff, Bool.or_eq_false_iff] at hb12
      refine wl_vy hfr (by decide) rfl (by decide) rfl (v_move rfl) fun a hfr => ?_
      refine wl_vy hfr (by decide) rfl (by decide) rfl (v_eq rfl rfl) fun a hfr => ?_
      refine wl_v hfr (by decide) (v_pick_t rfl rfl) fun a hfr => ?_
      refine hj _ ?_
      rw [hb12b]
      exact hfr.pick [62, 54, 46, 34, 18, 0, 1, 2, 3, 5, 6, 8, 9, 10, 7, 11, 19, 35, 47]
    rw [hb12] at hfr
    have hb12b := hb12
    try simp only [Bool.not_eq_true', Bool.not_eq_false', decide_eq_true_eq, decide_eq_false_iff_not, Bool.and_eq_true, Bool.or_eq_true, Bool.and_eq_false_iff, Bool.or_eq_false_iff] at hb12
    refine wl_vn hfr (by decide) rfl (by decide) rfl rfl fun a hfr => ?_
    refine wl_vn hfr (by decide) rfl (by decide) rfl rfl fun a hfr => ?_
    refine wl_v hfr (by decide) (v_pick_f rfl rfl) fun a hfr => ?_
    refine hj _ ?_
    rw [hb12b]
    exact hfr.pick [62, 54, 46, 34, 18, 0, 1, 2, 3, 5, 6, 8, 9, 10, 7, 11, 19, 35, 47]
  intro a hfr
  refine wl_v hfr (by decide) (v_assign rfl) fun a hfr => ?_
  refine wl_nil (hK12 _ _ ?_)
  refine wc_cond hfr rfl (fun hc13 => ?_) (fun hc13 => ?_)
  · rw [hc13] at hfr
    refine wc_seq_region fun K13 hK13 => ?_
    refine wl_v hfr (by decide) (v_assign rfl) fun a hfr => ?_
    refine wl_nil (hK13 _ _ ?_)
    refine wc_ret ?_
    refine fin_ret hfr Try.results86 (resAre_tmp rfl resAre_nil) ?_
    exact ⟨by simp only [retv, becomes, cond_true, cond_false, hc2, hc6, hc9, hc11, hc13], hst.ext⟩
  rw [hc13] at hfr
  refine wc_seq_region fun K14 hK14 => ?_
  refine wl_v hfr (by decide) (v_fieldAddr (v := .pointer (some ⟨w1.heap.size, 0, none⟩)) rfl (by kernel_rfl)) fun a hfr => ?_
  refine wl_v hfr (by decide) (v_load_blk1 (hst.get (k := 0) rfl) rfl (Try.isAgg3 _) rfl) fun a hfr => ?_
  refine wl_v hfr (by decide) (v_eq rfl rfl) fun a hfr => ?_
  refine wl_v hfr (by decide) (v_move rfl) fun a hfr => ?_
  refine wl_join (N := 96) (df := []) 11 [(78, .bool ((decide (ev.kind = 5)) && (((decide (s = 1)) || (decide (s = 2))) || (decide (s = 3))))), (62, .bool false), (54, .bool false), (46, .bool false), (34, .bool false), (18, .bool false), (0, .agg #[.int .i64 cl.number, .int .i64 cl.frm, .int .i64 cl.to, .int .i64 cl.holder, .int .i64 cl.asked, .bool cl.backed]), (1, .int .i64 s), (2, .agg #[.int .i64 ev.kind, .int .i64 ev.at_, .int .i64 ev.reason]), (3, .pointer (some ⟨w0.heap.size, 0, none⟩)), (5, .pointer (some ⟨w1.heap.size, 0, none⟩)), (6, .int .i64 0), (8, .pointer (some ⟨w1.heap.size, 2, none⟩)), (9, .int .i64 ev.reason), (10, .bool (decide (ev.reason = 1))), (7, .bool (decide (ev.reason = 1))), (11, .bool false), (19, .bool false), (35, .bool false), (47, .bool false), (55, .bool false)] ?_ (fun hj => ?_)
  rotate_left
  · rcases Bool.eq_false_or_eq_true (decide (ev.kind = 5)) with hb14 | hb14
    · rw [hb14] at hfr
      have hb14b := hb14
      try simp only [Bool.not_eq_true', Bool.not_eq_false', decide_eq_true_eq, decide_eq_false_iff_not, Bool.and_eq_true, Bool.or_eq_true, Bool.and_eq_false_iff, Bool.or_eq_false_iff] at hb14
      refine wl_vy hfr (by decide) rfl (by decide) rfl (v_move rfl) fun a hfr => ?_
      refine wl_vy hfr (by decide) rfl (by decide) rfl (v_eq rfl rfl) fun a hfr => ?_
      refine wl_vy hfr (by decide) rfl (by decide) rfl (v_move rfl) fun a hfr => ?_
      refine wl_join (N := 96) (df := []) 3 [(73, .bool ((decide (s = 1)) || (decide (s = 2)))), (62, .bool false), (54, .bool false), (46, .bool false), (34, .bool false), (18, .bool false), (0, .agg #[.int .i64 cl.number, .int .i64 cl.frm, .int .i64 cl.to, .int .i64 cl.holder, .int .i64 cl.asked, .bool cl.backed]), (1, .int .i64 s), (2, .agg #[.int .i64 ev.kind, .int .i64 ev.at_, .int .i64 ev.reason]), (3, .pointer (some ⟨w0.heap.size, 0, none⟩)), (5, .pointer (some ⟨w1.heap.size, 0, none⟩)), (6, .int .i64 0), (8, .pointer (some ⟨w1.heap.size, 2, none⟩)), (9, .int .i64 ev.reason), (10, .bool (decide (ev.reason = 1))), (7, .bool (decide (ev.reason = 1))), (11, .bool false), (19, .bool false), (35, .bool false), (47, .bool false), (55, .bool false), (67, .bool true)] ?_ (fun hj => ?_)
      rotate_left
      · rcases Bool.eq_false_or_eq_true (decide (s = 1)) with hb15 | hb15
        · rw [hb15] at hfr
          have hb15b := hb15
          try simp only [Bool.not_eq_true', Bool.not_eq_false', decide_eq_true_eq, decide_eq_false_iff_not, Bool.and_eq_true, Bool.or_eq_true, Bool.and_eq_false_iff, Bool.or_eq_false_iff] at hb15
          refine wl_vn hfr (by decide) rfl (by decide) rfl rfl fun a hfr => ?_
          refine wl_vn hfr (by decide) rfl (by decide) rfl rfl fun a hfr => ?_
          refine wl_vy hfr (by decide) rfl (by decide) rfl (v_pick_t rfl rfl) fun a hfr => ?_
          refine hj _ ?_
          rw [hb15b]
          exact hfr.pick [73, 62, 54, 46, 34, 18, 0, 1, 2, 3, 5, 6, 8, 9, 10, 7, 11, 19, 35, 47, 55, 67]
        rw [hb15] at hfr
        have hb15b := hb15
        try simp only [Bool.not_eq_true', Bool.not_eq_false', decide_eq_true_eq, decide_eq_false_iff_not, Bool.and_eq_true, Bool.or_eq_true, Bool.and_eq_false_iff, Bool.or_eq_false_iff] at hb15
        refine wl_vy hfr (by decide) rfl (by decide) rfl (v_move rfl) fun a hfr => ?_
        refine wl_vy hfr (by decide) rfl (by decide) rfl (v_eq rfl rfl) fun a hfr => ?_
        refine wl_vy hfr (by decide) rfl (by decide) rfl (v_pick_f rfl rfl) fun a hfr => ?_
        refine hj _ ?_
        rw [hb15b]
        exact hfr.pick [73, 62, 54, 46, 34, 18, 0, 1, 2, 3, 5, 6, 8, 9, 10, 7, 11, 19, 35, 47, 55, 67]
      intro a hfr
      refine wl_vy hfr (by decide) rfl (by decide) rfl (v_move rfl) fun a hfr => ?_
      refine wl_join (N := 96) (df := []) 3 [(77, .bool (((decide (s = 1)) || (decide (s = 2))) || (decide (s = 3)))), (62, .bool false), (54, .bool false), (46, .bool false), (34, .bool false), (18, .bool false), (0, .agg #[.int .i64 cl.number, .int .i64 cl.frm, .int .i64 cl.to, .int .i64 cl.holder, .int .i64 cl.asked, .bool cl.backed]), (1, .int .i64 s), (2, .agg #[.int .i64 ev.kind, .int .i64 ev.at_, .int .i64 ev.reason]), (3, .pointer (some ⟨w0.heap.size, 0, none⟩)), (5, .pointer (some ⟨w1.heap.size, 0, none⟩)), (6, .int .i64 0), (8, .pointer (some ⟨w1.heap.size, 2, none⟩)), (9, .int .i64 ev.reason), (10, .bool (decide (ev.reason = 1))), (7, .bool (decide (ev.reason = 1))), (11, .bool false), (19, .bool false), (35, .bool false), (47, .bool false), (55, .bool false), (67, .bool true)] ?_ (fun hj => ?_)
      rotate_left
      · rcases Bool.eq_false_or_eq_true ((decide (s = 1)) || (decide (s = 2))) with hb16 | hb16
        · rw [hb16] at hfr
          have hb16b := hb16
          try simp only [Bool.not_eq_true', Bool.not_eq_false', decide_eq_true_eq, decide_eq_false_iff_not, Bool.and_eq_true, Bool.or_eq_true, Bool.and_eq_false_iff, Bool.or_eq_false_iff] at hb16
          refine wl_vn hfr (by decide) rfl (by decide) rfl rfl fun a hfr => ?_
          refine wl_vn hfr (by decide) rfl (by decide) rfl rfl fun a hfr => ?_
          refine wl_vy hfr (by decide) rfl (by decide) rfl (v_pick_t rfl rfl) fun a hfr => ?_
          refine hj _ ?_
          rw [hb16b]
          exact hfr.pick [77, 62, 54, 46, 34, 18, 0, 1, 2, 3, 5, 6, 8, 9, 10, 7, 11, 19, 35, 47, 55, 67]
        rw [hb16] at hfr
        have hb16b := hb16
        try simp only [Bool.not_eq_true', Bool.not_eq_false', decide_eq_true_eq, decide_eq_false_iff_not, Bool.and_eq_true, Bool.or_eq_true, Bool.and_eq_false_iff, Bool.or_eq_false_iff] at hb16
        refine wl_vy hfr (by decide) rfl (by decide) rfl (v_move rfl) fun a hfr => ?_
        refine wl_vy hfr (by decide) rfl (by decide) rfl (v_eq rfl rfl) fun a hfr => ?_
        refine wl_vy hfr (by decide) rfl (by decide) rfl (v_pick_f rfl rfl) fun a hfr => ?_
        refine hj _ ?_
        rw [hb16b]
        exact hfr.pick [77, 62, 54, 46, 34, 18, 0, 1, 2, 3, 5, 6, 8, 9, 10, 7, 11, 19, 35, 47, 55, 67]
      intro a hfr
      refine wl_v hfr (by decide) (v_pick_t rfl rfl) fun a hfr => ?_
      refine hj _ ?_
      rw [hb14b]
      exact hfr.pick [78, 62, 54, 46, 34, 18, 0, 1, 2, 3, 5, 6, 8, 9, 10, 7, 11, 19, 35, 47, 55]
    rw [hb14] at hfr
    have hb14b := hb14
    try simp only [Bool.not_eq_true', Bool.not_eq_false', decide_eq_true_eq, decide_eq_false_iff_not, Bool.and_eq_true, Bool.or_eq_true, Bool.and_eq_false_iff, Bool.or_eq_false_iff] at hb14
    refine wl_vn hfr (by decide) rfl (by decide) rfl rfl fun a hfr => ?_
    refine wl_vn hfr (by decide) rfl (by decide) rfl rfl fun a hfr => ?_
    refine wl_vn hfr (by decide) rfl (by decide) rfl rfl fun a hfr => ?_
    refine wl_vu hfr (by decide) rfl (by decide) rfl fun a hfr => ?_
    refine wl_vu hfr (by decide) rfl (by decide) rfl fun a hfr => ?_
    refine wl_vn hfr (by decide) rfl (by decide) rfl rfl fun a hfr => ?_
    refine wl_vn hfr (by decide) rfl (by decide) rfl rfl fun a hfr => ?_
    refine wl_vu hfr (by decide) rfl (by decide) rfl fun a hfr => ?_
    refine wl_vu hfr (by decide) rfl (by decide) rfl fun a hfr => ?_
    refine wl_vn hfr (by decide) rfl (by decide) rfl rfl fun a hfr => ?_
    refine wl_v hfr (by decide) (v_pick_f rfl rfl) fun a hfr => ?_
    refine hj _ ?_
    rw [hb14b]
    exact hfr.pick [78, 62, 54, 46, 34, 18, 0, 1, 2, 3, 5, 6, 8, 9, 10, 7, 11, 19, 35, 47, 55]
  intro a hfr
  refine wl_v hfr (by decide) (v_assign rfl) fun a hfr => ?_
  refine wl_nil (hK14 _ _ ?_)
  refine wc_cond hfr rfl (fun hc17 => ?_) (fun hc17 => ?_)
  · rw [hc17] at hfr
    refine wc_seq_region fun K15 hK15 => ?_
    refine wl_v hfr (by decide) (v_assign rfl) fun a hfr => ?_
    refine wl_nil (hK15 _ _ ?_)
    refine wc_ret ?_
    refine fin_ret hfr Try.results86 (resAre_tmp rfl resAre_nil) ?_
    exact ⟨by simp only [retv, becomes, cond_true, cond_false, hc2, hc6, hc9, hc11, hc13, hc17], hst.ext⟩
  rw [hc17] at hfr
  refine wc_seq_region fun K16 hK16 => ?_
  refine wl_v hfr (by decide) (v_fieldAddr (v := .pointer (some ⟨w1.heap.size, 0, none⟩)) rfl (by kernel_rfl)) fun a hfr => ?_
  refine wl_v hfr (by decide) (v_load_blk1 (hst.get (k := 0) rfl) rfl (Try.isAgg3 _) rfl) fun a hfr => ?_
  refine wl_v hfr (by decide) (v_eq rfl rfl) fun a hfr => ?_
  refine wl_v hfr (by decide) (v_move rfl) fun a hfr => ?_
  refine wl_join (N := 96) (df := []) 3 [(86, .bool ((decide (ev.kind = 6)) && (decide (s = 4)))), (78, .bool false), (62, .bool false), (54, .bool false), (46, .bool false), (34, .bool false), (18, .bool false), (0, .agg #[.int .i64 cl.number, .int .i64 cl.frm, .int .i64 cl.to, .int .i64 cl.holder, .int .i64 cl.asked, .bool cl.backed]), (1, .int .i64 s), (2, .agg #[.int .i64 ev.kind, .int .i64 ev.at_, .int .i64 ev.reason]), (3, .pointer (some ⟨w0.heap.size, 0, none⟩)), (5, .pointer (some ⟨w1.heap.size, 0, none⟩)), (6, .int .i64 0), (8, .pointer (some ⟨w1.heap.size, 2, none⟩)), (9, .int .i64 ev.reason), (10, .bool (decide (ev.reason = 1))), (7, .bool (decide (ev.reason = 1))), (11, .bool false), (19, .bool false), (35, .bool false), (47, .bool false), (55, .bool false), (63, .bool false)] ?_ (fun hj => ?_)
  rotate_left
  · rcases Bool.eq_false_or_eq_true (decide (ev.kind = 6)) with hb18 | hb18
    · rw [hb18] at hfr
      have hb18b := hb18
      try simp only [Bool.not_eq_true', Bool.not_eq_false', decide_eq_true_eq, decide_eq_false_iff_not, Bool.and_eq_true, Bool.or_eq_true, Bool.and_eq_false_iff, Bool.or_eq_false_iff] at hb18
      refine wl_vy hfr (by decide) rfl (by decide) rfl (v_move rfl) fun a hfr => ?_
      refine wl_vy hfr (by decide) rfl (by decide) rfl (v_eq rfl rfl) fun a hfr => ?_
      refine wl_v hfr (by decide) (v_pick_t rfl rfl) fun a hfr => ?_
      refine hj _ ?_
      rw [hb18b]
      exact hfr.pick [86, 78, 62, 54, 46, 34, 18, 0, 1, 2, 3, 5, 6, 8, 9, 10, 7, 11, 19, 35, 47, 55, 63]
    rw [hb18] at hfr
    have hb18b := hb18
    try simp only [Bool.not_eq_true', Bool.not_eq_false', decide_eq_true_eq, decide_eq_false_iff_not, Bool.and_eq_true, Bool.or_eq_true, Bool.and_eq_false_iff, Bool.or_eq_false_iff] at hb18
    refine wl_vn hfr (by decide) rfl (by decide) rfl rfl fun a hfr => ?_
    refine wl_vn hfr (by decide) rfl (by decide) rfl rfl fun a hfr => ?_
    refine wl_v hfr (by decide) (v_pick_f rfl rfl) fun a hfr => ?_
    refine hj _ ?_
    rw [hb18b]
    exact hfr.pick [86, 78, 62, 54, 46, 34, 18, 0, 1, 2, 3, 5, 6, 8, 9, 10, 7, 11, 19, 35, 47, 55, 63]
  intro a hfr
  refine wl_v hfr (by decide) (v_move rfl) fun a hfr => ?_
  refine wl_join (N := 96) (df := []) 8 [(95, .bool (((decide (ev.kind = 6)) && (decide (s = 4))) && ((!(decide (ev.reason = 1))) || (!cl.backed)))), (78, .bool false), (62, .bool false), (54, .bool false), (46, .bool false), (34, .bool false), (18, .bool false), (0, .agg #[.int .i64 cl.number, .int .i64 cl.frm, .int .i64 cl.to, .int .i64 cl.holder, .int .i64 cl.asked, .bool cl.backed]), (1, .int .i64 s), (2, .agg #[.int .i64 ev.kind, .int .i64 ev.at_, .int .i64 ev.reason]), (3, .pointer (some ⟨w0.heap.size, 0, none⟩)), (5, .pointer (some ⟨w1.heap.size, 0, none⟩)), (6, .int .i64 0), (8, .pointer (some ⟨w1.heap.size, 2, none⟩)), (9, .int .i64 ev.reason), (10, .bool (decide (ev.reason = 1))), (7, .bool (decide (ev.reason = 1))), (11, .bool false), (19, .bool false), (35, .bool false), (47, .bool false), (55, .bool false), (63, .bool false)] ?_ (fun hj => ?_)
  rotate_left
  · rcases Bool.eq_false_or_eq_true ((decide (ev.kind = 6)) && (decide (s = 4))) with hb19 | hb19
    · rw [hb19] at hfr
      have hb19b := hb19
      try simp only [Bool.not_eq_true', Bool.not_eq_false', decide_eq_true_eq, decide_eq_false_iff_not, Bool.and_eq_true, Bool.or_eq_true, Bool.and_eq_false_iff, Bool.or_eq_false_iff] at hb19
      refine wl_vy hfr (by decide) rfl (by decide) rfl (v_move rfl) fun a hfr => ?_
      refine wl_vy hfr (by decide) rfl (by decide) rfl (v_not rfl) fun a hfr => ?_
      refine wl_vy hfr (by decide) rfl (by decide) rfl (v_move rfl) fun a hfr => ?_
      refine wl_join (N := 96) (df := []) 4 [(94, .bool ((!(decide (ev.reason = 1))) || (!cl.backed))), (78, .bool false), (62, .bool false), (54, .bool false), (46, .bool false), (34, .bool false), (18, .bool false), (0, .agg #[.int .i64 cl.number, .int .i64 cl.frm, .int .i64 cl.to, .int .i64 cl.holder, .int .i64 cl.asked, .bool cl.backed]), (1, .int .i64 s), (2, .agg #[.int .i64 ev.kind, .int .i64 ev.at_, .int .i64 ev.reason]), (3, .pointer (some ⟨w0.heap.size, 0, none⟩)), (5, .pointer (some ⟨w1.heap.size, 0, none⟩)), (6, .int .i64 0), (8, .pointer (some ⟨w1.heap.size, 2, none⟩)), (9, .int .i64 ev.reason), (10, .bool (decide (ev.reason = 1))), (7, .bool (decide (ev.reason = 1))), (11, .bool false), (19, .bool false), (35, .bool false), (47, .bool false), (55, .bool false), (63, .bool false), (87, .bool true)] ?_ (fun hj => ?_)
      rotate_left
      · rcases Bool.eq_false_or_eq_true (!(decide (ev.reason = 1))) with hb20 | hb20
        · rw [hb20] at hfr
          have hb20b := hb20
          try simp only [Bool.not_eq_true', Bool.not_eq_false', decide_eq_true_eq, decide_eq_false_iff_not, Bool.and_eq_true, Bool.or_eq_true, Bool.and_eq_false_iff, Bool.or_eq_false_iff] at hb20
          refine wl_vn hfr (by decide) rfl (by decide) rfl rfl fun a hfr => ?_
          refine wl_vn hfr (by decide) rfl (by decide) rfl rfl fun a hfr => ?_
          refine wl_vn hfr (by decide) rfl (by decide) rfl rfl fun a hfr => ?_
          refine wl_vy hfr (by decide) rfl (by decide) rfl (v_pick_t rfl rfl) fun a hfr => ?_
          refine hj _ ?_
          rw [hb20b]
          exact hfr.pick [94, 78, 62, 54, 46, 34, 18, 0, 1, 2, 3, 5, 6, 8, 9, 10, 7, 11, 19, 35, 47, 55, 63, 87]
        rw [hb20] at hfr
        have hb20b := hb20
        try simp only [Bool.not_eq_true', Bool.not_eq_false', decide_eq_true_eq, decide_eq_false_iff_not, Bool.and_eq_true, Bool.or_eq_true, Bool.and_eq_false_iff, Bool.or_eq_false_iff] at hb20
        refine wl_vy hfr (by decide) rfl (by decide) rfl (v_fieldAddr (v := .pointer (some ⟨w0.heap.size, 5, none⟩)) rfl (by kernel_rfl)) fun a hfr => ?_
        refine wl_vy hfr (by decide) rfl (by decide) rfl (v_load_blk1 (hst.get (k := 1) rfl) rfl (Try.isAgg4 _) rfl) fun a hfr => ?_
        refine wl_vy hfr (by decide) rfl (by decide) rfl (v_not rfl) fun a hfr => ?_
        refine wl_vy hfr (by decide) rfl (by decide) rfl (v_pick_f rfl rfl) fun a hfr => ?_
        refine hj _ ?_
        rw [hb20b]
        exact hfr.pick [94, 78, 62, 54, 46, 34, 18, 0, 1, 2, 3, 5, 6, 8, 9, 10, 7, 11, 19, 35, 47, 55, 63, 87]
      intro a hfr
      refine wl_v hfr (by decide) (v_pick_t rfl rfl) fun a hfr => ?_
      refine hj _ ?_
      rw [hb19b]
      exact hfr.pick [95, 78, 62, 54, 46, 34, 18, 0, 1, 2, 3, 5, 6, 8, 9, 10, 7, 11, 19, 35, 47, 55, 63]
    rw [hb19] at hfr
    have hb19b := hb19
    try simp only [Bool.not_eq_true', Bool.not_eq_false', decide_eq_true_eq, decide_eq_false_iff_not, Bool.and_eq_true, Bool.or_eq_true, Bool.and_eq_false_iff, Bool.or_eq_false_iff] at hb19
    refine wl_vn hfr (by decide) rfl (by decide) rfl rfl fun a hfr => ?_
    refine wl_vn hfr (by decide) rfl (by decide) rfl rfl fun a hfr => ?_
    refine wl_vn hfr (by decide) rfl (by decide) rfl rfl fun a hfr => ?_
    refine wl_vu hfr (by decide) rfl (by decide) rfl fun a hfr => ?_
    refine wl_vu hfr (by decide) rfl (by decide) rfl fun a hfr => ?_
    refine wl_vu hfr (by decide) rfl (by decide) rfl fun a hfr => ?_
    refine wl_vn hfr (by decide) rfl (by decide) rfl rfl fun a hfr => ?_
    refine wl_v hfr (by decide) (v_pick_f rfl rfl) fun a hfr => ?_
    refine hj _ ?_
    rw [hb19b]
    exact hfr.pick [95, 78, 62, 54, 46, 34, 18, 0, 1, 2, 3, 5, 6, 8, 9, 10, 7, 11, 19, 35, 47, 55, 63]
  intro a hfr
  refine wl_v hfr (by decide) (v_assign rfl) fun a hfr => ?_
  refine wl_nil (hK16 _ _ ?_)
  refine wc_cond hfr rfl (fun hc21 => ?_) (fun hc21 => ?_)
  · rw [hc21] at hfr
    refine wc_seq_region fun K17 hK17 => ?_
    refine wl_v hfr (by decide) (v_assign rfl) fun a hfr => ?_
    refine wl_nil (hK17 _ _ ?_)
    refine wc_ret ?_
    refine fin_ret hfr Try.results86 (resAre_tmp rfl resAre_nil) ?_
    exact ⟨by simp only [retv, becomes, cond_true, cond_false, hc2, hc6, hc9, hc11, hc13, hc17, hc21], hst.ext⟩
  rw [hc21] at hfr
  refine wc_skip ?_
  refine hK3 _ _ ?_
  refine wc_seq_region fun K18 hK18 => ?_
  refine wl_v hfr (by decide) (v_assign rfl) fun a hfr => ?_
  refine wl_nil (hK18 _ _ ?_)
  refine wc_ret ?_
  refine fin_ret hfr Try.results86 (resAre_tmp rfl resAre_nil) ?_
  exact ⟨by simp only [retv, becomes, cond_true, cond_false, hc2, hc6, hc9, hc11, hc13, hc17, hc21], hst.ext⟩

/-- dialtone/dialtoneref16.status -/
theorem status_ok (rl : Rul) (s since : Int) (w0 : World) (hr : areValid rl = true) (h0 : 0 ≤ since) (h1 : since ≤ 40000000) :
    Ret Try.prog 84 #[.agg #[.int .i64 rl.answer, .int .i64 rl.cooling, .int .i64 rl.settle, .int .i64 rl.reverse], .int .i64 s, .int .i64 since] w0 fun v w => v = (begins rl s since).val ∧ Ext No w0 w := by
  have hr := areValid_le hr
  refine ret_of Try.func84 rfl Try.ntmps84 (Nat.le_of_ble_eq_true rfl) fun a hfr => ?_
  have hfr : Fr 41 [(0, _), (1, _), (2, _)] [] a := hfr
  have hst : St No w0 [] w0 := St.init w0
  refine wc_seq_region fun K1 hK1 => ?_
  refine wl_box hfr hst (by decide) rfl (cs := [.int .i64 rl.answer, .int .i64 rl.cooling, .int .i64 rl.settle, .int .i64 rl.reverse]) rfl fun a w1 hfr hst => ?_
  refine wl_alloc hfr hst (by decide) (Try.zeroValue39 _) (cs := [.int .i64 0, .int .i64 0, .int .i64 0]) rfl fun a w2 hfr hst => ?_
  refine wl_nil (hK1 _ _ ?_)
  refine wc_seq_region fun K2 hK2 => ?_
  refine wl_v hfr (by decide) (v_move rfl) fun a hfr => ?_
  refine wl_v hfr (by decide) (v_move rfl) fun a hfr => ?_
  refine wl_v hfr (by decide) (v_build (v := .agg #[.int .i64 s, .int .i64 since, .int .i64 (-1)]) rfl (by kernel_rfl)) fun a hfr => ?_
  refine wl_alloc hfr hst (by decide) (Try.zeroValue39 _) (cs := [.int .i64 0, .int .i64 0, .int .i64 0]) rfl fun a w3 hfr hst => ?_
  refine wl_store 0 hfr hst rfl rfl rfl (Try.sizeOf39 _) rfl (Nat.le_of_ble_eq_true rfl) (ds := [.int .i64 s, .int .i64 since, .int .i64 (-1)]) rfl rfl fun a w4 hfr hst => ?_
  refine wl_nil (hK2 _ _ ?_)
  refine wc_seq_k fun K3 hK3 => ?_
  refine wc_seq_region fun K4 hK4 => ?_
  refine wl_v hfr (by decide) (v_move rfl) fun a hfr => ?_
  refine wl_nil (hK4 _ _ ?_)
  refine wc_block ?_
  refine wc_seq_region fun K5 hK5 => ?_
  refine wl_v hfr (by decide) (v_eq rfl rfl) fun a hfr => ?_
  refine wl_v hfr (by decide) (v_assign rfl) fun a hfr => ?_
  refine wl_nil (hK5 _ _ ?_)
  refine wc_cond hfr rfl (fun hc1 => ?_) (fun hc1 => ?_)
  · rw [hc1] at hfr
    try simp only [Bool.not_eq_true', Bool.not_eq_false', decide_eq_true_eq, decide_eq_false_iff_not] at hc1
    refine wc_region ?_
    refine wl_v hfr (by decide) (v_move rfl) fun a hfr => ?_
    refine wl_v hfr (by decide) (v_fieldAddr (v := .pointer (some ⟨w0.heap.size, 0, none⟩)) rfl (by kernel_rfl)) fun a hfr => ?_
    refine wl_v hfr (by decide) (v_load_blk1 (hst.get (k := 2) rfl) rfl (Try.isAgg3 _) rfl) fun a hfr => ?_
    refine wl_v hfr (by decide) (v_add rfl rfl ⟨by omega, by omega⟩) fun a hfr => ?_
    refine wl_v hfr (by decide) (v_fieldAddr (v := .pointer (some ⟨w2.heap.size, 2, none⟩)) rfl (by kernel_rfl)) fun a hfr => ?_
    refine wl_store 0 hfr hst rfl rfl rfl (Try.sizeOf3 _) rfl (Nat.le_of_ble_eq_true rfl) (ds := [.int .i64 s, .int .i64 since, .int .i64 (since + rl.answer)]) rfl rfl fun a w5 hfr hst => ?_
    refine wl_nil ?_
    refine hK3 _ _ ?_
    refine wc_seq_region fun K6 hK6 => ?_
    refine wl_v hfr (by decide) (v_load_all (hst.get (k := 0) rfl) rfl (Try.isAgg39 _) (Try.sizeOf39 _)) fun a hfr => ?_
    refine wl_store 1 hfr hst rfl rfl rfl (Try.sizeOf39 _) rfl (Nat.le_of_ble_eq_true rfl) (ds := [.int .i64 s, .int .i64 since, .int .i64 (since + rl.answer)]) rfl rfl fun a w6 hfr hst => ?_
    refine wl_nil (hK6 _ _ ?_)
    refine wc_ret ?_
    refine fin_ret hfr Try.results84 (resAre_cell rfl (res_all (hst.get (k := 1) rfl) (Try.isAgg39 _) (Try.sizeOf39 _)) resAre_nil) ?_
    exact ⟨by simp only [retv]; simp [begins, dueSec, Stt.val, *], hst.ext⟩
  rw [hc1] at hfr
  try simp only [Bool.not_eq_true', Bool.not_eq_false', decide_eq_true_eq, decide_eq_false_iff_not] at hc1
  refine wc_seq_region fun K7 hK7 => ?_
  refine wl_v hfr (by decide) (v_eq rfl rfl) fun a hfr => ?_
  refine wl_v hfr (by decide) (v_assign rfl) fun a hfr => ?_
  refine wl_nil (hK7 _ _ ?_)
  refine wc_cond hfr rfl (fun hc2 => ?_) (fun hc2 => ?_)
  · rw [hc2] at hfr
    try simp only [Bool.not_eq_true', Bool.not_eq_false', decide_eq_true_eq, decide_eq_false_iff_not] at hc2
    refine wc_region ?_
    refine wl_v hfr (by decide) (v_move rfl) fun a hfr => ?_
    refine wl_v hfr (by decide) (v_fieldAddr (v := .pointer (some ⟨w0.heap.size, 2, none⟩)) rfl (by kernel_rfl)) fun a hfr => ?_
    refine wl_v hfr (by decide) (v_load_blk1 (hst.get (k := 2) rfl) rfl (Try.isAgg3 _) rfl) fun a hfr => ?_
    refine wl_v hfr (by decide) (v_add rfl rfl ⟨by omega, by omega⟩) fun a hfr => ?_
    refine wl_v hfr (by decide) (v_fieldAddr (v := .pointer (some ⟨w2.heap.size, 2, none⟩)) rfl (by kernel_rfl)) fun a hfr => ?_
    refine wl_store 0 hfr hst rfl rfl rfl (Try.sizeOf3 _) rfl (Nat.le_of_ble_eq_true rfl) (ds := [.int .i64 s, .int .i64 since, .int .i64 (since + rl.settle)]) rfl rfl fun a w7 hfr hst => ?_
    refine wl_nil ?_
    refine hK3 _ _ ?_
    refine wc_seq_region fun K8 hK8 => ?_
    refine wl_v hfr (by decide) (v_load_all (hst.get (k := 0) rfl) rfl (Try.isAgg39 _) (Try.sizeOf39 _)) fun a hfr => ?_
    refine wl_store 1 hfr hst rfl rfl rfl (Try.sizeOf39 _) rfl (Nat.le_of_ble_eq_true rfl) (ds := [.int .i64 s, .int .i64 since, .int .i64 (since + rl.settle)]) rfl rfl fun a w8 hfr hst => ?_
    refine wl_nil (hK8 _ _ ?_)
    refine wc_ret ?_
    refine fin_ret hfr Try.results84 (resAre_cell rfl (res_all (hst.get (k := 1) rfl) (Try.isAgg39 _) (Try.sizeOf39 _)) resAre_nil) ?_
    exact ⟨by simp only [retv]; simp [begins, dueSec, Stt.val, *], hst.ext⟩
  rw [hc2] at hfr
  try simp only [Bool.not_eq_true', Bool.not_eq_false', decide_eq_true_eq, decide_eq_false_iff_not] at hc2
  refine wc_seq_region fun K9 hK9 => ?_
  refine wl_v hfr (by decide) (v_eq rfl rfl) fun a hfr => ?_
  refine wl_v hfr (by decide) (v_assign rfl) fun a hfr => ?_
  refine wl_nil (hK9 _ _ ?_)
  refine wc_cond hfr rfl (fun hc3 => ?_) (fun hc3 => ?_)
  · rw [hc3] at hfr
    try simp only [Bool.not_eq_true', Bool.not_eq_false', decide_eq_true_eq, decide_eq_false_iff_not] at hc3
    refine wc_region ?_
    refine wl_v hfr (by decide) (v_move rfl) fun a hfr => ?_
    refine wl_v hfr (by decide) (v_fieldAddr (v := .pointer (some ⟨w0.heap.size, 1, none⟩)) rfl (by kernel_rfl)) fun a hfr => ?_
    refine wl_v hfr (by decide) (v_load_blk1 (hst.get (k := 2) rfl) rfl (Try.isAgg3 _) rfl) fun a hfr => ?_
    refine wl_v hfr (by decide) (v_add rfl rfl ⟨by omega, by omega⟩) fun a hfr => ?_
    refine wl_v hfr (by decide) (v_fieldAddr (v := .pointer (some ⟨w2.heap.size, 2, none⟩)) rfl (by kernel_rfl)) fun a hfr => ?_
    refine wl_store 0 hfr hst rfl rfl rfl (Try.sizeOf3 _) rfl (Nat.le_of_ble_eq_true rfl) (ds := [.int .i64 s, .int .i64 since, .int .i64 (since + rl.cooling)]) rfl rfl fun a w9 hfr hst => ?_
    refine wl_nil ?_
    refine hK3 _ _ ?_
    refine wc_seq_region fun K10 hK10 => ?_
    refine wl_v hfr (by decide) (v_load_all (hst.get (k := 0) rfl) rfl (Try.isAgg39 _) (Try.sizeOf39 _)) fun a hfr => ?_
    refine wl_store 1 hfr hst rfl rfl rfl (Try.sizeOf39 _) rfl (Nat.le_of_ble_eq_true rfl) (ds := [.int .i64 s, .int .i64 since, .int .i64 (since + rl.cooling)]) rfl rfl fun a w10 hfr hst => ?_
    refine wl_nil (hK10 _ _ ?_)
    refine wc_ret ?_
    refine fin_ret hfr Try.results84 (resAre_cell rfl (res_all (hst.get (k := 1) rfl) (Try.isAgg39 _) (Try.sizeOf39 _)) resAre_nil) ?_
    exact ⟨by simp only [retv]; simp [begins, dueSec, Stt.val, *], hst.ext⟩
  rw [hc3] at hfr
  try simp only [Bool.not_eq_true', Bool.not_eq_false', decide_eq_true_eq, decide_eq_false_iff_not] at hc3
  refine wc_seq_region fun K11 hK11 => ?_
  refine wl_v hfr (by decide) (v_eq rfl rfl) fun a hfr => ?_
  refine wl_v hfr (by decide) (v_assign rfl) fun a hfr => ?_
  refine wl_nil (hK11 _ _ ?_)
  refine wc_cond hfr rfl (fun hc4 => ?_) (fun hc4 => ?_)
  · rw [hc4] at hfr
    try simp only [Bool.not_eq_true', Bool.not_eq_false', decide_eq_true_eq, decide_eq_false_iff_not] at hc4
    refine wc_region ?_
    refine wl_v hfr (by decide) (v_move rfl) fun a hfr => ?_
    refine wl_v hfr (by decide) (v_fieldAddr (v := .pointer (some ⟨w0.heap.size, 3, none⟩)) rfl (by kernel_rfl)) fun a hfr => ?_
    refine wl_v hfr (by decide) (v_load_blk1 (hst.get (k := 2) rfl) rfl (Try.isAgg3 _) rfl) fun a hfr => ?_
    refine wl_v hfr (by decide) (v_add rfl rfl ⟨by omega, by omega⟩) fun a hfr => ?_
    refine wl_v hfr (by decide) (v_fieldAddr (v := .pointer (some ⟨w2.heap.size, 2, none⟩)) rfl (by kernel_rfl)) fun a hfr => ?_
    refine wl_store 0 hfr hst rfl rfl rfl (Try.sizeOf3 _) rfl (Nat.le_of_ble_eq_true rfl) (ds := [.int .i64 s, .int .i64 since, .int .i64 (since + rl.reverse)]) rfl rfl fun a w11 hfr hst => ?_
    refine wl_nil ?_
    refine hK3 _ _ ?_
    refine wc_seq_region fun K12 hK12 => ?_
    refine wl_v hfr (by decide) (v_load_all (hst.get (k := 0) rfl) rfl (Try.isAgg39 _) (Try.sizeOf39 _)) fun a hfr => ?_
    refine wl_store 1 hfr hst rfl rfl rfl (Try.sizeOf39 _) rfl (Nat.le_of_ble_eq_true rfl) (ds := [.int .i64 s, .int .i64 since, .int .i64 (since + rl.reverse)]) rfl rfl fun a w12 hfr hst => ?_
    refine wl_nil (hK12 _ _ ?_)
    refine wc_ret ?_
    refine fin_ret hfr Try.results84 (resAre_cell rfl (res_all (hst.get (k := 1) rfl) (Try.isAgg39 _) (Try.sizeOf39 _)) resAre_nil) ?_
    exact ⟨by simp only [retv]; simp [begins, dueSec, Stt.val, *], hst.ext⟩
  rw [hc4] at hfr
  try simp only [Bool.not_eq_true', Bool.not_eq_false', decide_eq_true_eq, decide_eq_false_iff_not] at hc4
  refine wc_skip ?_
  refine hK3 _ _ ?_
  refine wc_seq_region fun K13 hK13 => ?_
  refine wl_v hfr (by decide) (v_load_all (hst.get (k := 0) rfl) rfl (Try.isAgg39 _) (Try.sizeOf39 _)) fun a hfr => ?_
  refine wl_store 1 hfr hst rfl rfl rfl (Try.sizeOf39 _) rfl (Nat.le_of_ble_eq_true rfl) (ds := [.int .i64 s, .int .i64 since, .int .i64 (-1)]) rfl rfl fun a w13 hfr hst => ?_
  refine wl_nil (hK13 _ _ ?_)
  refine wc_ret ?_
  refine fin_ret hfr Try.results84 (resAre_cell rfl (res_all (hst.get (k := 1) rfl) (Try.isAgg39 _) (Try.sizeOf39 _)) resAre_nil) ?_
  exact ⟨by simp only [retv]; simp [begins, dueSec, Stt.val, *], hst.ext⟩

/-- dialtone/dialtoneref16.after -/
theorem rafter_ok (s : Int) (w0 : World) :
    Ret Try.prog 85 #[.int .i64 s] w0 fun v w => v = .int .i64 (if s = 3 then 4 else if s = 4 then 5 else 3) ∧ Ext No w0 w := by
  refine ret_of Try.func85 rfl Try.ntmps85 (Nat.le_of_ble_eq_true rfl) fun a hfr => ?_
  have hfr : Fr 7 [(0, _)] [] a := hfr
  have hst : St No w0 [] w0 := St.init w0
  refine wc_seq_region fun K1 hK1 => ?_
  refine wl_v hfr (by decide) (v_assign rfl) fun a hfr => ?_
  refine wl_nil (hK1 _ _ ?_)
  refine wc_seq_k fun K2 hK2 => ?_
  refine wc_seq_region fun K3 hK3 => ?_
  refine wl_v hfr (by decide) (v_move rfl) fun a hfr => ?_
  refine wl_v hfr (by decide) (v_eq rfl rfl) fun a hfr => ?_
  refine wl_nil (hK3 _ _ ?_)
  refine wc_cond hfr rfl (fun hc1 => ?_) (fun hc1 => ?_)
  · rw [hc1] at hfr
    try simp only [Bool.not_eq_true', Bool.not_eq_false', decide_eq_true_eq, decide_eq_false_iff_not] at hc1
    refine wc_seq_region fun K4 hK4 => ?_
    refine wl_v hfr (by decide) (v_assign rfl) fun a hfr => ?_
    refine wl_nil (hK4 _ _ ?_)
    refine wc_ret ?_
    refine fin_ret hfr Try.results85 (resAre_tmp rfl resAre_nil) ?_
    exact ⟨by simp [retv, *], hst.ext⟩
  rw [hc1] at hfr
  try simp only [Bool.not_eq_true', Bool.not_eq_false', decide_eq_true_eq, decide_eq_false_iff_not] at hc1
  refine wc_skip ?_
  refine hK2 _ _ ?_
  refine wc_seq_k fun K5 hK5 => ?_
  refine wc_seq_region fun K6 hK6 => ?_
  refine wl_v hfr (by decide) (v_move rfl) fun a hfr => ?_
  refine wl_v hfr (by decide) (v_eq rfl rfl) fun a hfr => ?_
  refine wl_nil (hK6 _ _ ?_)
  refine wc_cond hfr rfl (fun hc2 => ?_) (fun hc2 => ?_)
  · rw [hc2] at hfr
    try simp only [Bool.not_eq_true', Bool.not_eq_false', decide_eq_true_eq, decide_eq_false_iff_not] at hc2
    refine wc_seq_region fun K7 hK7 => ?_
    refine wl_v hfr (by decide) (v_assign rfl) fun a hfr => ?_
    refine wl_nil (hK7 _ _ ?_)
    refine wc_ret ?_
    refine fin_ret hfr Try.results85 (resAre_tmp rfl resAre_nil) ?_
    exact ⟨by simp [retv, *], hst.ext⟩
  rw [hc2] at hfr
  try simp only [Bool.not_eq_true', Bool.not_eq_false', decide_eq_true_eq, decide_eq_false_iff_not] at hc2
  refine wc_skip ?_
  refine hK5 _ _ ?_
  refine wc_seq_region fun K8 hK8 => ?_
  refine wl_v hfr (by decide) (v_assign rfl) fun a hfr => ?_
  refine wl_nil (hK8 _ _ ?_)
  refine wc_ret ?_
  refine fin_ret hfr Try.results85 (resAre_tmp rfl resAre_nil) ?_
  exact ⟨by simp [retv, *], hst.ext⟩

set_option maxHeartbeats 4000000 in
/-- dialtone/dialtoneref16.Valid -/
theorem rvalid_ok (rl : Rul) (cl : Clm) (sv : Value) (l : List Evt) (w0 : World) (hsv : SlAt w0 sv 3 (l.map Evt.cells)) :
    Ret Try.prog 55 #[.agg #[.int .i64 rl.answer, .int .i64 rl.cooling, .int .i64 rl.settle, .int .i64 rl.reverse], .agg #[.int .i64 cl.number, .int .i64 cl.frm, .int .i64 cl.to, .int .i64 cl.holder, .int .i64 cl.asked, .bool cl.backed], sv] w0 fun v w => v = .bool (valid rl cl l) ∧ Ext No w0 w := by
  refine ret_of Try.func55 rfl Try.ntmps55 (Nat.le_of_ble_eq_true rfl) fun a hfr => ?_
  have hfr : Fr 63 [(0, _), (1, _), (2, _)] [] a := hfr
  have hst : St No w0 [] w0 := St.init w0
  refine wc_seq_region fun K1 hK1 => ?_
  refine wl_box hfr hst (by decide) rfl (cs := [.int .i64 rl.answer, .int .i64 rl.cooling, .int .i64 rl.settle, .int .i64 rl.reverse]) rfl fun a w1 hfr hst => ?_
  refine wl_box hfr hst (by decide) rfl (cs := [.int .i64 cl.number, .int .i64 cl.frm, .int .i64 cl.to, .int .i64 cl.holder, .int .i64 cl.asked, .bool cl.backed]) rfl fun a w2 hfr hst => ?_
  refine wl_v hfr (by decide) (v_assign rfl) fun a hfr => ?_
  refine wl_nil (hK1 _ _ ?_)
  refine wc_seq_k fun K2 hK2 => ?_
  refine wc_seq_region fun K3 hK3 => ?_
  refine wl_v hfr (by decide) (v_load_all (hst.get (k := 1) rfl) rfl (Try.isAgg29 _) (Try.sizeOf29 _)) fun a hfr => ?_
  refine wl_callp hfr hst (by decide) Try.call82 rfl (rrules_ok _ _ _ _ _) fun a w3 hfr hst => ?_
  refine wl_v hfr (by decide) (v_not rfl) fun a hfr => ?_
  refine wl_v hfr (by decide) (v_move rfl) fun a hfr => ?_
  rcases Bool.eq_false_or_eq_true (!(areValid rl)) with hb1 | hb1
  · rw [hb1] at hfr
    try simp only [Bool.not_eq_true', Bool.not_eq_false', decide_eq_true_eq, decide_eq_false_iff_not] at hb1
    refine wl_vn hfr (by decide) rfl (by decide) rfl rfl fun a hfr => ?_
    refine wl_vn hfr (by decide) rfl (by decide) rfl rfl fun a hfr => ?_
    refine wl_vn hfr (by decide) rfl (by decide) rfl rfl fun a hfr => ?_
    refine wl_v hfr (by decide) (v_pick_t rfl rfl) fun a hfr => ?_
    refine wl_v hfr (by decide) (v_move rfl) fun a hfr => ?_
    refine wl_vn hfr (by decide) rfl (by decide) rfl rfl fun a hfr => ?_
    refine wl_vn hfr (by decide) rfl (by decide) rfl rfl fun a hfr => ?_
    refine wl_vn hfr (by decide) rfl (by decide) rfl rfl fun a hfr => ?_
    refine wl_v hfr (by decide) (v_pick_t rfl rfl) fun a hfr => ?_
    refine wl_nil (hK3 _ _ ?_)
    have hfr : Fr 63 [(0, _), (1, _), (2, _), (3, _), (4, _), (6, _), (22, _)] [] a := hfr.pick [0, 1, 2, 3, 4, 6, 22]
    refine wc_cond_t hfr rfl ?_
    refine wc_seq_region fun K4 hK4 => ?_
    refine wl_v hfr (by decide) (v_assign rfl) fun a hfr => ?_
    refine wl_nil (hK4 _ _ ?_)
    refine wc_ret ?_
    refine fin_ret hfr Try.results55 (resAre_tmp rfl resAre_nil) ?_
    exact ⟨by simp [retv, valid, hb1] <;> omega, hst.ext⟩
  rw [hb1] at hfr
  try simp only [Bool.not_eq_true', Bool.not_eq_false', decide_eq_true_eq, decide_eq_false_iff_not] at hb1
  refine wl_vy hfr (by decide) rfl (by decide) rfl (v_load_all (hst.get (k := 0) rfl) rfl (Try.isAgg31 _) (Try.sizeOf31 _)) fun a hfr => ?_
  refine wl_callpy hfr hst (by decide) rfl (by decide) rfl Try.call83 rfl (rclaim_ok cl _) fun a w4 hfr hst => ?_
  refine wl_vy hfr (by decide) rfl (by decide) rfl (v_not rfl) fun a hfr => ?_
  refine wl_v hfr (by decide) (v_pick_f rfl rfl) fun a hfr => ?_
  refine wl_v hfr (by decide) (v_move rfl) fun a hfr => ?_
  rcases Bool.eq_false_or_eq_true (!(isClaim cl)) with hb2 | hb2
  · rw [hb2] at hfr
    try simp only [Bool.not_eq_true', Bool.not_eq_false', decide_eq_true_eq, decide_eq_false_iff_not] at hb2
    refine wl_vn hfr (by decide) rfl (by decide) rfl rfl fun a hfr => ?_
    refine wl_vn hfr (by decide) rfl (by decide) rfl rfl fun a hfr => ?_
    refine wl_vn hfr (by decide) rfl (by decide) rfl rfl fun a hfr => ?_
    refine wl_v hfr (by decide) (v_pick_t rfl rfl) fun a hfr => ?_
    refine wl_nil (hK3 _ _ ?_)
    have hfr : Fr 63 [(0, _), (1, _), (2, _), (3, _), (4, _), (6, _), (22, _)] [] a := hfr.pick [0, 1, 2, 3, 4, 6, 22]
    refine wc_cond_t hfr rfl ?_
    refine wc_seq_region fun K5 hK5 => ?_
    refine wl_v hfr (by decide) (v_assign rfl) fun a hfr => ?_
    refine wl_nil (hK5 _ _ ?_)
    refine wc_ret ?_
    refine fin_ret hfr Try.results55 (resAre_tmp rfl resAre_nil) ?_
    exact ⟨by simp [retv, valid, hb1, hb2] <;> omega, hst.ext⟩
  rw [hb2] at hfr
  try simp only [Bool.not_eq_true', Bool.not_eq_false', decide_eq_true_eq, decide_eq_false_iff_not] at hb2
  refine wl_vy hfr (by decide) rfl (by decide) rfl (v_move rfl) fun a hfr => ?_
  refine wl_vy hfr (by decide) rfl (by decide) rfl ((v_len_sl (sT := 32) (hst.arg hsv) rfl rfl (Try.runUnderlying32 _)).asi (m' := (l.length : Int)) (by simp)) fun a hfr => ?_
  refine wl_vy hfr (by decide) rfl (by decide) rfl (v_gt rfl rfl) fun a hfr => ?_
  refine wl_v hfr (by decide) (v_pick_f rfl rfl) fun a hfr => ?_
  refine wl_nil (hK3 _ _ ?_)
  have hfr : Fr 63 [(0, _), (1, _), (2, _), (3, _), (4, _), (6, _), (22, _)] [] a := hfr.pick [0, 1, 2, 3, 4, 6, 22]
  refine wc_cond hfr rfl (fun hc3 => ?_) (fun hc3 => ?_)
  · rw [hc3] at hfr
    try simp only [Bool.not_eq_true', Bool.not_eq_false', decide_eq_true_eq, decide_eq_false_iff_not] at hc3
    refine wc_seq_region fun K6 hK6 => ?_
    refine wl_v hfr (by decide) (v_assign rfl) fun a hfr => ?_
    refine wl_nil (hK6 _ _ ?_)
    refine wc_ret ?_
    refine fin_ret hfr Try.results55 (resAre_tmp rfl resAre_nil) ?_
    exact ⟨by simp [retv, valid, hb1, hb2, hc3] <;> omega, hst.ext⟩
  rw [hc3] at hfr
  try simp only [Bool.not_eq_true', Bool.not_eq_false', decide_eq_true_eq, decide_eq_false_iff_not] at hc3
  refine wc_skip ?_
  refine hK2 _ _ ?_
  refine wc_seq_region fun K7 hK7 => ?_
  refine wl_v hfr (by decide) (v_fieldAddr (v := .pointer (some ⟨w1.heap.size, 4, none⟩)) rfl (by kernel_rfl)) fun a hfr => ?_
  refine wl_v hfr (by decide) (v_load_blk1 (hst.get (k := 0) rfl) rfl (Try.isAgg3 _) rfl) fun a hfr => ?_
  refine wl_v hfr (by decide) (v_assign rfl) fun a hfr => ?_
  refine wl_nil (hK7 _ _ ?_)
  refine wc_seq_k fun K8 hK8 => ?_
  refine wc_seq_region fun K9 hK9 => ?_
  refine wl_v hfr (by decide) (v_assign rfl) fun a hfr => ?_
  refine wl_nil (hK9 _ _ ?_)
  refine wc_block ?_
  refine wc_loop (fun m a w => ∃ (k : Nat) (last : Int), m = l.length - k ∧ (k ≤ l.length) ∧ (anyBad cl.asked l = anyBad last (l.drop k)) ∧ Fr 63 [(0, .agg #[.int .i64 rl.answer, .int .i64 rl.cooling, .int .i64 rl.settle, .int .i64 rl.reverse]), (1, .agg #[.int .i64 cl.number, .int .i64 cl.frm, .int .i64 cl.to, .int .i64 cl.holder, .int .i64 cl.asked, .bool cl.backed]), (2, sv), (3, .pointer (some ⟨w0.heap.size, 0, none⟩)), (4, .pointer (some ⟨w1.heap.size, 0, none⟩)), (22, .bool false), (23, .pointer (some ⟨w1.heap.size, 4, none⟩)), (24, .int .i64 cl.asked), (8, .int .i64 (k : Int)), (7, .int .i64 last)] [] a ∧ St No w0 [blk w1.heap.size [.int .i64 cl.number, .int .i64 cl.frm, .int .i64 cl.to, .int .i64 cl.holder, .int .i64 cl.asked, .bool cl.backed] 31, blk w0.heap.size [.int .i64 rl.answer, .int .i64 rl.cooling, .int .i64 rl.settle, .int .i64 rl.reverse] 29] w) _ ⟨0, cl.asked, rfl, Nat.zero_le _, rfl, hfr.pick [0, 1, 2, 3, 4, 22, 23, 24, 8, 7], hst⟩ ?_
  rintro _ a w5 ⟨k, last, rfl, hk, hab, hfr, hst⟩
  refine wc_seq_k fun K10 hK10 => ?_
  refine wc_seq_region fun K11 hK11 => ?_
  refine wl_v hfr (by decide) (v_move rfl) fun a hfr => ?_
  refine wl_v hfr (by decide) (v_move rfl) fun a hfr => ?_
  refine wl_v hfr (by decide) ((v_len_sl (sT := 32) (hst.arg hsv) rfl rfl (Try.runUnderlying32 _)).asi (m' := (l.length : Int)) (by simp)) fun a hfr => ?_
  refine wl_v hfr (by decide) (v_lt rfl rfl) fun a hfr => ?_
  refine wl_nil (hK11 _ _ ?_)
  refine wc_cond hfr rfl (fun hc4 => ?_) (fun hc4 => ?_)
  · rw [hc4] at hfr
    try simp only [Bool.not_eq_true', Bool.not_eq_false', decide_eq_true_eq, decide_eq_false_iff_not] at hc4
    have hkl : k < l.length := by omega
    obtain ⟨ev, hev⟩ : ∃ ev, l.getD k ⟨0, 0, 0⟩ = ev := ⟨_, rfl⟩
    refine wc_skip ?_
    refine hK10 _ _ ?_
    refine wc_seq_k fun K12 hK12 => ?_
    refine wc_block ?_
    refine wc_seq_region fun K13 hK13 => ?_
    refine wl_v hfr (by decide) (v_move rfl) fun a hfr => ?_
    refine wl_v hfr (by decide) (v_move rfl) fun a hfr => ?_
    refine wl_v hfr (by decide) ((v_indexAddr_sl (i := (k : Int)) (sT := 32) (hst.arg hsv) rfl rfl (Try.runUnderlying32 _) (Try.sizeOf45 _) (by omega) (by simpa using hkl)).as (v' := slAddr sv (k * 3)) rfl) fun a hfr => ?_
    refine wl_v hfr (by decide) ((v_load_sl (hst.arg hsv) (i := k) (by simpa using hkl) rfl (Try.isAgg45 _) (Try.sizeOf45 _)).as (v' := .agg #[.int .i64 ev.kind, .int .i64 ev.at_, .int .i64 ev.reason]) (by rw [← hev]; show _ = Value.agg (l.getD k ⟨0, 0, 0⟩).cells.toArray; simp [hkl])) fun a hfr => ?_
    refine wl_alloc hfr hst (by decide) (Try.zeroValue45 _) (cs := [.int .i64 0, .int .i64 0, .int .i64 0]) rfl fun a w6 hfr hst => ?_
    refine wl_store 0 hfr hst rfl rfl rfl (Try.sizeOf45 _) rfl (Nat.le_of_ble_eq_true rfl) (ds := [.int .i64 ev.kind, .int .i64 ev.at_, .int .i64 ev.reason]) rfl rfl fun a w7 hfr hst => ?_
    refine wl_nil (hK13 _ _ ?_)
    refine wc_seq_k fun K14 hK14 => ?_
    refine wc_seq_region fun K15 hK15 => ?_
    refine wl_v hfr (by decide) (v_fieldAddr (v := .pointer (some ⟨w5.heap.size, 0, none⟩)) rfl (by kernel_rfl)) fun a hfr => ?_
    refine wl_v hfr (by decide) (v_load_blk1 (hst.get (k := 0) rfl) rfl (Try.isAgg3 _) rfl) fun a hfr => ?_
    refine wl_callp hfr hst (by decide) Try.call56 rfl (rin_ok _ _ _ _) fun a w8 hfr hst => ?_
    refine wl_v hfr (by decide) (v_not rfl) fun a hfr => ?_
    refine wl_v hfr (by decide) (v_move rfl) fun a hfr => ?_
    rcases Bool.eq_false_or_eq_true (!(isIn ev.kind 1 6)) with hb5 | hb5
    · rw [hb5] at hfr
      try simp only [Bool.not_eq_true', Bool.not_eq_false', decide_eq_true_eq, decide_eq_false_iff_not] at hb5
      refine wl_vn hfr (by decide) rfl (by decide) rfl rfl fun a hfr => ?_
      refine wl_vn hfr (by decide) rfl (by decide) rfl rfl fun a hfr => ?_
      refine wl_vn hfr (by decide) rfl (by decide) rfl rfl fun a hfr => ?_
      refine wl_vn hfr (by decide) rfl (by decide) rfl rfl fun a hfr => ?_
      refine wl_vn hfr (by decide) rfl (by decide) rfl rfl fun a hfr => ?_
      refine wl_v hfr (by decide) (v_pick_t rfl rfl) fun a hfr => ?_
      refine wl_nil (hK15 _ _ ?_)
      have hfr : Fr 63 [(0, _), (1, _), (2, _), (3, _), (4, _), (22, _), (23, _), (24, _), (8, _), (7, _), (25, _), (26, _), (27, _), (28, _), (31, _), (32, _), (33, _), (34, _), (9, _), (45, _)] [] a := hfr.pick [0, 1, 2, 3, 4, 22, 23, 24, 8, 7, 25, 26, 27, 28, 31, 32, 33, 34, 9, 45]
      refine wc_cond_t hfr rfl ?_
      refine wc_seq_region fun K16 hK16 => ?_
      refine wl_v hfr (by decide) (v_assign rfl) fun a hfr => ?_
      refine wl_nil (hK16 _ _ ?_)
      refine wc_ret ?_
      refine fin_ret hfr Try.results55 (resAre_tmp rfl resAre_nil) ?_
      have hb : anyBad cl.asked l = true := by
        rw [hab, drop_getD l k hkl, hev, anyBad, badEvt]; simp [hb1, hb2, hc3, hc4, hb5] <;> (try simp [isIn, hb1, hb2, hc3, hc4, hb5]) <;> (try omega)
      exact ⟨by simp [retv, valid, hb], hst.ext⟩
    rw [hb5] at hfr
    try simp only [Bool.not_eq_true', Bool.not_eq_false', decide_eq_true_eq, decide_eq_false_iff_not] at hb5
    refine wl_vy hfr (by decide) rfl (by decide) rfl (v_fieldAddr (v := .pointer (some ⟨w5.heap.size, 1, none⟩)) rfl (by kernel_rfl)) fun a hfr => ?_
    refine wl_vy hfr (by decide) rfl (by decide) rfl (v_load_blk1 (hst.get (k := 0) rfl) rfl (Try.isAgg3 _) rfl) fun a hfr => ?_
    refine wl_vy hfr (by decide) rfl (by decide) rfl (v_move rfl) fun a hfr => ?_
    refine wl_callpy hfr hst (by decide) rfl (by decide) rfl Try.call56 rfl (rin_ok _ _ _ _) fun a w9 hfr hst => ?_
    refine wl_vy hfr (by decide) rfl (by decide) rfl (v_not rfl) fun a hfr => ?_
    refine wl_v hfr (by decide) (v_pick_f rfl rfl) fun a hfr => ?_
    refine wl_nil (hK15 _ _ ?_)
    have hfr : Fr 63 [(0, _), (1, _), (2, _), (3, _), (4, _), (22, _), (23, _), (24, _), (8, _), (7, _), (25, _), (26, _), (27, _), (28, _), (31, _), (32, _), (33, _), (34, _), (9, _), (45, _)] [] a := hfr.pick [0, 1, 2, 3, 4, 22, 23, 24, 8, 7, 25, 26, 27, 28, 31, 32, 33, 34, 9, 45]
    refine wc_cond hfr rfl (fun hc6 => ?_) (fun hc6 => ?_)
    · rw [hc6] at hfr
      try simp only [Bool.not_eq_true', Bool.not_eq_false', decide_eq_true_eq, decide_eq_false_iff_not] at hc6
      refine wc_seq_region fun K17 hK17 => ?_
      refine wl_v hfr (by decide) (v_assign rfl) fun a hfr => ?_
      refine wl_nil (hK17 _ _ ?_)
      refine wc_ret ?_
      refine fin_ret hfr Try.results55 (resAre_tmp rfl resAre_nil) ?_
      have hb : anyBad cl.asked l = true := by
        rw [hab, drop_getD l k hkl, hev, anyBad, badEvt]; simp [hb1, hb2, hc3, hc4, hb5, hc6] <;> (try simp [isIn, hb1, hb2, hc3, hc4, hb5, hc6]) <;> (try omega)
      exact ⟨by simp [retv, valid, hb], hst.ext⟩
    rw [hc6] at hfr
    try simp only [Bool.not_eq_true', Bool.not_eq_false', decide_eq_true_eq, decide_eq_false_iff_not] at hc6
    refine wc_skip ?_
    refine hK14 _ _ ?_
    refine wc_seq_k fun K18 hK18 => ?_
    refine wc_seq_region fun K19 hK19 => ?_
    refine wl_v hfr (by decide) (v_fieldAddr (v := .pointer (some ⟨w5.heap.size, 0, none⟩)) rfl (by kernel_rfl)) fun a hfr => ?_
    refine wl_v hfr (by decide) (v_load_blk1 (hst.get (k := 0) rfl) rfl (Try.isAgg3 _) rfl) fun a hfr => ?_
    refine wl_v hfr (by decide) (v_eq rfl rfl) fun a hfr => ?_
    refine wl_v hfr (by decide) (v_move rfl) fun a hfr => ?_
    rcases Bool.eq_false_or_eq_true (decide (ev.kind = 2)) with hb7 | hb7
    · rw [hb7] at hfr
      try simp only [Bool.not_eq_true', Bool.not_eq_false', decide_eq_true_eq, decide_eq_false_iff_not] at hb7
      refine wl_vn hfr (by decide) rfl (by decide) rfl rfl fun a hfr => ?_
      refine wl_vn hfr (by decide) rfl (by decide) rfl rfl fun a hfr => ?_
      refine wl_vn hfr (by decide) rfl (by decide) rfl rfl fun a hfr => ?_
      refine wl_v hfr (by decide) (v_pick_t rfl rfl) fun a hfr => ?_
      refine wl_nil (hK19 _ _ ?_)
      have hfr : Fr 63 [(0, _), (1, _), (2, _), (3, _), (4, _), (22, _), (23, _), (24, _), (8, _), (7, _), (25, _), (26, _), (27, _), (28, _), (31, _), (32, _), (33, _), (34, _), (9, _), (45, _), (53, _)] [] a := hfr.pick [0, 1, 2, 3, 4, 22, 23, 24, 8, 7, 25, 26, 27, 28, 31, 32, 33, 34, 9, 45, 53]
      refine wc_cond_t hfr rfl ?_
      refine wc_seq_region fun K20 hK20 => ?_
      refine wl_v hfr (by decide) (v_fieldAddr (v := .pointer (some ⟨w5.heap.size, 2, none⟩)) rfl (by kernel_rfl)) fun a hfr => ?_
      refine wl_v hfr (by decide) (v_load_blk1 (hst.get (k := 0) rfl) rfl (Try.isAgg3 _) rfl) fun a hfr => ?_
      refine wl_callp hfr hst (by decide) Try.call56 rfl (rin_ok _ _ _ _) fun a w10 hfr hst => ?_
      refine wl_v hfr (by decide) (v_not rfl) fun a hfr => ?_
      refine wl_nil (hK20 _ _ ?_)
      refine wc_cond hfr rfl (fun hc8 => ?_) (fun hc8 => ?_)
      · rw [hc8] at hfr
        try simp only [Bool.not_eq_true', Bool.not_eq_false', decide_eq_true_eq, decide_eq_false_iff_not] at hc8
        refine wc_seq_region fun K21 hK21 => ?_
        refine wl_v hfr (by decide) (v_assign rfl) fun a hfr => ?_
        refine wl_nil (hK21 _ _ ?_)
        refine wc_ret ?_
        refine fin_ret hfr Try.results55 (resAre_tmp rfl resAre_nil) ?_
        have hb : anyBad cl.asked l = true := by
          rw [hab, drop_getD l k hkl, hev, anyBad, badEvt]; simp [hb1, hb2, hc3, hc4, hb5, hc6, hb7, hc8] <;> (try simp [isIn, hb1, hb2, hc3, hc4, hb5, hc6, hb7, hc8]) <;> (try omega)
        exact ⟨by simp [retv, valid, hb], hst.ext⟩
      rw [hc8] at hfr
      try simp only [Bool.not_eq_true', Bool.not_eq_false', decide_eq_true_eq, decide_eq_false_iff_not] at hc8
      refine wc_skip ?_
      refine hK18 _ _ ?_
      refine wc_region ?_
      refine wl_v hfr (by decide) (v_fieldAddr (v := .pointer (some ⟨w5.heap.size, 1, none⟩)) rfl (by kernel_rfl)) fun a hfr => ?_
      refine wl_v hfr (by decide) (v_load_blk1 (hst.get (k := 0) rfl) rfl (Try.isAgg3 _) rfl) fun a hfr => ?_
      refine wl_v hfr (by decide) (v_assign rfl) fun a hfr => ?_
      refine wl_nil ?_
      refine hK12 _ _ ?_
      refine wc_region ?_
      refine wl_v hfr (by decide) (v_move rfl) fun a hfr => ?_
      refine wl_v hfr (by decide) (v_add rfl rfl ⟨by omega, by omega⟩) fun a hfr => ?_
      refine wl_v hfr (by decide) (v_assign rfl) fun a hfr => ?_
      refine wl_nil ?_
      have hbe : badEvt last ev = false := by
        rw [badEvt]; simp [hb1, hb2, hc3, hc4, hb5, hc6, hb7, hc8] <;> (try simp [isIn, hb1, hb2, hc3, hc4, hb5, hc6, hb7, hc8]) <;> (try omega)
      refine ⟨_, ?_, k + 1, ev.at_, rfl, (by omega), (by rw [hab, drop_getD l k hkl, hev, anyBad, hbe]; rfl), hfr.pick [0, 1, 2, 3, 4, 22, 23, 24, 8, 7], hst.mask [false, true, true]⟩
      omega
    rw [hb7] at hfr
    try simp only [Bool.not_eq_true', Bool.not_eq_false', decide_eq_true_eq, decide_eq_false_iff_not] at hb7
    refine wl_vy hfr (by decide) rfl (by decide) rfl (v_fieldAddr (v := .pointer (some ⟨w5.heap.size, 0, none⟩)) rfl (by kernel_rfl)) fun a hfr => ?_
    refine wl_vy hfr (by decide) rfl (by decide) rfl (v_load_blk1 (hst.get (k := 0) rfl) rfl (Try.isAgg3 _) rfl) fun a hfr => ?_
    refine wl_vy hfr (by decide) rfl (by decide) rfl (v_eq rfl rfl) fun a hfr => ?_
    refine wl_v hfr (by decide) (v_pick_f rfl rfl) fun a hfr => ?_
    refine wl_nil (hK19 _ _ ?_)
    have hfr : Fr 63 [(0, _), (1, _), (2, _), (3, _), (4, _), (22, _), (23, _), (24, _), (8, _), (7, _), (25, _), (26, _), (27, _), (28, _), (31, _), (32, _), (33, _), (34, _), (9, _), (45, _), (53, _)] [] a := hfr.pick [0, 1, 2, 3, 4, 22, 23, 24, 8, 7, 25, 26, 27, 28, 31, 32, 33, 34, 9, 45, 53]
    refine wc_cond hfr rfl (fun hc9 => ?_) (fun hc9 => ?_)
    · rw [hc9] at hfr
      try simp only [Bool.not_eq_true', Bool.not_eq_false', decide_eq_true_eq, decide_eq_false_iff_not] at hc9
      refine wc_seq_region fun K22 hK22 => ?_
      refine wl_v hfr (by decide) (v_fieldAddr (v := .pointer (some ⟨w5.heap.size, 2, none⟩)) rfl (by kernel_rfl)) fun a hfr => ?_
      refine wl_v hfr (by decide) (v_load_blk1 (hst.get (k := 0) rfl) rfl (Try.isAgg3 _) rfl) fun a hfr => ?_
      refine wl_callp hfr hst (by decide) Try.call56 rfl (rin_ok _ _ _ _) fun a w11 hfr hst => ?_
      refine wl_v hfr (by decide) (v_not rfl) fun a hfr => ?_
      refine wl_nil (hK22 _ _ ?_)
      refine wc_cond hfr rfl (fun hc10 => ?_) (fun hc10 => ?_)
      · rw [hc10] at hfr
        try simp only [Bool.not_eq_true', Bool.not_eq_false', decide_eq_true_eq, decide_eq_false_iff_not] at hc10
        refine wc_seq_region fun K23 hK23 => ?_
        refine wl_v hfr (by decide) (v_assign rfl) fun a hfr => ?_
        refine wl_nil (hK23 _ _ ?_)
        refine wc_ret ?_
        refine fin_ret hfr Try.results55 (resAre_tmp rfl resAre_nil) ?_
        have hb : anyBad cl.asked l = true := by
          rw [hab, drop_getD l k hkl, hev, anyBad, badEvt]; simp [hb1, hb2, hc3, hc4, hb5, hc6, hb7, hc9, hc10] <;> (try simp [isIn, hb1, hb2, hc3, hc4, hb5, hc6, hb7, hc9, hc10]) <;> (try omega)
        exact ⟨by simp [retv, valid, hb], hst.ext⟩
      rw [hc10] at hfr
      try simp only [Bool.not_eq_true', Bool.not_eq_false', decide_eq_true_eq, decide_eq_false_iff_not] at hc10
      refine wc_skip ?_
      refine hK18 _ _ ?_
      refine wc_region ?_
      refine wl_v hfr (by decide) (v_fieldAddr (v := .pointer (some ⟨w5.heap.size, 1, none⟩)) rfl (by kernel_rfl)) fun a hfr => ?_
      refine wl_v hfr (by decide) (v_load_blk1 (hst.get (k := 0) rfl) rfl (Try.isAgg3 _) rfl) fun a hfr => ?_
      refine wl_v hfr (by decide) (v_assign rfl) fun a hfr => ?_
      refine wl_nil ?_
      refine hK12 _ _ ?_
      refine wc_region ?_
      refine wl_v hfr (by decide) (v_move rfl) fun a hfr => ?_
      refine wl_v hfr (by decide) (v_add rfl rfl ⟨by omega, by omega⟩) fun a hfr => ?_
      refine wl_v hfr (by decide) (v_assign rfl) fun a hfr => ?_
      refine wl_nil ?_
      have hbe : badEvt last ev = false := by
        rw [badEvt]; simp [hb1, hb2, hc3, hc4, hb5, hc6, hb7, hc9, hc10] <;> (try simp [isIn, hb1, hb2, hc3, hc4, hb5, hc6, hb7, hc9, hc10]) <;> (try omega)
      refine ⟨_, ?_, k + 1, ev.at_, rfl, (by omega), (by rw [hab, drop_getD l k hkl, hev, anyBad, hbe]; rfl), hfr.pick [0, 1, 2, 3, 4, 22, 23, 24, 8, 7], hst.mask [false, true, true]⟩
      omega
    rw [hc9] at hfr
    try simp only [Bool.not_eq_true', Bool.not_eq_false', decide_eq_true_eq, decide_eq_false_iff_not] at hc9
    refine wc_seq_region fun K24 hK24 => ?_
    refine wl_v hfr (by decide) (v_fieldAddr (v := .pointer (some ⟨w5.heap.size, 2, none⟩)) rfl (by kernel_rfl)) fun a hfr => ?_
    refine wl_v hfr (by decide) (v_load_blk1 (hst.get (k := 0) rfl) rfl (Try.isAgg3 _) rfl) fun a hfr => ?_
    refine wl_v hfr (by decide) (v_ne rfl rfl) fun a hfr => ?_
    refine wl_nil (hK24 _ _ ?_)
    refine wc_cond hfr rfl (fun hc11 => ?_) (fun hc11 => ?_)
    · rw [hc11] at hfr
      try simp only [Bool.not_eq_true', Bool.not_eq_false', decide_eq_true_eq, decide_eq_false_iff_not] at hc11
      refine wc_seq_region fun K25 hK25 => ?_
      refine wl_v hfr (by decide) (v_assign rfl) fun a hfr => ?_
      refine wl_nil (hK25 _ _ ?_)
      refine wc_ret ?_
      refine fin_ret hfr Try.results55 (resAre_tmp rfl resAre_nil) ?_
      have hb : anyBad cl.asked l = true := by
        rw [hab, drop_getD l k hkl, hev, anyBad, badEvt]; simp [hb1, hb2, hc3, hc4, hb5, hc6, hb7, hc9, hc11] <;> (try simp [isIn, hb1, hb2, hc3, hc4, hb5, hc6, hb7, hc9, hc11]) <;> (try omega)
      exact ⟨by simp [retv, valid, hb], hst.ext⟩
    rw [hc11] at hfr
    try simp only [Bool.not_eq_true', Bool.not_eq_false', decide_eq_true_eq, decide_eq_false_iff_not] at hc11
    refine wc_skip ?_
    refine hK18 _ _ ?_
    refine wc_region ?_
    refine wl_v hfr (by decide) (v_fieldAddr (v := .pointer (some ⟨w5.heap.size, 1, none⟩)) rfl (by kernel_rfl)) fun a hfr => ?_
    refine wl_v hfr (by decide) (v_load_blk1 (hst.get (k := 0) rfl) rfl (Try.isAgg3 _) rfl) fun a hfr => ?_
    refine wl_v hfr (by decide) (v_assign rfl) fun a hfr => ?_
    refine wl_nil ?_
    refine hK12 _ _ ?_
    refine wc_region ?_
    refine wl_v hfr (by decide) (v_move rfl) fun a hfr => ?_
    refine wl_v hfr (by decide) (v_add rfl rfl ⟨by omega, by omega⟩) fun a hfr => ?_
    refine wl_v hfr (by decide) (v_assign rfl) fun a hfr => ?_
    refine wl_nil ?_
    have hbe : badEvt last ev = false := by
      rw [badEvt]; simp [hb1, hb2, hc3, hc4, hb5, hc6, hb7, hc9, hc11] <;> (try simp [isIn, hb1, hb2, hc3, hc4, hb5, hc6, hb7, hc9, hc11]) <;> (try omega)
    refine ⟨_, ?_, k + 1, ev.at_, rfl, (by omega), (by rw [hab, drop_getD l k hkl, hev, anyBad, hbe]; rfl), hfr.pick [0, 1, 2, 3, 4, 22, 23, 24, 8, 7], hst.mask [false, true, true]⟩
    omega
  rw [hc4] at hfr
  try simp only [Bool.not_eq_true', Bool.not_eq_false', decide_eq_true_eq, decide_eq_false_iff_not] at hc4
  refine wc_exit ?_
  refine hK8 _ _ ?_
  refine wc_seq_region fun K26 hK26 => ?_
  refine wl_v hfr (by decide) (v_assign rfl) fun a hfr => ?_
  refine wl_nil (hK26 _ _ ?_)
  refine wc_ret ?_
  refine fin_ret hfr Try.results55 (resAre_tmp rfl resAre_nil) ?_
  have hb : anyBad cl.asked l = false := by
    rw [hab, List.drop_eq_nil_of_le (by omega), anyBad]
  exact ⟨by simp only [retv, valid]; rw [hb]; simp [hb1, hb2, hc3, hc4]; try omega, hst.ext⟩

theorem eqStt (a0 a1 a2 c0 c1 c2 : Int) (w : World) : (Op.equal 39 (.agg #[.int .i64 a0, .int .i64 a1, .int .i64 a2]) (.agg #[.int .i64 c0, .int .i64 c1, .int .i64 c2])).run Try.prog w = .ok (decide (a0 = c0) && decide (a1 = c1) && decide (a2 = c2)) w := by
  unfold Op.equal Op.maxDepth
  obtain ⟨dd, hd⟩ : ∃ dd, 10000 = dd + 1 + 1 := ⟨9998, rfl⟩
  rw [hd, run_equalIn_struct w (dd + 1) 39 _ _ (by kernel_rfl) (by kernel_rfl)]
  simp only [Program.fieldsOf, Try.underlying39, Op.eqFields]
  simp [part, Try.isAgg3, Op.equalIn, run_underlying Try.underlying3]
  by_cases h0 : a0 = c0 <;> by_cases h1 : a1 = c1 <;> by_cases h2 : a2 = c2 <;> simp [h0, h1, h2]

theorem same_end {α : Type} {d : α} {xs ys : List α} {k : Nat} (hl : xs.length = ys.length) (hk : xs.length ≤ k) (h : ∀ j, j < k → xs.getD j d = ys.getD j d) : xs = ys := by
  refine List.ext_getElem hl fun j h1 h2 => ?_
  have := h j (by omega)
  simpa [List.getD_eq_getElem?_getD, h1, h2] using this
theorem same_ne {α : Type} {d : α} {xs ys : List α} {k : Nat} (h : xs.getD k d ≠ ys.getD k d) : xs ≠ ys := fun e => h (by rw [e])

/-- dialtone/dialtoneref16.Ints -/
theorem ints_ok (xs ys : List Int) (av bv : Value) (w0 : World) (hav : SlAt w0 av 1 (xs.map (fun i => [.int .i64 i]))) (hbv : SlAt w0 bv 1 (ys.map (fun i => [.int .i64 i]))) :
    Ret Try.prog 21 #[av, bv] w0 fun v w => v = .bool (decide (xs = ys)) ∧ Ext No w0 w := by
  have hxb := hav.2.1
  simp only [List.length_map, big] at hxb
  refine ret_of Try.func21 rfl Try.ntmps21 (Nat.le_of_ble_eq_true rfl) fun a hfr => ?_
  have hfr : Fr 26 [(0, _), (1, _)] [] a := hfr
  have hst : St No w0 [] w0 := St.init w0
  refine wc_seq_region fun K1 hK1 => ?_
  refine wl_v hfr (by decide) (v_assign rfl) fun a hfr => ?_
  refine wl_nil (hK1 _ _ ?_)
  refine wc_seq_k fun K2 hK2 => ?_
  refine wc_seq_region fun K3 hK3 => ?_
  refine wl_v hfr (by decide) (v_move rfl) fun a hfr => ?_
  refine wl_v hfr (by decide) ((v_len_sl (sT := 49) (hst.arg hav) rfl rfl (Try.runUnderlying49 _)).asi (m' := (xs.length : Int)) (by simp)) fun a hfr => ?_
  refine wl_v hfr (by decide) (v_move rfl) fun a hfr => ?_
  refine wl_v hfr (by decide) ((v_len_sl (sT := 49) (hst.arg hbv) rfl rfl (Try.runUnderlying49 _)).asi (m' := (ys.length : Int)) (by simp)) fun a hfr => ?_
  refine wl_v hfr (by decide) (v_ne rfl rfl) fun a hfr => ?_
  refine wl_nil (hK3 _ _ ?_)
  refine wc_cond hfr rfl (fun hc1 => ?_) (fun hc1 => ?_)
  · rw [hc1] at hfr
    try simp only [Bool.not_eq_true', Bool.not_eq_false', decide_eq_true_eq, decide_eq_false_iff_not] at hc1
    refine wc_seq_region fun K4 hK4 => ?_
    refine wl_v hfr (by decide) (v_assign rfl) fun a hfr => ?_
    refine wl_nil (hK4 _ _ ?_)
    refine wc_ret ?_
    refine fin_ret hfr Try.results21 (resAre_tmp rfl resAre_nil) ?_
    exact ⟨by simp only [retv]; congr 1; exact (decide_eq_false (fun h => by subst h; simp_all)).symm, hst.ext⟩
  rw [hc1] at hfr
  try simp only [Bool.not_eq_true', Bool.not_eq_false', decide_eq_true_eq, decide_eq_false_iff_not] at hc1
  refine wc_skip ?_
  refine hK2 _ _ ?_
  refine wc_seq_k fun K5 hK5 => ?_
  refine wc_seq_region fun K6 hK6 => ?_
  refine wl_v hfr (by decide) (v_assign rfl) fun a hfr => ?_
  refine wl_nil (hK6 _ _ ?_)
  refine wc_block ?_
  refine wc_loop (fun m a w => ∃ (k : Nat), m = xs.length - k ∧ (k ≤ xs.length) ∧ (xs.length = ys.length) ∧ (∀ j, j < k → xs.getD j 0 = ys.getD j 0) ∧ Fr 26 [(0, av), (1, bv), (6, av), (7, .int .i64 (xs.length : Int)), (8, bv), (9, .int .i64 (ys.length : Int)), (10, .bool false), (5, .int .i64 (k : Int))] [] a ∧ St No w0 [] w) _ ⟨0, rfl, Nat.zero_le _, (by omega), (by intro j hj; omega), hfr.pick [0, 1, 6, 7, 8, 9, 10, 5], hst⟩ ?_
  rintro _ a w1 ⟨k, rfl, hk, hlen, hsame, hfr, hst⟩
  refine wc_seq_k fun K7 hK7 => ?_
  refine wc_seq_region fun K8 hK8 => ?_
  refine wl_v hfr (by decide) (v_move rfl) fun a hfr => ?_
  refine wl_v hfr (by decide) (v_move rfl) fun a hfr => ?_
  refine wl_v hfr (by decide) ((v_len_sl (sT := 49) (hst.arg hav) rfl rfl (Try.runUnderlying49 _)).asi (m' := (xs.length : Int)) (by simp)) fun a hfr => ?_
  refine wl_v hfr (by decide) (v_lt rfl rfl) fun a hfr => ?_
  refine wl_nil (hK8 _ _ ?_)
  refine wc_cond hfr rfl (fun hc2 => ?_) (fun hc2 => ?_)
  · rw [hc2] at hfr
    try simp only [Bool.not_eq_true', Bool.not_eq_false', decide_eq_true_eq, decide_eq_false_iff_not] at hc2
    have hkx : k < xs.length := by omega
    have hky : k < ys.length := by omega
    obtain ⟨p, hp⟩ : ∃ p, xs.getD k 0 = p := ⟨_, rfl⟩
    obtain ⟨q, hq⟩ : ∃ q, ys.getD k 0 = q := ⟨_, rfl⟩
    refine wc_skip ?_
    refine hK7 _ _ ?_
    refine wc_seq_k fun K9 hK9 => ?_
    refine wc_block ?_
    refine wc_seq_k fun K10 hK10 => ?_
    refine wc_of_dr (by kernel_rfl) ?_
    have hfr : Fr 26 [(0, _), (1, _), (6, _), (7, _), (8, _), (9, _), (10, _), (5, _), (11, _), (12, _), (13, _), (14, _)] [] a := hfr.pick [0, 1, 6, 7, 8, 9, 10, 5, 11, 12, 13, 14]
    refine wc_phases' 9 [[], [], [0, 1], [2], [], [], [4, 5], [6], [3, 7]] (fun i => match i with | 0 => pv (av) | 1 => pv (.int .i64 (k : Int)) | 2 => pv (slAddr av (k * 1)) | 3 => pv (.int .i64 p) | 4 => pv (bv) | 5 => pv (.int .i64 (k : Int)) | 6 => pv (slAddr bv (k * 1)) | 7 => pv (.int .i64 q) | 8 => pv (.bool (!decide (p = q))) | _ => fun _ _ => False) hfr hst (by kernel_rfl) (by kernel_rfl) ?_ ?_
    · intro i hi
      match i, hi with
      | 0, _ =>
        intro w hst
        exact OpV.g (v_move rfl)
      | 1, _ =>
        intro w hst
        exact OpV.g (v_move rfl)
      | 2, _ =>
        rintro _ _ ⟨rfl, rfl⟩ _ _ ⟨rfl, rfl⟩
        intro w hst
        exact OpV.g ((v_indexAddr_sl (i := (k : Int)) (sT := 49) (hst.arg hav) rfl rfl (Try.runUnderlying49 _) (Try.sizeOf3 _) (by omega) (by simpa using hkx)).as (v' := slAddr av (k * 1)) rfl)
      | 3, _ =>
        rintro _ _ ⟨rfl, rfl⟩
        intro w hst
        exact OpV.g (v_load_sl1 (u := .int .i64 p) (i := k) (j := 0) (hst.arg hav) (by simpa using hkx) rfl (Try.isAgg3 _) (by rw [← hp]; simp [hkx]))
      | 4, _ =>
        intro w hst
        exact OpV.g (v_move rfl)
      | 5, _ =>
        intro w hst
        exact OpV.g (v_move rfl)
      | 6, _ =>
        rintro _ _ ⟨rfl, rfl⟩ _ _ ⟨rfl, rfl⟩
        intro w hst
        exact OpV.g ((v_indexAddr_sl (i := (k : Int)) (sT := 49) (hst.arg hbv) rfl rfl (Try.runUnderlying49 _) (Try.sizeOf3 _) (by omega) (by simpa using hky)).as (v' := slAddr bv (k * 1)) rfl)
      | 7, _ =>
        rintro _ _ ⟨rfl, rfl⟩
        intro w hst
        exact OpV.g (v_load_sl1 (u := .int .i64 q) (i := k) (j := 0) (hst.arg hbv) (by simpa using hky) rfl (Try.isAgg3 _) (by rw [← hq]; simp [hky]))
      | 8, _ =>
        rintro _ _ ⟨rfl, rfl⟩ _ _ ⟨rfl, rfl⟩
        intro w hst
        exact OpV.g (v_ne rfl rfl)
    rintro _ _ ⟨rfl, rfl⟩ _ _ ⟨rfl, rfl⟩ _ _ ⟨rfl, rfl⟩ _ _ ⟨rfl, rfl⟩ _ _ ⟨rfl, rfl⟩ _ _ ⟨rfl, rfl⟩ _ _ ⟨rfl, rfl⟩ _ _ ⟨rfl, rfl⟩ _ _ ⟨rfl, rfl⟩ a w2 hfr hst
    have hfr : Fr 26 [(17, _), (18, _), (19, _), (20, _), (21, _), (22, _), (23, _), (24, _), (25, _), (0, _), (1, _), (6, _), (7, _), (8, _), (9, _), (10, _), (5, _), (11, _), (12, _), (13, _), (14, _)] [] a := hfr
    have hst : St No w0 [] w2 := hst
    refine wl_nil ?_
    refine hK10 _ _ ?_
    have hfr : Fr 26 [(0, _), (1, _), (6, _), (7, _), (8, _), (9, _), (10, _), (5, _), (11, _), (12, _), (13, _), (14, _), (25, _)] [] a := hfr.pick [0, 1, 6, 7, 8, 9, 10, 5, 11, 12, 13, 14, 25]
    refine wc_cond hfr rfl (fun hc3 => ?_) (fun hc3 => ?_)
    · rw [hc3] at hfr
      try simp only [Bool.not_eq_true', Bool.not_eq_false', decide_eq_true_eq, decide_eq_false_iff_not] at hc3
      refine wc_seq_region fun K11 hK11 => ?_
      refine wl_v hfr (by decide) (v_assign rfl) fun a hfr => ?_
      refine wl_nil (hK11 _ _ ?_)
      refine wc_ret ?_
      refine fin_ret hfr Try.results21 (resAre_tmp rfl resAre_nil) ?_
      exact ⟨by simp only [retv]; congr 1; exact (decide_eq_false (same_ne (d := 0) (k := k) (by rw [hp, hq]; intro h; subst h; simp_all))).symm, hst.ext⟩
    rw [hc3] at hfr
    try simp only [Bool.not_eq_true', Bool.not_eq_false', decide_eq_true_eq, decide_eq_false_iff_not] at hc3
    refine wc_skip ?_
    refine hK9 _ _ ?_
    refine wc_region ?_
    refine wl_v hfr (by decide) (v_move rfl) fun a hfr => ?_
    refine wl_v hfr (by decide) (v_add rfl rfl ⟨by omega, by omega⟩) fun a hfr => ?_
    refine wl_v hfr (by decide) (v_assign rfl) fun a hfr => ?_
    refine wl_nil ?_
    refine ⟨_, ?_, k + 1, rfl, (by omega), hlen, (by intro j hj; by_cases h : j = k; (subst h; rw [hp, hq]; simp_all); exact hsame j (by omega)), hfr.pick [0, 1, 6, 7, 8, 9, 10, 5], hst⟩
    omega
  rw [hc2] at hfr
  try simp only [Bool.not_eq_true', Bool.not_eq_false', decide_eq_true_eq, decide_eq_false_iff_not] at hc2
  refine wc_exit ?_
  refine hK5 _ _ ?_
  refine wc_seq_region fun K12 hK12 => ?_
  refine wl_v hfr (by decide) (v_assign rfl) fun a hfr => ?_
  refine wl_nil (hK12 _ _ ?_)
  refine wc_ret ?_
  refine fin_ret hfr Try.results21 (resAre_tmp rfl resAre_nil) ?_
  exact ⟨by simp only [retv]; congr 1; exact (decide_eq_true (same_end hlen (by omega) hsame)).symm, hst.ext⟩

/-- dialtone/dialtoneref16.SameTimeline -/
theorem sameTimeline_ok (xs ys : List Stt) (av bv : Value) (w0 : World) (hav : SlAt w0 av 3 (xs.map Stt.cells)) (hbv : SlAt w0 bv 3 (ys.map Stt.cells)) :
    Ret Try.prog 19 #[av, bv] w0 fun v w => v = .bool (decide (xs = ys)) ∧ Ext No w0 w := by
  have hxb := hav.2.1
  simp only [List.length_map, big] at hxb
  refine ret_of Try.func19 rfl Try.ntmps19 (Nat.le_of_ble_eq_true rfl) fun a hfr => ?_
  have hfr : Fr 26 [(0, _), (1, _)] [] a := hfr
  have hst : St No w0 [] w0 := St.init w0
  refine wc_seq_region fun K1 hK1 => ?_
  refine wl_v hfr (by decide) (v_assign rfl) fun a hfr => ?_
  refine wl_nil (hK1 _ _ ?_)
  refine wc_seq_k fun K2 hK2 => ?_
  refine wc_seq_region fun K3 hK3 => ?_
  refine wl_v hfr (by decide) (v_move rfl) fun a hfr => ?_
  refine wl_v hfr (by decide) ((v_len_sl (sT := 47) (hst.arg hav) rfl rfl (Try.runUnderlying47 _)).asi (m' := (xs.length : Int)) (by simp)) fun a hfr => ?_
  refine wl_v hfr (by decide) (v_move rfl) fun a hfr => ?_
  refine wl_v hfr (by decide) ((v_len_sl (sT := 47) (hst.arg hbv) rfl rfl (Try.runUnderlying47 _)).asi (m' := (ys.length : Int)) (by simp)) fun a hfr => ?_
  refine wl_v hfr (by decide) (v_ne rfl rfl) fun a hfr => ?_
  refine wl_nil (hK3 _ _ ?_)
  refine wc_cond hfr rfl (fun hc1 => ?_) (fun hc1 => ?_)
  · rw [hc1] at hfr
    try simp only [Bool.not_eq_true', Bool.not_eq_false', decide_eq_true_eq, decide_eq_false_iff_not] at hc1
    refine wc_seq_region fun K4 hK4 => ?_
    refine wl_v hfr (by decide) (v_assign rfl) fun a hfr => ?_
    refine wl_nil (hK4 _ _ ?_)
    refine wc_ret ?_
    refine fin_ret hfr Try.results19 (resAre_tmp rfl resAre_nil) ?_
    exact ⟨by simp only [retv]; congr 1; exact (decide_eq_false (fun h => by subst h; simp_all)).symm, hst.ext⟩
  rw [hc1] at hfr
  try simp only [Bool.not_eq_true', Bool.not_eq_false', decide_eq_true_eq, decide_eq_false_iff_not] at hc1
  refine wc_skip ?_
  refine hK2 _ _ ?_
  refine wc_seq_k fun K5 hK5 => ?_
  refine wc_seq_region fun K6 hK6 => ?_
  refine wl_v hfr (by decide) (v_assign rfl) fun a hfr => ?_
  refine wl_nil (hK6 _ _ ?_)
  refine wc_block ?_
  refine wc_loop (fun m a w => ∃ (k : Nat), m = xs.length - k ∧ (k ≤ xs.length) ∧ (xs.length = ys.length) ∧ (∀ j, j < k → xs.getD j ⟨0, 0, 0⟩ = ys.getD j ⟨0, 0, 0⟩) ∧ Fr 26 [(0, av), (1, bv), (6, av), (7, .int .i64 (xs.length : Int)), (8, bv), (9, .int .i64 (ys.length : Int)), (10, .bool false), (5, .int .i64 (k : Int))] [] a ∧ St No w0 [] w) _ ⟨0, rfl, Nat.zero_le _, (by omega), (by intro j hj; omega), hfr.pick [0, 1, 6, 7, 8, 9, 10, 5], hst⟩ ?_
  rintro _ a w1 ⟨k, rfl, hk, hlen, hsame, hfr, hst⟩
  refine wc_seq_k fun K7 hK7 => ?_
  refine wc_seq_region fun K8 hK8 => ?_
  refine wl_v hfr (by decide) (v_move rfl) fun a hfr => ?_
  refine wl_v hfr (by decide) (v_move rfl) fun a hfr => ?_
  refine wl_v hfr (by decide) ((v_len_sl (sT := 47) (hst.arg hav) rfl rfl (Try.runUnderlying47 _)).asi (m' := (xs.length : Int)) (by simp)) fun a hfr => ?_
  refine wl_v hfr (by decide) (v_lt rfl rfl) fun a hfr => ?_
  refine wl_nil (hK8 _ _ ?_)
  refine wc_cond hfr rfl (fun hc2 => ?_) (fun hc2 => ?_)
  · rw [hc2] at hfr
    try simp only [Bool.not_eq_true', Bool.not_eq_false', decide_eq_true_eq, decide_eq_false_iff_not] at hc2
    have hkx : k < xs.length := by omega
    have hky : k < ys.length := by omega
    obtain ⟨p, hp⟩ : ∃ p, xs.getD k ⟨0, 0, 0⟩ = p := ⟨_, rfl⟩
    obtain ⟨q, hq⟩ : ∃ q, ys.getD k ⟨0, 0, 0⟩ = q := ⟨_, rfl⟩
    refine wc_skip ?_
    refine hK7 _ _ ?_
    refine wc_seq_k fun K9 hK9 => ?_
    refine wc_block ?_
    refine wc_seq_k fun K10 hK10 => ?_
    refine wc_of_dr (by kernel_rfl) ?_
    have hfr : Fr 26 [(0, _), (1, _), (6, _), (7, _), (8, _), (9, _), (10, _), (5, _), (11, _), (12, _), (13, _), (14, _)] [] a := hfr.pick [0, 1, 6, 7, 8, 9, 10, 5, 11, 12, 13, 14]
    refine wc_phases' 9 [[], [], [0, 1], [2], [], [], [4, 5], [6], [3, 7]] (fun i => match i with | 0 => pv (av) | 1 => pv (.int .i64 (k : Int)) | 2 => pv (slAddr av (k * 3)) | 3 => pv (.agg #[.int .i64 p.state, .int .i64 p.since, .int .i64 p.next]) | 4 => pv (bv) | 5 => pv (.int .i64 (k : Int)) | 6 => pv (slAddr bv (k * 3)) | 7 => pv (.agg #[.int .i64 q.state, .int .i64 q.since, .int .i64 q.next]) | 8 => pv (.bool (!(decide (p.state = q.state) && decide (p.since = q.since) && decide (p.next = q.next)))) | _ => fun _ _ => False) hfr hst (by kernel_rfl) (by kernel_rfl) ?_ ?_
    · intro i hi
      match i, hi with
      | 0, _ =>
        intro w hst
        exact OpV.g (v_move rfl)
      | 1, _ =>
        intro w hst
        exact OpV.g (v_move rfl)
      | 2, _ =>
        rintro _ _ ⟨rfl, rfl⟩ _ _ ⟨rfl, rfl⟩
        intro w hst
        exact OpV.g ((v_indexAddr_sl (i := (k : Int)) (sT := 47) (hst.arg hav) rfl rfl (Try.runUnderlying47 _) (Try.sizeOf39 _) (by omega) (by simpa using hkx)).as (v' := slAddr av (k * 3)) rfl)
      | 3, _ =>
        rintro _ _ ⟨rfl, rfl⟩
        intro w hst
        exact OpV.g ((v_load_sl (hst.arg hav) (i := k) (by simpa using hkx) rfl (Try.isAgg39 _) (Try.sizeOf39 _)).as (v' := .agg #[.int .i64 p.state, .int .i64 p.since, .int .i64 p.next]) (by rw [← hp]; simp [hkx, Stt.cells]))
      | 4, _ =>
        intro w hst
        exact OpV.g (v_move rfl)
      | 5, _ =>
        intro w hst
        exact OpV.g (v_move rfl)
      | 6, _ =>
        rintro _ _ ⟨rfl, rfl⟩ _ _ ⟨rfl, rfl⟩
        intro w hst
        exact OpV.g ((v_indexAddr_sl (i := (k : Int)) (sT := 47) (hst.arg hbv) rfl rfl (Try.runUnderlying47 _) (Try.sizeOf39 _) (by omega) (by simpa using hky)).as (v' := slAddr bv (k * 3)) rfl)
      | 7, _ =>
        rintro _ _ ⟨rfl, rfl⟩
        intro w hst
        exact OpV.g ((v_load_sl (hst.arg hbv) (i := k) (by simpa using hky) rfl (Try.isAgg39 _) (Try.sizeOf39 _)).as (v' := .agg #[.int .i64 q.state, .int .i64 q.since, .int .i64 q.next]) (by rw [← hq]; simp [hky, Stt.cells]))
      | 8, _ =>
        rintro _ _ ⟨rfl, rfl⟩ _ _ ⟨rfl, rfl⟩
        intro w hst
        exact OpV.g (v_ne_agg rfl rfl (by kernel_rfl) (eqStt p.state p.since p.next q.state q.since q.next _))
    rintro _ _ ⟨rfl, rfl⟩ _ _ ⟨rfl, rfl⟩ _ _ ⟨rfl, rfl⟩ _ _ ⟨rfl, rfl⟩ _ _ ⟨rfl, rfl⟩ _ _ ⟨rfl, rfl⟩ _ _ ⟨rfl, rfl⟩ _ _ ⟨rfl, rfl⟩ _ _ ⟨rfl, rfl⟩ a w2 hfr hst
    have hfr : Fr 26 [(17, _), (18, _), (19, _), (20, _), (21, _), (22, _), (23, _), (24, _), (25, _), (0, _), (1, _), (6, _), (7, _), (8, _), (9, _), (10, _), (5, _), (11, _), (12, _), (13, _), (14, _)] [] a := hfr
    have hst : St No w0 [] w2 := hst
    refine wl_nil ?_
    refine hK10 _ _ ?_
    have hfr : Fr 26 [(0, _), (1, _), (6, _), (7, _), (8, _), (9, _), (10, _), (5, _), (11, _), (12, _), (13, _), (14, _), (25, _)] [] a := hfr.pick [0, 1, 6, 7, 8, 9, 10, 5, 11, 12, 13, 14, 25]
    refine wc_cond hfr rfl (fun hc3 => ?_) (fun hc3 => ?_)
    · rw [hc3] at hfr
      try simp only [Bool.not_eq_true', Bool.not_eq_false', decide_eq_true_eq, decide_eq_false_iff_not] at hc3
      refine wc_seq_region fun K11 hK11 => ?_
      refine wl_v hfr (by decide) (v_assign rfl) fun a hfr => ?_
      refine wl_nil (hK11 _ _ ?_)
      refine wc_ret ?_
      refine fin_ret hfr Try.results19 (resAre_tmp rfl resAre_nil) ?_
      exact ⟨by simp only [retv]; congr 1; exact (decide_eq_false (same_ne (d := ⟨0, 0, 0⟩) (k := k) (by rw [hp, hq]; intro h; subst h; simp_all))).symm, hst.ext⟩
    rw [hc3] at hfr
    try simp only [Bool.not_eq_true', Bool.not_eq_false', decide_eq_true_eq, decide_eq_false_iff_not] at hc3
    refine wc_skip ?_
    refine hK9 _ _ ?_
    refine wc_region ?_
    refine wl_v hfr (by decide) (v_move rfl) fun a hfr => ?_
    refine wl_v hfr (by decide) (v_add rfl rfl ⟨by omega, by omega⟩) fun a hfr => ?_
    refine wl_v hfr (by decide) (v_assign rfl) fun a hfr => ?_
    refine wl_nil ?_
    refine ⟨_, ?_, k + 1, rfl, (by omega), hlen, (by intro j hj; by_cases h : j = k; (subst h; rw [hp, hq]; cases p; cases q; simp_all); exact hsame j (by omega)), hfr.pick [0, 1, 6, 7, 8, 9, 10, 5], hst⟩
    omega
  rw [hc2] at hfr
  try simp only [Bool.not_eq_true', Bool.not_eq_false', decide_eq_true_eq, decide_eq_false_iff_not] at hc2
  refine wc_exit ?_
  refine hK5 _ _ ?_
  refine wc_seq_region fun K12 hK12 => ?_
  refine wl_v hfr (by decide) (v_assign rfl) fun a hfr => ?_
  refine wl_nil (hK12 _ _ ?_)
  refine wc_ret ?_
  refine fin_ret hfr Try.results19 (resAre_tmp rfl resAre_nil) ?_
  exact ⟨by simp only [retv]; congr 1; exact (decide_eq_true (same_end hlen (by omega) hsame)).symm, hst.ext⟩
end Go.Proofs.Ytdamipejlfipcaa
