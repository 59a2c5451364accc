import Derived.Test.YtdamipejlfipcaaClaimG
namespace Go.Proofs.Ytdamipejlfipcaa
open Go.RowKit Go.PW
set_option linter.unusedVariables false
set_option linter.unusedSimpArgs false
set_option maxRecDepth 4000

/-- dialtone/claim.With -/
theorem with_ok (rl : Rul) (cl : Clm) (sv : Value) (l : List Evt) (t : Int) (w0 : World) (hsv : SlAt w0 sv 3 (l.map Evt.cells)) (hv : valid rl cl l = true) (hin : isIn t 0 20000000 = true) :
    Ret Try.prog 20 #[.agg #[.int .i64 rl.answer, .int .i64 rl.cooling, .int .i64 rl.settle, .int .i64 rl.reverse], .agg #[.int .i64 cl.number, .int .i64 cl.frm, .int .i64 cl.to, .int .i64 cl.holder, .int .i64 cl.asked, .bool cl.backed], sv, .int .i64 t] w0 fun v w => v = .tuple #[.int .i64 (withAt rl cl l t), .int .i64 0] ∧ Ext No w0 w := by
  refine ret_of Try.func20 rfl Try.ntmps20 (Nat.le_of_ble_eq_true rfl) fun a hfr => ?_
  have hfr : Fr 37 [(0, _), (1, _), (2, _), (3, _)] [] a := hfr
  have hst : St No w0 [] w0 := St.init w0
  refine wc_seq_region fun K1 hK1 => ?_
  refine wl_box hfr hst (by decide) rfl (cs := [.int .i64 rl.answer, .int .i64 rl.cooling, .int .i64 rl.settle, .int .i64 rl.reverse]) rfl fun a w1 hfr hst => ?_
  refine wl_box hfr hst (by decide) rfl (cs := [.int .i64 cl.number, .int .i64 cl.frm, .int .i64 cl.to, .int .i64 cl.holder, .int .i64 cl.asked, .bool cl.backed]) rfl fun a w2 hfr hst => ?_
  refine wl_v hfr (by decide) (v_assign rfl) fun a hfr => ?_
  refine wl_v hfr (by decide) (v_assign rfl) fun a hfr => ?_
  refine wl_nil (hK1 _ _ ?_)
  refine wc_seq_region fun K2 hK2 => ?_
  refine wl_v hfr (by decide) (v_load_all (hst.get (k := 1) rfl) rfl (Try.isAgg29 _) (Try.sizeOf29 _)) fun a hfr => ?_
  refine wl_v hfr (by decide) (v_load_all (hst.get (k := 0) rfl) rfl (Try.isAgg31 _) (Try.sizeOf31 _)) fun a hfr => ?_
  refine wl_v hfr (by decide) (v_move rfl) fun a hfr => ?_
  refine wl_v hfr (by decide) (v_move rfl) fun a hfr => ?_
  refine wl_callp hfr hst (by decide) Try.call14 rfl (outcome_ok rl cl sv l t _ (hst.arg hsv) hv hin) fun a w3 hfr hst => ?_
  refine wl_v hfr (by decide) (v_move rfl) fun a hfr => ?_
  refine wl_v hfr (by decide) (v_extract rfl rfl) fun a hfr => ?_
  refine wl_v hfr (by decide) (v_extract rfl rfl) fun a hfr => ?_
  refine wl_alloc hfr hst (by decide) (Try.zeroValue39 _) (cs := [.int .i64 0, .int .i64 0, .int .i64 0]) rfl fun a w4 hfr hst => ?_
  refine wl_store 0 hfr hst rfl rfl rfl (Try.sizeOf39 _) rfl (Nat.le_of_ble_eq_true rfl) (ds := [.int .i64 ((outcome rl cl l t).state), .int .i64 ((outcome rl cl l t).since), .int .i64 ((outcome rl cl l t).next)]) rfl rfl fun a w5 hfr hst => ?_
  refine wl_v hfr (by decide) (v_assign rfl) fun a hfr => ?_
  refine wl_nil (hK2 _ _ ?_)
  have hfr : Fr 37 [(0, _), (1, _), (2, _), (3, _), (4, _), (5, _), (8, _), (9, _), (10, _), (11, _)] [] a := hfr.pick [0, 1, 2, 3, 4, 5, 8, 9, 10, 11]
  refine wc_seq_k fun K3 hK3 => ?_
  refine wc_block ?_
  refine wc_seq_region fun K4 hK4 => ?_
  refine wl_v hfr (by decide) (v_move rfl) fun a hfr => ?_
  refine wl_v hfr (by decide) ((v_ne rfl rfl).asb (b' := false) rfl) fun a hfr => ?_
  refine wl_v hfr (by decide) (v_assign rfl) fun a hfr => ?_
  refine wl_nil (hK4 _ _ ?_)
  refine wc_cond_f hfr rfl ?_
  refine wc_seq_region fun K5 hK5 => ?_
  refine wl_v hfr (by decide) (v_fieldAddr (v := .pointer (some ⟨w3.heap.size, 0, none⟩)) rfl (by kernel_rfl)) fun a hfr => ?_
  refine wl_v hfr (by decide) (v_load_blk1 (hst.get (k := 0) rfl) rfl (Try.isAgg3 _) rfl) fun a hfr => ?_
  refine wl_v hfr (by decide) (v_eq rfl rfl) fun a hfr => ?_
  refine wl_v hfr (by decide) (v_move rfl) fun a hfr => ?_
  rcases Bool.eq_false_or_eq_true (decide ((outcome rl cl l t).state = 4)) with hb1 | hb1
  · rw [hb1] at hfr
    try simp only [Bool.not_eq_true', Bool.not_eq_false', decide_eq_true_eq, decide_eq_false_iff_not] at hb1
    refine wl_vn hfr (by decide) rfl (by decide) rfl rfl fun a hfr => ?_
    refine wl_vn hfr (by decide) rfl (by decide) rfl rfl fun a hfr => ?_
    refine wl_vn hfr (by decide) rfl (by decide) rfl rfl fun a hfr => ?_
    refine wl_v hfr (by decide) (v_pick_t rfl rfl) fun a hfr => ?_
    refine wl_v hfr (by decide) (v_assign rfl) fun a hfr => ?_
    refine wl_nil (hK5 _ _ ?_)
    have hfr : Fr 37 [(0, _), (1, _), (2, _), (3, _), (4, _), (5, _), (8, _), (9, _), (10, _), (11, _), (21, _), (22, _), (20, _), (24, _)] [] a := hfr.pick [0, 1, 2, 3, 4, 5, 8, 9, 10, 11, 21, 22, 20, 24]
    refine wc_cond_t hfr rfl ?_
    refine wc_seq_region fun K6 hK6 => ?_
    refine wl_v hfr (by decide) (v_fieldAddr (v := .pointer (some ⟨w1.heap.size, 2, none⟩)) rfl (by kernel_rfl)) fun a hfr => ?_
    refine wl_v hfr (by decide) (v_load_blk1 (hst.get (k := 1) rfl) rfl (Try.isAgg3 _) rfl) fun a hfr => ?_
    refine wl_v hfr (by decide) (v_assign rfl) fun a hfr => ?_
    refine wl_v hfr (by decide) (v_assign rfl) fun a hfr => ?_
    refine wl_nil (hK6 _ _ ?_)
    refine wc_ret ?_
    refine fin_ret hfr Try.results20 (resAre_tmp rfl (resAre_tmp rfl resAre_nil)) ?_
    exact ⟨by simp only [retv, withAt]; simp [*], hst.ext⟩
  rw [hb1] at hfr
  try simp only [Bool.not_eq_true', Bool.not_eq_false', decide_eq_true_eq, decide_eq_false_iff_not] at hb1
  refine wl_vy hfr (by decide) rfl (by decide) rfl (v_fieldAddr (v := .pointer (some ⟨w3.heap.size, 0, none⟩)) rfl (by kernel_rfl)) fun a hfr => ?_
  refine wl_vy hfr (by decide) rfl (by decide) rfl (v_load_blk1 (hst.get (k := 0) rfl) rfl (Try.isAgg3 _) rfl) fun a hfr => ?_
  refine wl_vy hfr (by decide) rfl (by decide) rfl (v_eq rfl rfl) fun a hfr => ?_
  refine wl_v hfr (by decide) (v_pick_f rfl rfl) fun a hfr => ?_
  refine wl_v hfr (by decide) (v_assign rfl) fun a hfr => ?_
  refine wl_nil (hK5 _ _ ?_)
  have hfr : Fr 37 [(0, _), (1, _), (2, _), (3, _), (4, _), (5, _), (8, _), (9, _), (10, _), (11, _), (21, _), (22, _), (20, _), (24, _)] [] a := hfr.pick [0, 1, 2, 3, 4, 5, 8, 9, 10, 11, 21, 22, 20, 24]
  refine wc_cond hfr rfl (fun hc2 => ?_) (fun hc2 => ?_)
  · rw [hc2] at hfr
    try simp only [Bool.not_eq_true', Bool.not_eq_false', decide_eq_true_eq, decide_eq_false_iff_not] at hc2
    refine wc_seq_region fun K7 hK7 => ?_
    refine wl_v hfr (by decide) (v_fieldAddr (v := .pointer (some ⟨w1.heap.size, 2, none⟩)) rfl (by kernel_rfl)) fun a hfr => ?_
    refine wl_v hfr (by decide) (v_load_blk1 (hst.get (k := 1) rfl) rfl (Try.isAgg3 _) rfl) fun a hfr => ?_
    refine wl_v hfr (by decide) (v_assign rfl) fun a hfr => ?_
    refine wl_v hfr (by decide) (v_assign rfl) fun a hfr => ?_
    refine wl_nil (hK7 _ _ ?_)
    refine wc_ret ?_
    refine fin_ret hfr Try.results20 (resAre_tmp rfl (resAre_tmp rfl resAre_nil)) ?_
    exact ⟨by simp only [retv, withAt]; simp [*], hst.ext⟩
  rw [hc2] at hfr
  try simp only [Bool.not_eq_true', Bool.not_eq_false', decide_eq_true_eq, decide_eq_false_iff_not] at hc2
  refine wc_skip ?_
  refine hK3 _ _ ?_
  refine wc_seq_region fun K8 hK8 => ?_
  refine wl_v hfr (by decide) (v_fieldAddr (v := .pointer (some ⟨w1.heap.size, 1, none⟩)) rfl (by kernel_rfl)) fun a hfr => ?_
  refine wl_v hfr (by decide) (v_load_blk1 (hst.get (k := 1) rfl) rfl (Try.isAgg3 _) rfl) fun a hfr => ?_
  refine wl_v hfr (by decide) (v_assign rfl) fun a hfr => ?_
  refine wl_v hfr (by decide) (v_assign rfl) fun a hfr => ?_
  refine wl_nil (hK8 _ _ ?_)
  refine wc_ret ?_
  refine fin_ret hfr Try.results20 (resAre_tmp rfl (resAre_tmp rfl resAre_nil)) ?_
  exact ⟨by simp only [retv, withAt]; simp [*], hst.ext⟩

/-- dialtone/claim.Void -/
theorem void_ok (rl : Rul) (cl : Clm) (sv : Value) (l : List Evt) (w0 : World) (hsv : SlAt w0 sv 3 (l.map Evt.cells)) (hv : valid rl cl l = true) :
    Ret Try.prog 17 #[.agg #[.int .i64 rl.answer, .int .i64 rl.cooling, .int .i64 rl.settle, .int .i64 rl.reverse], .agg #[.int .i64 cl.number, .int .i64 cl.frm, .int .i64 cl.to, .int .i64 cl.holder, .int .i64 cl.asked, .bool cl.backed], sv] w0 (MemR w0 (fun v : Value => .tuple #[v, .int .i64 0]) (fun v => [own v 3 1 ((voids rl cl l).map fun i => [.int .i64 i])]) (fun _ => True)) := by
  refine ret_of Try.func17 rfl Try.ntmps17 (Nat.le_of_ble_eq_true rfl) fun a hfr => ?_
  have hfr : Fr 28 [(0, _), (1, _), (2, _)] [] a := hfr
  have hst : St No w0 [] w0 := St.init w0
  refine wc_seq_region fun K1 hK1 => ?_
  refine wl_box hfr hst (by decide) rfl (cs := [.int .i64 rl.answer, .int .i64 rl.cooling, .int .i64 rl.settle, .int .i64 rl.reverse]) rfl fun a w1 hfr hst => ?_
  refine wl_box hfr hst (by decide) rfl (cs := [.int .i64 cl.number, .int .i64 cl.frm, .int .i64 cl.to, .int .i64 cl.holder, .int .i64 cl.asked, .bool cl.backed]) rfl fun a w2 hfr hst => ?_
  refine wl_v hfr (by decide) (v_assign rfl) fun a hfr => ?_
  refine wl_v hfr (by decide) (v_assign rfl) fun a hfr => ?_
  refine wl_nil (hK1 _ _ ?_)
  refine wc_seq_region fun K2 hK2 => ?_
  refine wl_v hfr (by decide) (v_load_all (hst.get (k := 1) rfl) rfl (Try.isAgg29 _) (Try.sizeOf29 _)) fun a hfr => ?_
  refine wl_v hfr (by decide) (v_load_all (hst.get (k := 0) rfl) rfl (Try.isAgg31 _) (Try.sizeOf31 _)) fun a hfr => ?_
  refine wl_v hfr (by decide) (v_move rfl) fun a hfr => ?_
  refine wl_callm hfr hst (by decide) Try.call39 rfl (open_ok rl cl sv l _ (hst.arg hsv) hv) fun a w3 x2 hp hfr hst => ?_
  revert x2 hp hfr hst; rintro x1 hp hfr hst
  clear hp
  have hst : St No w0 [blk x1.bm [.int .i64 rl.answer, .int .i64 rl.cooling, .int .i64 rl.settle, .int .i64 rl.reverse, .int .i64 cl.number, .int .i64 cl.frm, .int .i64 cl.to, .int .i64 cl.holder, .int .i64 cl.asked, .bool cl.backed, .map (some x1.dm), .map (some x1.em), .slice none 0 0] 95, mapE x1.dm duesKV, mapE x1.em effAll, blk w1.heap.size [.int .i64 cl.number, .int .i64 cl.frm, .int .i64 cl.to, .int .i64 cl.holder, .int .i64 cl.asked, .bool cl.backed] 31, blk w0.heap.size [.int .i64 rl.answer, .int .i64 rl.cooling, .int .i64 rl.settle, .int .i64 rl.reverse] 29] w3 := hst
  refine wl_v hfr (by decide) (v_move rfl) fun a hfr => ?_
  refine wl_v hfr (by decide) (v_extract rfl rfl) fun a hfr => ?_
  refine wl_v hfr (by decide) (v_extract rfl rfl) fun a hfr => ?_
  refine wl_v hfr (by decide) (v_assign rfl) fun a hfr => ?_
  refine wl_v hfr (by decide) (v_assign rfl) fun a hfr => ?_
  refine wl_nil (hK2 _ _ ?_)
  have hfr : Fr 28 [(0, _), (1, _), (2, _), (3, _), (4, _), (6, _), (7, _), (8, _), (9, _)] [] a := hfr.pick [0, 1, 2, 3, 4, 6, 7, 8, 9]
  refine wc_seq_k fun K3 hK3 => ?_
  refine wc_seq_region fun K4 hK4 => ?_
  refine wl_v hfr (by decide) (v_move rfl) fun a hfr => ?_
  refine wl_v hfr (by decide) ((v_ne rfl rfl).asb (b' := false) rfl) fun a hfr => ?_
  refine wl_nil (hK4 _ _ ?_)
  refine wc_cond_f hfr rfl ?_
  refine wc_skip ?_
  refine hK3 _ _ ?_
  refine wc_seq_k fun K5 hK5 => ?_
  refine wc_seq_region fun K6 hK6 => ?_
  refine wl_v hfr (by decide) (v_move rfl) fun a hfr => ?_
  refine wl_v hfr (by decide) (v_move rfl) fun a hfr => ?_
  refine wl_callm hfr hst (by decide) Try.call41 rfl (mstatuses_ok _ _ _ _ (hst.arg hsv)) fun a w4 x5 hp hfr hst => ?_
  obtain ⟨bp3, bl4⟩ := x5
  clear hp
  have hst : St No w0 [blk bl4 [sv] 32, blk bp3 [.pointer (some ⟨x1.bm, 0, none⟩)] 85, blk x1.bm [.int .i64 rl.answer, .int .i64 rl.cooling, .int .i64 rl.settle, .int .i64 rl.reverse, .int .i64 cl.number, .int .i64 cl.frm, .int .i64 cl.to, .int .i64 cl.holder, .int .i64 cl.asked, .bool cl.backed, .map (some x1.dm), .map (some x1.em), .slice none 0 0] 95, mapE x1.dm duesKV, mapE x1.em effAll, blk w1.heap.size [.int .i64 cl.number, .int .i64 cl.frm, .int .i64 cl.to, .int .i64 cl.holder, .int .i64 cl.asked, .bool cl.backed] 31, blk w0.heap.size [.int .i64 rl.answer, .int .i64 rl.cooling, .int .i64 rl.settle, .int .i64 rl.reverse] 29] w4 := hst
  refine wl_nil (hK6 _ _ ?_)
  refine wc_block ?_
  have hst : St No w0 (own (.slice none 0 0) 3 1 [] :: [blk bl4 [sv] 32, blk bp3 [.pointer (some ⟨x1.bm, 0, none⟩)] 85, blk x1.bm [.int .i64 rl.answer, .int .i64 rl.cooling, .int .i64 rl.settle, .int .i64 rl.reverse, .int .i64 cl.number, .int .i64 cl.frm, .int .i64 cl.to, .int .i64 cl.holder, .int .i64 cl.asked, .bool cl.backed, .map (some x1.dm), .map (some x1.em), .slice none 0 0] 95, mapE x1.dm duesKV, mapE x1.em effAll, blk w1.heap.size [.int .i64 cl.number, .int .i64 cl.frm, .int .i64 cl.to, .int .i64 cl.holder, .int .i64 cl.asked, .bool cl.backed] 31, blk w0.heap.size [.int .i64 rl.answer, .int .i64 rl.cooling, .int .i64 rl.settle, .int .i64 rl.reverse] 29]) w4 := hst.nil_own
  have hst : St No w0 [blk bp3 [.pointer (some ⟨x1.bm, 0, none⟩)] 85, blk bl4 [sv] 32, blk x1.bm [.int .i64 rl.answer, .int .i64 rl.cooling, .int .i64 rl.settle, .int .i64 rl.reverse, .int .i64 cl.number, .int .i64 cl.frm, .int .i64 cl.to, .int .i64 cl.holder, .int .i64 cl.asked, .bool cl.backed, .map (some x1.dm), .map (some x1.em), .slice none 0 0] 95, mapE x1.dm duesKV, mapE x1.em effAll, own (.slice none 0 0) 3 1 (([] : List Int).map fun i => [.int .i64 i]), blk w1.heap.size [.int .i64 cl.number, .int .i64 cl.frm, .int .i64 cl.to, .int .i64 cl.holder, .int .i64 cl.asked, .bool cl.backed] 31, blk w0.heap.size [.int .i64 rl.answer, .int .i64 rl.cooling, .int .i64 rl.settle, .int .i64 rl.reverse] 29] w4 := hst.select [2, 1, 3, 4, 5, 0, 6, 7] (by decide)
  have hst : St No w0 [blk bp3 [.pointer (some ⟨x1.bm, 0, none⟩)] 85, blk bl4 [sv] 32, blk x1.bm [.int .i64 rl.answer, .int .i64 rl.cooling, .int .i64 rl.settle, .int .i64 rl.reverse, .int .i64 cl.number, .int .i64 cl.frm, .int .i64 cl.to, .int .i64 cl.holder, .int .i64 cl.asked, .bool cl.backed, .map (some x1.dm), .map (some x1.em), .slice none 0 0] 95, mapE x1.dm duesKV, mapE x1.em effAll, own (.slice none 0 0) 3 1 (([] : List Int).map fun i => [.int .i64 i]), join [blk w1.heap.size [.int .i64 cl.number, .int .i64 cl.frm, .int .i64 cl.to, .int .i64 cl.holder, .int .i64 cl.asked, .bool cl.backed] 31, blk w0.heap.size [.int .i64 rl.answer, .int .i64 rl.cooling, .int .i64 rl.settle, .int .i64 rl.reverse] 29]] w4 := St.joinTail [blk bp3 [.pointer (some ⟨x1.bm, 0, none⟩)] 85, blk bl4 [sv] 32, blk x1.bm [.int .i64 rl.answer, .int .i64 rl.cooling, .int .i64 rl.settle, .int .i64 rl.reverse, .int .i64 cl.number, .int .i64 cl.frm, .int .i64 cl.to, .int .i64 cl.holder, .int .i64 cl.asked, .bool cl.backed, .map (some x1.dm), .map (some x1.em), .slice none 0 0] 95, mapE x1.dm duesKV, mapE x1.em effAll, own (.slice none 0 0) 3 1 (([] : List Int).map fun i => [.int .i64 i])] [blk w1.heap.size [.int .i64 cl.number, .int .i64 cl.frm, .int .i64 cl.to, .int .i64 cl.holder, .int .i64 cl.asked, .bool cl.backed] 31, blk w0.heap.size [.int .i64 rl.answer, .int .i64 rl.cooling, .int .i64 rl.settle, .int .i64 rl.reverse] 29] hst
  have hst : St No w0 [blk bp3 [.pointer (some ⟨x1.bm, 0, none⟩)] 85, blk bl4 [sv] 32, blk x1.bm [.int .i64 rl.answer, .int .i64 rl.cooling, .int .i64 rl.settle, .int .i64 rl.reverse, .int .i64 cl.number, .int .i64 cl.frm, .int .i64 cl.to, .int .i64 cl.holder, .int .i64 cl.asked, .bool cl.backed, .map (some x1.dm), .map (some x1.em), .slice none 0 0] 95, mapE x1.dm duesKV, mapE x1.em effAll, own (.slice none 0 0) 3 1 (([] : List Int).map fun i => [.int .i64 i]), join [blk w1.heap.size [.int .i64 cl.number, .int .i64 cl.frm, .int .i64 cl.to, .int .i64 cl.holder, .int .i64 cl.asked, .bool cl.backed] 31, blk w0.heap.size [.int .i64 rl.answer, .int .i64 rl.cooling, .int .i64 rl.settle, .int .i64 rl.reverse] 29]] w4 := hst.select [0, 1, 2, 3, 4, 5, 6] (by decide)
  have hfr : Fr 28 [(0, .agg #[.int .i64 rl.answer, .int .i64 rl.cooling, .int .i64 rl.settle, .int .i64 rl.reverse]), (1, .agg #[.int .i64 cl.number, .int .i64 cl.frm, .int .i64 cl.to, .int .i64 cl.holder, .int .i64 cl.asked, .bool cl.backed]), (2, sv), (3, .pointer (some ⟨w0.heap.size, 0, none⟩)), (4, .pointer (some ⟨w1.heap.size, 0, none⟩)), (6, .slice none 0 0), (7, .int .i64 0), (8, .pointer (some ⟨x1.bm, 0, none⟩)), (9, .int .i64 0), (17, .int .i64 0), (18, .bool false), (20, .pointer (some ⟨x1.bm, 0, none⟩)), (21, sv), (22, .func (.func 60) #[] #[.pointer (some ⟨bp3, 0, none⟩), .pointer (some ⟨bl4, 0, none⟩)])] [] a := hfr.pick [0, 1, 2, 3, 4, 6, 7, 8, 9, 17, 18, 20, 21, 22]
  refine wc_range (M := No) (w0 := w0) (encs := encS) (Hi := [blk bp3 [.pointer (some ⟨x1.bm, 0, none⟩)] 85, blk bl4 [sv] 32, blk x1.bm [.int .i64 rl.answer, .int .i64 rl.cooling, .int .i64 rl.settle, .int .i64 rl.reverse, .int .i64 cl.number, .int .i64 cl.frm, .int .i64 cl.to, .int .i64 cl.holder, .int .i64 cl.asked, .bool cl.backed, .map (some x1.dm), .map (some x1.em), .slice none 0 0] 95, mapE x1.dm duesKV, mapE x1.em effAll, own (.slice none 0 0) 3 1 (([] : List Int).map fun i => [.int .i64 i]), join [blk w1.heap.size [.int .i64 cl.number, .int .i64 cl.frm, .int .i64 cl.to, .int .i64 cl.holder, .int .i64 cl.asked, .bool cl.backed] 31, blk w0.heap.size [.int .i64 rl.answer, .int .i64 rl.cooling, .int .i64 rl.settle, .int .i64 rl.reverse] 29]]) (Hc := []) (fun pre H => (True) ∧ H = []) (fun _ _ _ => False) (fun pre xs H a => Fr 28 [(0, .agg #[.int .i64 rl.answer, .int .i64 rl.cooling, .int .i64 rl.settle, .int .i64 rl.reverse]), (1, .agg #[.int .i64 cl.number, .int .i64 cl.frm, .int .i64 cl.to, .int .i64 cl.holder, .int .i64 cl.asked, .bool cl.backed]), (2, sv), (3, .pointer (some ⟨w0.heap.size, 0, none⟩)), (4, .pointer (some ⟨w1.heap.size, 0, none⟩)), (6, .slice none 0 0), (7, .int .i64 0), (8, .pointer (some ⟨x1.bm, 0, none⟩)), (9, .int .i64 0), (17, .int .i64 0), (18, .bool false), (20, .pointer (some ⟨x1.bm, 0, none⟩)), (21, sv), (22, .func (.func 60) #[] #[.pointer (some ⟨bp3, 0, none⟩), .pointer (some ⟨bl4, 0, none⟩)])] [] a ∧ (True) ∧ H = []) rfl Try.call60 hfr hst (statuses_iter rl cl x1 sv l bp3 bl4 hv (fun H w h => h.arg hsv)) (by decide) (fun _ => rfl) ⟨trivial, rfl⟩ ?_ ?_ ?_ ?_
  · rintro lp pre xs _ a w5 hnx ⟨htr, rfl⟩ hfr hst
    generalize (join []).foot = M1 at hst ⊢
    have hfr : Fr 28 [(23, .agg #[.int .i64 xs.state, .int .i64 xs.since, .int .i64 xs.next]), (0, .agg #[.int .i64 rl.answer, .int .i64 rl.cooling, .int .i64 rl.settle, .int .i64 rl.reverse]), (1, .agg #[.int .i64 cl.number, .int .i64 cl.frm, .int .i64 cl.to, .int .i64 cl.holder, .int .i64 cl.asked, .bool cl.backed]), (2, sv), (3, .pointer (some ⟨w0.heap.size, 0, none⟩)), (4, .pointer (some ⟨w1.heap.size, 0, none⟩)), (6, .slice none 0 0), (7, .int .i64 0), (8, .pointer (some ⟨x1.bm, 0, none⟩)), (9, .int .i64 0), (17, .int .i64 0), (18, .bool false), (20, .pointer (some ⟨x1.bm, 0, none⟩)), (21, sv), (22, .func (.func 60) #[] #[.pointer (some ⟨bp3, 0, none⟩), .pointer (some ⟨bl4, 0, none⟩)])] [] a := hfr
    refine wc_skip ?_
    exact ⟨_, ⟨hfr.pick [0, 1, 2, 3, 4, 6, 7, 8, 9, 17, 18, 20, 21, 22], htr, rfl⟩, hst⟩
  · rintro lp pre xs _ a w6 hnx ⟨hfr, htr, rfl⟩ hrec hnl hst
    clear hrec hnl
    generalize (join []).foot = M1 at hst ⊢
    refine wc_block ?_
    refine wc_skip ?_
    exact ⟨_, ⟨trivial, rfl⟩, hst.select [] (by decide)⟩
  · rintro D pre _ _ a w7 ⟨rfl, vd, rfl⟩ ⟨htr, rfl⟩ hst hfr
    have hfr : Fr 28 [(0, .agg #[.int .i64 rl.answer, .int .i64 rl.cooling, .int .i64 rl.settle, .int .i64 rl.reverse]), (1, .agg #[.int .i64 cl.number, .int .i64 cl.frm, .int .i64 cl.to, .int .i64 cl.holder, .int .i64 cl.asked, .bool cl.backed]), (2, sv), (3, .pointer (some ⟨w0.heap.size, 0, none⟩)), (4, .pointer (some ⟨w1.heap.size, 0, none⟩)), (6, .slice none 0 0), (7, .int .i64 0), (8, .pointer (some ⟨x1.bm, 0, none⟩)), (9, .int .i64 0), (17, .int .i64 0), (18, .bool false), (20, .pointer (some ⟨x1.bm, 0, none⟩)), (21, sv), (22, .func (.func 60) #[] #[.pointer (some ⟨bp3, 0, none⟩), .pointer (some ⟨bl4, 0, none⟩)])] [{ target := .collected D, args := #[] }] a := hfr
    have hst : St No w0 [obj D (.deferred (some [])), blk bp3 [.pointer (some ⟨x1.bm, 0, none⟩)] 85, blk bl4 [sv] 32, blk x1.bm [.int .i64 rl.answer, .int .i64 rl.cooling, .int .i64 rl.settle, .int .i64 rl.reverse, .int .i64 cl.number, .int .i64 cl.frm, .int .i64 cl.to, .int .i64 cl.holder, .int .i64 cl.asked, .bool cl.backed, .map (some x1.dm), .map (some x1.em), vd] 95, mapE x1.dm duesKV, mapE x1.em effAll, own vd 3 1 ((voids rl cl l).map fun i => [.int .i64 i]), join [blk w1.heap.size [.int .i64 cl.number, .int .i64 cl.frm, .int .i64 cl.to, .int .i64 cl.holder, .int .i64 cl.asked, .bool cl.backed] 31, blk w0.heap.size [.int .i64 rl.answer, .int .i64 rl.cooling, .int .i64 rl.settle, .int .i64 rl.reverse] 29]] w7 := hst
    have hst : St No w0 [obj D (.deferred (some [])), blk bp3 [.pointer (some ⟨x1.bm, 0, none⟩)] 85, blk bl4 [sv] 32, blk x1.bm [.int .i64 rl.answer, .int .i64 rl.cooling, .int .i64 rl.settle, .int .i64 rl.reverse, .int .i64 cl.number, .int .i64 cl.frm, .int .i64 cl.to, .int .i64 cl.holder, .int .i64 cl.asked, .bool cl.backed, .map (some x1.dm), .map (some x1.em), vd] 95, mapE x1.dm duesKV, mapE x1.em effAll, own vd 3 1 ((voids rl cl l).map fun i => [.int .i64 i]), blk w1.heap.size [.int .i64 cl.number, .int .i64 cl.frm, .int .i64 cl.to, .int .i64 cl.holder, .int .i64 cl.asked, .bool cl.backed] 31, blk w0.heap.size [.int .i64 rl.answer, .int .i64 rl.cooling, .int .i64 rl.settle, .int .i64 rl.reverse] 29] w7 := St.unjoinTail [obj D (.deferred (some [])), blk bp3 [.pointer (some ⟨x1.bm, 0, none⟩)] 85, blk bl4 [sv] 32, blk x1.bm [.int .i64 rl.answer, .int .i64 rl.cooling, .int .i64 rl.settle, .int .i64 rl.reverse, .int .i64 cl.number, .int .i64 cl.frm, .int .i64 cl.to, .int .i64 cl.holder, .int .i64 cl.asked, .bool cl.backed, .map (some x1.dm), .map (some x1.em), vd] 95, mapE x1.dm duesKV, mapE x1.em effAll, own vd 3 1 ((voids rl cl l).map fun i => [.int .i64 i])] [blk w1.heap.size [.int .i64 cl.number, .int .i64 cl.frm, .int .i64 cl.to, .int .i64 cl.holder, .int .i64 cl.asked, .bool cl.backed] 31, blk w0.heap.size [.int .i64 rl.answer, .int .i64 rl.cooling, .int .i64 rl.settle, .int .i64 rl.reverse] 29] hst
    refine hK5 _ _ ?_
    refine wc_seq_region fun K7 hK7 => ?_
    refine wl_v hfr (by decide) (v_move rfl) fun a hfr => ?_
    refine wl_v hfr (by decide) (v_nilCheck rfl) fun a hfr => ?_
    refine wl_v hfr (by decide) (v_fieldAddr (v := .pointer (some ⟨x1.bm, 12, none⟩)) rfl (by kernel_rfl)) fun a hfr => ?_
    refine wl_v hfr (by decide) (v_load_blk1 (hst.get (k := 3) rfl) rfl (Try.isAgg49 _) rfl) fun a hfr => ?_
    refine wl_v hfr (by decide) (v_assign rfl) fun a hfr => ?_
    refine wl_v hfr (by decide) (v_assign rfl) fun a hfr => ?_
    refine wl_nil (hK7 _ _ ?_)
    refine wc_ret ?_
    have hD := hst.get (k := 0) rfl
    have hst := hst.unmark (i := 0) (o' := .deferred none) rfl
    have hst : St No w0 [blk bp3 [.pointer (some ⟨x1.bm, 0, none⟩)] 85, blk bl4 [sv] 32, blk x1.bm [.int .i64 rl.answer, .int .i64 rl.cooling, .int .i64 rl.settle, .int .i64 rl.reverse, .int .i64 cl.number, .int .i64 cl.frm, .int .i64 cl.to, .int .i64 cl.holder, .int .i64 cl.asked, .bool cl.backed, .map (some x1.dm), .map (some x1.em), vd] 95, mapE x1.dm duesKV, mapE x1.em effAll, own vd 3 1 ((voids rl cl l).map fun i => [.int .i64 i]), blk w1.heap.size [.int .i64 cl.number, .int .i64 cl.frm, .int .i64 cl.to, .int .i64 cl.holder, .int .i64 cl.asked, .bool cl.backed] 31, blk w0.heap.size [.int .i64 rl.answer, .int .i64 rl.cooling, .int .i64 rl.settle, .int .i64 rl.reverse] 29] _ := hst
    refine fin_ret1 hfr hD Try.results17 (resAre_tmp rfl (resAre_tmp rfl resAre_nil)) ?_
    exact ⟨vd, rfl, trivial, hst.ext, St.out (E := [own vd 3 1 ((voids rl cl l).map fun i => [.int .i64 i])]) (H := []) (hst.select [5] (by decide))⟩
  · rintro D c pre _ _ a w8 _ h
    exact h.elim

/-- slices.AppendSeq[[]dialtone/api.ClaimStatus,dialtone/api.ClaimStatus] -/
theorem appendSeq_ok {M : Nat → Prop} {w0 : World} {er : Ent} (rl : Rul) (cl : Clm) (x : Mach) (sv : Value) (l : List Evt) (bp bl : Nat) (ws : World)
    (hv : valid rl cl l = true) (hsv : ∀ H w, St M w0 H w → SlAt w sv 3 (l.map Evt.cells)) (hst : St M w0 [blk bp [.pointer (some ⟨x.bm, 0, none⟩)] 85, blk bl [sv] 32, blk x.bm [.int .i64 rl.answer, .int .i64 rl.cooling, .int .i64 rl.settle, .int .i64 rl.reverse, .int .i64 cl.number, .int .i64 cl.frm, .int .i64 cl.to, .int .i64 cl.holder, .int .i64 cl.asked, .bool cl.backed, .map (some x.dm), .map (some x.em), .slice none 0 0] 95, mapE x.dm duesKV, mapE x.em effAll, own (.slice none 0 0) 3 1 (([] : List Int).map fun i => [.int .i64 i]), er] ws) :
    Ret Try.prog 64 #[.slice none 0 0, .func (.func 60) #[] #[.pointer (some ⟨bp, 0, none⟩), .pointer (some ⟨bl, 0, none⟩)]] ws fun v w => ∃ vd, St M w0 (own v 39 3 ((statuses rl cl l).map Stt.cells) :: [blk bp [.pointer (some ⟨x.bm, 0, none⟩)] 85, blk bl [sv] 32, blk x.bm [.int .i64 rl.answer, .int .i64 rl.cooling, .int .i64 rl.settle, .int .i64 rl.reverse, .int .i64 cl.number, .int .i64 cl.frm, .int .i64 cl.to, .int .i64 cl.holder, .int .i64 cl.asked, .bool cl.backed, .map (some x.dm), .map (some x.em), vd] 95, mapE x.dm duesKV, mapE x.em effAll, own vd 3 1 ((voids rl cl l).map fun i => [.int .i64 i]), er]) w := by
  refine ret_of Try.func64 rfl Try.ntmps64 (Nat.le_of_ble_eq_true rfl) fun a hfr => ?_
  have hfr : Fr 13 [(0, _), (1, _)] [] a := hfr
  skip
  refine wc_seq_region fun K1 hK1 => ?_
  refine wl_box hfr hst (by decide) rfl (cs := [.slice none 0 0]) rfl fun a w1 hfr hst => ?_
  refine wl_v hfr (by decide) (v_assign rfl) fun a hfr => ?_
  refine wl_nil (hK1 _ _ ?_)
  refine wc_seq_k fun K2 hK2 => ?_
  refine wc_seq_region fun K3 hK3 => ?_
  refine wl_v hfr (by decide) (v_move rfl) fun a hfr => ?_
  refine wl_nil (hK3 _ _ ?_)
  refine wc_block ?_
  have hst : St M w0 (own (.slice none 0 0) 39 3 [] :: [blk ws.heap.size [.slice none 0 0] 47, blk bp [.pointer (some ⟨x.bm, 0, none⟩)] 85, blk bl [sv] 32, blk x.bm [.int .i64 rl.answer, .int .i64 rl.cooling, .int .i64 rl.settle, .int .i64 rl.reverse, .int .i64 cl.number, .int .i64 cl.frm, .int .i64 cl.to, .int .i64 cl.holder, .int .i64 cl.asked, .bool cl.backed, .map (some x.dm), .map (some x.em), .slice none 0 0] 95, mapE x.dm duesKV, mapE x.em effAll, own (.slice none 0 0) 3 1 (([] : List Int).map fun i => [.int .i64 i]), er]) w1 := hst.nil_own
  have hst : St M w0 [blk ws.heap.size [.slice none 0 0] 47, own (.slice none 0 0) 39 3 (([] : List Stt).map Stt.cells), blk bp [.pointer (some ⟨x.bm, 0, none⟩)] 85, blk bl [sv] 32, blk x.bm [.int .i64 rl.answer, .int .i64 rl.cooling, .int .i64 rl.settle, .int .i64 rl.reverse, .int .i64 cl.number, .int .i64 cl.frm, .int .i64 cl.to, .int .i64 cl.holder, .int .i64 cl.asked, .bool cl.backed, .map (some x.dm), .map (some x.em), .slice none 0 0] 95, mapE x.dm duesKV, mapE x.em effAll, own (.slice none 0 0) 3 1 (([] : List Int).map fun i => [.int .i64 i]), er] w1 := hst.select [1, 0, 2, 3, 4, 5, 6, 7, 8] (by decide)
  have hfr : Fr 13 [(0, .slice none 0 0), (1, .func (.func 60) #[] #[.pointer (some ⟨bp, 0, none⟩), .pointer (some ⟨bl, 0, none⟩)]), (2, .pointer (some ⟨ws.heap.size, 0, none⟩)), (4, .slice none 0 0), (6, .func (.func 60) #[] #[.pointer (some ⟨bp, 0, none⟩), .pointer (some ⟨bl, 0, none⟩)])] [] a := hfr.pick [0, 1, 2, 4, 6]
  refine wc_range (M := M) (w0 := w0) (encs := encS) (Hi := [blk bp [.pointer (some ⟨x.bm, 0, none⟩)] 85, blk bl [sv] 32, blk x.bm [.int .i64 rl.answer, .int .i64 rl.cooling, .int .i64 rl.settle, .int .i64 rl.reverse, .int .i64 cl.number, .int .i64 cl.frm, .int .i64 cl.to, .int .i64 cl.holder, .int .i64 cl.asked, .bool cl.backed, .map (some x.dm), .map (some x.em), .slice none 0 0] 95, mapE x.dm duesKV, mapE x.em effAll, own (.slice none 0 0) 3 1 (([] : List Int).map fun i => [.int .i64 i]), er]) (Hc := [blk ws.heap.size [.slice none 0 0] 47, own (.slice none 0 0) 39 3 (([] : List Stt).map Stt.cells)]) (fun pre H => ∃ (v : Value), H = [blk ws.heap.size [v] 47, own v 39 3 (pre.map Stt.cells)]) (fun _ _ _ => False) (fun pre xs H a => ∃ (bA0 : Nat), Fr 13 [(0, .slice none 0 0), (1, .func (.func 60) #[] #[.pointer (some ⟨bp, 0, none⟩), .pointer (some ⟨bl, 0, none⟩)]), (2, .pointer (some ⟨ws.heap.size, 0, none⟩)), (4, .slice none 0 0), (6, .func (.func 60) #[] #[.pointer (some ⟨bp, 0, none⟩), .pointer (some ⟨bl, 0, none⟩)]), (5, .pointer (some ⟨bA0, 0, none⟩))] [] a ∧ ∃ (v : Value), H = [blk bA0 [.int .i64 xs.state, .int .i64 xs.since, .int .i64 xs.next] 39, blk ws.heap.size [v] 47, own v 39 3 (pre.map Stt.cells)]) rfl Try.call60 hfr hst (statuses_iter rl cl x sv l bp bl hv hsv) (by decide) (fun _ => rfl) ⟨.slice none 0 0, rfl⟩ ?_ ?_ ?_ ?_
  · rintro lp pre xs _ a w2 hnx ⟨v, rfl⟩ hfr hst
    generalize (join [blk ws.heap.size [v] 47, own v 39 3 (pre.map Stt.cells)]).foot = M1 at hst ⊢
    have hfr : Fr 13 [(7, .agg #[.int .i64 xs.state, .int .i64 xs.since, .int .i64 xs.next]), (0, .slice none 0 0), (1, .func (.func 60) #[] #[.pointer (some ⟨bp, 0, none⟩), .pointer (some ⟨bl, 0, none⟩)]), (2, .pointer (some ⟨ws.heap.size, 0, none⟩)), (4, .slice none 0 0), (6, .func (.func 60) #[] #[.pointer (some ⟨bp, 0, none⟩), .pointer (some ⟨bl, 0, none⟩)])] [] a := hfr
    refine wc_region ?_
    refine wl_alloc hfr hst (by decide) (Try.zeroValue39 _) (cs := [.int .i64 0, .int .i64 0, .int .i64 0]) rfl fun a w3 hfr hst => ?_
    refine wl_store 0 hfr hst rfl rfl rfl (Try.sizeOf39 _) rfl (Nat.le_of_ble_eq_true rfl) (ds := [.int .i64 xs.state, .int .i64 xs.since, .int .i64 xs.next]) rfl rfl fun a w4 hfr hst => ?_
    refine wl_nil ?_
    exact ⟨_, ⟨w2.heap.size, hfr.pick [0, 1, 2, 4, 6, 5], v, rfl⟩, hst⟩
  · rintro lp pre xs _ a w5 hnx ⟨bA0, hfr, v, rfl⟩ hrec hnl hst
    clear hrec hnl
    generalize (join [blk bA0 [.int .i64 xs.state, .int .i64 xs.since, .int .i64 xs.next] 39, blk ws.heap.size [v] 47, own v 39 3 (pre.map Stt.cells)]).foot = M1 at hst ⊢
    refine wc_block ?_
    refine wc_region ?_
    refine wl_v hfr (by decide) (v_load_blk1 (hst.get (k := 1) rfl) rfl (Try.isAgg47 _) rfl) fun a hfr => ?_
    refine wl_v hfr (by decide) (v_load_all (hst.get (k := 0) rfl) rfl (Try.isAgg39 _) (Try.sizeOf39 _)) fun a hfr => ?_
    refine wl_buildSlice (E := 39) (sz := 3) rfl [[.int .i64 xs.state, .int .i64 xs.since, .int .i64 xs.next]] (by kernel_rfl) (by simp) rfl (by decide) (by decide) hfr hst fun a w6 hfr hst => ?_
    refine wl_append (i := 3) (sT := 47) (inf := Try.t39) (z := .agg #[.int .i64 0, .int .i64 0, .int .i64 0]) (b := 0) (off := 0) (m := 0) (c := 0) rfl rfl rfl (hst.ownAt (i := 0) rfl) (by simp) Try.underlying47 rfl rfl rfl rfl (by decide) (by simp [Value.oneCell']) (by have hby : Try.t39.bytes = 24 := rfl; have : pre.length < 200 := hnx; simp [big, hby]; omega) (by have hby : Try.t39.bytes = 24 := rfl; have : pre.length < 200 := hnx; simp [big, hby]; omega) (by decide) hfr hst fun a w7 s1 hfr hst _ => ?_
    refine wl_store_sl 2 hfr hst (hst.ownAt (i := 3) rfl) rfl rfl rfl (Try.sizeOf47 _) (Nat.le_of_ble_eq_true rfl) (ds := [s1]) rfl rfl fun a w8 hfr hst => ?_
    refine wl_nil ?_
    rw [show pre.map Stt.cells ++ [[.int .i64 xs.state, .int .i64 xs.since, .int .i64 xs.next]] = (pre ++ [xs]).map Stt.cells from by simp [Stt.cells]] at hst
    exact ⟨_, ⟨s1, rfl⟩, hst.select [2, 3] (by decide)⟩
  · rintro D pre _ _ a w9 ⟨rfl, vd, rfl⟩ ⟨v, rfl⟩ hst hfr
    have hfr : Fr 13 [(0, .slice none 0 0), (1, .func (.func 60) #[] #[.pointer (some ⟨bp, 0, none⟩), .pointer (some ⟨bl, 0, none⟩)]), (2, .pointer (some ⟨ws.heap.size, 0, none⟩)), (4, .slice none 0 0), (6, .func (.func 60) #[] #[.pointer (some ⟨bp, 0, none⟩), .pointer (some ⟨bl, 0, none⟩)])] [{ target := .collected D, args := #[] }] a := hfr
    have hst : St M w0 [obj D (.deferred (some [])), blk ws.heap.size [v] 47, own v 39 3 ((statuses rl cl l).map Stt.cells), blk bp [.pointer (some ⟨x.bm, 0, none⟩)] 85, blk bl [sv] 32, blk x.bm [.int .i64 rl.answer, .int .i64 rl.cooling, .int .i64 rl.settle, .int .i64 rl.reverse, .int .i64 cl.number, .int .i64 cl.frm, .int .i64 cl.to, .int .i64 cl.holder, .int .i64 cl.asked, .bool cl.backed, .map (some x.dm), .map (some x.em), vd] 95, mapE x.dm duesKV, mapE x.em effAll, own vd 3 1 ((voids rl cl l).map fun i => [.int .i64 i]), er] w9 := hst
    refine hK2 _ _ ?_
    refine wc_seq_region fun K4 hK4 => ?_
    refine wl_v hfr (by decide) (v_load_blk1 (hst.get (k := 1) rfl) rfl (Try.isAgg47 _) rfl) fun a hfr => ?_
    refine wl_v hfr (by decide) (v_assign rfl) fun a hfr => ?_
    refine wl_nil (hK4 _ _ ?_)
    refine wc_ret ?_
    have hD := hst.get (k := 0) rfl
    have hst := hst.unmark (i := 0) (o' := .deferred none) rfl
    have hst : St M w0 [blk ws.heap.size [v] 47, own v 39 3 ((statuses rl cl l).map Stt.cells), blk bp [.pointer (some ⟨x.bm, 0, none⟩)] 85, blk bl [sv] 32, blk x.bm [.int .i64 rl.answer, .int .i64 rl.cooling, .int .i64 rl.settle, .int .i64 rl.reverse, .int .i64 cl.number, .int .i64 cl.frm, .int .i64 cl.to, .int .i64 cl.holder, .int .i64 cl.asked, .bool cl.backed, .map (some x.dm), .map (some x.em), vd] 95, mapE x.dm duesKV, mapE x.em effAll, own vd 3 1 ((voids rl cl l).map fun i => [.int .i64 i]), er] _ := hst
    refine fin_ret1 hfr hD Try.results64 (resAre_tmp rfl resAre_nil) ?_
    exact ⟨vd, hst.select [1, 2, 3, 4, 5, 6, 7, 8] (by decide)⟩
  · rintro D c pre _ _ a w10 _ h
    exact h.elim

/-- slices.Collect[dialtone/api.ClaimStatus] -/
theorem collect_ok {M : Nat → Prop} {w0 : World} {er : Ent} (rl : Rul) (cl : Clm) (x : Mach) (sv : Value) (l : List Evt) (bp bl : Nat) (ws : World)
    (hv : valid rl cl l = true) (hsv : ∀ H w, St M w0 H w → SlAt w sv 3 (l.map Evt.cells)) (hst : St M w0 [blk bp [.pointer (some ⟨x.bm, 0, none⟩)] 85, blk bl [sv] 32, blk x.bm [.int .i64 rl.answer, .int .i64 rl.cooling, .int .i64 rl.settle, .int .i64 rl.reverse, .int .i64 cl.number, .int .i64 cl.frm, .int .i64 cl.to, .int .i64 cl.holder, .int .i64 cl.asked, .bool cl.backed, .map (some x.dm), .map (some x.em), .slice none 0 0] 95, mapE x.dm duesKV, mapE x.em effAll, own (.slice none 0 0) 3 1 (([] : List Int).map fun i => [.int .i64 i]), er] ws) :
    Ret Try.prog 42 #[.func (.func 60) #[] #[.pointer (some ⟨bp, 0, none⟩), .pointer (some ⟨bl, 0, none⟩)]] ws fun v w => ∃ vd, St M w0 (own v 39 3 ((statuses rl cl l).map Stt.cells) :: [blk bp [.pointer (some ⟨x.bm, 0, none⟩)] 85, blk bl [sv] 32, blk x.bm [.int .i64 rl.answer, .int .i64 rl.cooling, .int .i64 rl.settle, .int .i64 rl.reverse, .int .i64 cl.number, .int .i64 cl.frm, .int .i64 cl.to, .int .i64 cl.holder, .int .i64 cl.asked, .bool cl.backed, .map (some x.dm), .map (some x.em), vd] 95, mapE x.dm duesKV, mapE x.em effAll, own vd 3 1 ((voids rl cl l).map fun i => [.int .i64 i]), er]) w := by
  refine ret_of Try.func42 rfl Try.ntmps42 (Nat.le_of_ble_eq_true rfl) fun a hfr => ?_
  have hfr : Fr 5 [(0, _)] [] a := hfr
  skip
  refine wc_seq_region fun K1 hK1 => ?_
  refine wl_v hfr (by decide) (v_assign rfl) fun a hfr => ?_
  refine wl_nil (hK1 _ _ ?_)
  refine wc_seq_region fun K2 hK2 => ?_
  refine wl_v hfr (by decide) (v_move rfl) fun a hfr => ?_
  refine wl_r (r_call Try.call64 rfl (appendSeq_ok rl cl x sv l bp bl _ hv hsv hst)) rfl rfl hfr fun a v1 w1 hR hfr => ?_
  obtain ⟨vd, hst⟩ := hR
  refine wl_v hfr (by decide) (v_assign rfl) fun a hfr => ?_
  refine wl_nil (hK2 _ _ ?_)
  refine wc_ret ?_
  refine fin_ret hfr Try.results42 (resAre_tmp rfl resAre_nil) ?_
  exact ⟨vd, hst⟩

/-- dialtone/claim.Timeline -/
theorem timeline_ok (rl : Rul) (cl : Clm) (sv : Value) (l : List Evt) (w0 : World) (hsv : SlAt w0 sv 3 (l.map Evt.cells)) (hv : valid rl cl l = true) :
    Ret Try.prog 18 #[.agg #[.int .i64 rl.answer, .int .i64 rl.cooling, .int .i64 rl.settle, .int .i64 rl.reverse], .agg #[.int .i64 cl.number, .int .i64 cl.frm, .int .i64 cl.to, .int .i64 cl.holder, .int .i64 cl.asked, .bool cl.backed], sv] w0 (MemR w0 (fun v : Value => .tuple #[v, .int .i64 0]) (fun v => [own v 39 3 ((statuses rl cl l).map Stt.cells)]) (fun _ => True)) := by
  refine ret_of Try.func18 rfl Try.ntmps18 (Nat.le_of_ble_eq_true rfl) fun a hfr => ?_
  have hfr : Fr 24 [(0, _), (1, _), (2, _)] [] a := hfr
  have hst : St No w0 [] w0 := St.init w0
  refine wc_seq_region fun K1 hK1 => ?_
  refine wl_box hfr hst (by decide) rfl (cs := [.int .i64 rl.answer, .int .i64 rl.cooling, .int .i64 rl.settle, .int .i64 rl.reverse]) rfl fun a w1 hfr hst => ?_
  refine wl_box hfr hst (by decide) rfl (cs := [.int .i64 cl.number, .int .i64 cl.frm, .int .i64 cl.to, .int .i64 cl.holder, .int .i64 cl.asked, .bool cl.backed]) rfl fun a w2 hfr hst => ?_
  refine wl_v hfr (by decide) (v_assign rfl) fun a hfr => ?_
  refine wl_v hfr (by decide) (v_assign rfl) fun a hfr => ?_
  refine wl_nil (hK1 _ _ ?_)
  refine wc_seq_region fun K2 hK2 => ?_
  refine wl_v hfr (by decide) (v_load_all (hst.get (k := 1) rfl) rfl (Try.isAgg29 _) (Try.sizeOf29 _)) fun a hfr => ?_
  refine wl_v hfr (by decide) (v_load_all (hst.get (k := 0) rfl) rfl (Try.isAgg31 _) (Try.sizeOf31 _)) fun a hfr => ?_
  refine wl_v hfr (by decide) (v_move rfl) fun a hfr => ?_
  refine wl_callm hfr hst (by decide) Try.call39 rfl (open_ok rl cl sv l _ (hst.arg hsv) hv) fun a w3 x2 hp hfr hst => ?_
  revert x2 hp hfr hst; rintro x1 hp hfr hst
  clear hp
  have hst : St No w0 [blk x1.bm [.int .i64 rl.answer, .int .i64 rl.cooling, .int .i64 rl.settle, .int .i64 rl.reverse, .int .i64 cl.number, .int .i64 cl.frm, .int .i64 cl.to, .int .i64 cl.holder, .int .i64 cl.asked, .bool cl.backed, .map (some x1.dm), .map (some x1.em), .slice none 0 0] 95, mapE x1.dm duesKV, mapE x1.em effAll, blk w1.heap.size [.int .i64 cl.number, .int .i64 cl.frm, .int .i64 cl.to, .int .i64 cl.holder, .int .i64 cl.asked, .bool cl.backed] 31, blk w0.heap.size [.int .i64 rl.answer, .int .i64 rl.cooling, .int .i64 rl.settle, .int .i64 rl.reverse] 29] w3 := hst
  refine wl_v hfr (by decide) (v_move rfl) fun a hfr => ?_
  refine wl_v hfr (by decide) (v_extract rfl rfl) fun a hfr => ?_
  refine wl_v hfr (by decide) (v_extract rfl rfl) fun a hfr => ?_
  refine wl_v hfr (by decide) (v_assign rfl) fun a hfr => ?_
  refine wl_v hfr (by decide) (v_assign rfl) fun a hfr => ?_
  refine wl_nil (hK2 _ _ ?_)
  have hfr : Fr 24 [(0, _), (1, _), (2, _), (3, _), (4, _), (6, _), (7, _), (8, _), (9, _)] [] a := hfr.pick [0, 1, 2, 3, 4, 6, 7, 8, 9]
  refine wc_seq_k fun K3 hK3 => ?_
  refine wc_seq_region fun K4 hK4 => ?_
  refine wl_v hfr (by decide) (v_move rfl) fun a hfr => ?_
  refine wl_v hfr (by decide) ((v_ne rfl rfl).asb (b' := false) rfl) fun a hfr => ?_
  refine wl_nil (hK4 _ _ ?_)
  refine wc_cond_f hfr rfl ?_
  refine wc_skip ?_
  refine hK3 _ _ ?_
  refine wc_seq_region fun K5 hK5 => ?_
  refine wl_v hfr (by decide) (v_move rfl) fun a hfr => ?_
  refine wl_v hfr (by decide) (v_move rfl) fun a hfr => ?_
  refine wl_callm hfr hst (by decide) Try.call41 rfl (mstatuses_ok _ _ _ _ (hst.arg hsv)) fun a w4 x5 hp hfr hst => ?_
  obtain ⟨bp3, bl4⟩ := x5
  clear hp
  have hst : St No w0 [blk bl4 [sv] 32, blk bp3 [.pointer (some ⟨x1.bm, 0, none⟩)] 85, blk x1.bm [.int .i64 rl.answer, .int .i64 rl.cooling, .int .i64 rl.settle, .int .i64 rl.reverse, .int .i64 cl.number, .int .i64 cl.frm, .int .i64 cl.to, .int .i64 cl.holder, .int .i64 cl.asked, .bool cl.backed, .map (some x1.dm), .map (some x1.em), .slice none 0 0] 95, mapE x1.dm duesKV, mapE x1.em effAll, blk w1.heap.size [.int .i64 cl.number, .int .i64 cl.frm, .int .i64 cl.to, .int .i64 cl.holder, .int .i64 cl.asked, .bool cl.backed] 31, blk w0.heap.size [.int .i64 rl.answer, .int .i64 rl.cooling, .int .i64 rl.settle, .int .i64 rl.reverse] 29] w4 := hst
  have hst : St No w0 (own (.slice none 0 0) 3 1 [] :: [blk bl4 [sv] 32, blk bp3 [.pointer (some ⟨x1.bm, 0, none⟩)] 85, blk x1.bm [.int .i64 rl.answer, .int .i64 rl.cooling, .int .i64 rl.settle, .int .i64 rl.reverse, .int .i64 cl.number, .int .i64 cl.frm, .int .i64 cl.to, .int .i64 cl.holder, .int .i64 cl.asked, .bool cl.backed, .map (some x1.dm), .map (some x1.em), .slice none 0 0] 95, mapE x1.dm duesKV, mapE x1.em effAll, blk w1.heap.size [.int .i64 cl.number, .int .i64 cl.frm, .int .i64 cl.to, .int .i64 cl.holder, .int .i64 cl.asked, .bool cl.backed] 31, blk w0.heap.size [.int .i64 rl.answer, .int .i64 rl.cooling, .int .i64 rl.settle, .int .i64 rl.reverse] 29]) w4 := hst.nil_own
  have hst : St No w0 [blk bp3 [.pointer (some ⟨x1.bm, 0, none⟩)] 85, blk bl4 [sv] 32, blk x1.bm [.int .i64 rl.answer, .int .i64 rl.cooling, .int .i64 rl.settle, .int .i64 rl.reverse, .int .i64 cl.number, .int .i64 cl.frm, .int .i64 cl.to, .int .i64 cl.holder, .int .i64 cl.asked, .bool cl.backed, .map (some x1.dm), .map (some x1.em), .slice none 0 0] 95, mapE x1.dm duesKV, mapE x1.em effAll, own (.slice none 0 0) 3 1 (([] : List Int).map fun i => [.int .i64 i]), blk w1.heap.size [.int .i64 cl.number, .int .i64 cl.frm, .int .i64 cl.to, .int .i64 cl.holder, .int .i64 cl.asked, .bool cl.backed] 31, blk w0.heap.size [.int .i64 rl.answer, .int .i64 rl.cooling, .int .i64 rl.settle, .int .i64 rl.reverse] 29] w4 := hst.select [2, 1, 3, 4, 5, 0, 6, 7] (by decide)
  have hst : St No w0 [blk bp3 [.pointer (some ⟨x1.bm, 0, none⟩)] 85, blk bl4 [sv] 32, blk x1.bm [.int .i64 rl.answer, .int .i64 rl.cooling, .int .i64 rl.settle, .int .i64 rl.reverse, .int .i64 cl.number, .int .i64 cl.frm, .int .i64 cl.to, .int .i64 cl.holder, .int .i64 cl.asked, .bool cl.backed, .map (some x1.dm), .map (some x1.em), .slice none 0 0] 95, mapE x1.dm duesKV, mapE x1.em effAll, own (.slice none 0 0) 3 1 (([] : List Int).map fun i => [.int .i64 i]), join [blk w1.heap.size [.int .i64 cl.number, .int .i64 cl.frm, .int .i64 cl.to, .int .i64 cl.holder, .int .i64 cl.asked, .bool cl.backed] 31, blk w0.heap.size [.int .i64 rl.answer, .int .i64 rl.cooling, .int .i64 rl.settle, .int .i64 rl.reverse] 29]] w4 := St.joinTail [blk bp3 [.pointer (some ⟨x1.bm, 0, none⟩)] 85, blk bl4 [sv] 32, blk x1.bm [.int .i64 rl.answer, .int .i64 rl.cooling, .int .i64 rl.settle, .int .i64 rl.reverse, .int .i64 cl.number, .int .i64 cl.frm, .int .i64 cl.to, .int .i64 cl.holder, .int .i64 cl.asked, .bool cl.backed, .map (some x1.dm), .map (some x1.em), .slice none 0 0] 95, mapE x1.dm duesKV, mapE x1.em effAll, own (.slice none 0 0) 3 1 (([] : List Int).map fun i => [.int .i64 i])] [blk w1.heap.size [.int .i64 cl.number, .int .i64 cl.frm, .int .i64 cl.to, .int .i64 cl.holder, .int .i64 cl.asked, .bool cl.backed] 31, blk w0.heap.size [.int .i64 rl.answer, .int .i64 rl.cooling, .int .i64 rl.settle, .int .i64 rl.reverse] 29] hst
  refine wl_r (r_call Try.call42 rfl (collect_ok rl cl x1 sv l bp3 bl4 _ hv (fun H w h => h.arg hsv) hst)) rfl rfl hfr fun a v6 w5 hR hfr => ?_
  obtain ⟨vd, hst⟩ := hR
  refine wl_v hfr (by decide) (v_assign rfl) fun a hfr => ?_
  refine wl_v hfr (by decide) (v_assign rfl) fun a hfr => ?_
  refine wl_nil (hK5 _ _ ?_)
  refine wc_ret ?_
  refine fin_ret hfr Try.results18 (resAre_tmp rfl (resAre_tmp rfl resAre_nil)) ?_
  exact ⟨v6, rfl, trivial, hst.ext, St.out (E := [own v6 39 3 ((statuses rl cl l).map Stt.cells)]) (H := []) (hst.select [0] (by decide))⟩
end Go.Proofs.Ytdamipejlfipcaa
