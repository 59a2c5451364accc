import Derived.Test.YtdamipejlfipcaaClaimS
import Derived.Test.YtdamipejlfipcaaClaimO
namespace Go.Proofs.Ytdamipejlfipcaa
open Go.RowKit Go.PW
set_option linter.unusedVariables false
set_option linter.unusedSimpArgs false
set_option maxRecDepth 4000

theorem run_ok2 (rl : Rul) (cl : Clm) (sv : Value) (l : List Evt) (t : Int) (w0 : World) (hsv : SlAt w0 sv 3 (l.map Evt.cells)) (hv : valid rl cl l = true) (h0 : 0 ≤ t) (h1 : t ≤ 40000000) {d0 : List Stt} {ls : Stt} (hls : runS rl cl l t = d0 ++ [ls]) :
    Ret Try.prog 57 #[.agg #[.int .i64 rl.answer, .int .i64 rl.cooling, .int .i64 rl.settle, .int .i64 rl.reverse], .agg #[.int .i64 cl.number, .int .i64 cl.frm, .int .i64 cl.to, .int .i64 cl.holder, .int .i64 cl.asked, .bool cl.backed], sv, .int .i64 t] w0 (MemR w0 (fun x : Value × Value => .tuple #[x.1, x.2]) (fun x => [own x.1 39 3 ((d0 ++ [ls]).map Stt.cells), own x.2 3 1 ((runV rl cl l t).map fun i => [.int .i64 i])]) (fun _ => True)) := by
  rw [← hls]; exact run_ok rl cl sv l t w0 hsv hv h0 h1

/-- dialtone/dialtoneref16.Outcome -/
theorem routcome_ok (rl : Rul) (cl : Clm) (sv : Value) (l : List Evt) (t : Int) (w0 : World) (hsv : SlAt w0 sv 3 (l.map Evt.cells)) (hv : valid rl cl l = true) (hin : isIn t 0 20000000 = true) :
    Ret Try.prog 36 #[.agg #[.int .i64 rl.answer, .int .i64 rl.cooling, .int .i64 rl.settle, .int .i64 rl.reverse], .agg #[.int .i64 cl.number, .int .i64 cl.frm, .int .i64 cl.to, .int .i64 cl.holder, .int .i64 cl.asked, .bool cl.backed], sv, .int .i64 t] w0 fun v w => v = .tuple #[(outR rl cl l t).val, .int .i64 0] ∧ Ext No w0 w := by
  have h0 : 0 ≤ t ∧ t ≤ 20000000 := by simpa [isIn] using hin
  obtain ⟨h0, h1⟩ := h0
  obtain ⟨d0, ls, hls⟩ : ∃ d0 ls, runS rl cl l t = d0 ++ [ls] := by
    rcases List.eq_nil_or_concat (runS rl cl l t) with h | ⟨q, s, h⟩
    · simp [runS] at h
    · exact ⟨q, s, by simpa using h⟩
  refine ret_of Try.func36 rfl Try.ntmps36 (Nat.le_of_ble_eq_true rfl) fun a hfr => ?_
  have hfr : Fr 44 [(0, _), (1, _), (2, _), (3, _)] [] a := hfr
  have hst : St No w0 [] w0 := St.init w0
  refine wc_seq_region fun K1 hK1 => ?_
  refine wl_box hfr hst (by decide) rfl (cs := [.int .i64 rl.answer, .int .i64 rl.cooling, .int .i64 rl.settle, .int .i64 rl.reverse]) rfl fun a w1 hfr hst => ?_
  refine wl_box hfr hst (by decide) rfl (cs := [.int .i64 cl.number, .int .i64 cl.frm, .int .i64 cl.to, .int .i64 cl.holder, .int .i64 cl.asked, .bool cl.backed]) rfl fun a w2 hfr hst => ?_
  refine wl_alloc hfr hst (by decide) (Try.zeroValue39 _) (cs := [.int .i64 0, .int .i64 0, .int .i64 0]) rfl fun a w3 hfr hst => ?_
  refine wl_v hfr (by decide) (v_assign rfl) fun a hfr => ?_
  refine wl_nil (hK1 _ _ ?_)
  refine wc_seq_k fun K2 hK2 => ?_
  refine wc_seq_region fun K3 hK3 => ?_
  refine wl_v hfr (by decide) (v_load_all (hst.get (k := 2) rfl) rfl (Try.isAgg29 _) (Try.sizeOf29 _)) fun a hfr => ?_
  refine wl_v hfr (by decide) (v_load_all (hst.get (k := 1) rfl) rfl (Try.isAgg31 _) (Try.sizeOf31 _)) fun a hfr => ?_
  refine wl_v hfr (by decide) (v_move rfl) fun a hfr => ?_
  refine wl_callp hfr hst (by decide) Try.call55 rfl ((hv ▸ rvalid_ok rl cl sv l _ (hst.arg hsv) : Ret Try.prog 55 _ _ fun v w => v = .bool true ∧ _)) fun a w4 hfr hst => ?_
  refine wl_v hfr (by decide) ((v_not rfl).asb (b' := false) rfl) fun a hfr => ?_
  refine wl_v hfr (by decide) (v_move rfl) fun a hfr => ?_
  refine wl_vy hfr (by decide) rfl (by decide) rfl (v_move rfl) fun a hfr => ?_
  refine wl_callpy hfr hst (by decide) rfl (by decide) rfl Try.call56 rfl ((hin ▸ rin_ok _ _ _ _)) fun a w5 hfr hst => ?_
  refine wl_vy hfr (by decide) rfl (by decide) rfl ((v_not rfl).asb (b' := false) rfl) fun a hfr => ?_
  refine wl_v hfr (by decide) (v_pick_f rfl rfl) fun a hfr => ?_
  refine wl_nil (hK3 _ _ ?_)
  have hfr : Fr 44 [(0, _), (1, _), (2, _), (3, _), (4, _), (5, _), (8, _), (9, _), (21, _)] [] a := hfr.pick [0, 1, 2, 3, 4, 5, 8, 9, 21]
  refine wc_cond_f hfr rfl ?_
  refine wc_skip ?_
  refine hK2 _ _ ?_
  refine wc_seq_k fun K4 hK4 => ?_
  refine wc_seq_region fun K5 hK5 => ?_
  refine wl_v hfr (by decide) (v_move rfl) fun a hfr => ?_
  refine wl_v hfr (by decide) (v_fieldAddr (v := .pointer (some ⟨w1.heap.size, 4, none⟩)) rfl (by kernel_rfl)) fun a hfr => ?_
  refine wl_v hfr (by decide) (v_load_blk1 (hst.get (k := 1) rfl) rfl (Try.isAgg3 _) rfl) fun a hfr => ?_
  refine wl_v hfr (by decide) (v_lt rfl rfl) fun a hfr => ?_
  refine wl_nil (hK5 _ _ ?_)
  refine wc_cond hfr rfl (fun hc1 => ?_) (fun hc1 => ?_)
  · rw [hc1] at hfr
    try simp only [Bool.not_eq_true', Bool.not_eq_false', decide_eq_true_eq, decide_eq_false_iff_not] at hc1
    refine wc_seq_region fun K6 hK6 => ?_
    refine wl_v hfr (by decide) (v_fieldAddr (v := .pointer (some ⟨w1.heap.size, 4, none⟩)) rfl (by kernel_rfl)) fun a hfr => ?_
    refine wl_v hfr (by decide) (v_load_blk1 (hst.get (k := 1) rfl) rfl (Try.isAgg3 _) rfl) fun a hfr => ?_
    refine wl_v hfr (by decide) (v_build (v := .agg #[.int .i64 0, .int .i64 0, .int .i64 cl.asked]) rfl (by kernel_rfl)) fun a hfr => ?_
    refine wl_store 0 hfr hst rfl rfl rfl (Try.sizeOf39 _) rfl (Nat.le_of_ble_eq_true rfl) (ds := [.int .i64 0, .int .i64 0, .int .i64 cl.asked]) rfl rfl fun a w6 hfr hst => ?_
    refine wl_v hfr (by decide) (v_assign rfl) fun a hfr => ?_
    refine wl_nil (hK6 _ _ ?_)
    refine wc_ret ?_
    refine fin_ret hfr Try.results36 (resAre_cell rfl (res_all (hst.get (k := 0) rfl) (Try.isAgg39 _) (Try.sizeOf39 _)) (resAre_tmp rfl resAre_nil)) ?_
    exact ⟨by simp only [retv, outR]; rw [if_pos (by assumption)]; rfl, hst.ext⟩
  rw [hc1] at hfr
  try simp only [Bool.not_eq_true', Bool.not_eq_false', decide_eq_true_eq, decide_eq_false_iff_not] at hc1
  refine wc_skip ?_
  refine hK4 _ _ ?_
  refine wc_seq_region fun K7 hK7 => ?_
  refine wl_v hfr (by decide) (v_load_all (hst.get (k := 2) rfl) rfl (Try.isAgg29 _) (Try.sizeOf29 _)) fun a hfr => ?_
  refine wl_v hfr (by decide) (v_load_all (hst.get (k := 1) rfl) rfl (Try.isAgg31 _) (Try.sizeOf31 _)) fun a hfr => ?_
  refine wl_v hfr (by decide) (v_move rfl) fun a hfr => ?_
  refine wl_v hfr (by decide) (v_move rfl) fun a hfr => ?_
  refine wl_callm hfr hst (by decide) Try.call57 rfl (run_ok2 rl cl sv l t _ (hst.arg hsv) hv h0 (by omega) hls) fun a w7 x3 hp hfr hst => ?_
  revert x3 hp hfr hst; rintro x2 hp hfr hst
  clear hp
  have hst : St No w0 [own x2.1 39 3 ((d0 ++ [ls]).map Stt.cells), own x2.2 3 1 ((runV rl cl l t).map fun i => [.int .i64 i]), blk w2.heap.size [.int .i64 0, .int .i64 0, .int .i64 0] 39, blk w1.heap.size [.int .i64 cl.number, .int .i64 cl.frm, .int .i64 cl.to, .int .i64 cl.holder, .int .i64 cl.asked, .bool cl.backed] 31, blk w0.heap.size [.int .i64 rl.answer, .int .i64 rl.cooling, .int .i64 rl.settle, .int .i64 rl.reverse] 29] w7 := hst
  have hbig := (hst.ownAt (i := 0) rfl).2.1
  simp only [List.length_map, List.length_append, List.length_singleton, big] at hbig
  refine wl_v hfr (by decide) (v_move rfl) fun a hfr => ?_
  refine wl_v hfr (by decide) (v_extract rfl rfl) fun a hfr => ?_
  refine wl_v hfr (by decide) (v_extract rfl rfl) fun a hfr => ?_
  refine wl_v hfr (by decide) (v_assign rfl) fun a hfr => ?_
  refine wl_v hfr (by decide) (v_assign rfl) fun a hfr => ?_
  refine wl_nil (hK7 _ _ ?_)
  have hfr : Fr 44 [(0, _), (1, _), (2, _), (3, _), (4, _), (5, _), (8, _), (9, _), (21, _), (23, _), (24, _), (25, _), (26, _), (10, _)] [] a := hfr.pick [0, 1, 2, 3, 4, 5, 8, 9, 21, 23, 24, 25, 26, 10]
  have hst : St No w0 [_, _, _, _] w7 := hst.mask [true, false, true, true, true]
  refine wc_seq_region fun K8 hK8 => ?_
  refine wl_v hfr (by decide) (v_move rfl) fun a hfr => ?_
  refine wl_v hfr (by decide) (v_move rfl) fun a hfr => ?_
  refine wl_v hfr (by decide) ((v_len_sl (sT := 47) (hst.ownAt (i := 0) rfl) rfl rfl (Try.runUnderlying47 _)).asi (m' := (d0.length : Int) + 1) (by simp)) fun a hfr => ?_
  refine wl_v hfr (by decide) (v_sub rfl rfl ⟨by omega, by omega⟩) fun a hfr => ?_
  refine wl_v hfr (by decide) ((v_indexAddr_sl (i := ((d0.length : Int) + 1) - 1) (sT := 47) (hst.ownAt (i := 0) rfl) rfl rfl (Try.runUnderlying47 _) (Try.sizeOf39 _) (by omega) (by simp)).as (v' := slAddr x2.1 (d0.length * 3)) (by rw [show (((d0.length : Int) + 1) - 1).toNat = d0.length from by omega])) fun a hfr => ?_
  refine wl_v hfr (by decide) ((v_load_sl (hst.ownAt (i := 0) rfl) (i := d0.length) (by simp) rfl (Try.isAgg39 _) (Try.sizeOf39 _)).as (v' := .agg #[.int .i64 ls.state, .int .i64 ls.since, .int .i64 ls.next]) (by simp [Stt.cells])) fun a hfr => ?_
  refine wl_store 1 hfr hst rfl rfl rfl (Try.sizeOf39 _) rfl (Nat.le_of_ble_eq_true rfl) (ds := [.int .i64 ls.state, .int .i64 ls.since, .int .i64 ls.next]) rfl rfl fun a w8 hfr hst => ?_
  refine wl_v hfr (by decide) (v_assign rfl) fun a hfr => ?_
  refine wl_nil (hK8 _ _ ?_)
  have hfr : Fr 44 [(0, _), (1, _), (2, _), (3, _), (4, _), (5, _), (8, _), (21, _), (23, _), (24, _), (25, _), (26, _), (10, _), (9, _)] [] a := hfr.pick [0, 1, 2, 3, 4, 5, 8, 21, 23, 24, 25, 26, 10, 9]
  refine wc_ret ?_
  refine fin_ret hfr Try.results36 (resAre_cell rfl (res_all (hst.get (k := 1) rfl) (Try.isAgg39 _) (Try.sizeOf39 _)) (resAre_tmp rfl resAre_nil)) ?_
  exact ⟨by simp only [retv, outR]; rw [if_neg (by omega), hls, lastOf_snoc]; rfl, hst.ext⟩

set_option maxHeartbeats 4000000 in
/-- dialtone/dialtoneref16.MadeRules -/
theorem madeRules_ok (x0 x1 x2 x3 : Int) (w0 : World) (h0 : isI64 x0) (h1 : isI64 x1) (h2 : isI64 x2) (h3 : isI64 x3) :
    Ret Try.prog 34 #[.agg #[.int .i64 x0, .int .i64 x1, .int .i64 x2, .int .i64 x3]] w0 fun v w => v = (mkRul x0 x1 x2 x3).val ∧ Ext No w0 w := by
  have q0 := tdiv_fits x0 16 (by omega) h0
  have p0 := pick_lt x0 12 (by omega)
  have r0 := pick_lt x0 86400 (by omega)
  have q1 := tdiv_fits x1 16 (by omega) h1
  have p1 := pick_lt x1 12 (by omega)
  have r1 := pick_lt x1 86400 (by omega)
  have q2 := tdiv_fits x2 16 (by omega) h2
  have p2 := pick_lt x2 12 (by omega)
  have r2 := pick_lt x2 86400 (by omega)
  have q3 := tdiv_fits x3 16 (by omega) h3
  have p3 := pick_lt x3 12 (by omega)
  have r3 := pick_lt x3 86400 (by omega)
  unfold isI64 at h0 h1 h2 h3 q0 q1 q2 q3
  refine ret_of Try.func34 rfl Try.ntmps34 (Nat.le_of_ble_eq_true rfl) fun a hfr => ?_
  have hfr : Fr 38 [(0, _)] [] a := hfr
  have hst : St No w0 [] w0 := St.init w0
  refine wc_seq_region fun K1 hK1 => ?_
  refine wl_box hfr hst (by decide) rfl (cs := [.int .i64 x0, .int .i64 x1, .int .i64 x2, .int .i64 x3]) rfl fun a w1 hfr hst => ?_
  refine wl_alloc hfr hst (by decide) (Try.zeroValue29 _) (cs := [.int .i64 0, .int .i64 0, .int .i64 0, .int .i64 0]) rfl fun a w2 hfr hst => ?_
  refine wl_nil (hK1 _ _ ?_)
  refine wc_seq_region fun K2 hK2 => ?_
  refine wl_alloc hfr hst (by decide) (Try.zeroValue22 _) (cs := [.int .i64 0, .int .i64 0, .int .i64 0, .int .i64 0]) rfl fun a w3 hfr hst => ?_
  refine wl_nil (hK2 _ _ ?_)
  refine wc_seq_k fun K3 hK3 => ?_
  refine wc_seq_region fun K4 hK4 => ?_
  refine wl_v hfr (by decide) (v_assign rfl) fun a hfr => ?_
  refine wl_nil (hK4 _ _ ?_)
  refine wc_block ?_
  refine wc_rounds 5 ?_
  refine wr_succ ?_
  refine wc_seq_k fun K5 hK5 => ?_
  refine wc_seq_region fun K6 hK6 => ?_
  refine wl_v hfr (by decide) (v_move rfl) fun a hfr => ?_
  refine wl_v hfr (by decide) ((v_lt rfl rfl).asb (b' := true) rfl) fun a hfr => ?_
  refine wl_nil (hK6 _ _ ?_)
  refine wc_cond_t hfr rfl ?_
  refine wc_skip ?_
  refine hK5 _ _ ?_
  refine wc_seq_k fun K7 hK7 => ?_
  refine wc_block ?_
  refine wc_seq_region fun K8 hK8 => ?_
  refine wl_v hfr (by decide) (v_move rfl) fun a hfr => ?_
  refine wl_v hfr (by decide) (v_move rfl) fun a hfr => ?_
  refine wl_v hfr (by decide) (v_indexAddr (v := .pointer (some ⟨w0.heap.size, 0, none⟩)) rfl rfl (by kernel_rfl)) fun a hfr => ?_
  refine wl_v hfr (by decide) (v_load_blk1 (hst.get (k := 2) rfl) rfl (Try.isAgg3 _) rfl) fun a hfr => ?_
  refine wl_callp hfr hst (by decide) Try.call35 rfl (pickr16_ok _ _ _ (by omega) (by omega) (by omega) (by omega)) fun a w4 hfr hst => ?_
  refine wl_v hfr (by decide) (v_add rfl rfl ⟨by omega, by omega⟩) fun a hfr => ?_
  refine wl_v hfr (by decide) (v_indexAddr (v := .pointer (some ⟨w2.heap.size, 0, none⟩)) rfl rfl (by kernel_rfl)) fun a hfr => ?_
  refine wl_store 0 hfr hst rfl rfl rfl (Try.sizeOf3 _) rfl (Nat.le_of_ble_eq_true rfl) (ds := [.int .i64 (1 + (pick x0 12)), .int .i64 0, .int .i64 0, .int .i64 0]) rfl rfl fun a w5 hfr hst => ?_
  refine wl_nil (hK8 _ _ ?_)
  have hfr : Fr 38 [(0, _), (1, _), (2, _), (3, _), (4, _), (5, _), (6, _)] [] a := hfr.pick [0, 1, 2, 3, 4, 5, 6]
  refine wc_seq_region fun K9 hK9 => ?_
  refine wl_v hfr (by decide) (v_move rfl) fun a hfr => ?_
  refine wl_v hfr (by decide) (v_indexAddr (v := .pointer (some ⟨w0.heap.size, 0, none⟩)) rfl rfl (by kernel_rfl)) fun a hfr => ?_
  refine wl_v hfr (by decide) (v_load_blk1 (hst.get (k := 2) rfl) rfl (Try.isAgg3 _) rfl) fun a hfr => ?_
  refine wl_v hfr (by decide) (v_quo' rfl rfl (by omega) ⟨by omega, by omega⟩) fun a hfr => ?_
  refine wl_callp hfr hst (by decide) Try.call35 rfl (pickr16_ok _ _ _ (by omega) (by omega) (by omega) (by omega)) fun a w6 hfr hst => ?_
  refine wl_v hfr (by decide) (v_eq rfl rfl) fun a hfr => ?_
  refine wl_nil (hK9 _ _ ?_)
  refine wc_cond hfr rfl (fun hc1 => ?_) (fun hc1 => ?_)
  · rw [hc1] at hfr
    try simp only [Bool.not_eq_true', Bool.not_eq_false', decide_eq_true_eq, decide_eq_false_iff_not] at hc1
    refine wc_region ?_
    refine wl_v hfr (by decide) (v_move rfl) fun a hfr => ?_
    refine wl_v hfr (by decide) (v_move rfl) fun a hfr => ?_
    refine wl_v hfr (by decide) (v_indexAddr (v := .pointer (some ⟨w0.heap.size, 0, none⟩)) rfl rfl (by kernel_rfl)) fun a hfr => ?_
    refine wl_v hfr (by decide) (v_load_blk1 (hst.get (k := 2) rfl) rfl (Try.isAgg3 _) rfl) fun a hfr => ?_
    refine wl_callp hfr hst (by decide) Try.call35 rfl (pickr16_ok _ _ _ (by omega) (by omega) (by omega) (by omega)) fun a w7 hfr hst => ?_
    refine wl_v hfr (by decide) (v_add rfl rfl ⟨by omega, by omega⟩) fun a hfr => ?_
    refine wl_v hfr (by decide) (v_indexAddr (v := .pointer (some ⟨w2.heap.size, 0, none⟩)) rfl rfl (by kernel_rfl)) fun a hfr => ?_
    refine wl_store 0 hfr hst rfl rfl rfl (Try.sizeOf3 _) rfl (Nat.le_of_ble_eq_true rfl) (ds := [.int .i64 (1 + (pick x0 86400)), .int .i64 0, .int .i64 0, .int .i64 0]) rfl rfl fun a w8 hfr hst => ?_
    refine wl_nil ?_
    refine hK7 _ _ ?_
    have hfr : Fr 38 [(0, _), (1, _), (2, _), (3, _), (4, _), (5, _), (6, _), (16, _), (17, _), (18, _), (19, _), (20, _), (21, _)] [] a := hfr.pick [0, 1, 2, 3, 4, 5, 6, 16, 17, 18, 19, 20, 21]
    refine wc_region ?_
    refine wl_v hfr (by decide) (v_move rfl) fun a hfr => ?_
    refine wl_v hfr (by decide) ((v_add rfl rfl (by decide)).asi (m' := 1) rfl) fun a hfr => ?_
    refine wl_v hfr (by decide) (v_assign rfl) fun a hfr => ?_
    refine wl_nil ?_
    refine wr_succ ?_
    refine wc_seq_k fun K10 hK10 => ?_
    refine wc_seq_region fun K11 hK11 => ?_
    refine wl_v hfr (by decide) (v_move rfl) fun a hfr => ?_
    refine wl_v hfr (by decide) ((v_lt rfl rfl).asb (b' := true) rfl) fun a hfr => ?_
    refine wl_nil (hK11 _ _ ?_)
    refine wc_cond_t hfr rfl ?_
    refine wc_skip ?_
    refine hK10 _ _ ?_
    refine wc_seq_k fun K12 hK12 => ?_
    refine wc_block ?_
    refine wc_seq_region fun K13 hK13 => ?_
    refine wl_v hfr (by decide) (v_move rfl) fun a hfr => ?_
    refine wl_v hfr (by decide) (v_move rfl) fun a hfr => ?_
    refine wl_v hfr (by decide) (v_indexAddr (v := .pointer (some ⟨w0.heap.size, 1, none⟩)) rfl rfl (by kernel_rfl)) fun a hfr => ?_
    refine wl_v hfr (by decide) (v_load_blk1 (hst.get (k := 2) rfl) rfl (Try.isAgg3 _) rfl) fun a hfr => ?_
    refine wl_callp hfr hst (by decide) Try.call35 rfl (pickr16_ok _ _ _ (by omega) (by omega) (by omega) (by omega)) fun a w9 hfr hst => ?_
    refine wl_v hfr (by decide) (v_add rfl rfl ⟨by omega, by omega⟩) fun a hfr => ?_
    refine wl_v hfr (by decide) (v_indexAddr (v := .pointer (some ⟨w2.heap.size, 1, none⟩)) rfl rfl (by kernel_rfl)) fun a hfr => ?_
    refine wl_store 0 hfr hst rfl rfl rfl (Try.sizeOf3 _) rfl (Nat.le_of_ble_eq_true rfl) (ds := [.int .i64 (1 + (pick x0 86400)), .int .i64 (1 + (pick x1 12)), .int .i64 0, .int .i64 0]) rfl rfl fun a w10 hfr hst => ?_
    refine wl_nil (hK13 _ _ ?_)
    have hfr : Fr 38 [(0, _), (1, _), (2, _), (3, _), (16, _), (17, _), (18, _), (19, _), (20, _), (21, _), (7, _), (8, _), (4, _), (5, _), (6, _)] [] a := hfr.pick [0, 1, 2, 3, 16, 17, 18, 19, 20, 21, 7, 8, 4, 5, 6]
    refine wc_seq_region fun K14 hK14 => ?_
    refine wl_v hfr (by decide) (v_move rfl) fun a hfr => ?_
    refine wl_v hfr (by decide) (v_indexAddr (v := .pointer (some ⟨w0.heap.size, 1, none⟩)) rfl rfl (by kernel_rfl)) fun a hfr => ?_
    refine wl_v hfr (by decide) (v_load_blk1 (hst.get (k := 2) rfl) rfl (Try.isAgg3 _) rfl) fun a hfr => ?_
    refine wl_v hfr (by decide) (v_quo' rfl rfl (by omega) ⟨by omega, by omega⟩) fun a hfr => ?_
    refine wl_callp hfr hst (by decide) Try.call35 rfl (pickr16_ok _ _ _ (by omega) (by omega) (by omega) (by omega)) fun a w11 hfr hst => ?_
    refine wl_v hfr (by decide) (v_eq rfl rfl) fun a hfr => ?_
    refine wl_nil (hK14 _ _ ?_)
    refine wc_cond hfr rfl (fun hc2 => ?_) (fun hc2 => ?_)
    · rw [hc2] at hfr
      try simp only [Bool.not_eq_true', Bool.not_eq_false', decide_eq_true_eq, decide_eq_false_iff_not] at hc2
      refine wc_region ?_
      refine wl_v hfr (by decide) (v_move rfl) fun a hfr => ?_
      refine wl_v hfr (by decide) (v_move rfl) fun a hfr => ?_
      refine wl_v hfr (by decide) (v_indexAddr (v := .pointer (some ⟨w0.heap.size, 1, none⟩)) rfl rfl (by kernel_rfl)) fun a hfr => ?_
      refine wl_v hfr (by decide) (v_load_blk1 (hst.get (k := 2) rfl) rfl (Try.isAgg3 _) rfl) fun a hfr => ?_
      refine wl_callp hfr hst (by decide) Try.call35 rfl (pickr16_ok _ _ _ (by omega) (by omega) (by omega) (by omega)) fun a w12 hfr hst => ?_
      refine wl_v hfr (by decide) (v_add rfl rfl ⟨by omega, by omega⟩) fun a hfr => ?_
      refine wl_v hfr (by decide) (v_indexAddr (v := .pointer (some ⟨w2.heap.size, 1, none⟩)) rfl rfl (by kernel_rfl)) fun a hfr => ?_
      refine wl_store 0 hfr hst rfl rfl rfl (Try.sizeOf3 _) rfl (Nat.le_of_ble_eq_true rfl) (ds := [.int .i64 (1 + (pick x0 86400)), .int .i64 (1 + (pick x1 86400)), .int .i64 0, .int .i64 0]) rfl rfl fun a w13 hfr hst => ?_
      refine wl_nil ?_
      refine hK12 _ _ ?_
      have hfr : Fr 38 [(0, _), (1, _), (2, _), (3, _), (7, _), (8, _), (4, _), (5, _), (6, _), (16, _), (17, _), (18, _), (19, _), (20, _), (21, _)] [] a := hfr.pick [0, 1, 2, 3, 7, 8, 4, 5, 6, 16, 17, 18, 19, 20, 21]
      refine wc_region ?_
      refine wl_v hfr (by decide) (v_move rfl) fun a hfr => ?_
      refine wl_v hfr (by decide) ((v_add rfl rfl (by decide)).asi (m' := 2) rfl) fun a hfr => ?_
      refine wl_v hfr (by decide) (v_assign rfl) fun a hfr => ?_
      refine wl_nil ?_
      refine wr_succ ?_
      refine wc_seq_k fun K15 hK15 => ?_
      refine wc_seq_region fun K16 hK16 => ?_
      refine wl_v hfr (by decide) (v_move rfl) fun a hfr => ?_
      refine wl_v hfr (by decide) ((v_lt rfl rfl).asb (b' := true) rfl) fun a hfr => ?_
      refine wl_nil (hK16 _ _ ?_)
      refine wc_cond_t hfr rfl ?_
      refine wc_skip ?_
      refine hK15 _ _ ?_
      refine wc_seq_k fun K17 hK17 => ?_
      refine wc_block ?_
      refine wc_seq_region fun K18 hK18 => ?_
      refine wl_v hfr (by decide) (v_move rfl) fun a hfr => ?_
      refine wl_v hfr (by decide) (v_move rfl) fun a hfr => ?_
      refine wl_v hfr (by decide) (v_indexAddr (v := .pointer (some ⟨w0.heap.size, 2, none⟩)) rfl rfl (by kernel_rfl)) fun a hfr => ?_
      refine wl_v hfr (by decide) (v_load_blk1 (hst.get (k := 2) rfl) rfl (Try.isAgg3 _) rfl) fun a hfr => ?_
      refine wl_callp hfr hst (by decide) Try.call35 rfl (pickr16_ok _ _ _ (by omega) (by omega) (by omega) (by omega)) fun a w14 hfr hst => ?_
      refine wl_v hfr (by decide) (v_add rfl rfl ⟨by omega, by omega⟩) fun a hfr => ?_
      refine wl_v hfr (by decide) (v_indexAddr (v := .pointer (some ⟨w2.heap.size, 2, none⟩)) rfl rfl (by kernel_rfl)) fun a hfr => ?_
      refine wl_store 0 hfr hst rfl rfl rfl (Try.sizeOf3 _) rfl (Nat.le_of_ble_eq_true rfl) (ds := [.int .i64 (1 + (pick x0 86400)), .int .i64 (1 + (pick x1 86400)), .int .i64 (1 + (pick x2 12)), .int .i64 0]) rfl rfl fun a w15 hfr hst => ?_
      refine wl_nil (hK18 _ _ ?_)
      have hfr : Fr 38 [(0, _), (1, _), (2, _), (3, _), (16, _), (17, _), (18, _), (19, _), (20, _), (21, _), (7, _), (8, _), (4, _), (5, _), (6, _)] [] a := hfr.pick [0, 1, 2, 3, 16, 17, 18, 19, 20, 21, 7, 8, 4, 5, 6]
      refine wc_seq_region fun K19 hK19 => ?_
      refine wl_v hfr (by decide) (v_move rfl) fun a hfr => ?_
      refine wl_v hfr (by decide) (v_indexAddr (v := .pointer (some ⟨w0.heap.size, 2, none⟩)) rfl rfl (by kernel_rfl)) fun a hfr => ?_
      refine wl_v hfr (by decide) (v_load_blk1 (hst.get (k := 2) rfl) rfl (Try.isAgg3 _) rfl) fun a hfr => ?_
      refine wl_v hfr (by decide) (v_quo' rfl rfl (by omega) ⟨by omega, by omega⟩) fun a hfr => ?_
      refine wl_callp hfr hst (by decide) Try.call35 rfl (pickr16_ok _ _ _ (by omega) (by omega) (by omega) (by omega)) fun a w16 hfr hst => ?_
      refine wl_v hfr (by decide) (v_eq rfl rfl) fun a hfr => ?_
      refine wl_nil (hK19 _ _ ?_)
      refine wc_cond hfr rfl (fun hc3 => ?_) (fun hc3 => ?_)
      · rw [hc3] at hfr
        try simp only [Bool.not_eq_true', Bool.not_eq_false', decide_eq_true_eq, decide_eq_false_iff_not] at hc3
        refine wc_region ?_
        refine wl_v hfr (by decide) (v_move rfl) fun a hfr => ?_
        refine wl_v hfr (by decide) (v_move rfl) fun a hfr => ?_
        refine wl_v hfr (by decide) (v_indexAddr (v := .pointer (some ⟨w0.heap.size, 2, none⟩)) rfl rfl (by kernel_rfl)) fun a hfr => ?_
        refine wl_v hfr (by decide) (v_load_blk1 (hst.get (k := 2) rfl) rfl (Try.isAgg3 _) rfl) fun a hfr => ?_
        refine wl_callp hfr hst (by decide) Try.call35 rfl (pickr16_ok _ _ _ (by omega) (by omega) (by omega) (by omega)) fun a w17 hfr hst => ?_
        refine wl_v hfr (by decide) (v_add rfl rfl ⟨by omega, by omega⟩) fun a hfr => ?_
        refine wl_v hfr (by decide) (v_indexAddr (v := .pointer (some ⟨w2.heap.size, 2, none⟩)) rfl rfl (by kernel_rfl)) fun a hfr => ?_
        refine wl_store 0 hfr hst rfl rfl rfl (Try.sizeOf3 _) rfl (Nat.le_of_ble_eq_true rfl) (ds := [.int .i64 (1 + (pick x0 86400)), .int .i64 (1 + (pick x1 86400)), .int .i64 (1 + (pick x2 86400)), .int .i64 0]) rfl rfl fun a w18 hfr hst => ?_
        refine wl_nil ?_
        refine hK17 _ _ ?_
        have hfr : Fr 38 [(0, _), (1, _), (2, _), (3, _), (7, _), (8, _), (4, _), (5, _), (6, _), (16, _), (17, _), (18, _), (19, _), (20, _), (21, _)] [] a := hfr.pick [0, 1, 2, 3, 7, 8, 4, 5, 6, 16, 17, 18, 19, 20, 21]
        refine wc_region ?_
        refine wl_v hfr (by decide) (v_move rfl) fun a hfr => ?_
        refine wl_v hfr (by decide) ((v_add rfl rfl (by decide)).asi (m' := 3) rfl) fun a hfr => ?_
        refine wl_v hfr (by decide) (v_assign rfl) fun a hfr => ?_
        refine wl_nil ?_
        refine wr_succ ?_
        refine wc_seq_k fun K20 hK20 => ?_
        refine wc_seq_region fun K21 hK21 => ?_
        refine wl_v hfr (by decide) (v_move rfl) fun a hfr => ?_
        refine wl_v hfr (by decide) ((v_lt rfl rfl).asb (b' := true) rfl) fun a hfr => ?_
        refine wl_nil (hK21 _ _ ?_)
        refine wc_cond_t hfr rfl ?_
        refine wc_skip ?_
        refine hK20 _ _ ?_
        refine wc_seq_k fun K22 hK22 => ?_
        refine wc_block ?_
        refine wc_seq_region fun K23 hK23 => ?_
        refine wl_v hfr (by decide) (v_move rfl) fun a hfr => ?_
        refine wl_v hfr (by decide) (v_move rfl) fun a hfr => ?_
        refine wl_v hfr (by decide) (v_indexAddr (v := .pointer (some ⟨w0.heap.size, 3, none⟩)) rfl rfl (by kernel_rfl)) fun a hfr => ?_
        refine wl_v hfr (by decide) (v_load_blk1 (hst.get (k := 2) rfl) rfl (Try.isAgg3 _) rfl) fun a hfr => ?_
        refine wl_callp hfr hst (by decide) Try.call35 rfl (pickr16_ok _ _ _ (by omega) (by omega) (by omega) (by omega)) fun a w19 hfr hst => ?_
        refine wl_v hfr (by decide) (v_add rfl rfl ⟨by omega, by omega⟩) fun a hfr => ?_
        refine wl_v hfr (by decide) (v_indexAddr (v := .pointer (some ⟨w2.heap.size, 3, none⟩)) rfl rfl (by kernel_rfl)) fun a hfr => ?_
        refine wl_store 0 hfr hst rfl rfl rfl (Try.sizeOf3 _) rfl (Nat.le_of_ble_eq_true rfl) (ds := [.int .i64 (1 + (pick x0 86400)), .int .i64 (1 + (pick x1 86400)), .int .i64 (1 + (pick x2 86400)), .int .i64 (1 + (pick x3 12))]) rfl rfl fun a w20 hfr hst => ?_
        refine wl_nil (hK23 _ _ ?_)
        have hfr : Fr 38 [(0, _), (1, _), (2, _), (3, _), (16, _), (17, _), (18, _), (19, _), (20, _), (21, _), (7, _), (8, _), (4, _), (5, _), (6, _)] [] a := hfr.pick [0, 1, 2, 3, 16, 17, 18, 19, 20, 21, 7, 8, 4, 5, 6]
        refine wc_seq_region fun K24 hK24 => ?_
        refine wl_v hfr (by decide) (v_move rfl) fun a hfr => ?_
        refine wl_v hfr (by decide) (v_indexAddr (v := .pointer (some ⟨w0.heap.size, 3, none⟩)) rfl rfl (by kernel_rfl)) fun a hfr => ?_
        refine wl_v hfr (by decide) (v_load_blk1 (hst.get (k := 2) rfl) rfl (Try.isAgg3 _) rfl) fun a hfr => ?_
        refine wl_v hfr (by decide) (v_quo' rfl rfl (by omega) ⟨by omega, by omega⟩) fun a hfr => ?_
        refine wl_callp hfr hst (by decide) Try.call35 rfl (pickr16_ok _ _ _ (by omega) (by omega) (by omega) (by omega)) fun a w21 hfr hst => ?_
        refine wl_v hfr (by decide) (v_eq rfl rfl) fun a hfr => ?_
        refine wl_nil (hK24 _ _ ?_)
        refine wc_cond hfr rfl (fun hc4 => ?_) (fun hc4 => ?_)
        · rw [hc4] at hfr
          try simp only [Bool.not_eq_true', Bool.not_eq_false', decide_eq_true_eq, decide_eq_false_iff_not] at hc4
          refine wc_region ?_
          refine wl_v hfr (by decide) (v_move rfl) fun a hfr => ?_
          refine wl_v hfr (by decide) (v_move rfl) fun a hfr => ?_
          refine wl_v hfr (by decide) (v_indexAddr (v := .pointer (some ⟨w0.heap.size, 3, none⟩)) rfl rfl (by kernel_rfl)) fun a hfr => ?_
          refine wl_v hfr (by decide) (v_load_blk1 (hst.get (k := 2) rfl) rfl (Try.isAgg3 _) rfl) fun a hfr => ?_
          refine wl_callp hfr hst (by decide) Try.call35 rfl (pickr16_ok _ _ _ (by omega) (by omega) (by omega) (by omega)) fun a w22 hfr hst => ?_
          refine wl_v hfr (by decide) (v_add rfl rfl ⟨by omega, by omega⟩) fun a hfr => ?_
          refine wl_v hfr (by decide) (v_indexAddr (v := .pointer (some ⟨w2.heap.size, 3, none⟩)) rfl rfl (by kernel_rfl)) fun a hfr => ?_
          refine wl_store 0 hfr hst rfl rfl rfl (Try.sizeOf3 _) rfl (Nat.le_of_ble_eq_true rfl) (ds := [.int .i64 (1 + (pick x0 86400)), .int .i64 (1 + (pick x1 86400)), .int .i64 (1 + (pick x2 86400)), .int .i64 (1 + (pick x3 86400))]) rfl rfl fun a w23 hfr hst => ?_
          refine wl_nil ?_
          refine hK22 _ _ ?_
          have hfr : Fr 38 [(0, _), (1, _), (2, _), (3, _), (7, _), (8, _), (4, _), (5, _), (6, _), (16, _), (17, _), (18, _), (19, _), (20, _), (21, _)] [] a := hfr.pick [0, 1, 2, 3, 7, 8, 4, 5, 6, 16, 17, 18, 19, 20, 21]
          refine wc_region ?_
          refine wl_v hfr (by decide) (v_move rfl) fun a hfr => ?_
          refine wl_v hfr (by decide) ((v_add rfl rfl (by decide)).asi (m' := 4) rfl) fun a hfr => ?_
          refine wl_v hfr (by decide) (v_assign rfl) fun a hfr => ?_
          refine wl_nil ?_
          refine wr_succ ?_
          refine wc_seq_k fun K25 hK25 => ?_
          refine wc_seq_region fun K26 hK26 => ?_
          refine wl_v hfr (by decide) (v_move rfl) fun a hfr => ?_
          refine wl_v hfr (by decide) ((v_lt rfl rfl).asb (b' := false) rfl) fun a hfr => ?_
          refine wl_nil (hK26 _ _ ?_)
          refine wc_cond_f hfr rfl ?_
          refine wc_exit ?_
          refine hK3 _ _ ?_
          refine wc_seq_region fun K27 hK27 => ?_
          refine wl_v hfr (by decide) (v_indexAddr (v := .pointer (some ⟨w2.heap.size, 0, none⟩)) rfl rfl (by kernel_rfl)) fun a hfr => ?_
          refine wl_v hfr (by decide) (v_load_blk1 (hst.get (k := 0) rfl) rfl (Try.isAgg3 _) rfl) fun a hfr => ?_
          refine wl_v hfr (by decide) (v_indexAddr (v := .pointer (some ⟨w2.heap.size, 1, none⟩)) rfl rfl (by kernel_rfl)) fun a hfr => ?_
          refine wl_v hfr (by decide) (v_load_blk1 (hst.get (k := 0) rfl) rfl (Try.isAgg3 _) rfl) fun a hfr => ?_
          refine wl_v hfr (by decide) (v_indexAddr (v := .pointer (some ⟨w2.heap.size, 2, none⟩)) rfl rfl (by kernel_rfl)) fun a hfr => ?_
          refine wl_v hfr (by decide) (v_load_blk1 (hst.get (k := 0) rfl) rfl (Try.isAgg3 _) rfl) fun a hfr => ?_
          refine wl_v hfr (by decide) (v_indexAddr (v := .pointer (some ⟨w2.heap.size, 3, none⟩)) rfl rfl (by kernel_rfl)) fun a hfr => ?_
          refine wl_v hfr (by decide) (v_load_blk1 (hst.get (k := 0) rfl) rfl (Try.isAgg3 _) rfl) fun a hfr => ?_
          refine wl_v hfr (by decide) (v_build (v := .agg #[.int .i64 (1 + (pick x0 86400)), .int .i64 (1 + (pick x1 86400)), .int .i64 (1 + (pick x2 86400)), .int .i64 (1 + (pick x3 86400))]) rfl (by kernel_rfl)) fun a hfr => ?_
          refine wl_store 1 hfr hst rfl rfl rfl (Try.sizeOf29 _) rfl (Nat.le_of_ble_eq_true rfl) (ds := [.int .i64 (1 + (pick x0 86400)), .int .i64 (1 + (pick x1 86400)), .int .i64 (1 + (pick x2 86400)), .int .i64 (1 + (pick x3 86400))]) rfl rfl fun a w24 hfr hst => ?_
          refine wl_nil (hK27 _ _ ?_)
          have hfr : Fr 38 [(0, _), (1, _), (2, _), (3, _), (16, _), (17, _), (18, _), (19, _), (20, _), (21, _), (7, _), (8, _), (4, _), (5, _), (6, _)] [] a := hfr.pick [0, 1, 2, 3, 16, 17, 18, 19, 20, 21, 7, 8, 4, 5, 6]
          refine wc_ret ?_
          refine fin_ret hfr Try.results34 (resAre_cell rfl (res_all (hst.get (k := 1) rfl) (Try.isAgg29 _) (Try.sizeOf29 _)) resAre_nil) ?_
          exact ⟨by simp only [retv, mkRul, mkRule, Rul.val, hc1, hc2, hc3, hc4]; simp, hst.ext⟩
        rw [hc4] at hfr
        try simp only [Bool.not_eq_true', Bool.not_eq_false', decide_eq_true_eq, decide_eq_false_iff_not] at hc4
        refine wc_skip ?_
        refine hK22 _ _ ?_
        refine wc_region ?_
        refine wl_v hfr (by decide) (v_move rfl) fun a hfr => ?_
        refine wl_v hfr (by decide) ((v_add rfl rfl (by decide)).asi (m' := 4) rfl) fun a hfr => ?_
        refine wl_v hfr (by decide) (v_assign rfl) fun a hfr => ?_
        refine wl_nil ?_
        refine wr_succ ?_
        refine wc_seq_k fun K28 hK28 => ?_
        refine wc_seq_region fun K29 hK29 => ?_
        refine wl_v hfr (by decide) (v_move rfl) fun a hfr => ?_
        refine wl_v hfr (by decide) ((v_lt rfl rfl).asb (b' := false) rfl) fun a hfr => ?_
        refine wl_nil (hK29 _ _ ?_)
        refine wc_cond_f hfr rfl ?_
        refine wc_exit ?_
        refine hK3 _ _ ?_
        refine wc_seq_region fun K30 hK30 => ?_
        refine wl_v hfr (by decide) (v_indexAddr (v := .pointer (some ⟨w2.heap.size, 0, none⟩)) rfl rfl (by kernel_rfl)) fun a hfr => ?_
        refine wl_v hfr (by decide) (v_load_blk1 (hst.get (k := 0) rfl) rfl (Try.isAgg3 _) rfl) fun a hfr => ?_
        refine wl_v hfr (by decide) (v_indexAddr (v := .pointer (some ⟨w2.heap.size, 1, none⟩)) rfl rfl (by kernel_rfl)) fun a hfr => ?_
        refine wl_v hfr (by decide) (v_load_blk1 (hst.get (k := 0) rfl) rfl (Try.isAgg3 _) rfl) fun a hfr => ?_
        refine wl_v hfr (by decide) (v_indexAddr (v := .pointer (some ⟨w2.heap.size, 2, none⟩)) rfl rfl (by kernel_rfl)) fun a hfr => ?_
        refine wl_v hfr (by decide) (v_load_blk1 (hst.get (k := 0) rfl) rfl (Try.isAgg3 _) rfl) fun a hfr => ?_
        refine wl_v hfr (by decide) (v_indexAddr (v := .pointer (some ⟨w2.heap.size, 3, none⟩)) rfl rfl (by kernel_rfl)) fun a hfr => ?_
        refine wl_v hfr (by decide) (v_load_blk1 (hst.get (k := 0) rfl) rfl (Try.isAgg3 _) rfl) fun a hfr => ?_
        refine wl_v hfr (by decide) (v_build (v := .agg #[.int .i64 (1 + (pick x0 86400)), .int .i64 (1 + (pick x1 86400)), .int .i64 (1 + (pick x2 86400)), .int .i64 (1 + (pick x3 12))]) rfl (by kernel_rfl)) fun a hfr => ?_
        refine wl_store 1 hfr hst rfl rfl rfl (Try.sizeOf29 _) rfl (Nat.le_of_ble_eq_true rfl) (ds := [.int .i64 (1 + (pick x0 86400)), .int .i64 (1 + (pick x1 86400)), .int .i64 (1 + (pick x2 86400)), .int .i64 (1 + (pick x3 12))]) rfl rfl fun a w25 hfr hst => ?_
        refine wl_nil (hK30 _ _ ?_)
        have hfr : Fr 38 [(0, _), (1, _), (2, _), (3, _), (16, _), (17, _), (18, _), (19, _), (20, _), (21, _), (7, _), (8, _), (4, _), (5, _), (6, _)] [] a := hfr.pick [0, 1, 2, 3, 16, 17, 18, 19, 20, 21, 7, 8, 4, 5, 6]
        refine wc_ret ?_
        refine fin_ret hfr Try.results34 (resAre_cell rfl (res_all (hst.get (k := 1) rfl) (Try.isAgg29 _) (Try.sizeOf29 _)) resAre_nil) ?_
        exact ⟨by simp only [retv, mkRul, mkRule, Rul.val, hc1, hc2, hc3, hc4]; simp, hst.ext⟩
      rw [hc3] at hfr
      try simp only [Bool.not_eq_true', Bool.not_eq_false', decide_eq_true_eq, decide_eq_false_iff_not] at hc3
      refine wc_skip ?_
      refine hK17 _ _ ?_
      refine wc_region ?_
      refine wl_v hfr (by decide) (v_move rfl) fun a hfr => ?_
      refine wl_v hfr (by decide) ((v_add rfl rfl (by decide)).asi (m' := 3) rfl) fun a hfr => ?_
      refine wl_v hfr (by decide) (v_assign rfl) fun a hfr => ?_
      refine wl_nil ?_
      refine wr_succ ?_
      refine wc_seq_k fun K31 hK31 => ?_
      refine wc_seq_region fun K32 hK32 => ?_
      refine wl_v hfr (by decide) (v_move rfl) fun a hfr => ?_
      refine wl_v hfr (by decide) ((v_lt rfl rfl).asb (b' := true) rfl) fun a hfr => ?_
      refine wl_nil (hK32 _ _ ?_)
      refine wc_cond_t hfr rfl ?_
      refine wc_skip ?_
      refine hK31 _ _ ?_
      refine wc_seq_k fun K33 hK33 => ?_
      refine wc_block ?_
      refine wc_seq_region fun K34 hK34 => ?_
      refine wl_v hfr (by decide) (v_move rfl) fun a hfr => ?_
      refine wl_v hfr (by decide) (v_move rfl) fun a hfr => ?_
      refine wl_v hfr (by decide) (v_indexAddr (v := .pointer (some ⟨w0.heap.size, 3, none⟩)) rfl rfl (by kernel_rfl)) fun a hfr => ?_
      refine wl_v hfr (by decide) (v_load_blk1 (hst.get (k := 2) rfl) rfl (Try.isAgg3 _) rfl) fun a hfr => ?_
      refine wl_callp hfr hst (by decide) Try.call35 rfl (pickr16_ok _ _ _ (by omega) (by omega) (by omega) (by omega)) fun a w26 hfr hst => ?_
      refine wl_v hfr (by decide) (v_add rfl rfl ⟨by omega, by omega⟩) fun a hfr => ?_
      refine wl_v hfr (by decide) (v_indexAddr (v := .pointer (some ⟨w2.heap.size, 3, none⟩)) rfl rfl (by kernel_rfl)) fun a hfr => ?_
      refine wl_store 0 hfr hst rfl rfl rfl (Try.sizeOf3 _) rfl (Nat.le_of_ble_eq_true rfl) (ds := [.int .i64 (1 + (pick x0 86400)), .int .i64 (1 + (pick x1 86400)), .int .i64 (1 + (pick x2 12)), .int .i64 (1 + (pick x3 12))]) rfl rfl fun a w27 hfr hst => ?_
      refine wl_nil (hK34 _ _ ?_)
      have hfr : Fr 38 [(0, _), (1, _), (2, _), (3, _), (16, _), (17, _), (18, _), (19, _), (20, _), (21, _), (7, _), (8, _), (4, _), (5, _), (6, _)] [] a := hfr.pick [0, 1, 2, 3, 16, 17, 18, 19, 20, 21, 7, 8, 4, 5, 6]
      refine wc_seq_region fun K35 hK35 => ?_
      refine wl_v hfr (by decide) (v_move rfl) fun a hfr => ?_
      refine wl_v hfr (by decide) (v_indexAddr (v := .pointer (some ⟨w0.heap.size, 3, none⟩)) rfl rfl (by kernel_rfl)) fun a hfr => ?_
      refine wl_v hfr (by decide) (v_load_blk1 (hst.get (k := 2) rfl) rfl (Try.isAgg3 _) rfl) fun a hfr => ?_
      refine wl_v hfr (by decide) (v_quo' rfl rfl (by omega) ⟨by omega, by omega⟩) fun a hfr => ?_
      refine wl_callp hfr hst (by decide) Try.call35 rfl (pickr16_ok _ _ _ (by omega) (by omega) (by omega) (by omega)) fun a w28 hfr hst => ?_
      refine wl_v hfr (by decide) (v_eq rfl rfl) fun a hfr => ?_
      refine wl_nil (hK35 _ _ ?_)
      refine wc_cond hfr rfl (fun hc5 => ?_) (fun hc5 => ?_)
      · rw [hc5] at hfr
        try simp only [Bool.not_eq_true', Bool.not_eq_false', decide_eq_true_eq, decide_eq_false_iff_not] at hc5
        refine wc_region ?_
        refine wl_v hfr (by decide) (v_move rfl) fun a hfr => ?_
        refine wl_v hfr (by decide) (v_move rfl) fun a hfr => ?_
        refine wl_v hfr (by decide) (v_indexAddr (v := .pointer (some ⟨w0.heap.size, 3, none⟩)) rfl rfl (by kernel_rfl)) fun a hfr => ?_
        refine wl_v hfr (by decide) (v_load_blk1 (hst.get (k := 2) rfl) rfl (Try.isAgg3 _) rfl) fun a hfr => ?_
        refine wl_callp hfr hst (by decide) Try.call35 rfl (pickr16_ok _ _ _ (by omega) (by omega) (by omega) (by omega)) fun a w29 hfr hst => ?_
        refine wl_v hfr (by decide) (v_add rfl rfl ⟨by omega, by omega⟩) fun a hfr => ?_
        refine wl_v hfr (by decide) (v_indexAddr (v := .pointer (some ⟨w2.heap.size, 3, none⟩)) rfl rfl (by kernel_rfl)) fun a hfr => ?_
        refine wl_store 0 hfr hst rfl rfl rfl (Try.sizeOf3 _) rfl (Nat.le_of_ble_eq_true rfl) (ds := [.int .i64 (1 + (pick x0 86400)), .int .i64 (1 + (pick x1 86400)), .int .i64 (1 + (pick x2 12)), .int .i64 (1 + (pick x3 86400))]) rfl rfl fun a w30 hfr hst => ?_
        refine wl_nil ?_
        refine hK33 _ _ ?_
        have hfr : Fr 38 [(0, _), (1, _), (2, _), (3, _), (7, _), (8, _), (4, _), (5, _), (6, _), (16, _), (17, _), (18, _), (19, _), (20, _), (21, _)] [] a := hfr.pick [0, 1, 2, 3, 7, 8, 4, 5, 6, 16, 17, 18, 19, 20, 21]
        refine wc_region ?_
        refine wl_v hfr (by decide) (v_move rfl) fun a hfr => ?_
        refine wl_v hfr (by decide) ((v_add rfl rfl (by decide)).asi (m' := 4) rfl) fun a hfr => ?_
        refine wl_v hfr (by decide) (v_assign rfl) fun a hfr => ?_
        refine wl_nil ?_
        refine wr_succ ?_
        refine wc_seq_k fun K36 hK36 => ?_
        refine wc_seq_region fun K37 hK37 => ?_
        refine wl_v hfr (by decide) (v_move rfl) fun a hfr => ?_
        refine wl_v hfr (by decide) ((v_lt rfl rfl).asb (b' := false) rfl) fun a hfr => ?_
        refine wl_nil (hK37 _ _ ?_)
        refine wc_cond_f hfr rfl ?_
        refine wc_exit ?_
        refine hK3 _ _ ?_
        refine wc_seq_region fun K38 hK38 => ?_
        refine wl_v hfr (by decide) (v_indexAddr (v := .pointer (some ⟨w2.heap.size, 0, none⟩)) rfl rfl (by kernel_rfl)) fun a hfr => ?_
        refine wl_v hfr (by decide) (v_load_blk1 (hst.get (k := 0) rfl) rfl (Try.isAgg3 _) rfl) fun a hfr => ?_
        refine wl_v hfr (by decide) (v_indexAddr (v := .pointer (some ⟨w2.heap.size, 1, none⟩)) rfl rfl (by kernel_rfl)) fun a hfr => ?_
        refine wl_v hfr (by decide) (v_load_blk1 (hst.get (k := 0) rfl) rfl (Try.isAgg3 _) rfl) fun a hfr => ?_
        refine wl_v hfr (by decide) (v_indexAddr (v := .pointer (some ⟨w2.heap.size, 2, none⟩)) rfl rfl (by kernel_rfl)) fun a hfr => ?_
        refine wl_v hfr (by decide) (v_load_blk1 (hst.get (k := 0) rfl) rfl (Try.isAgg3 _) rfl) fun a hfr => ?_
        refine wl_v hfr (by decide) (v_indexAddr (v := .pointer (some ⟨w2.heap.size, 3, none⟩)) rfl rfl (by kernel_rfl)) fun a hfr => ?_
        refine wl_v hfr (by decide) (v_load_blk1 (hst.get (k := 0) rfl) rfl (Try.isAgg3 _) rfl) fun a hfr => ?_
        refine wl_v hfr (by decide) (v_build (v := .agg #[.int .i64 (1 + (pick x0 86400)), .int .i64 (1 + (pick x1 86400)), .int .i64 (1 + (pick x2 12)), .int .i64 (1 + (pick x3 86400))]) rfl (by kernel_rfl)) fun a hfr => ?_
        refine wl_store 1 hfr hst rfl rfl rfl (Try.sizeOf29 _) rfl (Nat.le_of_ble_eq_true rfl) (ds := [.int .i64 (1 + (pick x0 86400)), .int .i64 (1 + (pick x1 86400)), .int .i64 (1 + (pick x2 12)), .int .i64 (1 + (pick x3 86400))]) rfl rfl fun a w31 hfr hst => ?_
        refine wl_nil (hK38 _ _ ?_)
        have hfr : Fr 38 [(0, _), (1, _), (2, _), (3, _), (16, _), (17, _), (18, _), (19, _), (20, _), (21, _), (7, _), (8, _), (4, _), (5, _), (6, _)] [] a := hfr.pick [0, 1, 2, 3, 16, 17, 18, 19, 20, 21, 7, 8, 4, 5, 6]
        refine wc_ret ?_
        refine fin_ret hfr Try.results34 (resAre_cell rfl (res_all (hst.get (k := 1) rfl) (Try.isAgg29 _) (Try.sizeOf29 _)) resAre_nil) ?_
        exact ⟨by simp only [retv, mkRul, mkRule, Rul.val, hc1, hc2, hc3, hc5]; simp, hst.ext⟩
      rw [hc5] at hfr
      try simp only [Bool.not_eq_true', Bool.not_eq_false', decide_eq_true_eq, decide_eq_false_iff_not] at hc5
      refine wc_skip ?_
      refine hK33 _ _ ?_
      refine wc_region ?_
      refine wl_v hfr (by decide) (v_move rfl) fun a hfr => ?_
      refine wl_v hfr (by decide) ((v_add rfl rfl (by decide)).asi (m' := 4) rfl) fun a hfr => ?_
      refine wl_v hfr (by decide) (v_assign rfl) fun a hfr => ?_
      refine wl_nil ?_
      refine wr_succ ?_
      refine wc_seq_k fun K39 hK39 => ?_
      refine wc_seq_region fun K40 hK40 => ?_
      refine wl_v hfr (by decide) (v_move rfl) fun a hfr => ?_
      refine wl_v hfr (by decide) ((v_lt rfl rfl).asb (b' := false) rfl) fun a hfr => ?_
      refine wl_nil (hK40 _ _ ?_)
      refine wc_cond_f hfr rfl ?_
      refine wc_exit ?_
      refine hK3 _ _ ?_
      refine wc_seq_region fun K41 hK41 => ?_
      refine wl_v hfr (by decide) (v_indexAddr (v := .pointer (some ⟨w2.heap.size, 0, none⟩)) rfl rfl (by kernel_rfl)) fun a hfr => ?_
      refine wl_v hfr (by decide) (v_load_blk1 (hst.get (k := 0) rfl) rfl (Try.isAgg3 _) rfl) fun a hfr => ?_
      refine wl_v hfr (by decide) (v_indexAddr (v := .pointer (some ⟨w2.heap.size, 1, none⟩)) rfl rfl (by kernel_rfl)) fun a hfr => ?_
      refine wl_v hfr (by decide) (v_load_blk1 (hst.get (k := 0) rfl) rfl (Try.isAgg3 _) rfl) fun a hfr => ?_
      refine wl_v hfr (by decide) (v_indexAddr (v := .pointer (some ⟨w2.heap.size, 2, none⟩)) rfl rfl (by kernel_rfl)) fun a hfr => ?_
      refine wl_v hfr (by decide) (v_load_blk1 (hst.get (k := 0) rfl) rfl (Try.isAgg3 _) rfl) fun a hfr => ?_
      refine wl_v hfr (by decide) (v_indexAddr (v := .pointer (some ⟨w2.heap.size, 3, none⟩)) rfl rfl (by kernel_rfl)) fun a hfr => ?_
      refine wl_v hfr (by decide) (v_load_blk1 (hst.get (k := 0) rfl) rfl (Try.isAgg3 _) rfl) fun a hfr => ?_
      refine wl_v hfr (by decide) (v_build (v := .agg #[.int .i64 (1 + (pick x0 86400)), .int .i64 (1 + (pick x1 86400)), .int .i64 (1 + (pick x2 12)), .int .i64 (1 + (pick x3 12))]) rfl (by kernel_rfl)) fun a hfr => ?_
      refine wl_store 1 hfr hst rfl rfl rfl (Try.sizeOf29 _) rfl (Nat.le_of_ble_eq_true rfl) (ds := [.int .i64 (1 + (pick x0 86400)), .int .i64 (1 + (pick x1 86400)), .int .i64 (1 + (pick x2 12)), .int .i64 (1 + (pick x3 12))]) rfl rfl fun a w32 hfr hst => ?_
      refine wl_nil (hK41 _ _ ?_)
      have hfr : Fr 38 [(0, _), (1, _), (2, _), (3, _), (16, _), (17, _), (18, _), (19, _), (20, _), (21, _), (7, _), (8, _), (4, _), (5, _), (6, _)] [] a := hfr.pick [0, 1, 2, 3, 16, 17, 18, 19, 20, 21, 7, 8, 4, 5, 6]
      refine wc_ret ?_
      refine fin_ret hfr Try.results34 (resAre_cell rfl (res_all (hst.get (k := 1) rfl) (Try.isAgg29 _) (Try.sizeOf29 _)) resAre_nil) ?_
      exact ⟨by simp only [retv, mkRul, mkRule, Rul.val, hc1, hc2, hc3, hc5]; simp, hst.ext⟩
    rw [hc2] at hfr
    try simp only [Bool.not_eq_true', Bool.not_eq_false', decide_eq_true_eq, decide_eq_false_iff_not] at hc2
    refine wc_skip ?_
    refine hK12 _ _ ?_
    refine wc_region ?_
    refine wl_v hfr (by decide) (v_move rfl) fun a hfr => ?_
    refine wl_v hfr (by decide) ((v_add rfl rfl (by decide)).asi (m' := 2) rfl) fun a hfr => ?_
    refine wl_v hfr (by decide) (v_assign rfl) fun a hfr => ?_
    refine wl_nil ?_
    refine wr_succ ?_
    refine wc_seq_k fun K42 hK42 => ?_
    refine wc_seq_region fun K43 hK43 => ?_
    refine wl_v hfr (by decide) (v_move rfl) fun a hfr => ?_
    refine wl_v hfr (by decide) ((v_lt rfl rfl).asb (b' := true) rfl) fun a hfr => ?_
    refine wl_nil (hK43 _ _ ?_)
    refine wc_cond_t hfr rfl ?_
    refine wc_skip ?_
    refine hK42 _ _ ?_
    refine wc_seq_k fun K44 hK44 => ?_
    refine wc_block ?_
    refine wc_seq_region fun K45 hK45 => ?_
    refine wl_v hfr (by decide) (v_move rfl) fun a hfr => ?_
    refine wl_v hfr (by decide) (v_move rfl) fun a hfr => ?_
    refine wl_v hfr (by decide) (v_indexAddr (v := .pointer (some ⟨w0.heap.size, 2, none⟩)) rfl rfl (by kernel_rfl)) fun a hfr => ?_
    refine wl_v hfr (by decide) (v_load_blk1 (hst.get (k := 2) rfl) rfl (Try.isAgg3 _) rfl) fun a hfr => ?_
    refine wl_callp hfr hst (by decide) Try.call35 rfl (pickr16_ok _ _ _ (by omega) (by omega) (by omega) (by omega)) fun a w33 hfr hst => ?_
    refine wl_v hfr (by decide) (v_add rfl rfl ⟨by omega, by omega⟩) fun a hfr => ?_
    refine wl_v hfr (by decide) (v_indexAddr (v := .pointer (some ⟨w2.heap.size, 2, none⟩)) rfl rfl (by kernel_rfl)) fun a hfr => ?_
    refine wl_store 0 hfr hst rfl rfl rfl (Try.sizeOf3 _) rfl (Nat.le_of_ble_eq_true rfl) (ds := [.int .i64 (1 + (pick x0 86400)), .int .i64 (1 + (pick x1 12)), .int .i64 (1 + (pick x2 12)), .int .i64 0]) rfl rfl fun a w34 hfr hst => ?_
    refine wl_nil (hK45 _ _ ?_)
    have hfr : Fr 38 [(0, _), (1, _), (2, _), (3, _), (16, _), (17, _), (18, _), (19, _), (20, _), (21, _), (7, _), (8, _), (4, _), (5, _), (6, _)] [] a := hfr.pick [0, 1, 2, 3, 16, 17, 18, 19, 20, 21, 7, 8, 4, 5, 6]
    refine wc_seq_region fun K46 hK46 => ?_
    refine wl_v hfr (by decide) (v_move rfl) fun a hfr => ?_
    refine wl_v hfr (by decide) (v_indexAddr (v := .pointer (some ⟨w0.heap.size, 2, none⟩)) rfl rfl (by kernel_rfl)) fun a hfr => ?_
    refine wl_v hfr (by decide) (v_load_blk1 (hst.get (k := 2) rfl) rfl (Try.isAgg3 _) rfl) fun a hfr => ?_
    refine wl_v hfr (by decide) (v_quo' rfl rfl (by omega) ⟨by omega, by omega⟩) fun a hfr => ?_
    refine wl_callp hfr hst (by decide) Try.call35 rfl (pickr16_ok _ _ _ (by omega) (by omega) (by omega) (by omega)) fun a w35 hfr hst => ?_
    refine wl_v hfr (by decide) (v_eq rfl rfl) fun a hfr => ?_
    refine wl_nil (hK46 _ _ ?_)
    refine wc_cond hfr rfl (fun hc6 => ?_) (fun hc6 => ?_)
    · rw [hc6] at hfr
      try simp only [Bool.not_eq_true', Bool.not_eq_false', decide_eq_true_eq, decide_eq_false_iff_not] at hc6
      refine wc_region ?_
      refine wl_v hfr (by decide) (v_move rfl) fun a hfr => ?_
      refine wl_v hfr (by decide) (v_move rfl) fun a hfr => ?_
      refine wl_v hfr (by decide) (v_indexAddr (v := .pointer (some ⟨w0.heap.size, 2, none⟩)) rfl rfl (by kernel_rfl)) fun a hfr => ?_
      refine wl_v hfr (by decide) (v_load_blk1 (hst.get (k := 2) rfl) rfl (Try.isAgg3 _) rfl) fun a hfr => ?_
      refine wl_callp hfr hst (by decide) Try.call35 rfl (pickr16_ok _ _ _ (by omega) (by omega) (by omega) (by omega)) fun a w36 hfr hst => ?_
      refine wl_v hfr (by decide) (v_add rfl rfl ⟨by omega, by omega⟩) fun a hfr => ?_
      refine wl_v hfr (by decide) (v_indexAddr (v := .pointer (some ⟨w2.heap.size, 2, none⟩)) rfl rfl (by kernel_rfl)) fun a hfr => ?_
      refine wl_store 0 hfr hst rfl rfl rfl (Try.sizeOf3 _) rfl (Nat.le_of_ble_eq_true rfl) (ds := [.int .i64 (1 + (pick x0 86400)), .int .i64 (1 + (pick x1 12)), .int .i64 (1 + (pick x2 86400)), .int .i64 0]) rfl rfl fun a w37 hfr hst => ?_
      refine wl_nil ?_
      refine hK44 _ _ ?_
      have hfr : Fr 38 [(0, _), (1, _), (2, _), (3, _), (7, _), (8, _), (4, _), (5, _), (6, _), (16, _), (17, _), (18, _), (19, _), (20, _), (21, _)] [] a := hfr.pick [0, 1, 2, 3, 7, 8, 4, 5, 6, 16, 17, 18, 19, 20, 21]
      refine wc_region ?_
      refine wl_v hfr (by decide) (v_move rfl) fun a hfr => ?_
      refine wl_v hfr (by decide) ((v_add rfl rfl (by decide)).asi (m' := 3) rfl) fun a hfr => ?_
      refine wl_v hfr (by decide) (v_assign rfl) fun a hfr => ?_
      refine wl_nil ?_
      refine wr_succ ?_
      refine wc_seq_k fun K47 hK47 => ?_
      refine wc_seq_region fun K48 hK48 => ?_
      refine wl_v hfr (by decide) (v_move rfl) fun a hfr => ?_
      refine wl_v hfr (by decide) ((v_lt rfl rfl).asb (b' := true) rfl) fun a hfr => ?_
      refine wl_nil (hK48 _ _ ?_)
      refine wc_cond_t hfr rfl ?_
      refine wc_skip ?_
      refine hK47 _ _ ?_
      refine wc_seq_k fun K49 hK49 => ?_
      refine wc_block ?_
      refine wc_seq_region fun K50 hK50 => ?_
      refine wl_v hfr (by decide) (v_move rfl) fun a hfr => ?_
      refine wl_v hfr (by decide) (v_move rfl) fun a hfr => ?_
      refine wl_v hfr (by decide) (v_indexAddr (v := .pointer (some ⟨w0.heap.size, 3, none⟩)) rfl rfl (by kernel_rfl)) fun a hfr => ?_
      refine wl_v hfr (by decide) (v_load_blk1 (hst.get (k := 2) rfl) rfl (Try.isAgg3 _) rfl) fun a hfr => ?_
      refine wl_callp hfr hst (by decide) Try.call35 rfl (pickr16_ok _ _ _ (by omega) (by omega) (by omega) (by omega)) fun a w38 hfr hst => ?_
      refine wl_v hfr (by decide) (v_add rfl rfl ⟨by omega, by omega⟩) fun a hfr => ?_
      refine wl_v hfr (by decide) (v_indexAddr (v := .pointer (some ⟨w2.heap.size, 3, none⟩)) rfl rfl (by kernel_rfl)) fun a hfr => ?_
      refine wl_store 0 hfr hst rfl rfl rfl (Try.sizeOf3 _) rfl (Nat.le_of_ble_eq_true rfl) (ds := [.int .i64 (1 + (pick x0 86400)), .int .i64 (1 + (pick x1 12)), .int .i64 (1 + (pick x2 86400)), .int .i64 (1 + (pick x3 12))]) rfl rfl fun a w39 hfr hst => ?_
      refine wl_nil (hK50 _ _ ?_)
      have hfr : Fr 38 [(0, _), (1, _), (2, _), (3, _), (16, _), (17, _), (18, _), (19, _), (20, _), (21, _), (7, _), (8, _), (4, _), (5, _), (6, _)] [] a := hfr.pick [0, 1, 2, 3, 16, 17, 18, 19, 20, 21, 7, 8, 4, 5, 6]
      refine wc_seq_region fun K51 hK51 => ?_
      refine wl_v hfr (by decide) (v_move rfl) fun a hfr => ?_
      refine wl_v hfr (by decide) (v_indexAddr (v := .pointer (some ⟨w0.heap.size, 3, none⟩)) rfl rfl (by kernel_rfl)) fun a hfr => ?_
      refine wl_v hfr (by decide) (v_load_blk1 (hst.get (k := 2) rfl) rfl (Try.isAgg3 _) rfl) fun a hfr => ?_
      refine wl_v hfr (by decide) (v_quo' rfl rfl (by omega) ⟨by omega, by omega⟩) fun a hfr => ?_
      refine wl_callp hfr hst (by decide) Try.call35 rfl (pickr16_ok _ _ _ (by omega) (by omega) (by omega) (by omega)) fun a w40 hfr hst => ?_
      refine wl_v hfr (by decide) (v_eq rfl rfl) fun a hfr => ?_
      refine wl_nil (hK51 _ _ ?_)
      refine wc_cond hfr rfl (fun hc7 => ?_) (fun hc7 => ?_)
      · rw [hc7] at hfr
        try simp only [Bool.not_eq_true', Bool.not_eq_false', decide_eq_true_eq, decide_eq_false_iff_not] at hc7
        refine wc_region ?_
        refine wl_v hfr (by decide) (v_move rfl) fun a hfr => ?_
        refine wl_v hfr (by decide) (v_move rfl) fun a hfr => ?_
        refine wl_v hfr (by decide) (v_indexAddr (v := .pointer (some ⟨w0.heap.size, 3, none⟩)) rfl rfl (by kernel_rfl)) fun a hfr => ?_
        refine wl_v hfr (by decide) (v_load_blk1 (hst.get (k := 2) rfl) rfl (Try.isAgg3 _) rfl) fun a hfr => ?_
        refine wl_callp hfr hst (by decide) Try.call35 rfl (pickr16_ok _ _ _ (by omega) (by omega) (by omega) (by omega)) fun a w41 hfr hst => ?_
        refine wl_v hfr (by decide) (v_add rfl rfl ⟨by omega, by omega⟩) fun a hfr => ?_
        refine wl_v hfr (by decide) (v_indexAddr (v := .pointer (some ⟨w2.heap.size, 3, none⟩)) rfl rfl (by kernel_rfl)) fun a hfr => ?_
        refine wl_store 0 hfr hst rfl rfl rfl (Try.sizeOf3 _) rfl (Nat.le_of_ble_eq_true rfl) (ds := [.int .i64 (1 + (pick x0 86400)), .int .i64 (1 + (pick x1 12)), .int .i64 (1 + (pick x2 86400)), .int .i64 (1 + (pick x3 86400))]) rfl rfl fun a w42 hfr hst => ?_
        refine wl_nil ?_
        refine hK49 _ _ ?_
        have hfr : Fr 38 [(0, _), (1, _), (2, _), (3, _), (7, _), (8, _), (4, _), (5, _), (6, _), (16, _), (17, _), (18, _), (19, _), (20, _), (21, _)] [] a := hfr.pick [0, 1, 2, 3, 7, 8, 4, 5, 6, 16, 17, 18, 19, 20, 21]
        refine wc_region ?_
        refine wl_v hfr (by decide) (v_move rfl) fun a hfr => ?_
        refine wl_v hfr (by decide) ((v_add rfl rfl (by decide)).asi (m' := 4) rfl) fun a hfr => ?_
        refine wl_v hfr (by decide) (v_assign rfl) fun a hfr => ?_
        refine wl_nil ?_
        refine wr_succ ?_
        refine wc_seq_k fun K52 hK52 => ?_
        refine wc_seq_region fun K53 hK53 => ?_
        refine wl_v hfr (by decide) (v_move rfl) fun a hfr => ?_
        refine wl_v hfr (by decide) ((v_lt rfl rfl).asb (b' := false) rfl) fun a hfr => ?_
        refine wl_nil (hK53 _ _ ?_)
        refine wc_cond_f hfr rfl ?_
        refine wc_exit ?_
        refine hK3 _ _ ?_
        refine wc_seq_region fun K54 hK54 => ?_
        refine wl_v hfr (by decide) (v_indexAddr (v := .pointer (some ⟨w2.heap.size, 0, none⟩)) rfl rfl (by kernel_rfl)) fun a hfr => ?_
        refine wl_v hfr (by decide) (v_load_blk1 (hst.get (k := 0) rfl) rfl (Try.isAgg3 _) rfl) fun a hfr => ?_
        refine wl_v hfr (by decide) (v_indexAddr (v := .pointer (some ⟨w2.heap.size, 1, none⟩)) rfl rfl (by kernel_rfl)) fun a hfr => ?_
        refine wl_v hfr (by decide) (v_load_blk1 (hst.get (k := 0) rfl) rfl (Try.isAgg3 _) rfl) fun a hfr => ?_
        refine wl_v hfr (by decide) (v_indexAddr (v := .pointer (some ⟨w2.heap.size, 2, none⟩)) rfl rfl (by kernel_rfl)) fun a hfr => ?_
        refine wl_v hfr (by decide) (v_load_blk1 (hst.get (k := 0) rfl) rfl (Try.isAgg3 _) rfl) fun a hfr => ?_
        refine wl_v hfr (by decide) (v_indexAddr (v := .pointer (some ⟨w2.heap.size, 3, none⟩)) rfl rfl (by kernel_rfl)) fun a hfr => ?_
        refine wl_v hfr (by decide) (v_load_blk1 (hst.get (k := 0) rfl) rfl (Try.isAgg3 _) rfl) fun a hfr => ?_
        refine wl_v hfr (by decide) (v_build (v := .agg #[.int .i64 (1 + (pick x0 86400)), .int .i64 (1 + (pick x1 12)), .int .i64 (1 + (pick x2 86400)), .int .i64 (1 + (pick x3 86400))]) rfl (by kernel_rfl)) fun a hfr => ?_
        refine wl_store 1 hfr hst rfl rfl rfl (Try.sizeOf29 _) rfl (Nat.le_of_ble_eq_true rfl) (ds := [.int .i64 (1 + (pick x0 86400)), .int .i64 (1 + (pick x1 12)), .int .i64 (1 + (pick x2 86400)), .int .i64 (1 + (pick x3 86400))]) rfl rfl fun a w43 hfr hst => ?_
        refine wl_nil (hK54 _ _ ?_)
        have hfr : Fr 38 [(0, _), (1, _), (2, _), (3, _), (16, _), (17, _), (18, _), (19, _), (20, _), (21, _), (7, _), (8, _), (4, _), (5, _), (6, _)] [] a := hfr.pick [0, 1, 2, 3, 16, 17, 18, 19, 20, 21, 7, 8, 4, 5, 6]
        refine wc_ret ?_
        refine fin_ret hfr Try.results34 (resAre_cell rfl (res_all (hst.get (k := 1) rfl) (Try.isAgg29 _) (Try.sizeOf29 _)) resAre_nil) ?_
        exact ⟨by simp only [retv, mkRul, mkRule, Rul.val, hc1, hc2, hc6, hc7]; simp, hst.ext⟩
      rw [hc7] at hfr
      try simp only [Bool.not_eq_true', Bool.not_eq_false', decide_eq_true_eq, decide_eq_false_iff_not] at hc7
      refine wc_skip ?_
      refine hK49 _ _ ?_
      refine wc_region ?_
      refine wl_v hfr (by decide) (v_move rfl) fun a hfr => ?_
      refine wl_v hfr (by decide) ((v_add rfl rfl (by decide)).asi (m' := 4) rfl) fun a hfr => ?_
      refine wl_v hfr (by decide) (v_assign rfl) fun a hfr => ?_
      refine wl_nil ?_
      refine wr_succ ?_
      refine wc_seq_k fun K55 hK55 => ?_
      refine wc_seq_region fun K56 hK56 => ?_
      refine wl_v hfr (by decide) (v_move rfl) fun a hfr => ?_
      refine wl_v hfr (by decide) ((v_lt rfl rfl).asb (b' := false) rfl) fun a hfr => ?_
      refine wl_nil (hK56 _ _ ?_)
      refine wc_cond_f hfr rfl ?_
      refine wc_exit ?_
      refine hK3 _ _ ?_
      refine wc_seq_region fun K57 hK57 => ?_
      refine wl_v hfr (by decide) (v_indexAddr (v := .pointer (some ⟨w2.heap.size, 0, none⟩)) rfl rfl (by kernel_rfl)) fun a hfr => ?_
      refine wl_v hfr (by decide) (v_load_blk1 (hst.get (k := 0) rfl) rfl (Try.isAgg3 _) rfl) fun a hfr => ?_
      refine wl_v hfr (by decide) (v_indexAddr (v := .pointer (some ⟨w2.heap.size, 1, none⟩)) rfl rfl (by kernel_rfl)) fun a hfr => ?_
      refine wl_v hfr (by decide) (v_load_blk1 (hst.get (k := 0) rfl) rfl (Try.isAgg3 _) rfl) fun a hfr => ?_
      refine wl_v hfr (by decide) (v_indexAddr (v := .pointer (some ⟨w2.heap.size, 2, none⟩)) rfl rfl (by kernel_rfl)) fun a hfr => ?_
      refine wl_v hfr (by decide) (v_load_blk1 (hst.get (k := 0) rfl) rfl (Try.isAgg3 _) rfl) fun a hfr => ?_
      refine wl_v hfr (by decide) (v_indexAddr (v := .pointer (some ⟨w2.heap.size, 3, none⟩)) rfl rfl (by kernel_rfl)) fun a hfr => ?_
      refine wl_v hfr (by decide) (v_load_blk1 (hst.get (k := 0) rfl) rfl (Try.isAgg3 _) rfl) fun a hfr => ?_
      refine wl_v hfr (by decide) (v_build (v := .agg #[.int .i64 (1 + (pick x0 86400)), .int .i64 (1 + (pick x1 12)), .int .i64 (1 + (pick x2 86400)), .int .i64 (1 + (pick x3 12))]) rfl (by kernel_rfl)) fun a hfr => ?_
      refine wl_store 1 hfr hst rfl rfl rfl (Try.sizeOf29 _) rfl (Nat.le_of_ble_eq_true rfl) (ds := [.int .i64 (1 + (pick x0 86400)), .int .i64 (1 + (pick x1 12)), .int .i64 (1 + (pick x2 86400)), .int .i64 (1 + (pick x3 12))]) rfl rfl fun a w44 hfr hst => ?_
      refine wl_nil (hK57 _ _ ?_)
      have hfr : Fr 38 [(0, _), (1, _), (2, _), (3, _), (16, _), (17, _), (18, _), (19, _), (20, _), (21, _), (7, _), (8, _), (4, _), (5, _), (6, _)] [] a := hfr.pick [0, 1, 2, 3, 16, 17, 18, 19, 20, 21, 7, 8, 4, 5, 6]
      refine wc_ret ?_
      refine fin_ret hfr Try.results34 (resAre_cell rfl (res_all (hst.get (k := 1) rfl) (Try.isAgg29 _) (Try.sizeOf29 _)) resAre_nil) ?_
      exact ⟨by simp only [retv, mkRul, mkRule, Rul.val, hc1, hc2, hc6, hc7]; simp, hst.ext⟩
    rw [hc6] at hfr
    try simp only [Bool.not_eq_true', Bool.not_eq_false', decide_eq_true_eq, decide_eq_false_iff_not] at hc6
    refine wc_skip ?_
    refine hK44 _ _ ?_
    refine wc_region ?_
    refine wl_v hfr (by decide) (v_move rfl) fun a hfr => ?_
    refine wl_v hfr (by decide) ((v_add rfl rfl (by decide)).asi (m' := 3) rfl) fun a hfr => ?_
    refine wl_v hfr (by decide) (v_assign rfl) fun a hfr => ?_
    refine wl_nil ?_
    refine wr_succ ?_
    refine wc_seq_k fun K58 hK58 => ?_
    refine wc_seq_region fun K59 hK59 => ?_
    refine wl_v hfr (by decide) (v_move rfl) fun a hfr => ?_
    refine wl_v hfr (by decide) ((v_lt rfl rfl).asb (b' := true) rfl) fun a hfr => ?_
    refine wl_nil (hK59 _ _ ?_)
    refine wc_cond_t hfr rfl ?_
    refine wc_skip ?_
    refine hK58 _ _ ?_
    refine wc_seq_k fun K60 hK60 => ?_
    refine wc_block ?_
    refine wc_seq_region fun K61 hK61 => ?_
    refine wl_v hfr (by decide) (v_move rfl) fun a hfr => ?_
    refine wl_v hfr (by decide) (v_move rfl) fun a hfr => ?_
    refine wl_v hfr (by decide) (v_indexAddr (v := .pointer (some ⟨w0.heap.size, 3, none⟩)) rfl rfl (by kernel_rfl)) fun a hfr => ?_
    refine wl_v hfr (by decide) (v_load_blk1 (hst.get (k := 2) rfl) rfl (Try.isAgg3 _) rfl) fun a hfr => ?_
    refine wl_callp hfr hst (by decide) Try.call35 rfl (pickr16_ok _ _ _ (by omega) (by omega) (by omega) (by omega)) fun a w45 hfr hst => ?_
    refine wl_v hfr (by decide) (v_add rfl rfl ⟨by omega, by omega⟩) fun a hfr => ?_
    refine wl_v hfr (by decide) (v_indexAddr (v := .pointer (some ⟨w2.heap.size, 3, none⟩)) rfl rfl (by kernel_rfl)) fun a hfr => ?_
    refine wl_store 0 hfr hst rfl rfl rfl (Try.sizeOf3 _) rfl (Nat.le_of_ble_eq_true rfl) (ds := [.int .i64 (1 + (pick x0 86400)), .int .i64 (1 + (pick x1 12)), .int .i64 (1 + (pick x2 12)), .int .i64 (1 + (pick x3 12))]) rfl rfl fun a w46 hfr hst => ?_
    refine wl_nil (hK61 _ _ ?_)
    have hfr : Fr 38 [(0, _), (1, _), (2, _), (3, _), (16, _), (17, _), (18, _), (19, _), (20, _), (21, _), (7, _), (8, _), (4, _), (5, _), (6, _)] [] a := hfr.pick [0, 1, 2, 3, 16, 17, 18, 19, 20, 21, 7, 8, 4, 5, 6]
    refine wc_seq_region fun K62 hK62 => ?_
    refine wl_v hfr (by decide) (v_move rfl) fun a hfr => ?_
    refine wl_v hfr (by decide) (v_indexAddr (v := .pointer (some ⟨w0.heap.size, 3, none⟩)) rfl rfl (by kernel_rfl)) fun a hfr => ?_
    refine wl_v hfr (by decide) (v_load_blk1 (hst.get (k := 2) rfl) rfl (Try.isAgg3 _) rfl) fun a hfr => ?_
    refine wl_v hfr (by decide) (v_quo' rfl rfl (by omega) ⟨by omega, by omega⟩) fun a hfr => ?_
    refine wl_callp hfr hst (by decide) Try.call35 rfl (pickr16_ok _ _ _ (by omega) (by omega) (by omega) (by omega)) fun a w47 hfr hst => ?_
    refine wl_v hfr (by decide) (v_eq rfl rfl) fun a hfr => ?_
    refine wl_nil (hK62 _ _ ?_)
    refine wc_cond hfr rfl (fun hc8 => ?_) (fun hc8 => ?_)
    · rw [hc8] at hfr
      try simp only [Bool.not_eq_true', Bool.not_eq_false', decide_eq_true_eq, decide_eq_false_iff_not] at hc8
      refine wc_region ?_
      refine wl_v hfr (by decide) (v_move rfl) fun a hfr => ?_
      refine wl_v hfr (by decide) (v_move rfl) fun a hfr => ?_
      refine wl_v hfr (by decide) (v_indexAddr (v := .pointer (some ⟨w0.heap.size, 3, none⟩)) rfl rfl (by kernel_rfl)) fun a hfr => ?_
      refine wl_v hfr (by decide) (v_load_blk1 (hst.get (k := 2) rfl) rfl (Try.isAgg3 _) rfl) fun a hfr => ?_
      refine wl_callp hfr hst (by decide) Try.call35 rfl (pickr16_ok _ _ _ (by omega) (by omega) (by omega) (by omega)) fun a w48 hfr hst => ?_
      refine wl_v hfr (by decide) (v_add rfl rfl ⟨by omega, by omega⟩) fun a hfr => ?_
      refine wl_v hfr (by decide) (v_indexAddr (v := .pointer (some ⟨w2.heap.size, 3, none⟩)) rfl rfl (by kernel_rfl)) fun a hfr => ?_
      refine wl_store 0 hfr hst rfl rfl rfl (Try.sizeOf3 _) rfl (Nat.le_of_ble_eq_true rfl) (ds := [.int .i64 (1 + (pick x0 86400)), .int .i64 (1 + (pick x1 12)), .int .i64 (1 + (pick x2 12)), .int .i64 (1 + (pick x3 86400))]) rfl rfl fun a w49 hfr hst => ?_
      refine wl_nil ?_
      refine hK60 _ _ ?_
      have hfr : Fr 38 [(0, _), (1, _), (2, _), (3, _), (7, _), (8, _), (4, _), (5, _), (6, _), (16, _), (17, _), (18, _), (19, _), (20, _), (21, _)] [] a := hfr.pick [0, 1, 2, 3, 7, 8, 4, 5, 6, 16, 17, 18, 19, 20, 21]
      refine wc_region ?_
      refine wl_v hfr (by decide) (v_move rfl) fun a hfr => ?_
      refine wl_v hfr (by decide) ((v_add rfl rfl (by decide)).asi (m' := 4) rfl) fun a hfr => ?_
      refine wl_v hfr (by decide) (v_assign rfl) fun a hfr => ?_
      refine wl_nil ?_
      refine wr_succ ?_
      refine wc_seq_k fun K63 hK63 => ?_
      refine wc_seq_region fun K64 hK64 => ?_
      refine wl_v hfr (by decide) (v_move rfl) fun a hfr => ?_
      refine wl_v hfr (by decide) ((v_lt rfl rfl).asb (b' := false) rfl) fun a hfr => ?_
      refine wl_nil (hK64 _ _ ?_)
      refine wc_cond_f hfr rfl ?_
      refine wc_exit ?_
      refine hK3 _ _ ?_
      refine wc_seq_region fun K65 hK65 => ?_
      refine wl_v hfr (by decide) (v_indexAddr (v := .pointer (some ⟨w2.heap.size, 0, none⟩)) rfl rfl (by kernel_rfl)) fun a hfr => ?_
      refine wl_v hfr (by decide) (v_load_blk1 (hst.get (k := 0) rfl) rfl (Try.isAgg3 _) rfl) fun a hfr => ?_
      refine wl_v hfr (by decide) (v_indexAddr (v := .pointer (some ⟨w2.heap.size, 1, none⟩)) rfl rfl (by kernel_rfl)) fun a hfr => ?_
      refine wl_v hfr (by decide) (v_load_blk1 (hst.get (k := 0) rfl) rfl (Try.isAgg3 _) rfl) fun a hfr => ?_
      refine wl_v hfr (by decide) (v_indexAddr (v := .pointer (some ⟨w2.heap.size, 2, none⟩)) rfl rfl (by kernel_rfl)) fun a hfr => ?_
      refine wl_v hfr (by decide) (v_load_blk1 (hst.get (k := 0) rfl) rfl (Try.isAgg3 _) rfl) fun a hfr => ?_
      refine wl_v hfr (by decide) (v_indexAddr (v := .pointer (some ⟨w2.heap.size, 3, none⟩)) rfl rfl (by kernel_rfl)) fun a hfr => ?_
      refine wl_v hfr (by decide) (v_load_blk1 (hst.get (k := 0) rfl) rfl (Try.isAgg3 _) rfl) fun a hfr => ?_
      refine wl_v hfr (by decide) (v_build (v := .agg #[.int .i64 (1 + (pick x0 86400)), .int .i64 (1 + (pick x1 12)), .int .i64 (1 + (pick x2 12)), .int .i64 (1 + (pick x3 86400))]) rfl (by kernel_rfl)) fun a hfr => ?_
      refine wl_store 1 hfr hst rfl rfl rfl (Try.sizeOf29 _) rfl (Nat.le_of_ble_eq_true rfl) (ds := [.int .i64 (1 + (pick x0 86400)), .int .i64 (1 + (pick x1 12)), .int .i64 (1 + (pick x2 12)), .int .i64 (1 + (pick x3 86400))]) rfl rfl fun a w50 hfr hst => ?_
      refine wl_nil (hK65 _ _ ?_)
      have hfr : Fr 38 [(0, _), (1, _), (2, _), (3, _), (16, _), (17, _), (18, _), (19, _), (20, _), (21, _), (7, _), (8, _), (4, _), (5, _), (6, _)] [] a := hfr.pick [0, 1, 2, 3, 16, 17, 18, 19, 20, 21, 7, 8, 4, 5, 6]
      refine wc_ret ?_
      refine fin_ret hfr Try.results34 (resAre_cell rfl (res_all (hst.get (k := 1) rfl) (Try.isAgg29 _) (Try.sizeOf29 _)) resAre_nil) ?_
      exact ⟨by simp only [retv, mkRul, mkRule, Rul.val, hc1, hc2, hc6, hc8]; simp, hst.ext⟩
    rw [hc8] at hfr
    try simp only [Bool.not_eq_true', Bool.not_eq_false', decide_eq_true_eq, decide_eq_false_iff_not] at hc8
    refine wc_skip ?_
    refine hK60 _ _ ?_
    refine wc_region ?_
    refine wl_v hfr (by decide) (v_move rfl) fun a hfr => ?_
    refine wl_v hfr (by decide) ((v_add rfl rfl (by decide)).asi (m' := 4) rfl) fun a hfr => ?_
    refine wl_v hfr (by decide) (v_assign rfl) fun a hfr => ?_
    refine wl_nil ?_
    refine wr_succ ?_
    refine wc_seq_k fun K66 hK66 => ?_
    refine wc_seq_region fun K67 hK67 => ?_
    refine wl_v hfr (by decide) (v_move rfl) fun a hfr => ?_
    refine wl_v hfr (by decide) ((v_lt rfl rfl).asb (b' := false) rfl) fun a hfr => ?_
    refine wl_nil (hK67 _ _ ?_)
    refine wc_cond_f hfr rfl ?_
    refine wc_exit ?_
    refine hK3 _ _ ?_
    refine wc_seq_region fun K68 hK68 => ?_
    refine wl_v hfr (by decide) (v_indexAddr (v := .pointer (some ⟨w2.heap.size, 0, none⟩)) rfl rfl (by kernel_rfl)) fun a hfr => ?_
    refine wl_v hfr (by decide) (v_load_blk1 (hst.get (k := 0) rfl) rfl (Try.isAgg3 _) rfl) fun a hfr => ?_
    refine wl_v hfr (by decide) (v_indexAddr (v := .pointer (some ⟨w2.heap.size, 1, none⟩)) rfl rfl (by kernel_rfl)) fun a hfr => ?_
    refine wl_v hfr (by decide) (v_load_blk1 (hst.get (k := 0) rfl) rfl (Try.isAgg3 _) rfl) fun a hfr => ?_
    refine wl_v hfr (by decide) (v_indexAddr (v := .pointer (some ⟨w2.heap.size, 2, none⟩)) rfl rfl (by kernel_rfl)) fun a hfr => ?_
    refine wl_v hfr (by decide) (v_load_blk1 (hst.get (k := 0) rfl) rfl (Try.isAgg3 _) rfl) fun a hfr => ?_
    refine wl_v hfr (by decide) (v_indexAddr (v := .pointer (some ⟨w2.heap.size, 3, none⟩)) rfl rfl (by kernel_rfl)) fun a hfr => ?_
    refine wl_v hfr (by decide) (v_load_blk1 (hst.get (k := 0) rfl) rfl (Try.isAgg3 _) rfl) fun a hfr => ?_
    refine wl_v hfr (by decide) (v_build (v := .agg #[.int .i64 (1 + (pick x0 86400)), .int .i64 (1 + (pick x1 12)), .int .i64 (1 + (pick x2 12)), .int .i64 (1 + (pick x3 12))]) rfl (by kernel_rfl)) fun a hfr => ?_
    refine wl_store 1 hfr hst rfl rfl rfl (Try.sizeOf29 _) rfl (Nat.le_of_ble_eq_true rfl) (ds := [.int .i64 (1 + (pick x0 86400)), .int .i64 (1 + (pick x1 12)), .int .i64 (1 + (pick x2 12)), .int .i64 (1 + (pick x3 12))]) rfl rfl fun a w51 hfr hst => ?_
    refine wl_nil (hK68 _ _ ?_)
    have hfr : Fr 38 [(0, _), (1, _), (2, _), (3, _), (16, _), (17, _), (18, _), (19, _), (20, _), (21, _), (7, _), (8, _), (4, _), (5, _), (6, _)] [] a := hfr.pick [0, 1, 2, 3, 16, 17, 18, 19, 20, 21, 7, 8, 4, 5, 6]
    refine wc_ret ?_
    refine fin_ret hfr Try.results34 (resAre_cell rfl (res_all (hst.get (k := 1) rfl) (Try.isAgg29 _) (Try.sizeOf29 _)) resAre_nil) ?_
    exact ⟨by simp only [retv, mkRul, mkRule, Rul.val, hc1, hc2, hc6, hc8]; simp, hst.ext⟩
  rw [hc1] at hfr
  try simp only [Bool.not_eq_true', Bool.not_eq_false', decide_eq_true_eq, decide_eq_false_iff_not] at hc1
  refine wc_skip ?_
  refine hK7 _ _ ?_
  refine wc_region ?_
  refine wl_v hfr (by decide) (v_move rfl) fun a hfr => ?_
  refine wl_v hfr (by decide) ((v_add rfl rfl (by decide)).asi (m' := 1) rfl) fun a hfr => ?_
  refine wl_v hfr (by decide) (v_assign rfl) fun a hfr => ?_
  refine wl_nil ?_
  refine wr_succ ?_
  refine wc_seq_k fun K69 hK69 => ?_
  refine wc_seq_region fun K70 hK70 => ?_
  refine wl_v hfr (by decide) (v_move rfl) fun a hfr => ?_
  refine wl_v hfr (by decide) ((v_lt rfl rfl).asb (b' := true) rfl) fun a hfr => ?_
  refine wl_nil (hK70 _ _ ?_)
  refine wc_cond_t hfr rfl ?_
  refine wc_skip ?_
  refine hK69 _ _ ?_
  refine wc_seq_k fun K71 hK71 => ?_
  refine wc_block ?_
  refine wc_seq_region fun K72 hK72 => ?_
  refine wl_v hfr (by decide) (v_move rfl) fun a hfr => ?_
  refine wl_v hfr (by decide) (v_move rfl) fun a hfr => ?_
  refine wl_v hfr (by decide) (v_indexAddr (v := .pointer (some ⟨w0.heap.size, 1, none⟩)) rfl rfl (by kernel_rfl)) fun a hfr => ?_
  refine wl_v hfr (by decide) (v_load_blk1 (hst.get (k := 2) rfl) rfl (Try.isAgg3 _) rfl) fun a hfr => ?_
  refine wl_callp hfr hst (by decide) Try.call35 rfl (pickr16_ok _ _ _ (by omega) (by omega) (by omega) (by omega)) fun a w52 hfr hst => ?_
  refine wl_v hfr (by decide) (v_add rfl rfl ⟨by omega, by omega⟩) fun a hfr => ?_
  refine wl_v hfr (by decide) (v_indexAddr (v := .pointer (some ⟨w2.heap.size, 1, none⟩)) rfl rfl (by kernel_rfl)) fun a hfr => ?_
  refine wl_store 0 hfr hst rfl rfl rfl (Try.sizeOf3 _) rfl (Nat.le_of_ble_eq_true rfl) (ds := [.int .i64 (1 + (pick x0 12)), .int .i64 (1 + (pick x1 12)), .int .i64 0, .int .i64 0]) rfl rfl fun a w53 hfr hst => ?_
  refine wl_nil (hK72 _ _ ?_)
  have hfr : Fr 38 [(0, _), (1, _), (2, _), (3, _), (16, _), (17, _), (18, _), (19, _), (20, _), (21, _), (7, _), (8, _), (4, _), (5, _), (6, _)] [] a := hfr.pick [0, 1, 2, 3, 16, 17, 18, 19, 20, 21, 7, 8, 4, 5, 6]
  refine wc_seq_region fun K73 hK73 => ?_
  refine wl_v hfr (by decide) (v_move rfl) fun a hfr => ?_
  refine wl_v hfr (by decide) (v_indexAddr (v := .pointer (some ⟨w0.heap.size, 1, none⟩)) rfl rfl (by kernel_rfl)) fun a hfr => ?_
  refine wl_v hfr (by decide) (v_load_blk1 (hst.get (k := 2) rfl) rfl (Try.isAgg3 _) rfl) fun a hfr => ?_
  refine wl_v hfr (by decide) (v_quo' rfl rfl (by omega) ⟨by omega, by omega⟩) fun a hfr => ?_
  refine wl_callp hfr hst (by decide) Try.call35 rfl (pickr16_ok _ _ _ (by omega) (by omega) (by omega) (by omega)) fun a w54 hfr hst => ?_
  refine wl_v hfr (by decide) (v_eq rfl rfl) fun a hfr => ?_
  refine wl_nil (hK73 _ _ ?_)
  refine wc_cond hfr rfl (fun hc9 => ?_) (fun hc9 => ?_)
  · rw [hc9] at hfr
    try simp only [Bool.not_eq_true', Bool.not_eq_false', decide_eq_true_eq, decide_eq_false_iff_not] at hc9
    refine wc_region ?_
    refine wl_v hfr (by decide) (v_move rfl) fun a hfr => ?_
    refine wl_v hfr (by decide) (v_move rfl) fun a hfr => ?_
    refine wl_v hfr (by decide) (v_indexAddr (v := .pointer (some ⟨w0.heap.size, 1, none⟩)) rfl rfl (by kernel_rfl)) fun a hfr => ?_
    refine wl_v hfr (by decide) (v_load_blk1 (hst.get (k := 2) rfl) rfl (Try.isAgg3 _) rfl) fun a hfr => ?_
    refine wl_callp hfr hst (by decide) Try.call35 rfl (pickr16_ok _ _ _ (by omega) (by omega) (by omega) (by omega)) fun a w55 hfr hst => ?_
    refine wl_v hfr (by decide) (v_add rfl rfl ⟨by omega, by omega⟩) fun a hfr => ?_
    refine wl_v hfr (by decide) (v_indexAddr (v := .pointer (some ⟨w2.heap.size, 1, none⟩)) rfl rfl (by kernel_rfl)) fun a hfr => ?_
    refine wl_store 0 hfr hst rfl rfl rfl (Try.sizeOf3 _) rfl (Nat.le_of_ble_eq_true rfl) (ds := [.int .i64 (1 + (pick x0 12)), .int .i64 (1 + (pick x1 86400)), .int .i64 0, .int .i64 0]) rfl rfl fun a w56 hfr hst => ?_
    refine wl_nil ?_
    refine hK71 _ _ ?_
    have hfr : Fr 38 [(0, _), (1, _), (2, _), (3, _), (7, _), (8, _), (4, _), (5, _), (6, _), (16, _), (17, _), (18, _), (19, _), (20, _), (21, _)] [] a := hfr.pick [0, 1, 2, 3, 7, 8, 4, 5, 6, 16, 17, 18, 19, 20, 21]
    refine wc_region ?_
    refine wl_v hfr (by decide) (v_move rfl) fun a hfr => ?_
    refine wl_v hfr (by decide) ((v_add rfl rfl (by decide)).asi (m' := 2) rfl) fun a hfr => ?_
    refine wl_v hfr (by decide) (v_assign rfl) fun a hfr => ?_
    refine wl_nil ?_
    refine wr_succ ?_
    refine wc_seq_k fun K74 hK74 => ?_
    refine wc_seq_region fun K75 hK75 => ?_
    refine wl_v hfr (by decide) (v_move rfl) fun a hfr => ?_
    refine wl_v hfr (by decide) ((v_lt rfl rfl).asb (b' := true) rfl) fun a hfr => ?_
    refine wl_nil (hK75 _ _ ?_)
    refine wc_cond_t hfr rfl ?_
    refine wc_skip ?_
    refine hK74 _ _ ?_
    refine wc_seq_k fun K76 hK76 => ?_
    refine wc_block ?_
    refine wc_seq_region fun K77 hK77 => ?_
    refine wl_v hfr (by decide) (v_move rfl) fun a hfr => ?_
    refine wl_v hfr (by decide) (v_move rfl) fun a hfr => ?_
    refine wl_v hfr (by decide) (v_indexAddr (v := .pointer (some ⟨w0.heap.size, 2, none⟩)) rfl rfl (by kernel_rfl)) fun a hfr => ?_
    refine wl_v hfr (by decide) (v_load_blk1 (hst.get (k := 2) rfl) rfl (Try.isAgg3 _) rfl) fun a hfr => ?_
    refine wl_callp hfr hst (by decide) Try.call35 rfl (pickr16_ok _ _ _ (by omega) (by omega) (by omega) (by omega)) fun a w57 hfr hst => ?_
    refine wl_v hfr (by decide) (v_add rfl rfl ⟨by omega, by omega⟩) fun a hfr => ?_
    refine wl_v hfr (by decide) (v_indexAddr (v := .pointer (some ⟨w2.heap.size, 2, none⟩)) rfl rfl (by kernel_rfl)) fun a hfr => ?_
    refine wl_store 0 hfr hst rfl rfl rfl (Try.sizeOf3 _) rfl (Nat.le_of_ble_eq_true rfl) (ds := [.int .i64 (1 + (pick x0 12)), .int .i64 (1 + (pick x1 86400)), .int .i64 (1 + (pick x2 12)), .int .i64 0]) rfl rfl fun a w58 hfr hst => ?_
    refine wl_nil (hK77 _ _ ?_)
    have hfr : Fr 38 [(0, _), (1, _), (2, _), (3, _), (16, _), (17, _), (18, _), (19, _), (20, _), (21, _), (7, _), (8, _), (4, _), (5, _), (6, _)] [] a := hfr.pick [0, 1, 2, 3, 16, 17, 18, 19, 20, 21, 7, 8, 4, 5, 6]
    refine wc_seq_region fun K78 hK78 => ?_
    refine wl_v hfr (by decide) (v_move rfl) fun a hfr => ?_
    refine wl_v hfr (by decide) (v_indexAddr (v := .pointer (some ⟨w0.heap.size, 2, none⟩)) rfl rfl (by kernel_rfl)) fun a hfr => ?_
    refine wl_v hfr (by decide) (v_load_blk1 (hst.get (k := 2) rfl) rfl (Try.isAgg3 _) rfl) fun a hfr => ?_
    refine wl_v hfr (by decide) (v_quo' rfl rfl (by omega) ⟨by omega, by omega⟩) fun a hfr => ?_
    refine wl_callp hfr hst (by decide) Try.call35 rfl (pickr16_ok _ _ _ (by omega) (by omega) (by omega) (by omega)) fun a w59 hfr hst => ?_
    refine wl_v hfr (by decide) (v_eq rfl rfl) fun a hfr => ?_
    refine wl_nil (hK78 _ _ ?_)
    refine wc_cond hfr rfl (fun hc10 => ?_) (fun hc10 => ?_)
    · rw [hc10] at hfr
      try simp only [Bool.not_eq_true', Bool.not_eq_false', decide_eq_true_eq, decide_eq_false_iff_not] at hc10
      refine wc_region ?_
      refine wl_v hfr (by decide) (v_move rfl) fun a hfr => ?_
      refine wl_v hfr (by decide) (v_move rfl) fun a hfr => ?_
      refine wl_v hfr (by decide) (v_indexAddr (v := .pointer (some ⟨w0.heap.size, 2, none⟩)) rfl rfl (by kernel_rfl)) fun a hfr => ?_
      refine wl_v hfr (by decide) (v_load_blk1 (hst.get (k := 2) rfl) rfl (Try.isAgg3 _) rfl) fun a hfr => ?_
      refine wl_callp hfr hst (by decide) Try.call35 rfl (pickr16_ok _ _ _ (by omega) (by omega) (by omega) (by omega)) fun a w60 hfr hst => ?_
      refine wl_v hfr (by decide) (v_add rfl rfl ⟨by omega, by omega⟩) fun a hfr => ?_
      refine wl_v hfr (by decide) (v_indexAddr (v := .pointer (some ⟨w2.heap.size, 2, none⟩)) rfl rfl (by kernel_rfl)) fun a hfr => ?_
      refine wl_store 0 hfr hst rfl rfl rfl (Try.sizeOf3 _) rfl (Nat.le_of_ble_eq_true rfl) (ds := [.int .i64 (1 + (pick x0 12)), .int .i64 (1 + (pick x1 86400)), .int .i64 (1 + (pick x2 86400)), .int .i64 0]) rfl rfl fun a w61 hfr hst => ?_
      refine wl_nil ?_
      refine hK76 _ _ ?_
      have hfr : Fr 38 [(0, _), (1, _), (2, _), (3, _), (7, _), (8, _), (4, _), (5, _), (6, _), (16, _), (17, _), (18, _), (19, _), (20, _), (21, _)] [] a := hfr.pick [0, 1, 2, 3, 7, 8, 4, 5, 6, 16, 17, 18, 19, 20, 21]
      refine wc_region ?_
      refine wl_v hfr (by decide) (v_move rfl) fun a hfr => ?_
      refine wl_v hfr (by decide) ((v_add rfl rfl (by decide)).asi (m' := 3) rfl) fun a hfr => ?_
      refine wl_v hfr (by decide) (v_assign rfl) fun a hfr => ?_
      refine wl_nil ?_
      refine wr_succ ?_
      refine wc_seq_k fun K79 hK79 => ?_
      refine wc_seq_region fun K80 hK80 => ?_
      refine wl_v hfr (by decide) (v_move rfl) fun a hfr => ?_
      refine wl_v hfr (by decide) ((v_lt rfl rfl).asb (b' := true) rfl) fun a hfr => ?_
      refine wl_nil (hK80 _ _ ?_)
      refine wc_cond_t hfr rfl ?_
      refine wc_skip ?_
      refine hK79 _ _ ?_
      refine wc_seq_k fun K81 hK81 => ?_
      refine wc_block ?_
      refine wc_seq_region fun K82 hK82 => ?_
      refine wl_v hfr (by decide) (v_move rfl) fun a hfr => ?_
      refine wl_v hfr (by decide) (v_move rfl) fun a hfr => ?_
      refine wl_v hfr (by decide) (v_indexAddr (v := .pointer (some ⟨w0.heap.size, 3, none⟩)) rfl rfl (by kernel_rfl)) fun a hfr => ?_
      refine wl_v hfr (by decide) (v_load_blk1 (hst.get (k := 2) rfl) rfl (Try.isAgg3 _) rfl) fun a hfr => ?_
      refine wl_callp hfr hst (by decide) Try.call35 rfl (pickr16_ok _ _ _ (by omega) (by omega) (by omega) (by omega)) fun a w62 hfr hst => ?_
      refine wl_v hfr (by decide) (v_add rfl rfl ⟨by omega, by omega⟩) fun a hfr => ?_
      refine wl_v hfr (by decide) (v_indexAddr (v := .pointer (some ⟨w2.heap.size, 3, none⟩)) rfl rfl (by kernel_rfl)) fun a hfr => ?_
      refine wl_store 0 hfr hst rfl rfl rfl (Try.sizeOf3 _) rfl (Nat.le_of_ble_eq_true rfl) (ds := [.int .i64 (1 + (pick x0 12)), .int .i64 (1 + (pick x1 86400)), .int .i64 (1 + (pick x2 86400)), .int .i64 (1 + (pick x3 12))]) rfl rfl fun a w63 hfr hst => ?_
      refine wl_nil (hK82 _ _ ?_)
      have hfr : Fr 38 [(0, _), (1, _), (2, _), (3, _), (16, _), (17, _), (18, _), (19, _), (20, _), (21, _), (7, _), (8, _), (4, _), (5, _), (6, _)] [] a := hfr.pick [0, 1, 2, 3, 16, 17, 18, 19, 20, 21, 7, 8, 4, 5, 6]
      refine wc_seq_region fun K83 hK83 => ?_
      refine wl_v hfr (by decide) (v_move rfl) fun a hfr => ?_
      refine wl_v hfr (by decide) (v_indexAddr (v := .pointer (some ⟨w0.heap.size, 3, none⟩)) rfl rfl (by kernel_rfl)) fun a hfr => ?_
      refine wl_v hfr (by decide) (v_load_blk1 (hst.get (k := 2) rfl) rfl (Try.isAgg3 _) rfl) fun a hfr => ?_
      refine wl_v hfr (by decide) (v_quo' rfl rfl (by omega) ⟨by omega, by omega⟩) fun a hfr => ?_
      refine wl_callp hfr hst (by decide) Try.call35 rfl (pickr16_ok _ _ _ (by omega) (by omega) (by omega) (by omega)) fun a w64 hfr hst => ?_
      refine wl_v hfr (by decide) (v_eq rfl rfl) fun a hfr => ?_
      refine wl_nil (hK83 _ _ ?_)
      refine wc_cond hfr rfl (fun hc11 => ?_) (fun hc11 => ?_)
      · rw [hc11] at hfr
        try simp only [Bool.not_eq_true', Bool.not_eq_false', decide_eq_true_eq, decide_eq_false_iff_not] at hc11
        refine wc_region ?_
        refine wl_v hfr (by decide) (v_move rfl) fun a hfr => ?_
        refine wl_v hfr (by decide) (v_move rfl) fun a hfr => ?_
        refine wl_v hfr (by decide) (v_indexAddr (v := .pointer (some ⟨w0.heap.size, 3, none⟩)) rfl rfl (by kernel_rfl)) fun a hfr => ?_
        refine wl_v hfr (by decide) (v_load_blk1 (hst.get (k := 2) rfl) rfl (Try.isAgg3 _) rfl) fun a hfr => ?_
        refine wl_callp hfr hst (by decide) Try.call35 rfl (pickr16_ok _ _ _ (by omega) (by omega) (by omega) (by omega)) fun a w65 hfr hst => ?_
        refine wl_v hfr (by decide) (v_add rfl rfl ⟨by omega, by omega⟩) fun a hfr => ?_
        refine wl_v hfr (by decide) (v_indexAddr (v := .pointer (some ⟨w2.heap.size, 3, none⟩)) rfl rfl (by kernel_rfl)) fun a hfr => ?_
        refine wl_store 0 hfr hst rfl rfl rfl (Try.sizeOf3 _) rfl (Nat.le_of_ble_eq_true rfl) (ds := [.int .i64 (1 + (pick x0 12)), .int .i64 (1 + (pick x1 86400)), .int .i64 (1 + (pick x2 86400)), .int .i64 (1 + (pick x3 86400))]) rfl rfl fun a w66 hfr hst => ?_
        refine wl_nil ?_
        refine hK81 _ _ ?_
        have hfr : Fr 38 [(0, _), (1, _), (2, _), (3, _), (7, _), (8, _), (4, _), (5, _), (6, _), (16, _), (17, _), (18, _), (19, _), (20, _), (21, _)] [] a := hfr.pick [0, 1, 2, 3, 7, 8, 4, 5, 6, 16, 17, 18, 19, 20, 21]
        refine wc_region ?_
        refine wl_v hfr (by decide) (v_move rfl) fun a hfr => ?_
        refine wl_v hfr (by decide) ((v_add rfl rfl (by decide)).asi (m' := 4) rfl) fun a hfr => ?_
        refine wl_v hfr (by decide) (v_assign rfl) fun a hfr => ?_
        refine wl_nil ?_
        refine wr_succ ?_
        refine wc_seq_k fun K84 hK84 => ?_
        refine wc_seq_region fun K85 hK85 => ?_
        refine wl_v hfr (by decide) (v_move rfl) fun a hfr => ?_
        refine wl_v hfr (by decide) ((v_lt rfl rfl).asb (b' := false) rfl) fun a hfr => ?_
        refine wl_nil (hK85 _ _ ?_)
        refine wc_cond_f hfr rfl ?_
        refine wc_exit ?_
        refine hK3 _ _ ?_
        refine wc_seq_region fun K86 hK86 => ?_
        refine wl_v hfr (by decide) (v_indexAddr (v := .pointer (some ⟨w2.heap.size, 0, none⟩)) rfl rfl (by kernel_rfl)) fun a hfr => ?_
        refine wl_v hfr (by decide) (v_load_blk1 (hst.get (k := 0) rfl) rfl (Try.isAgg3 _) rfl) fun a hfr => ?_
        refine wl_v hfr (by decide) (v_indexAddr (v := .pointer (some ⟨w2.heap.size, 1, none⟩)) rfl rfl (by kernel_rfl)) fun a hfr => ?_
        refine wl_v hfr (by decide) (v_load_blk1 (hst.get (k := 0) rfl) rfl (Try.isAgg3 _) rfl) fun a hfr => ?_
        refine wl_v hfr (by decide) (v_indexAddr (v := .pointer (some ⟨w2.heap.size, 2, none⟩)) rfl rfl (by kernel_rfl)) fun a hfr => ?_
        refine wl_v hfr (by decide) (v_load_blk1 (hst.get (k := 0) rfl) rfl (Try.isAgg3 _) rfl) fun a hfr => ?_
        refine wl_v hfr (by decide) (v_indexAddr (v := .pointer (some ⟨w2.heap.size, 3, none⟩)) rfl rfl (by kernel_rfl)) fun a hfr => ?_
        refine wl_v hfr (by decide) (v_load_blk1 (hst.get (k := 0) rfl) rfl (Try.isAgg3 _) rfl) fun a hfr => ?_
        refine wl_v hfr (by decide) (v_build (v := .agg #[.int .i64 (1 + (pick x0 12)), .int .i64 (1 + (pick x1 86400)), .int .i64 (1 + (pick x2 86400)), .int .i64 (1 + (pick x3 86400))]) rfl (by kernel_rfl)) fun a hfr => ?_
        refine wl_store 1 hfr hst rfl rfl rfl (Try.sizeOf29 _) rfl (Nat.le_of_ble_eq_true rfl) (ds := [.int .i64 (1 + (pick x0 12)), .int .i64 (1 + (pick x1 86400)), .int .i64 (1 + (pick x2 86400)), .int .i64 (1 + (pick x3 86400))]) rfl rfl fun a w67 hfr hst => ?_
        refine wl_nil (hK86 _ _ ?_)
        have hfr : Fr 38 [(0, _), (1, _), (2, _), (3, _), (16, _), (17, _), (18, _), (19, _), (20, _), (21, _), (7, _), (8, _), (4, _), (5, _), (6, _)] [] a := hfr.pick [0, 1, 2, 3, 16, 17, 18, 19, 20, 21, 7, 8, 4, 5, 6]
        refine wc_ret ?_
        refine fin_ret hfr Try.results34 (resAre_cell rfl (res_all (hst.get (k := 1) rfl) (Try.isAgg29 _) (Try.sizeOf29 _)) resAre_nil) ?_
        exact ⟨by simp only [retv, mkRul, mkRule, Rul.val, hc1, hc9, hc10, hc11]; simp, hst.ext⟩
      rw [hc11] at hfr
      try simp only [Bool.not_eq_true', Bool.not_eq_false', decide_eq_true_eq, decide_eq_false_iff_not] at hc11
      refine wc_skip ?_
      refine hK81 _ _ ?_
      refine wc_region ?_
      refine wl_v hfr (by decide) (v_move rfl) fun a hfr => ?_
      refine wl_v hfr (by decide) ((v_add rfl rfl (by decide)).asi (m' := 4) rfl) fun a hfr => ?_
      refine wl_v hfr (by decide) (v_assign rfl) fun a hfr => ?_
      refine wl_nil ?_
      refine wr_succ ?_
      refine wc_seq_k fun K87 hK87 => ?_
      refine wc_seq_region fun K88 hK88 => ?_
      refine wl_v hfr (by decide) (v_move rfl) fun a hfr => ?_
      refine wl_v hfr (by decide) ((v_lt rfl rfl).asb (b' := false) rfl) fun a hfr => ?_
      refine wl_nil (hK88 _ _ ?_)
      refine wc_cond_f hfr rfl ?_
      refine wc_exit ?_
      refine hK3 _ _ ?_
      refine wc_seq_region fun K89 hK89 => ?_
      refine wl_v hfr (by decide) (v_indexAddr (v := .pointer (some ⟨w2.heap.size, 0, none⟩)) rfl rfl (by kernel_rfl)) fun a hfr => ?_
      refine wl_v hfr (by decide) (v_load_blk1 (hst.get (k := 0) rfl) rfl (Try.isAgg3 _) rfl) fun a hfr => ?_
      refine wl_v hfr (by decide) (v_indexAddr (v := .pointer (some ⟨w2.heap.size, 1, none⟩)) rfl rfl (by kernel_rfl)) fun a hfr => ?_
      refine wl_v hfr (by decide) (v_load_blk1 (hst.get (k := 0) rfl) rfl (Try.isAgg3 _) rfl) fun a hfr => ?_
      refine wl_v hfr (by decide) (v_indexAddr (v := .pointer (some ⟨w2.heap.size, 2, none⟩)) rfl rfl (by kernel_rfl)) fun a hfr => ?_
      refine wl_v hfr (by decide) (v_load_blk1 (hst.get (k := 0) rfl) rfl (Try.isAgg3 _) rfl) fun a hfr => ?_
      refine wl_v hfr (by decide) (v_indexAddr (v := .pointer (some ⟨w2.heap.size, 3, none⟩)) rfl rfl (by kernel_rfl)) fun a hfr => ?_
      refine wl_v hfr (by decide) (v_load_blk1 (hst.get (k := 0) rfl) rfl (Try.isAgg3 _) rfl) fun a hfr => ?_
      refine wl_v hfr (by decide) (v_build (v := .agg #[.int .i64 (1 + (pick x0 12)), .int .i64 (1 + (pick x1 86400)), .int .i64 (1 + (pick x2 86400)), .int .i64 (1 + (pick x3 12))]) rfl (by kernel_rfl)) fun a hfr => ?_
      refine wl_store 1 hfr hst rfl rfl rfl (Try.sizeOf29 _) rfl (Nat.le_of_ble_eq_true rfl) (ds := [.int .i64 (1 + (pick x0 12)), .int .i64 (1 + (pick x1 86400)), .int .i64 (1 + (pick x2 86400)), .int .i64 (1 + (pick x3 12))]) rfl rfl fun a w68 hfr hst => ?_
      refine wl_nil (hK89 _ _ ?_)
      have hfr : Fr 38 [(0, _), (1, _), (2, _), (3, _), (16, _), (17, _), (18, _), (19, _), (20, _), (21, _), (7, _), (8, _), (4, _), (5, _), (6, _)] [] a := hfr.pick [0, 1, 2, 3, 16, 17, 18, 19, 20, 21, 7, 8, 4, 5, 6]
      refine wc_ret ?_
      refine fin_ret hfr Try.results34 (resAre_cell rfl (res_all (hst.get (k := 1) rfl) (Try.isAgg29 _) (Try.sizeOf29 _)) resAre_nil) ?_
      exact ⟨by simp only [retv, mkRul, mkRule, Rul.val, hc1, hc9, hc10, hc11]; simp, hst.ext⟩
    rw [hc10] at hfr
    try simp only [Bool.not_eq_true', Bool.not_eq_false', decide_eq_true_eq, decide_eq_false_iff_not] at hc10
    refine wc_skip ?_
    refine hK76 _ _ ?_
    refine wc_region ?_
    refine wl_v hfr (by decide) (v_move rfl) fun a hfr => ?_
    refine wl_v hfr (by decide) ((v_add rfl rfl (by decide)).asi (m' := 3) rfl) fun a hfr => ?_
    refine wl_v hfr (by decide) (v_assign rfl) fun a hfr => ?_
    refine wl_nil ?_
    refine wr_succ ?_
    refine wc_seq_k fun K90 hK90 => ?_
    refine wc_seq_region fun K91 hK91 => ?_
    refine wl_v hfr (by decide) (v_move rfl) fun a hfr => ?_
    refine wl_v hfr (by decide) ((v_lt rfl rfl).asb (b' := true) rfl) fun a hfr => ?_
    refine wl_nil (hK91 _ _ ?_)
    refine wc_cond_t hfr rfl ?_
    refine wc_skip ?_
    refine hK90 _ _ ?_
    refine wc_seq_k fun K92 hK92 => ?_
    refine wc_block ?_
    refine wc_seq_region fun K93 hK93 => ?_
    refine wl_v hfr (by decide) (v_move rfl) fun a hfr => ?_
    refine wl_v hfr (by decide) (v_move rfl) fun a hfr => ?_
    refine wl_v hfr (by decide) (v_indexAddr (v := .pointer (some ⟨w0.heap.size, 3, none⟩)) rfl rfl (by kernel_rfl)) fun a hfr => ?_
    refine wl_v hfr (by decide) (v_load_blk1 (hst.get (k := 2) rfl) rfl (Try.isAgg3 _) rfl) fun a hfr => ?_
    refine wl_callp hfr hst (by decide) Try.call35 rfl (pickr16_ok _ _ _ (by omega) (by omega) (by omega) (by omega)) fun a w69 hfr hst => ?_
    refine wl_v hfr (by decide) (v_add rfl rfl ⟨by omega, by omega⟩) fun a hfr => ?_
    refine wl_v hfr (by decide) (v_indexAddr (v := .pointer (some ⟨w2.heap.size, 3, none⟩)) rfl rfl (by kernel_rfl)) fun a hfr => ?_
    refine wl_store 0 hfr hst rfl rfl rfl (Try.sizeOf3 _) rfl (Nat.le_of_ble_eq_true rfl) (ds := [.int .i64 (1 + (pick x0 12)), .int .i64 (1 + (pick x1 86400)), .int .i64 (1 + (pick x2 12)), .int .i64 (1 + (pick x3 12))]) rfl rfl fun a w70 hfr hst => ?_
    refine wl_nil (hK93 _ _ ?_)
    have hfr : Fr 38 [(0, _), (1, _), (2, _), (3, _), (16, _), (17, _), (18, _), (19, _), (20, _), (21, _), (7, _), (8, _), (4, _), (5, _), (6, _)] [] a := hfr.pick [0, 1, 2, 3, 16, 17, 18, 19, 20, 21, 7, 8, 4, 5, 6]
    refine wc_seq_region fun K94 hK94 => ?_
    refine wl_v hfr (by decide) (v_move rfl) fun a hfr => ?_
    refine wl_v hfr (by decide) (v_indexAddr (v := .pointer (some ⟨w0.heap.size, 3, none⟩)) rfl rfl (by kernel_rfl)) fun a hfr => ?_
    refine wl_v hfr (by decide) (v_load_blk1 (hst.get (k := 2) rfl) rfl (Try.isAgg3 _) rfl) fun a hfr => ?_
    refine wl_v hfr (by decide) (v_quo' rfl rfl (by omega) ⟨by omega, by omega⟩) fun a hfr => ?_
    refine wl_callp hfr hst (by decide) Try.call35 rfl (pickr16_ok _ _ _ (by omega) (by omega) (by omega) (by omega)) fun a w71 hfr hst => ?_
    refine wl_v hfr (by decide) (v_eq rfl rfl) fun a hfr => ?_
    refine wl_nil (hK94 _ _ ?_)
    refine wc_cond hfr rfl (fun hc12 => ?_) (fun hc12 => ?_)
    · rw [hc12] at hfr
      try simp only [Bool.not_eq_true', Bool.not_eq_false', decide_eq_true_eq, decide_eq_false_iff_not] at hc12
      refine wc_region ?_
      refine wl_v hfr (by decide) (v_move rfl) fun a hfr => ?_
      refine wl_v hfr (by decide) (v_move rfl) fun a hfr => ?_
      refine wl_v hfr (by decide) (v_indexAddr (v := .pointer (some ⟨w0.heap.size, 3, none⟩)) rfl rfl (by kernel_rfl)) fun a hfr => ?_
      refine wl_v hfr (by decide) (v_load_blk1 (hst.get (k := 2) rfl) rfl (Try.isAgg3 _) rfl) fun a hfr => ?_
      refine wl_callp hfr hst (by decide) Try.call35 rfl (pickr16_ok _ _ _ (by omega) (by omega) (by omega) (by omega)) fun a w72 hfr hst => ?_
      refine wl_v hfr (by decide) (v_add rfl rfl ⟨by omega, by omega⟩) fun a hfr => ?_
      refine wl_v hfr (by decide) (v_indexAddr (v := .pointer (some ⟨w2.heap.size, 3, none⟩)) rfl rfl (by kernel_rfl)) fun a hfr => ?_
      refine wl_store 0 hfr hst rfl rfl rfl (Try.sizeOf3 _) rfl (Nat.le_of_ble_eq_true rfl) (ds := [.int .i64 (1 + (pick x0 12)), .int .i64 (1 + (pick x1 86400)), .int .i64 (1 + (pick x2 12)), .int .i64 (1 + (pick x3 86400))]) rfl rfl fun a w73 hfr hst => ?_
      refine wl_nil ?_
      refine hK92 _ _ ?_
      have hfr : Fr 38 [(0, _), (1, _), (2, _), (3, _), (7, _), (8, _), (4, _), (5, _), (6, _), (16, _), (17, _), (18, _), (19, _), (20, _), (21, _)] [] a := hfr.pick [0, 1, 2, 3, 7, 8, 4, 5, 6, 16, 17, 18, 19, 20, 21]
      refine wc_region ?_
      refine wl_v hfr (by decide) (v_move rfl) fun a hfr => ?_
      refine wl_v hfr (by decide) ((v_add rfl rfl (by decide)).asi (m' := 4) rfl) fun a hfr => ?_
      refine wl_v hfr (by decide) (v_assign rfl) fun a hfr => ?_
      refine wl_nil ?_
      refine wr_succ ?_
      refine wc_seq_k fun K95 hK95 => ?_
      refine wc_seq_region fun K96 hK96 => ?_
      refine wl_v hfr (by decide) (v_move rfl) fun a hfr => ?_
      refine wl_v hfr (by decide) ((v_lt rfl rfl).asb (b' := false) rfl) fun a hfr => ?_
      refine wl_nil (hK96 _ _ ?_)
      refine wc_cond_f hfr rfl ?_
      refine wc_exit ?_
      refine hK3 _ _ ?_
      refine wc_seq_region fun K97 hK97 => ?_
      refine wl_v hfr (by decide) (v_indexAddr (v := .pointer (some ⟨w2.heap.size, 0, none⟩)) rfl rfl (by kernel_rfl)) fun a hfr => ?_
      refine wl_v hfr (by decide) (v_load_blk1 (hst.get (k := 0) rfl) rfl (Try.isAgg3 _) rfl) fun a hfr => ?_
      refine wl_v hfr (by decide) (v_indexAddr (v := .pointer (some ⟨w2.heap.size, 1, none⟩)) rfl rfl (by kernel_rfl)) fun a hfr => ?_
      refine wl_v hfr (by decide) (v_load_blk1 (hst.get (k := 0) rfl) rfl (Try.isAgg3 _) rfl) fun a hfr => ?_
      refine wl_v hfr (by decide) (v_indexAddr (v := .pointer (some ⟨w2.heap.size, 2, none⟩)) rfl rfl (by kernel_rfl)) fun a hfr => ?_
      refine wl_v hfr (by decide) (v_load_blk1 (hst.get (k := 0) rfl) rfl (Try.isAgg3 _) rfl) fun a hfr => ?_
      refine wl_v hfr (by decide) (v_indexAddr (v := .pointer (some ⟨w2.heap.size, 3, none⟩)) rfl rfl (by kernel_rfl)) fun a hfr => ?_
      refine wl_v hfr (by decide) (v_load_blk1 (hst.get (k := 0) rfl) rfl (Try.isAgg3 _) rfl) fun a hfr => ?_
      refine wl_v hfr (by decide) (v_build (v := .agg #[.int .i64 (1 + (pick x0 12)), .int .i64 (1 + (pick x1 86400)), .int .i64 (1 + (pick x2 12)), .int .i64 (1 + (pick x3 86400))]) rfl (by kernel_rfl)) fun a hfr => ?_
      refine wl_store 1 hfr hst rfl rfl rfl (Try.sizeOf29 _) rfl (Nat.le_of_ble_eq_true rfl) (ds := [.int .i64 (1 + (pick x0 12)), .int .i64 (1 + (pick x1 86400)), .int .i64 (1 + (pick x2 12)), .int .i64 (1 + (pick x3 86400))]) rfl rfl fun a w74 hfr hst => ?_
      refine wl_nil (hK97 _ _ ?_)
      have hfr : Fr 38 [(0, _), (1, _), (2, _), (3, _), (16, _), (17, _), (18, _), (19, _), (20, _), (21, _), (7, _), (8, _), (4, _), (5, _), (6, _)] [] a := hfr.pick [0, 1, 2, 3, 16, 17, 18, 19, 20, 21, 7, 8, 4, 5, 6]
      refine wc_ret ?_
      refine fin_ret hfr Try.results34 (resAre_cell rfl (res_all (hst.get (k := 1) rfl) (Try.isAgg29 _) (Try.sizeOf29 _)) resAre_nil) ?_
      exact ⟨by simp only [retv, mkRul, mkRule, Rul.val, hc1, hc9, hc10, hc12]; simp, hst.ext⟩
    rw [hc12] at hfr
    try simp only [Bool.not_eq_true', Bool.not_eq_false', decide_eq_true_eq, decide_eq_false_iff_not] at hc12
    refine wc_skip ?_
    refine hK92 _ _ ?_
    refine wc_region ?_
    refine wl_v hfr (by decide) (v_move rfl) fun a hfr => ?_
    refine wl_v hfr (by decide) ((v_add rfl rfl (by decide)).asi (m' := 4) rfl) fun a hfr => ?_
    refine wl_v hfr (by decide) (v_assign rfl) fun a hfr => ?_
    refine wl_nil ?_
    refine wr_succ ?_
    refine wc_seq_k fun K98 hK98 => ?_
    refine wc_seq_region fun K99 hK99 => ?_
    refine wl_v hfr (by decide) (v_move rfl) fun a hfr => ?_
    refine wl_v hfr (by decide) ((v_lt rfl rfl).asb (b' := false) rfl) fun a hfr => ?_
    refine wl_nil (hK99 _ _ ?_)
    refine wc_cond_f hfr rfl ?_
    refine wc_exit ?_
    refine hK3 _ _ ?_
    refine wc_seq_region fun K100 hK100 => ?_
    refine wl_v hfr (by decide) (v_indexAddr (v := .pointer (some ⟨w2.heap.size, 0, none⟩)) rfl rfl (by kernel_rfl)) fun a hfr => ?_
    refine wl_v hfr (by decide) (v_load_blk1 (hst.get (k := 0) rfl) rfl (Try.isAgg3 _) rfl) fun a hfr => ?_
    refine wl_v hfr (by decide) (v_indexAddr (v := .pointer (some ⟨w2.heap.size, 1, none⟩)) rfl rfl (by kernel_rfl)) fun a hfr => ?_
    refine wl_v hfr (by decide) (v_load_blk1 (hst.get (k := 0) rfl) rfl (Try.isAgg3 _) rfl) fun a hfr => ?_
    refine wl_v hfr (by decide) (v_indexAddr (v := .pointer (some ⟨w2.heap.size, 2, none⟩)) rfl rfl (by kernel_rfl)) fun a hfr => ?_
    refine wl_v hfr (by decide) (v_load_blk1 (hst.get (k := 0) rfl) rfl (Try.isAgg3 _) rfl) fun a hfr => ?_
    refine wl_v hfr (by decide) (v_indexAddr (v := .pointer (some ⟨w2.heap.size, 3, none⟩)) rfl rfl (by kernel_rfl)) fun a hfr => ?_
    refine wl_v hfr (by decide) (v_load_blk1 (hst.get (k := 0) rfl) rfl (Try.isAgg3 _) rfl) fun a hfr => ?_
    refine wl_v hfr (by decide) (v_build (v := .agg #[.int .i64 (1 + (pick x0 12)), .int .i64 (1 + (pick x1 86400)), .int .i64 (1 + (pick x2 12)), .int .i64 (1 + (pick x3 12))]) rfl (by kernel_rfl)) fun a hfr => ?_
    refine wl_store 1 hfr hst rfl rfl rfl (Try.sizeOf29 _) rfl (Nat.le_of_ble_eq_true rfl) (ds := [.int .i64 (1 + (pick x0 12)), .int .i64 (1 + (pick x1 86400)), .int .i64 (1 + (pick x2 12)), .int .i64 (1 + (pick x3 12))]) rfl rfl fun a w75 hfr hst => ?_
    refine wl_nil (hK100 _ _ ?_)
    have hfr : Fr 38 [(0, _), (1, _), (2, _), (3, _), (16, _), (17, _), (18, _), (19, _), (20, _), (21, _), (7, _), (8, _), (4, _), (5, _), (6, _)] [] a := hfr.pick [0, 1, 2, 3, 16, 17, 18, 19, 20, 21, 7, 8, 4, 5, 6]
    refine wc_ret ?_
    refine fin_ret hfr Try.results34 (resAre_cell rfl (res_all (hst.get (k := 1) rfl) (Try.isAgg29 _) (Try.sizeOf29 _)) resAre_nil) ?_
    exact ⟨by simp only [retv, mkRul, mkRule, Rul.val, hc1, hc9, hc10, hc12]; simp, hst.ext⟩
  rw [hc9] at hfr
  try simp only [Bool.not_eq_true', Bool.not_eq_false', decide_eq_true_eq, decide_eq_false_iff_not] at hc9
  refine wc_skip ?_
  refine hK71 _ _ ?_
  refine wc_region ?_
  refine wl_v hfr (by decide) (v_move rfl) fun a hfr => ?_
  refine wl_v hfr (by decide) ((v_add rfl rfl (by decide)).asi (m' := 2) rfl) fun a hfr => ?_
  refine wl_v hfr (by decide) (v_assign rfl) fun a hfr => ?_
  refine wl_nil ?_
  refine wr_succ ?_
  refine wc_seq_k fun K101 hK101 => ?_
  refine wc_seq_region fun K102 hK102 => ?_
  refine wl_v hfr (by decide) (v_move rfl) fun a hfr => ?_
  refine wl_v hfr (by decide) ((v_lt rfl rfl).asb (b' := true) rfl) fun a hfr => ?_
  refine wl_nil (hK102 _ _ ?_)
  refine wc_cond_t hfr rfl ?_
  refine wc_skip ?_
  refine hK101 _ _ ?_
  refine wc_seq_k fun K103 hK103 => ?_
  refine wc_block ?_
  refine wc_seq_region fun K104 hK104 => ?_
  refine wl_v hfr (by decide) (v_move rfl) fun a hfr => ?_
  refine wl_v hfr (by decide) (v_move rfl) fun a hfr => ?_
  refine wl_v hfr (by decide) (v_indexAddr (v := .pointer (some ⟨w0.heap.size, 2, none⟩)) rfl rfl (by kernel_rfl)) fun a hfr => ?_
  refine wl_v hfr (by decide) (v_load_blk1 (hst.get (k := 2) rfl) rfl (Try.isAgg3 _) rfl) fun a hfr => ?_
  refine wl_callp hfr hst (by decide) Try.call35 rfl (pickr16_ok _ _ _ (by omega) (by omega) (by omega) (by omega)) fun a w76 hfr hst => ?_
  refine wl_v hfr (by decide) (v_add rfl rfl ⟨by omega, by omega⟩) fun a hfr => ?_
  refine wl_v hfr (by decide) (v_indexAddr (v := .pointer (some ⟨w2.heap.size, 2, none⟩)) rfl rfl (by kernel_rfl)) fun a hfr => ?_
  refine wl_store 0 hfr hst rfl rfl rfl (Try.sizeOf3 _) rfl (Nat.le_of_ble_eq_true rfl) (ds := [.int .i64 (1 + (pick x0 12)), .int .i64 (1 + (pick x1 12)), .int .i64 (1 + (pick x2 12)), .int .i64 0]) rfl rfl fun a w77 hfr hst => ?_
  refine wl_nil (hK104 _ _ ?_)
  have hfr : Fr 38 [(0, _), (1, _), (2, _), (3, _), (16, _), (17, _), (18, _), (19, _), (20, _), (21, _), (7, _), (8, _), (4, _), (5, _), (6, _)] [] a := hfr.pick [0, 1, 2, 3, 16, 17, 18, 19, 20, 21, 7, 8, 4, 5, 6]
  refine wc_seq_region fun K105 hK105 => ?_
  refine wl_v hfr (by decide) (v_move rfl) fun a hfr => ?_
  refine wl_v hfr (by decide) (v_indexAddr (v := .pointer (some ⟨w0.heap.size, 2, none⟩)) rfl rfl (by kernel_rfl)) fun a hfr => ?_
  refine wl_v hfr (by decide) (v_load_blk1 (hst.get (k := 2) rfl) rfl (Try.isAgg3 _) rfl) fun a hfr => ?_
  refine wl_v hfr (by decide) (v_quo' rfl rfl (by omega) ⟨by omega, by omega⟩) fun a hfr => ?_
  refine wl_callp hfr hst (by decide) Try.call35 rfl (pickr16_ok _ _ _ (by omega) (by omega) (by omega) (by omega)) fun a w78 hfr hst => ?_
  refine wl_v hfr (by decide) (v_eq rfl rfl) fun a hfr => ?_
  refine wl_nil (hK105 _ _ ?_)
  refine wc_cond hfr rfl (fun hc13 => ?_) (fun hc13 => ?_)
  · rw [hc13] at hfr
    try simp only [Bool.not_eq_true', Bool.not_eq_false', decide_eq_true_eq, decide_eq_false_iff_not] at hc13
    refine wc_region ?_
    refine wl_v hfr (by decide) (v_move rfl) fun a hfr => ?_
    refine wl_v hfr (by decide) (v_move rfl) fun a hfr => ?_
    refine wl_v hfr (by decide) (v_indexAddr (v := .pointer (some ⟨w0.heap.size, 2, none⟩)) rfl rfl (by kernel_rfl)) fun a hfr => ?_
    refine wl_v hfr (by decide) (v_load_blk1 (hst.get (k := 2) rfl) rfl (Try.isAgg3 _) rfl) fun a hfr => ?_
    refine wl_callp hfr hst (by decide) Try.call35 rfl (pickr16_ok _ _ _ (by omega) (by omega) (by omega) (by omega)) fun a w79 hfr hst => ?_
    refine wl_v hfr (by decide) (v_add rfl rfl ⟨by omega, by omega⟩) fun a hfr => ?_
    refine wl_v hfr (by decide) (v_indexAddr (v := .pointer (some ⟨w2.heap.size, 2, none⟩)) rfl rfl (by kernel_rfl)) fun a hfr => ?_
    refine wl_store 0 hfr hst rfl rfl rfl (Try.sizeOf3 _) rfl (Nat.le_of_ble_eq_true rfl) (ds := [.int .i64 (1 + (pick x0 12)), .int .i64 (1 + (pick x1 12)), .int .i64 (1 + (pick x2 86400)), .int .i64 0]) rfl rfl fun a w80 hfr hst => ?_
    refine wl_nil ?_
    refine hK103 _ _ ?_
    have hfr : Fr 38 [(0, _), (1, _), (2, _), (3, _), (7, _), (8, _), (4, _), (5, _), (6, _), (16, _), (17, _), (18, _), (19, _), (20, _), (21, _)] [] a := hfr.pick [0, 1, 2, 3, 7, 8, 4, 5, 6, 16, 17, 18, 19, 20, 21]
    refine wc_region ?_
    refine wl_v hfr (by decide) (v_move rfl) fun a hfr => ?_
    refine wl_v hfr (by decide) ((v_add rfl rfl (by decide)).asi (m' := 3) rfl) fun a hfr => ?_
    refine wl_v hfr (by decide) (v_assign rfl) fun a hfr => ?_
    refine wl_nil ?_
    refine wr_succ ?_
    refine wc_seq_k fun K106 hK106 => ?_
    refine wc_seq_region fun K107 hK107 => ?_
    refine wl_v hfr (by decide) (v_move rfl) fun a hfr => ?_
    refine wl_v hfr (by decide) ((v_lt rfl rfl).asb (b' := true) rfl) fun a hfr => ?_
    refine wl_nil (hK107 _ _ ?_)
    refine wc_cond_t hfr rfl ?_
    refine wc_skip ?_
    refine hK106 _ _ ?_
    refine wc_seq_k fun K108 hK108 => ?_
    refine wc_block ?_
    refine wc_seq_region fun K109 hK109 => ?_
    refine wl_v hfr (by decide) (v_move rfl) fun a hfr => ?_
    refine wl_v hfr (by decide) (v_move rfl) fun a hfr => ?_
    refine wl_v hfr (by decide) (v_indexAddr (v := .pointer (some ⟨w0.heap.size, 3, none⟩)) rfl rfl (by kernel_rfl)) fun a hfr => ?_
    refine wl_v hfr (by decide) (v_load_blk1 (hst.get (k := 2) rfl) rfl (Try.isAgg3 _) rfl) fun a hfr => ?_
    refine wl_callp hfr hst (by decide) Try.call35 rfl (pickr16_ok _ _ _ (by omega) (by omega) (by omega) (by omega)) fun a w81 hfr hst => ?_
    refine wl_v hfr (by decide) (v_add rfl rfl ⟨by omega, by omega⟩) fun a hfr => ?_
    refine wl_v hfr (by decide) (v_indexAddr (v := .pointer (some ⟨w2.heap.size, 3, none⟩)) rfl rfl (by kernel_rfl)) fun a hfr => ?_
    refine wl_store 0 hfr hst rfl rfl rfl (Try.sizeOf3 _) rfl (Nat.le_of_ble_eq_true rfl) (ds := [.int .i64 (1 + (pick x0 12)), .int .i64 (1 + (pick x1 12)), .int .i64 (1 + (pick x2 86400)), .int .i64 (1 + (pick x3 12))]) rfl rfl fun a w82 hfr hst => ?_
    refine wl_nil (hK109 _ _ ?_)
    have hfr : Fr 38 [(0, _), (1, _), (2, _), (3, _), (16, _), (17, _), (18, _), (19, _), (20, _), (21, _), (7, _), (8, _), (4, _), (5, _), (6, _)] [] a := hfr.pick [0, 1, 2, 3, 16, 17, 18, 19, 20, 21, 7, 8, 4, 5, 6]
    refine wc_seq_region fun K110 hK110 => ?_
    refine wl_v hfr (by decide) (v_move rfl) fun a hfr => ?_
    refine wl_v hfr (by decide) (v_indexAddr (v := .pointer (some ⟨w0.heap.size, 3, none⟩)) rfl rfl (by kernel_rfl)) fun a hfr => ?_
    refine wl_v hfr (by decide) (v_load_blk1 (hst.get (k := 2) rfl) rfl (Try.isAgg3 _) rfl) fun a hfr => ?_
    refine wl_v hfr (by decide) (v_quo' rfl rfl (by omega) ⟨by omega, by omega⟩) fun a hfr => ?_
    refine wl_callp hfr hst (by decide) Try.call35 rfl (pickr16_ok _ _ _ (by omega) (by omega) (by omega) (by omega)) fun a w83 hfr hst => ?_
    refine wl_v hfr (by decide) (v_eq rfl rfl) fun a hfr => ?_
    refine wl_nil (hK110 _ _ ?_)
    refine wc_cond hfr rfl (fun hc14 => ?_) (fun hc14 => ?_)
    · rw [hc14] at hfr
      try simp only [Bool.not_eq_true', Bool.not_eq_false', decide_eq_true_eq, decide_eq_false_iff_not] at hc14
      refine wc_region ?_
      refine wl_v hfr (by decide) (v_move rfl) fun a hfr => ?_
      refine wl_v hfr (by decide) (v_move rfl) fun a hfr => ?_
      refine wl_v hfr (by decide) (v_indexAddr (v := .pointer (some ⟨w0.heap.size, 3, none⟩)) rfl rfl (by kernel_rfl)) fun a hfr => ?_
      refine wl_v hfr (by decide) (v_load_blk1 (hst.get (k := 2) rfl) rfl (Try.isAgg3 _) rfl) fun a hfr => ?_
      refine wl_callp hfr hst (by decide) Try.call35 rfl (pickr16_ok _ _ _ (by omega) (by omega) (by omega) (by omega)) fun a w84 hfr hst => ?_
      refine wl_v hfr (by decide) (v_add rfl rfl ⟨by omega, by omega⟩) fun a hfr => ?_
      refine wl_v hfr (by decide) (v_indexAddr (v := .pointer (some ⟨w2.heap.size, 3, none⟩)) rfl rfl (by kernel_rfl)) fun a hfr => ?_
      refine wl_store 0 hfr hst rfl rfl rfl (Try.sizeOf3 _) rfl (Nat.le_of_ble_eq_true rfl) (ds := [.int .i64 (1 + (pick x0 12)), .int .i64 (1 + (pick x1 12)), .int .i64 (1 + (pick x2 86400)), .int .i64 (1 + (pick x3 86400))]) rfl rfl fun a w85 hfr hst => ?_
      refine wl_nil ?_
      refine hK108 _ _ ?_
      have hfr : Fr 38 [(0, _), (1, _), (2, _), (3, _), (7, _), (8, _), (4, _), (5, _), (6, _), (16, _), (17, _), (18, _), (19, _), (20, _), (21, _)] [] a := hfr.pick [0, 1, 2, 3, 7, 8, 4, 5, 6, 16, 17, 18, 19, 20, 21]
      refine wc_region ?_
      refine wl_v hfr (by decide) (v_move rfl) fun a hfr => ?_
      refine wl_v hfr (by decide) ((v_add rfl rfl (by decide)).asi (m' := 4) rfl) fun a hfr => ?_
      refine wl_v hfr (by decide) (v_assign rfl) fun a hfr => ?_
      refine wl_nil ?_
      refine wr_succ ?_
      refine wc_seq_k fun K111 hK111 => ?_
      refine wc_seq_region fun K112 hK112 => ?_
      refine wl_v hfr (by decide) (v_move rfl) fun a hfr => ?_
      refine wl_v hfr (by decide) ((v_lt rfl rfl).asb (b' := false) rfl) fun a hfr => ?_
      refine wl_nil (hK112 _ _ ?_)
      refine wc_cond_f hfr rfl ?_
      refine wc_exit ?_
      refine hK3 _ _ ?_
      refine wc_seq_region fun K113 hK113 => ?_
      refine wl_v hfr (by decide) (v_indexAddr (v := .pointer (some ⟨w2.heap.size, 0, none⟩)) rfl rfl (by kernel_rfl)) fun a hfr => ?_
      refine wl_v hfr (by decide) (v_load_blk1 (hst.get (k := 0) rfl) rfl (Try.isAgg3 _) rfl) fun a hfr => ?_
      refine wl_v hfr (by decide) (v_indexAddr (v := .pointer (some ⟨w2.heap.size, 1, none⟩)) rfl rfl (by kernel_rfl)) fun a hfr => ?_
      refine wl_v hfr (by decide) (v_load_blk1 (hst.get (k := 0) rfl) rfl (Try.isAgg3 _) rfl) fun a hfr => ?_
      refine wl_v hfr (by decide) (v_indexAddr (v := .pointer (some ⟨w2.heap.size, 2, none⟩)) rfl rfl (by kernel_rfl)) fun a hfr => ?_
      refine wl_v hfr (by decide) (v_load_blk1 (hst.get (k := 0) rfl) rfl (Try.isAgg3 _) rfl) fun a hfr => ?_
      refine wl_v hfr (by decide) (v_indexAddr (v := .pointer (some ⟨w2.heap.size, 3, none⟩)) rfl rfl (by kernel_rfl)) fun a hfr => ?_
      refine wl_v hfr (by decide) (v_load_blk1 (hst.get (k := 0) rfl) rfl (Try.isAgg3 _) rfl) fun a hfr => ?_
      refine wl_v hfr (by decide) (v_build (v := .agg #[.int .i64 (1 + (pick x0 12)), .int .i64 (1 + (pick x1 12)), .int .i64 (1 + (pick x2 86400)), .int .i64 (1 + (pick x3 86400))]) rfl (by kernel_rfl)) fun a hfr => ?_
      refine wl_store 1 hfr hst rfl rfl rfl (Try.sizeOf29 _) rfl (Nat.le_of_ble_eq_true rfl) (ds := [.int .i64 (1 + (pick x0 12)), .int .i64 (1 + (pick x1 12)), .int .i64 (1 + (pick x2 86400)), .int .i64 (1 + (pick x3 86400))]) rfl rfl fun a w86 hfr hst => ?_
      refine wl_nil (hK113 _ _ ?_)
      have hfr : Fr 38 [(0, _), (1, _), (2, _), (3, _), (16, _), (17, _), (18, _), (19, _), (20, _), (21, _), (7, _), (8, _), (4, _), (5, _), (6, _)] [] a := hfr.pick [0, 1, 2, 3, 16, 17, 18, 19, 20, 21, 7, 8, 4, 5, 6]
      refine wc_ret ?_
      refine fin_ret hfr Try.results34 (resAre_cell rfl (res_all (hst.get (k := 1) rfl) (Try.isAgg29 _) (Try.sizeOf29 _)) resAre_nil) ?_
      exact ⟨by simp only [retv, mkRul, mkRule, Rul.val, hc1, hc9, hc13, hc14]; simp, hst.ext⟩
    rw [hc14] at hfr
    try simp only [Bool.not_eq_true', Bool.not_eq_false', decide_eq_true_eq, decide_eq_false_iff_not] at hc14
    refine wc_skip ?_
    refine hK108 _ _ ?_
    refine wc_region ?_
    refine wl_v hfr (by decide) (v_move rfl) fun a hfr => ?_
    refine wl_v hfr (by decide) ((v_add rfl rfl (by decide)).asi (m' := 4) rfl) fun a hfr => ?_
    refine wl_v hfr (by decide) (v_assign rfl) fun a hfr => ?_
    refine wl_nil ?_
    refine wr_succ ?_
    refine wc_seq_k fun K114 hK114 => ?_
    refine wc_seq_region fun K115 hK115 => ?_
    refine wl_v hfr (by decide) (v_move rfl) fun a hfr => ?_
    refine wl_v hfr (by decide) ((v_lt rfl rfl).asb (b' := false) rfl) fun a hfr => ?_
    refine wl_nil (hK115 _ _ ?_)
    refine wc_cond_f hfr rfl ?_
    refine wc_exit ?_
    refine hK3 _ _ ?_
    refine wc_seq_region fun K116 hK116 => ?_
    refine wl_v hfr (by decide) (v_indexAddr (v := .pointer (some ⟨w2.heap.size, 0, none⟩)) rfl rfl (by kernel_rfl)) fun a hfr => ?_
    refine wl_v hfr (by decide) (v_load_blk1 (hst.get (k := 0) rfl) rfl (Try.isAgg3 _) rfl) fun a hfr => ?_
    refine wl_v hfr (by decide) (v_indexAddr (v := .pointer (some ⟨w2.heap.size, 1, none⟩)) rfl rfl (by kernel_rfl)) fun a hfr => ?_
    refine wl_v hfr (by decide) (v_load_blk1 (hst.get (k := 0) rfl) rfl (Try.isAgg3 _) rfl) fun a hfr => ?_
    refine wl_v hfr (by decide) (v_indexAddr (v := .pointer (some ⟨w2.heap.size, 2, none⟩)) rfl rfl (by kernel_rfl)) fun a hfr => ?_
    refine wl_v hfr (by decide) (v_load_blk1 (hst.get (k := 0) rfl) rfl (Try.isAgg3 _) rfl) fun a hfr => ?_
    refine wl_v hfr (by decide) (v_indexAddr (v := .pointer (some ⟨w2.heap.size, 3, none⟩)) rfl rfl (by kernel_rfl)) fun a hfr => ?_
    refine wl_v hfr (by decide) (v_load_blk1 (hst.get (k := 0) rfl) rfl (Try.isAgg3 _) rfl) fun a hfr => ?_
    refine wl_v hfr (by decide) (v_build (v := .agg #[.int .i64 (1 + (pick x0 12)), .int .i64 (1 + (pick x1 12)), .int .i64 (1 + (pick x2 86400)), .int .i64 (1 + (pick x3 12))]) rfl (by kernel_rfl)) fun a hfr => ?_
    refine wl_store 1 hfr hst rfl rfl rfl (Try.sizeOf29 _) rfl (Nat.le_of_ble_eq_true rfl) (ds := [.int .i64 (1 + (pick x0 12)), .int .i64 (1 + (pick x1 12)), .int .i64 (1 + (pick x2 86400)), .int .i64 (1 + (pick x3 12))]) rfl rfl fun a w87 hfr hst => ?_
    refine wl_nil (hK116 _ _ ?_)
    have hfr : Fr 38 [(0, _), (1, _), (2, _), (3, _), (16, _), (17, _), (18, _), (19, _), (20, _), (21, _), (7, _), (8, _), (4, _), (5, _), (6, _)] [] a := hfr.pick [0, 1, 2, 3, 16, 17, 18, 19, 20, 21, 7, 8, 4, 5, 6]
    refine wc_ret ?_
    refine fin_ret hfr Try.results34 (resAre_cell rfl (res_all (hst.get (k := 1) rfl) (Try.isAgg29 _) (Try.sizeOf29 _)) resAre_nil) ?_
    exact ⟨by simp only [retv, mkRul, mkRule, Rul.val, hc1, hc9, hc13, hc14]; simp, hst.ext⟩
  rw [hc13] at hfr
  try simp only [Bool.not_eq_true', Bool.not_eq_false', decide_eq_true_eq, decide_eq_false_iff_not] at hc13
  refine wc_skip ?_
  refine hK103 _ _ ?_
  refine wc_region ?_
  refine wl_v hfr (by decide) (v_move rfl) fun a hfr => ?_
  refine wl_v hfr (by decide) ((v_add rfl rfl (by decide)).asi (m' := 3) rfl) fun a hfr => ?_
  refine wl_v hfr (by decide) (v_assign rfl) fun a hfr => ?_
  refine wl_nil ?_
  refine wr_succ ?_
  refine wc_seq_k fun K117 hK117 => ?_
  refine wc_seq_region fun K118 hK118 => ?_
  refine wl_v hfr (by decide) (v_move rfl) fun a hfr => ?_
  refine wl_v hfr (by decide) ((v_lt rfl rfl).asb (b' := true) rfl) fun a hfr => ?_
  refine wl_nil (hK118 _ _ ?_)
  refine wc_cond_t hfr rfl ?_
  refine wc_skip ?_
  refine hK117 _ _ ?_
  refine wc_seq_k fun K119 hK119 => ?_
  refine wc_block ?_
  refine wc_seq_region fun K120 hK120 => ?_
  refine wl_v hfr (by decide) (v_move rfl) fun a hfr => ?_
  refine wl_v hfr (by decide) (v_move rfl) fun a hfr => ?_
  refine wl_v hfr (by decide) (v_indexAddr (v := .pointer (some ⟨w0.heap.size, 3, none⟩)) rfl rfl (by kernel_rfl)) fun a hfr => ?_
  refine wl_v hfr (by decide) (v_load_blk1 (hst.get (k := 2) rfl) rfl (Try.isAgg3 _) rfl) fun a hfr => ?_
  refine wl_callp hfr hst (by decide) Try.call35 rfl (pickr16_ok _ _ _ (by omega) (by omega) (by omega) (by omega)) fun a w88 hfr hst => ?_
  refine wl_v hfr (by decide) (v_add rfl rfl ⟨by omega, by omega⟩) fun a hfr => ?_
  refine wl_v hfr (by decide) (v_indexAddr (v := .pointer (some ⟨w2.heap.size, 3, none⟩)) rfl rfl (by kernel_rfl)) fun a hfr => ?_
  refine wl_store 0 hfr hst rfl rfl rfl (Try.sizeOf3 _) rfl (Nat.le_of_ble_eq_true rfl) (ds := [.int .i64 (1 + (pick x0 12)), .int .i64 (1 + (pick x1 12)), .int .i64 (1 + (pick x2 12)), .int .i64 (1 + (pick x3 12))]) rfl rfl fun a w89 hfr hst => ?_
  refine wl_nil (hK120 _ _ ?_)
  have hfr : Fr 38 [(0, _), (1, _), (2, _), (3, _), (16, _), (17, _), (18, _), (19, _), (20, _), (21, _), (7, _), (8, _), (4, _), (5, _), (6, _)] [] a := hfr.pick [0, 1, 2, 3, 16, 17, 18, 19, 20, 21, 7, 8, 4, 5, 6]
  refine wc_seq_region fun K121 hK121 => ?_
  refine wl_v hfr (by decide) (v_move rfl) fun a hfr => ?_
  refine wl_v hfr (by decide) (v_indexAddr (v := .pointer (some ⟨w0.heap.size, 3, none⟩)) rfl rfl (by kernel_rfl)) fun a hfr => ?_
  refine wl_v hfr (by decide) (v_load_blk1 (hst.get (k := 2) rfl) rfl (Try.isAgg3 _) rfl) fun a hfr => ?_
  refine wl_v hfr (by decide) (v_quo' rfl rfl (by omega) ⟨by omega, by omega⟩) fun a hfr => ?_
  refine wl_callp hfr hst (by decide) Try.call35 rfl (pickr16_ok _ _ _ (by omega) (by omega) (by omega) (by omega)) fun a w90 hfr hst => ?_
  refine wl_v hfr (by decide) (v_eq rfl rfl) fun a hfr => ?_
  refine wl_nil (hK121 _ _ ?_)
  refine wc_cond hfr rfl (fun hc15 => ?_) (fun hc15 => ?_)
  · rw [hc15] at hfr
    try simp only [Bool.not_eq_true', Bool.not_eq_false', decide_eq_true_eq, decide_eq_false_iff_not] at hc15
    refine wc_region ?_
    refine wl_v hfr (by decide) (v_move rfl) fun a hfr => ?_
    refine wl_v hfr (by decide) (v_move rfl) fun a hfr => ?_
    refine wl_v hfr (by decide) (v_indexAddr (v := .pointer (some ⟨w0.heap.size, 3, none⟩)) rfl rfl (by kernel_rfl)) fun a hfr => ?_
    refine wl_v hfr (by decide) (v_load_blk1 (hst.get (k := 2) rfl) rfl (Try.isAgg3 _) rfl) fun a hfr => ?_
    refine wl_callp hfr hst (by decide) Try.call35 rfl (pickr16_ok _ _ _ (by omega) (by omega) (by omega) (by omega)) fun a w91 hfr hst => ?_
    refine wl_v hfr (by decide) (v_add rfl rfl ⟨by omega, by omega⟩) fun a hfr => ?_
    refine wl_v hfr (by decide) (v_indexAddr (v := .pointer (some ⟨w2.heap.size, 3, none⟩)) rfl rfl (by kernel_rfl)) fun a hfr => ?_
    refine wl_store 0 hfr hst rfl rfl rfl (Try.sizeOf3 _) rfl (Nat.le_of_ble_eq_true rfl) (ds := [.int .i64 (1 + (pick x0 12)), .int .i64 (1 + (pick x1 12)), .int .i64 (1 + (pick x2 12)), .int .i64 (1 + (pick x3 86400))]) rfl rfl fun a w92 hfr hst => ?_
    refine wl_nil ?_
    refine hK119 _ _ ?_
    have hfr : Fr 38 [(0, _), (1, _), (2, _), (3, _), (7, _), (8, _), (4, _), (5, _), (6, _), (16, _), (17, _), (18, _), (19, _), (20, _), (21, _)] [] a := hfr.pick [0, 1, 2, 3, 7, 8, 4, 5, 6, 16, 17, 18, 19, 20, 21]
    refine wc_region ?_
    refine wl_v hfr (by decide) (v_move rfl) fun a hfr => ?_
    refine wl_v hfr (by decide) ((v_add rfl rfl (by decide)).asi (m' := 4) rfl) fun a hfr => ?_
    refine wl_v hfr (by decide) (v_assign rfl) fun a hfr => ?_
    refine wl_nil ?_
    refine wr_succ ?_
    refine wc_seq_k fun K122 hK122 => ?_
    refine wc_seq_region fun K123 hK123 => ?_
    refine wl_v hfr (by decide) (v_move rfl) fun a hfr => ?_
    refine wl_v hfr (by decide) ((v_lt rfl rfl).asb (b' := false) rfl) fun a hfr => ?_
    refine wl_nil (hK123 _ _ ?_)
    refine wc_cond_f hfr rfl ?_
    refine wc_exit ?_
    refine hK3 _ _ ?_
    refine wc_seq_region fun K124 hK124 => ?_
    refine wl_v hfr (by decide) (v_indexAddr (v := .pointer (some ⟨w2.heap.size, 0, none⟩)) rfl rfl (by kernel_rfl)) fun a hfr => ?_
    refine wl_v hfr (by decide) (v_load_blk1 (hst.get (k := 0) rfl) rfl (Try.isAgg3 _) rfl) fun a hfr => ?_
    refine wl_v hfr (by decide) (v_indexAddr (v := .pointer (some ⟨w2.heap.size, 1, none⟩)) rfl rfl (by kernel_rfl)) fun a hfr => ?_
    refine wl_v hfr (by decide) (v_load_blk1 (hst.get (k := 0) rfl) rfl (Try.isAgg3 _) rfl) fun a hfr => ?_
    refine wl_v hfr (by decide) (v_indexAddr (v := .pointer (some ⟨w2.heap.size, 2, none⟩)) rfl rfl (by kernel_rfl)) fun a hfr => ?_
    refine wl_v hfr (by decide) (v_load_blk1 (hst.get (k := 0) rfl) rfl (Try.isAgg3 _) rfl) fun a hfr => ?_
    refine wl_v hfr (by decide) (v_indexAddr (v := .pointer (some ⟨w2.heap.size, 3, none⟩)) rfl rfl (by kernel_rfl)) fun a hfr => ?_
    refine wl_v hfr (by decide) (v_load_blk1 (hst.get (k := 0) rfl) rfl (Try.isAgg3 _) rfl) fun a hfr => ?_
    refine wl_v hfr (by decide) (v_build (v := .agg #[.int .i64 (1 + (pick x0 12)), .int .i64 (1 + (pick x1 12)), .int .i64 (1 + (pick x2 12)), .int .i64 (1 + (pick x3 86400))]) rfl (by kernel_rfl)) fun a hfr => ?_
    refine wl_store 1 hfr hst rfl rfl rfl (Try.sizeOf29 _) rfl (Nat.le_of_ble_eq_true rfl) (ds := [.int .i64 (1 + (pick x0 12)), .int .i64 (1 + (pick x1 12)), .int .i64 (1 + (pick x2 12)), .int .i64 (1 + (pick x3 86400))]) rfl rfl fun a w93 hfr hst => ?_
    refine wl_nil (hK124 _ _ ?_)
    have hfr : Fr 38 [(0, _), (1, _), (2, _), (3, _), (16, _), (17, _), (18, _), (19, _), (20, _), (21, _), (7, _), (8, _), (4, _), (5, _), (6, _)] [] a := hfr.pick [0, 1, 2, 3, 16, 17, 18, 19, 20, 21, 7, 8, 4, 5, 6]
    refine wc_ret ?_
    refine fin_ret hfr Try.results34 (resAre_cell rfl (res_all (hst.get (k := 1) rfl) (Try.isAgg29 _) (Try.sizeOf29 _)) resAre_nil) ?_
    exact ⟨by simp only [retv, mkRul, mkRule, Rul.val, hc1, hc9, hc13, hc15]; simp, hst.ext⟩
  rw [hc15] at hfr
  try simp only [Bool.not_eq_true', Bool.not_eq_false', decide_eq_true_eq, decide_eq_false_iff_not] at hc15
  refine wc_skip ?_
  refine hK119 _ _ ?_
  refine wc_region ?_
  refine wl_v hfr (by decide) (v_move rfl) fun a hfr => ?_
  refine wl_v hfr (by decide) ((v_add rfl rfl (by decide)).asi (m' := 4) rfl) fun a hfr => ?_
  refine wl_v hfr (by decide) (v_assign rfl) fun a hfr => ?_
  refine wl_nil ?_
  refine wr_succ ?_
  refine wc_seq_k fun K125 hK125 => ?_
  refine wc_seq_region fun K126 hK126 => ?_
  refine wl_v hfr (by decide) (v_move rfl) fun a hfr => ?_
  refine wl_v hfr (by decide) ((v_lt rfl rfl).asb (b' := false) rfl) fun a hfr => ?_
  refine wl_nil (hK126 _ _ ?_)
  refine wc_cond_f hfr rfl ?_
  refine wc_exit ?_
  refine hK3 _ _ ?_
  refine wc_seq_region fun K127 hK127 => ?_
  refine wl_v hfr (by decide) (v_indexAddr (v := .pointer (some ⟨w2.heap.size, 0, none⟩)) rfl rfl (by kernel_rfl)) fun a hfr => ?_
  refine wl_v hfr (by decide) (v_load_blk1 (hst.get (k := 0) rfl) rfl (Try.isAgg3 _) rfl) fun a hfr => ?_
  refine wl_v hfr (by decide) (v_indexAddr (v := .pointer (some ⟨w2.heap.size, 1, none⟩)) rfl rfl (by kernel_rfl)) fun a hfr => ?_
  refine wl_v hfr (by decide) (v_load_blk1 (hst.get (k := 0) rfl) rfl (Try.isAgg3 _) rfl) fun a hfr => ?_
  refine wl_v hfr (by decide) (v_indexAddr (v := .pointer (some ⟨w2.heap.size, 2, none⟩)) rfl rfl (by kernel_rfl)) fun a hfr => ?_
  refine wl_v hfr (by decide) (v_load_blk1 (hst.get (k := 0) rfl) rfl (Try.isAgg3 _) rfl) fun a hfr => ?_
  refine wl_v hfr (by decide) (v_indexAddr (v := .pointer (some ⟨w2.heap.size, 3, none⟩)) rfl rfl (by kernel_rfl)) fun a hfr => ?_
  refine wl_v hfr (by decide) (v_load_blk1 (hst.get (k := 0) rfl) rfl (Try.isAgg3 _) rfl) fun a hfr => ?_
  refine wl_v hfr (by decide) (v_build (v := .agg #[.int .i64 (1 + (pick x0 12)), .int .i64 (1 + (pick x1 12)), .int .i64 (1 + (pick x2 12)), .int .i64 (1 + (pick x3 12))]) rfl (by kernel_rfl)) fun a hfr => ?_
  refine wl_store 1 hfr hst rfl rfl rfl (Try.sizeOf29 _) rfl (Nat.le_of_ble_eq_true rfl) (ds := [.int .i64 (1 + (pick x0 12)), .int .i64 (1 + (pick x1 12)), .int .i64 (1 + (pick x2 12)), .int .i64 (1 + (pick x3 12))]) rfl rfl fun a w94 hfr hst => ?_
  refine wl_nil (hK127 _ _ ?_)
  have hfr : Fr 38 [(0, _), (1, _), (2, _), (3, _), (16, _), (17, _), (18, _), (19, _), (20, _), (21, _), (7, _), (8, _), (4, _), (5, _), (6, _)] [] a := hfr.pick [0, 1, 2, 3, 16, 17, 18, 19, 20, 21, 7, 8, 4, 5, 6]
  refine wc_ret ?_
  refine fin_ret hfr Try.results34 (resAre_cell rfl (res_all (hst.get (k := 1) rfl) (Try.isAgg29 _) (Try.sizeOf29 _)) resAre_nil) ?_
  exact ⟨by simp only [retv, mkRul, mkRule, Rul.val, hc1, hc9, hc13, hc15]; simp, hst.ext⟩
end Go.Proofs.Ytdamipejlfipcaa
