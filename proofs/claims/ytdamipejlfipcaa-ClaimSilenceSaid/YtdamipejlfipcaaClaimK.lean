import Derived.Test.YtdamipejlfipcaaClaimL
namespace Go.Proofs.Ytdamipejlfipcaa
open Go.RowKit Go.PW
set_option linter.unusedVariables false
set_option linter.unusedSimpArgs false
set_option maxRecDepth 4000

set_option maxHeartbeats 4000000 in
/-- dialtone/dialtonelaw16.ClaimSilence -/
theorem silence_walk (x0 x1 x2 x3 y0 y1 y2 y3 y4 y5 : Int) (xv : Value) (xs : List Tri) (w0 : World) (gf : isI64 x0 ∧ isI64 x1 ∧ isI64 x2 ∧ isI64 x3 ∧ isI64 y0 ∧ isI64 y1 ∧ isI64 y2 ∧ isI64 y3 ∧ isI64 y4 ∧ isI64 y5) (hxv : SlAt w0 xv 3 (xs.map Tri.cells)) (hfit : ∀ k, k < xs.length → (xs.getD k ⟨0, 0, 0⟩).fits) (tt : Int) (gtt : isI64 tt) :
    Ret Try.prog 4 #[.agg #[.int .i64 x0, .int .i64 x1, .int .i64 x2, .int .i64 x3, .int .i64 y0, .int .i64 y1, .int .i64 y2, .int .i64 y3, .int .i64 y4, .int .i64 y5, xv], .int .i64 tt] w0 fun v w => v = .bool true ∧ Ext No w0 w := by
  obtain ⟨g0, g1, g2, g3, g4, g5, g6, g7, g8, g9⟩ := gf
  obtain ⟨rl, hrl⟩ : ∃ r, mkRul x0 x1 x2 x3 = r := ⟨_, rfl⟩
  obtain ⟨cl, hcl0⟩ : ∃ c, mkClm y0 y1 y2 y3 y4 y5 = c := ⟨_, rfl⟩
  have hr : areValid rl = true := hrl ▸ mkRul_valid x0 x1 x2 x3
  have hc : isClaim cl = true := hcl0 ▸ (mkClm_valid y0 y1 y2 y3 y4 y5).1
  have ha : cl.asked < 1000 := hcl0 ▸ (mkClm_valid y0 y1 y2 y3 y4 y5).2
  have hcl := isClaim_le hc
  have hrl1 := areValid_le hr
  have hrl2 := mkRul_day x0 x1 x2 x3
  rw [hrl] at hrl2
  have hl0 : mkL rl cl [] = [] := rfl
  unfold isI64 at gtt
  obtain ⟨p0, hp0⟩ : ∃ k, pick tt 1000 = k := ⟨_, rfl⟩
  have b0 := pick_lt tt 1000 (by omega)
  rw [hp0] at b0
  obtain ⟨p1, hp1⟩ : ∃ k, pick tt ((cl.asked + rl.answer) - cl.asked) = k := ⟨_, rfl⟩
  have b1 := pick_lt tt ((cl.asked + rl.answer) - cl.asked) (by omega)
  rw [hp1] at b1
  obtain ⟨p2, hp2⟩ : ∃ k, pick tt (((cl.asked + rl.answer) + rl.cooling) - (cl.asked + rl.answer)) = k := ⟨_, rfl⟩
  have b2 := pick_lt tt (((cl.asked + rl.answer) + rl.cooling) - (cl.asked + rl.answer)) (by omega)
  rw [hp2] at b2
  obtain ⟨p3, hp3⟩ : ∃ k, pick tt ((((cl.asked + rl.answer) + rl.cooling) + rl.reverse) - ((cl.asked + rl.answer) + rl.cooling)) = k := ⟨_, rfl⟩
  have b3 := pick_lt tt ((((cl.asked + rl.answer) + rl.cooling) + rl.reverse) - ((cl.asked + rl.answer) + rl.cooling)) (by omega)
  rw [hp3] at b3
  refine ret_of Try.func4 rfl Try.ntmps4 (Nat.le_of_ble_eq_true rfl) fun a hfr => ?_
  replace hfr : Fr 182 [(0, _), (1, _)] [] a := hfr
  replace hst : St No w0 [] w0 := St.init w0
  refine wc_seq_region fun K1 hK1 => ?_
  refine wl_box hfr hst (by decide) rfl (cs := [.int .i64 x0, .int .i64 x1, .int .i64 x2, .int .i64 x3, .int .i64 y0, .int .i64 y1, .int .i64 y2, .int .i64 y3, .int .i64 y4, .int .i64 y5, xv]) rfl ?_
  clear hfr hst
  intro a w1 hfr hst
  refine wl_v hfr (by decide) (v_assign rfl) ?_
  clear hfr
  intro a hfr
  refine wl_nil (hK1 _ _ ?_)
  refine wc_seq_region fun K2 hK2 => ?_
  refine wl_callp hfr hst (by decide) Try.call11 rfl (sane_ok _) ?_
  clear hfr hst
  intro a w2 hfr hst
  refine wl_v hfr (by decide) (v_assign rfl) ?_
  clear hfr
  intro a hfr
  refine wl_nil (hK2 _ _ ?_)
  refine wc_seq_k fun K3 hK3 => ?_
  refine wc_seq_region fun K4 hK4 => ?_
  refine wl_v hfr (by decide) (v_move rfl) ?_
  clear hfr
  intro a hfr
  refine wl_v hfr (by decide) ((v_not rfl).asb (b' := false) rfl) ?_
  clear hfr
  intro a hfr
  refine wl_nil (hK4 _ _ ?_)
  refine wc_cond_f hfr rfl ?_
  refine wc_skip ?_
  refine hK3 _ _ ?_
  refine wc_seq_region fun K5 hK5 => ?_
  refine wl_v hfr (by decide) (v_fieldAddr (v := .pointer (some ⟨w0.heap.size, 10, none⟩)) rfl (by kernel_rfl)) ?_
  clear hfr
  intro a hfr
  refine wl_store 0 hfr hst rfl rfl rfl (Try.sizeOf24 _) rfl (Nat.le_of_ble_eq_true rfl) (ds := [.int .i64 x0, .int .i64 x1, .int .i64 x2, .int .i64 x3, .int .i64 y0, .int .i64 y1, .int .i64 y2, .int .i64 y3, .int .i64 y4, .int .i64 y5, .slice none 0 0]) rfl rfl ?_
  clear hfr hst
  intro a w3 hfr hst
  refine wl_nil (hK5 _ _ ?_)
  refine wc_seq_region fun K6 hK6 => ?_
  refine wl_v hfr (by decide) (v_load_all (hst.get (k := 0) rfl) rfl (Try.isAgg26 _) (Try.sizeOf26 _)) ?_
  clear hfr
  intro a hfr
  refine wl_callm hfr hst (by decide) Try.call12 rfl (made2 hrl hcl0 hl0 (made_ok x0 x1 x2 x3 y0 y1 y2 y3 y4 y5 (.slice none 0 0) [] _ g0 g1 g2 g3 g4 g5 g6 g7 g8 g9 (slAt_nil _ _) (by intro k hk; exact absurd hk (by simp)))) ?_
  clear hfr hst
  intro a w4 x2 hp hfr hst
  revert x2 hp hfr hst; rintro v1 hp hfr hst
  clear hp
  replace hst : St No w0 [own v1 45 3 (([] : List Evt).map Evt.cells), blk w0.heap.size [.int .i64 x0, .int .i64 x1, .int .i64 x2, .int .i64 x3, .int .i64 y0, .int .i64 y1, .int .i64 y2, .int .i64 y3, .int .i64 y4, .int .i64 y5, .slice none 0 0] 26] w4 := hst
  refine wl_v hfr (by decide) (v_move rfl) ?_
  clear hfr
  intro a hfr
  refine wl_v hfr (by decide) (v_extract rfl rfl) ?_
  clear hfr
  intro a hfr
  refine wl_v hfr (by decide) (v_extract rfl rfl) ?_
  clear hfr
  intro a hfr
  refine wl_v hfr (by decide) (v_extract rfl rfl) ?_
  clear hfr
  intro a hfr
  refine wl_alloc hfr hst (by decide) (Try.zeroValue29 _) (cs := [.int .i64 0, .int .i64 0, .int .i64 0, .int .i64 0]) rfl ?_
  clear hfr hst
  intro a w5 hfr hst
  refine wl_alloc hfr hst (by decide) (Try.zeroValue31 _) (cs := [.int .i64 0, .int .i64 0, .int .i64 0, .int .i64 0, .int .i64 0, .bool false]) rfl ?_
  clear hfr hst
  intro a w6 hfr hst
  refine wl_store 1 hfr hst rfl rfl rfl (Try.sizeOf29 _) rfl (Nat.le_of_ble_eq_true rfl) (ds := [.int .i64 rl.answer, .int .i64 rl.cooling, .int .i64 rl.settle, .int .i64 rl.reverse]) rfl rfl ?_
  clear hfr hst
  intro a w7 hfr hst
  refine wl_store 0 hfr hst rfl rfl rfl (Try.sizeOf31 _) rfl (Nat.le_of_ble_eq_true rfl) (ds := [.int .i64 cl.number, .int .i64 cl.frm, .int .i64 cl.to, .int .i64 cl.holder, .int .i64 cl.asked, .bool cl.backed]) rfl rfl ?_
  clear hfr hst
  intro a w8 hfr hst
  refine wl_v hfr (by decide) (v_assign rfl) ?_
  clear hfr
  intro a hfr
  refine wl_nil (hK6 _ _ ?_)
  replace hfr : Fr 182 [(1, _), (4, _), (5, _), (6, _), (7, _)] [] a := hfr.pick [1, 4, 5, 6, 7]
  replace hst : St No w0 [_, _] w8 := hst.mask [true, true, false, false]
  refine wc_seq_region fun K7 hK7 => ?_
  refine wl_v hfr (by decide) (v_fieldAddr (v := .pointer (some ⟨w5.heap.size, 4, none⟩)) rfl (by kernel_rfl)) ?_
  clear hfr
  intro a hfr
  refine wl_v hfr (by decide) (v_load_blk1 (hst.get (k := 0) rfl) rfl (Try.isAgg3 _) rfl) ?_
  clear hfr
  intro a hfr
  refine wl_v hfr (by decide) (v_fieldAddr (v := .pointer (some ⟨w4.heap.size, 0, none⟩)) rfl (by kernel_rfl)) ?_
  clear hfr
  intro a hfr
  refine wl_v hfr (by decide) (v_load_blk1 (hst.get (k := 1) rfl) rfl (Try.isAgg3 _) rfl) ?_
  clear hfr
  intro a hfr
  refine wl_v hfr (by decide) (v_add rfl rfl ⟨by omega, by omega⟩) ?_
  clear hfr
  intro a hfr
  refine wl_v hfr (by decide) (v_assign rfl) ?_
  clear hfr
  intro a hfr
  refine wl_nil (hK7 _ _ ?_)
  refine wc_seq_region fun K8 hK8 => ?_
  refine wl_v hfr (by decide) (v_move rfl) ?_
  clear hfr
  intro a hfr
  refine wl_v hfr (by decide) (v_fieldAddr (v := .pointer (some ⟨w4.heap.size, 1, none⟩)) rfl (by kernel_rfl)) ?_
  clear hfr
  intro a hfr
  refine wl_v hfr (by decide) (v_load_blk1 (hst.get (k := 1) rfl) rfl (Try.isAgg3 _) rfl) ?_
  clear hfr
  intro a hfr
  refine wl_v hfr (by decide) (v_add rfl rfl ⟨by omega, by omega⟩) ?_
  clear hfr
  intro a hfr
  refine wl_v hfr (by decide) (v_assign rfl) ?_
  clear hfr
  intro a hfr
  refine wl_nil (hK8 _ _ ?_)
  replace hfr : Fr 182 [(1, _), (4, _), (5, _), (6, _), (7, _), (9, _), (10, _)] [] a := hfr.pick [1, 4, 5, 6, 7, 9, 10]
  refine wc_seq_region fun K9 hK9 => ?_
  refine wl_v hfr (by decide) (v_move rfl) ?_
  clear hfr
  intro a hfr
  refine wl_v hfr (by decide) (v_fieldAddr (v := .pointer (some ⟨w4.heap.size, 3, none⟩)) rfl (by kernel_rfl)) ?_
  clear hfr
  intro a hfr
  refine wl_v hfr (by decide) (v_load_blk1 (hst.get (k := 1) rfl) rfl (Try.isAgg3 _) rfl) ?_
  clear hfr
  intro a hfr
  refine wl_v hfr (by decide) (v_add rfl rfl ⟨by omega, by omega⟩) ?_
  clear hfr
  intro a hfr
  refine wl_v hfr (by decide) (v_assign rfl) ?_
  clear hfr
  intro a hfr
  refine wl_nil (hK9 _ _ ?_)
  refine wc_seq_region fun K10 hK10 => ?_
  refine wl_v hfr (by decide) (v_fieldAddr (v := .pointer (some ⟨w5.heap.size, 4, none⟩)) rfl (by kernel_rfl)) ?_
  clear hfr
  intro a hfr
  refine wl_v hfr (by decide) (v_load_blk1 (hst.get (k := 0) rfl) rfl (Try.isAgg3 _) rfl) ?_
  clear hfr
  intro a hfr
  refine wl_v hfr (by decide) (v_move rfl) ?_
  clear hfr
  intro a hfr
  refine wl_v hfr (by decide) (v_build (v := .agg #[.int .i64 1, .int .i64 cl.asked, .int .i64 (cl.asked + rl.answer)]) rfl (by kernel_rfl)) ?_
  clear hfr
  intro a hfr
  refine wl_v hfr (by decide) (v_move rfl) ?_
  clear hfr
  intro a hfr
  refine wl_v hfr (by decide) (v_move rfl) ?_
  clear hfr
  intro a hfr
  refine wl_v hfr (by decide) (v_build (v := .agg #[.int .i64 3, .int .i64 (cl.asked + rl.answer), .int .i64 ((cl.asked + rl.answer) + rl.cooling)]) rfl (by kernel_rfl)) ?_
  clear hfr
  intro a hfr
  refine wl_v hfr (by decide) (v_move rfl) ?_
  clear hfr
  intro a hfr
  refine wl_v hfr (by decide) (v_move rfl) ?_
  clear hfr
  intro a hfr
  refine wl_v hfr (by decide) (v_build (v := .agg #[.int .i64 4, .int .i64 ((cl.asked + rl.answer) + rl.cooling), .int .i64 (((cl.asked + rl.answer) + rl.cooling) + rl.reverse)]) rfl (by kernel_rfl)) ?_
  clear hfr
  intro a hfr
  refine wl_v hfr (by decide) (v_move rfl) ?_
  clear hfr
  intro a hfr
  refine wl_v hfr (by decide) (v_build (v := .agg #[.int .i64 5, .int .i64 (((cl.asked + rl.answer) + rl.cooling) + rl.reverse), .int .i64 (-1)]) rfl (by kernel_rfl)) ?_
  clear hfr
  intro a hfr
  refine wl_buildSlice (E := 39) (sz := 3) rfl [[.int .i64 1, .int .i64 cl.asked, .int .i64 (cl.asked + rl.answer)], [.int .i64 3, .int .i64 (cl.asked + rl.answer), .int .i64 ((cl.asked + rl.answer) + rl.cooling)], [.int .i64 4, .int .i64 ((cl.asked + rl.answer) + rl.cooling), .int .i64 (((cl.asked + rl.answer) + rl.cooling) + rl.reverse)], [.int .i64 5, .int .i64 (((cl.asked + rl.answer) + rl.cooling) + rl.reverse), .int .i64 (-1)]] (by kernel_rfl) (by simp) rfl (by decide) (by decide) hfr hst ?_
  clear hfr hst
  intro a w9 hfr hst
  refine wl_v hfr (by decide) (v_assign rfl) ?_
  clear hfr
  intro a hfr
  refine wl_nil (hK10 _ _ ?_)
  replace hfr : Fr 182 [(1, _), (4, _), (5, _), (6, _), (7, _), (12, _)] [] a := hfr.pick [1, 4, 5, 6, 7, 12]
  refine wc_seq_k fun K11 hK11 => ?_
  refine wc_seq_region fun K12 hK12 => ?_
  refine wl_v hfr (by decide) (v_assign rfl) ?_
  clear hfr
  intro a hfr
  refine wl_nil (hK12 _ _ ?_)
  refine wc_block ?_
  refine wc_rounds 5 ?_
  refine wr_succ ?_
  refine wc_seq_k fun K13 hK13 => ?_
  refine wc_seq_region fun K14 hK14 => ?_
  refine wl_v hfr (by decide) (v_move rfl) ?_
  clear hfr
  intro a hfr
  refine wl_v hfr (by decide) (v_move rfl) ?_
  clear hfr
  intro a hfr
  refine wl_v hfr (by decide) ((v_len_sl (sT := 47) (hst.ownAt (i := 0) rfl) rfl rfl (Try.runUnderlying47 _)).asi (m' := 4) (by rfl)) ?_
  clear hfr
  intro a hfr
  refine wl_v hfr (by decide) ((v_lt rfl rfl).asb (b' := true) rfl) ?_
  clear hfr
  intro a hfr
  refine wl_nil (hK14 _ _ ?_)
  refine wc_cond_t hfr rfl ?_
  refine wc_skip ?_
  refine hK13 _ _ ?_
  refine wc_seq_k fun K15 hK15 => ?_
  refine wc_block ?_
  refine wc_seq_k fun K16 hK16 => ?_
  refine wc_of_dr (by kernel_rfl) (dr_of_wd (by kernel_rfl) fun w10 hxz => ?_)
  replace hst : St No w0 [own (.slice (some ⟨w8.heap.size, 0, none⟩) 4 4) 39 3 ([[.int .i64 1, .int .i64 cl.asked, .int .i64 (cl.asked + rl.answer)], [.int .i64 3, .int .i64 (cl.asked + rl.answer), .int .i64 ((cl.asked + rl.answer) + rl.cooling)], [.int .i64 4, .int .i64 ((cl.asked + rl.answer) + rl.cooling), .int .i64 (((cl.asked + rl.answer) + rl.cooling) + rl.reverse)], [.int .i64 5, .int .i64 (((cl.asked + rl.answer) + rl.cooling) + rl.reverse), .int .i64 (-1)]]), blk w5.heap.size [.int .i64 cl.number, .int .i64 cl.frm, .int .i64 cl.to, .int .i64 cl.holder, .int .i64 cl.asked, .bool cl.backed] 31, blk w4.heap.size [.int .i64 rl.answer, .int .i64 rl.cooling, .int .i64 rl.settle, .int .i64 rl.reverse] 29] w10 := hst.grow hxz
  refine wd_sub (k := 0) 7 [4, 6] hfr (by kernel_rfl) (by kernel_rfl) (by kernel_rfl) (by rfl) ?_
  replace hfr : Fr 182 [(1, _), (4, _), (5, _), (6, _), (7, _), (12, _), (13, _), (59, _), (60, _), (61, _), (62, _)] [] a := hfr.pick [1, 4, 5, 6, 7, 12, 13, 59, 60, 61, 62]
  refine wc_phases' 7 [[], [], [0, 1], [2], [3], [], [5]] (fun i => match i with | 0 => pv ((.slice (some ⟨w8.heap.size, 0, none⟩) 4 4)) | 1 => pv (.int .i64 0) | 2 => pv (slAddr (.slice (some ⟨w8.heap.size, 0, none⟩) 4 4) (0 * 3)) | 3 => pv (slAddr (.slice (some ⟨w8.heap.size, 0, none⟩) 4 4) (0 * 3 + 1)) | 4 => pv (.int .i64 cl.asked) | 5 => pv (.int .i64 tt) | 6 => pv (.int .i64 p0) | _ => fun _ _ => False) hfr hst (by kernel_rfl) (by kernel_rfl) ?_ ?_
  · intro i hi
    match i, hi with
    | 0, _ =>
      intro w hst
      exact OpV.g (v_move rfl)
    | 1, _ =>
      intro w hst
      exact OpV.g (v_move rfl)
    | 2, _ =>
      rintro _ _ ⟨rfl, rfl⟩ _ _ ⟨rfl, rfl⟩
      intro w hst
      exact OpV.g ((v_indexAddr_sl (i := 0) (sT := 47) (hst.ownAt (i := 0) rfl) rfl rfl (Try.runUnderlying47 _) (Try.sizeOf39 _) (by omega) (by simp)).as (v' := slAddr (.slice (some ⟨w8.heap.size, 0, none⟩) 4 4) (0 * 3)) rfl)
    | 3, _ =>
      rintro _ _ ⟨rfl, rfl⟩
      intro w hst
      exact OpV.g (v_fieldAddr_sl (k := 0 * 3) (j := 1) (hst.ownAt (i := 0) rfl) (i := 0) (by simp) rfl (fun _ _ => by kernel_rfl))
    | 4, _ =>
      rintro _ _ ⟨rfl, rfl⟩
      intro w hst
      exact OpV.g (v_load_sl1 (u := .int .i64 cl.asked) (i := 0) (j := 1) (hst.ownAt (i := 0) rfl) (by simp) rfl (Try.isAgg3 _) (by rfl))
    | 5, _ =>
      intro w hst
      exact OpV.g (v_move rfl)
    | 6, _ =>
      rintro _ _ ⟨rfl, rfl⟩
      intro w hst
      exact g_callp Try.call15 rfl (pick2 hp0 (pick16_ok _ _ _ (by omega) (by omega) (by omega) (by omega)))
  clear hfr hst
  rintro _ _ ⟨rfl, rfl⟩ _ _ ⟨rfl, rfl⟩ _ _ ⟨rfl, rfl⟩ _ _ ⟨rfl, rfl⟩ _ _ ⟨rfl, rfl⟩ _ _ ⟨rfl, rfl⟩ _ _ ⟨rfl, rfl⟩ a w11 hfr hst
  replace hfr : Fr 182 [(65, _), (66, _), (67, _), (68, _), (69, _), (70, _), (71, _), (1, _), (4, _), (5, _), (6, _), (7, _), (12, _), (13, _), (59, _), (60, _), (61, _), (62, _)] [] a := hfr
  replace hst : St No w0 [_, _, _] w11 := hst
  refine wl_nil ?_
  refine wd_lin (k := 7) 9 [8] (by kernel_rfl) (by kernel_rfl) (by kernel_rfl) ?_
  refine wl_v hfr (by decide) (v_add rfl rfl ⟨by omega, by omega⟩) ?_
  clear hfr
  intro a hfr
  refine wl_v hfr (by decide) (v_assign rfl) ?_
  clear hfr
  intro a hfr
  refine wl_nil ?_
  refine wd_end (by kernel_rfl) ?_
  refine hK16 _ _ ?_
  replace hfr : Fr 182 [(1, _), (4, _), (5, _), (6, _), (7, _), (12, _), (13, _), (14, _)] [] a := hfr.pick [1, 4, 5, 6, 7, 12, 13, 14]
  refine wc_seq_k fun K17 hK17 => ?_
  refine wc_seq_region fun K18 hK18 => ?_
  refine wl_v hfr (by decide) (v_move rfl) ?_
  clear hfr
  intro a hfr
  refine wl_v hfr (by decide) (v_move rfl) ?_
  clear hfr
  intro a hfr
  refine wl_v hfr (by decide) ((v_indexAddr_sl (i := 0) (sT := 47) (hst.ownAt (i := 0) rfl) rfl rfl (Try.runUnderlying47 _) (Try.sizeOf39 _) (by omega) (by simp)).as (v' := slAddr (.slice (some ⟨w8.heap.size, 0, none⟩) 4 4) (0 * 3)) rfl) ?_
  clear hfr
  intro a hfr
  refine wl_v hfr (by decide) (v_fieldAddr_sl (k := 0 * 3) (j := 2) (hst.ownAt (i := 0) rfl) (i := 0) (by simp) rfl (fun _ _ => by kernel_rfl)) ?_
  clear hfr
  intro a hfr
  refine wl_v hfr (by decide) (v_load_sl1 (u := .int .i64 (cl.asked + rl.answer)) (i := 0) (j := 2) (hst.ownAt (i := 0) rfl) (by simp) rfl (Try.isAgg3 _) (by rfl)) ?_
  clear hfr
  intro a hfr
  refine wl_v hfr (by decide) ((v_ge rfl rfl).asb (b' := true) (by simp; omega)) ?_
  clear hfr
  intro a hfr
  refine wl_nil (hK18 _ _ ?_)
  refine wc_cond_t hfr rfl ?_
  refine wc_seq_k fun K19 hK19 => ?_
  refine wc_of_dr (by kernel_rfl) (dr_of_wd (by kernel_rfl) fun w12 hxz => ?_)
  replace hst : St No w0 [own (.slice (some ⟨w8.heap.size, 0, none⟩) 4 4) 39 3 ([[.int .i64 1, .int .i64 cl.asked, .int .i64 (cl.asked + rl.answer)], [.int .i64 3, .int .i64 (cl.asked + rl.answer), .int .i64 ((cl.asked + rl.answer) + rl.cooling)], [.int .i64 4, .int .i64 ((cl.asked + rl.answer) + rl.cooling), .int .i64 (((cl.asked + rl.answer) + rl.cooling) + rl.reverse)], [.int .i64 5, .int .i64 (((cl.asked + rl.answer) + rl.cooling) + rl.reverse), .int .i64 (-1)]]), blk w5.heap.size [.int .i64 cl.number, .int .i64 cl.frm, .int .i64 cl.to, .int .i64 cl.holder, .int .i64 cl.asked, .bool cl.backed] 31, blk w4.heap.size [.int .i64 rl.answer, .int .i64 rl.cooling, .int .i64 rl.settle, .int .i64 rl.reverse] 29] w12 := hst.grow hxz
  refine wd_sub (k := 0) 18 [4, 17] hfr (by kernel_rfl) (by kernel_rfl) (by kernel_rfl) (by rfl) ?_
  replace hfr : Fr 182 [(1, _), (4, _), (5, _), (6, _), (7, _), (12, _), (13, _), (14, _), (73, _), (74, _), (75, _), (76, _), (77, _), (78, _)] [] a := hfr.pick [1, 4, 5, 6, 7, 12, 13, 14, 73, 74, 75, 76, 77, 78]
  refine wc_phases' 18 [[], [], [0, 1], [2], [3], [], [], [], [6, 7], [8], [9], [], [], [11, 12], [13], [14], [10, 15], [5, 16]] (fun i => match i with | 0 => pv ((.slice (some ⟨w8.heap.size, 0, none⟩) 4 4)) | 1 => pv (.int .i64 0) | 2 => pv (slAddr (.slice (some ⟨w8.heap.size, 0, none⟩) 4 4) (0 * 3)) | 3 => pv (slAddr (.slice (some ⟨w8.heap.size, 0, none⟩) 4 4) (0 * 3 + 1)) | 4 => pv (.int .i64 cl.asked) | 5 => pv (.int .i64 tt) | 6 => pv ((.slice (some ⟨w8.heap.size, 0, none⟩) 4 4)) | 7 => pv (.int .i64 0) | 8 => pv (slAddr (.slice (some ⟨w8.heap.size, 0, none⟩) 4 4) (0 * 3)) | 9 => pv (slAddr (.slice (some ⟨w8.heap.size, 0, none⟩) 4 4) (0 * 3 + 2)) | 10 => pv (.int .i64 (cl.asked + rl.answer)) | 11 => pv ((.slice (some ⟨w8.heap.size, 0, none⟩) 4 4)) | 12 => pv (.int .i64 0) | 13 => pv (slAddr (.slice (some ⟨w8.heap.size, 0, none⟩) 4 4) (0 * 3)) | 14 => pv (slAddr (.slice (some ⟨w8.heap.size, 0, none⟩) 4 4) (0 * 3 + 1)) | 15 => pv (.int .i64 cl.asked) | 16 => pv (.int .i64 ((cl.asked + rl.answer) - cl.asked)) | 17 => pv (.int .i64 p1) | _ => fun _ _ => False) hfr hst (by kernel_rfl) (by kernel_rfl) ?_ ?_
  · intro i hi
    match i, hi with
    | 0, _ =>
      intro w hst
      exact OpV.g (v_move rfl)
    | 1, _ =>
      intro w hst
      exact OpV.g (v_move rfl)
    | 2, _ =>
      rintro _ _ ⟨rfl, rfl⟩ _ _ ⟨rfl, rfl⟩
      intro w hst
      exact OpV.g ((v_indexAddr_sl (i := 0) (sT := 47) (hst.ownAt (i := 0) rfl) rfl rfl (Try.runUnderlying47 _) (Try.sizeOf39 _) (by omega) (by simp)).as (v' := slAddr (.slice (some ⟨w8.heap.size, 0, none⟩) 4 4) (0 * 3)) rfl)
    | 3, _ =>
      rintro _ _ ⟨rfl, rfl⟩
      intro w hst
      exact OpV.g (v_fieldAddr_sl (k := 0 * 3) (j := 1) (hst.ownAt (i := 0) rfl) (i := 0) (by simp) rfl (fun _ _ => by kernel_rfl))
    | 4, _ =>
      rintro _ _ ⟨rfl, rfl⟩
      intro w hst
      exact OpV.g (v_load_sl1 (u := .int .i64 cl.asked) (i := 0) (j := 1) (hst.ownAt (i := 0) rfl) (by simp) rfl (Try.isAgg3 _) (by rfl))
    | 5, _ =>
      intro w hst
      exact OpV.g (v_move rfl)
    | 6, _ =>
      intro w hst
      exact OpV.g (v_move rfl)
    | 7, _ =>
      intro w hst
      exact OpV.g (v_move rfl)
    | 8, _ =>
      rintro _ _ ⟨rfl, rfl⟩ _ _ ⟨rfl, rfl⟩
      intro w hst
      exact OpV.g ((v_indexAddr_sl (i := 0) (sT := 47) (hst.ownAt (i := 0) rfl) rfl rfl (Try.runUnderlying47 _) (Try.sizeOf39 _) (by omega) (by simp)).as (v' := slAddr (.slice (some ⟨w8.heap.size, 0, none⟩) 4 4) (0 * 3)) rfl)
    | 9, _ =>
      rintro _ _ ⟨rfl, rfl⟩
      intro w hst
      exact OpV.g (v_fieldAddr_sl (k := 0 * 3) (j := 2) (hst.ownAt (i := 0) rfl) (i := 0) (by simp) rfl (fun _ _ => by kernel_rfl))
    | 10, _ =>
      rintro _ _ ⟨rfl, rfl⟩
      intro w hst
      exact OpV.g (v_load_sl1 (u := .int .i64 (cl.asked + rl.answer)) (i := 0) (j := 2) (hst.ownAt (i := 0) rfl) (by simp) rfl (Try.isAgg3 _) (by rfl))
    | 11, _ =>
      intro w hst
      exact OpV.g (v_move rfl)
    | 12, _ =>
      intro w hst
      exact OpV.g (v_move rfl)
    | 13, _ =>
      rintro _ _ ⟨rfl, rfl⟩ _ _ ⟨rfl, rfl⟩
      intro w hst
      exact OpV.g ((v_indexAddr_sl (i := 0) (sT := 47) (hst.ownAt (i := 0) rfl) rfl rfl (Try.runUnderlying47 _) (Try.sizeOf39 _) (by omega) (by simp)).as (v' := slAddr (.slice (some ⟨w8.heap.size, 0, none⟩) 4 4) (0 * 3)) rfl)
    | 14, _ =>
      rintro _ _ ⟨rfl, rfl⟩
      intro w hst
      exact OpV.g (v_fieldAddr_sl (k := 0 * 3) (j := 1) (hst.ownAt (i := 0) rfl) (i := 0) (by simp) rfl (fun _ _ => by kernel_rfl))
    | 15, _ =>
      rintro _ _ ⟨rfl, rfl⟩
      intro w hst
      exact OpV.g (v_load_sl1 (u := .int .i64 cl.asked) (i := 0) (j := 1) (hst.ownAt (i := 0) rfl) (by simp) rfl (Try.isAgg3 _) (by rfl))
    | 16, _ =>
      rintro _ _ ⟨rfl, rfl⟩ _ _ ⟨rfl, rfl⟩
      intro w hst
      exact OpV.g (v_sub rfl rfl ⟨by omega, by omega⟩)
    | 17, _ =>
      rintro _ _ ⟨rfl, rfl⟩ _ _ ⟨rfl, rfl⟩
      intro w hst
      exact g_callp Try.call15 rfl (pick2 hp1 (pick16_ok _ _ _ (by omega) (by omega) (by omega) (by omega)))
    | i + 18, h => exact absurd h (by omega)
  clear hfr hst
  rintro _ _ ⟨rfl, rfl⟩ _ _ ⟨rfl, rfl⟩ _ _ ⟨rfl, rfl⟩ _ _ ⟨rfl, rfl⟩ _ _ ⟨rfl, rfl⟩ _ _ ⟨rfl, rfl⟩ _ _ ⟨rfl, rfl⟩ _ _ ⟨rfl, rfl⟩ _ _ ⟨rfl, rfl⟩ _ _ ⟨rfl, rfl⟩ _ _ ⟨rfl, rfl⟩ _ _ ⟨rfl, rfl⟩ _ _ ⟨rfl, rfl⟩ _ _ ⟨rfl, rfl⟩ _ _ ⟨rfl, rfl⟩ _ _ ⟨rfl, rfl⟩ _ _ ⟨rfl, rfl⟩ _ _ ⟨rfl, rfl⟩ a w13 hfr hst
  replace hfr : Fr 182 [(79, _), (80, _), (81, _), (82, _), (83, _), (84, _), (85, _), (86, _), (87, _), (88, _), (89, _), (90, _), (91, _), (92, _), (93, _), (94, _), (95, _), (96, _), (1, _), (4, _), (5, _), (6, _), (7, _), (12, _), (13, _), (14, _), (73, _), (74, _), (75, _), (76, _), (77, _), (78, _)] [] a := hfr
  replace hst : St No w0 [_, _, _] w13 := hst
  refine wl_nil ?_
  refine wd_lin (k := 18) 20 [19] (by kernel_rfl) (by kernel_rfl) (by kernel_rfl) ?_
  refine wl_v hfr (by decide) (v_add rfl rfl ⟨by omega, by omega⟩) ?_
  clear hfr
  intro a hfr
  refine wl_v hfr (by decide) (v_assign rfl) ?_
  clear hfr
  intro a hfr
  refine wl_nil ?_
  refine wd_end (by kernel_rfl) ?_
  refine hK19 _ _ ?_
  replace hfr : Fr 182 [(1, _), (4, _), (5, _), (6, _), (7, _), (12, _), (13, _), (14, _)] [] a := hfr.pick [1, 4, 5, 6, 7, 12, 13, 14]
  refine wc_seq_k fun K20 hK20 => ?_
  refine wc_of_dr (by kernel_rfl) (dr_of_wd (by kernel_rfl) fun w14 hxz => ?_)
  replace hst : St No w0 [own (.slice (some ⟨w8.heap.size, 0, none⟩) 4 4) 39 3 ([[.int .i64 1, .int .i64 cl.asked, .int .i64 (cl.asked + rl.answer)], [.int .i64 3, .int .i64 (cl.asked + rl.answer), .int .i64 ((cl.asked + rl.answer) + rl.cooling)], [.int .i64 4, .int .i64 ((cl.asked + rl.answer) + rl.cooling), .int .i64 (((cl.asked + rl.answer) + rl.cooling) + rl.reverse)], [.int .i64 5, .int .i64 (((cl.asked + rl.answer) + rl.cooling) + rl.reverse), .int .i64 (-1)]]), blk w5.heap.size [.int .i64 cl.number, .int .i64 cl.frm, .int .i64 cl.to, .int .i64 cl.holder, .int .i64 cl.asked, .bool cl.backed] 31, blk w4.heap.size [.int .i64 rl.answer, .int .i64 rl.cooling, .int .i64 rl.settle, .int .i64 rl.reverse] 29] w14 := hst.grow hxz
  refine wd_sub (k := 0) 14 [11, 13] hfr (by kernel_rfl) (by kernel_rfl) (by kernel_rfl) (by rfl) ?_
  replace hfr : Fr 182 [(1, _), (4, _), (5, _), (6, _), (7, _), (12, _), (13, _), (14, _)] [] a := hfr.pick [1, 4, 5, 6, 7, 12, 13, 14]
  refine wc_phases_new 12 13 39 [.int .i64 0, .int .i64 0, .int .i64 0] [.int .i64 1, .int .i64 cl.asked, .int .i64 (cl.asked + rl.answer)] 14 [[], [], [], [], [2, 3], [4], [5], [6], [0, 1, 7], [8], [9], [9], [], [10, 12]] (fun i => match i with | 0 => pv (.agg #[.int .i64 rl.answer, .int .i64 rl.cooling, .int .i64 rl.settle, .int .i64 rl.reverse]) | 1 => pv (.agg #[.int .i64 cl.number, .int .i64 cl.frm, .int .i64 cl.to, .int .i64 cl.holder, .int .i64 cl.asked, .bool cl.backed]) | 2 => pv ((.slice (some ⟨w8.heap.size, 0, none⟩) 4 4)) | 3 => pv (.int .i64 0) | 4 => pv (slAddr (.slice (some ⟨w8.heap.size, 0, none⟩) 4 4) (0 * 3)) | 5 => pv (slAddr (.slice (some ⟨w8.heap.size, 0, none⟩) 4 4) (0 * 3 + 2)) | 6 => pv (.int .i64 (cl.asked + rl.answer)) | 7 => pv (.int .i64 ((cl.asked + rl.answer) - 1)) | 8 => pv (.tuple #[.agg #[.int .i64 1, .int .i64 cl.asked, .int .i64 (cl.asked + rl.answer)], .int .i64 0]) | 9 => pv (.tuple #[.agg #[.int .i64 1, .int .i64 cl.asked, .int .i64 (cl.asked + rl.answer)], .int .i64 0]) | 10 => pv (.agg #[.int .i64 1, .int .i64 cl.asked, .int .i64 (cl.asked + rl.answer)]) | 11 => pv (.int .i64 0) | 12 => fun v E => ∃ b, v = ptr b ∧ E = [] | 13 => fun v E => v = undef ∧ E = [] | _ => fun _ _ => False) hfr (H := [own (.slice (some ⟨w8.heap.size, 0, none⟩) 4 4) 39 3 ([[.int .i64 1, .int .i64 cl.asked, .int .i64 (cl.asked + rl.answer)], [.int .i64 3, .int .i64 (cl.asked + rl.answer), .int .i64 ((cl.asked + rl.answer) + rl.cooling)], [.int .i64 4, .int .i64 ((cl.asked + rl.answer) + rl.cooling), .int .i64 (((cl.asked + rl.answer) + rl.cooling) + rl.reverse)], [.int .i64 5, .int .i64 (((cl.asked + rl.answer) + rl.cooling) + rl.reverse), .int .i64 (-1)]]), blk w5.heap.size [.int .i64 cl.number, .int .i64 cl.frm, .int .i64 cl.to, .int .i64 cl.holder, .int .i64 cl.asked, .bool cl.backed] 31, blk w4.heap.size [.int .i64 rl.answer, .int .i64 rl.cooling, .int .i64 rl.settle, .int .i64 rl.reverse] 29]) hst (by kernel_rfl) (by kernel_rfl) (by kernel_rfl) (by kernel_rfl) (by decide) (by decide) (by decide) (by decide) (by decide) ?_ (fun v E h => h) ⟨rfl, rfl⟩ (fun v E => Iff.rfl) ?_ ?_ ?_ ?_
  · intro i v E h
    match i, h with
    | 0, _ => exact by decide
    | 1, _ => exact by decide
    | 2, _ => exact by decide
    | 3, _ => exact by decide
    | 4, _ => exact by decide
    | 5, _ => exact by decide
    | 6, _ => exact by decide
    | 7, _ => exact by decide
    | 8, _ => exact by decide
    | 9, _ => exact by decide
    | 10, _ => exact by decide
    | 11, _ => exact by decide
    | 12, _ => exact by decide
    | 13, _ => exact by decide
    | i + 14, h => exact h.elim
  · intro i hi hia hij e
    match i, hi, hia, hij with
    | 0, _, _, _ =>
      intro w hst
      exact OpV.g (v_load_all (hst.get (k := 3) rfl) rfl (Try.isAgg29 _) (Try.sizeOf29 _))
    | 1, _, _, _ =>
      intro w hst
      exact OpV.g (v_load_all (hst.get (k := 2) rfl) rfl (Try.isAgg31 _) (Try.sizeOf31 _))
    | 2, _, _, _ =>
      intro w hst
      exact OpV.g (v_move rfl)
    | 3, _, _, _ =>
      intro w hst
      exact OpV.g (v_move rfl)
    | 4, _, _, _ =>
      rintro _ _ ⟨rfl, rfl⟩ _ _ ⟨rfl, rfl⟩
      intro w hst
      exact OpV.g ((v_indexAddr_sl (i := 0) (sT := 47) (hst.ownAt (i := 1) rfl) rfl rfl (Try.runUnderlying47 _) (Try.sizeOf39 _) (by omega) (by simp)).as (v' := slAddr (.slice (some ⟨w8.heap.size, 0, none⟩) 4 4) (0 * 3)) rfl)
    | 5, _, _, _ =>
      rintro _ _ ⟨rfl, rfl⟩
      intro w hst
      exact OpV.g (v_fieldAddr_sl (k := 0 * 3) (j := 2) (hst.ownAt (i := 1) rfl) (i := 0) (by simp) rfl (fun _ _ => by kernel_rfl))
    | 6, _, _, _ =>
      rintro _ _ ⟨rfl, rfl⟩
      intro w hst
      exact OpV.g (v_load_sl1 (u := .int .i64 (cl.asked + rl.answer)) (i := 0) (j := 2) (hst.ownAt (i := 1) rfl) (by simp) rfl (Try.isAgg3 _) (by rfl))
    | 7, _, _, _ =>
      rintro _ _ ⟨rfl, rfl⟩
      intro w hst
      exact OpV.g (v_sub rfl rfl ⟨by omega, by omega⟩)
    | 8, _, _, _ =>
      rintro _ _ ⟨rfl, rfl⟩ _ _ ⟨rfl, rfl⟩ _ _ ⟨rfl, rfl⟩
      intro w hst
      exact g_callp Try.call14 rfl (outcome2 (s := ⟨1, cl.asked, cl.asked + rl.answer⟩) (out1 (statuses_nil hr hc) (by simp only; omega) (by simp only; omega)) (outcome_ok rl cl (.slice none 0 0) [] ((cl.asked + rl.answer) - 1) _ (slAt_nil _ _) (valid_nil hr hc) (by simp [isIn]; omega)))
    | 9, _, _, _ =>
      rintro _ _ ⟨rfl, rfl⟩
      intro w hst
      exact OpV.g (v_move rfl)
    | 10, _, _, _ =>
      rintro _ _ ⟨rfl, rfl⟩
      intro w hst
      exact OpV.g (v_extract rfl rfl)
    | 11, _, _, _ =>
      rintro _ _ ⟨rfl, rfl⟩
      intro w hst
      exact OpV.g (v_extract rfl rfl)
    | 12, _, h, _ => exact absurd rfl h
    | 13, _, _, h => exact absurd rfl h
    | i + 14, h, _, _ => exact absurd h (by omega)
  · exact fun Lv w => r_alloc (Try.zeroValue39 _)
  · rintro _ _ ⟨rfl, rfl⟩ _ _ ⟨b3, rfl, rfl⟩
    intro b hb w h
    have hb : some (ptr b3) = some (ptr b) := hb
    cases hb
    exact r_storeU rfl rfl h (Try.sizeOf39 _) rfl (Nat.le_of_ble_eq_true rfl) rfl
  clear hfr hst
  rintro bq _ _ ⟨⟨rfl, rfl⟩, -⟩ _ _ ⟨⟨rfl, rfl⟩, -⟩ _ _ ⟨⟨rfl, rfl⟩, -⟩ _ _ ⟨⟨rfl, rfl⟩, -⟩ _ _ ⟨⟨rfl, rfl⟩, -⟩ _ _ ⟨⟨rfl, rfl⟩, -⟩ _ _ ⟨⟨rfl, rfl⟩, -⟩ _ _ ⟨⟨rfl, rfl⟩, -⟩ _ _ ⟨⟨rfl, rfl⟩, -⟩ _ _ ⟨⟨rfl, rfl⟩, -⟩ _ _ ⟨⟨rfl, rfl⟩, -⟩ _ _ ⟨⟨rfl, rfl⟩, -⟩ _ _ ⟨⟨b3, rfl, rfl⟩, hva⟩ a w15 hfr hst
  obtain rfl : b3 = bq := ptr_inj (hva rfl)
  replace hfr : Fr 182 [(99, _), (100, _), (101, _), (102, _), (103, _), (104, _), (105, _), (106, _), (107, _), (98, _), (108, _), (109, _), (15, _), (1, _), (4, _), (5, _), (6, _), (7, _), (12, _), (13, _), (14, _)] [] a := hfr
  replace hst : St No w0 [blk b3 [.int .i64 1, .int .i64 cl.asked, .int .i64 (cl.asked + rl.answer)] 39, own (.slice (some ⟨w8.heap.size, 0, none⟩) 4 4) 39 3 ([[.int .i64 1, .int .i64 cl.asked, .int .i64 (cl.asked + rl.answer)], [.int .i64 3, .int .i64 (cl.asked + rl.answer), .int .i64 ((cl.asked + rl.answer) + rl.cooling)], [.int .i64 4, .int .i64 ((cl.asked + rl.answer) + rl.cooling), .int .i64 (((cl.asked + rl.answer) + rl.cooling) + rl.reverse)], [.int .i64 5, .int .i64 (((cl.asked + rl.answer) + rl.cooling) + rl.reverse), .int .i64 (-1)]]), blk w5.heap.size [.int .i64 cl.number, .int .i64 cl.frm, .int .i64 cl.to, .int .i64 cl.holder, .int .i64 cl.asked, .bool cl.backed] 31, blk w4.heap.size [.int .i64 rl.answer, .int .i64 rl.cooling, .int .i64 rl.settle, .int .i64 rl.reverse] 29] w15 := hst
  refine wl_nil ?_
  refine wd_lin (k := 14) 15 [14] (by kernel_rfl) (by kernel_rfl) (by kernel_rfl) ?_
  refine wl_v hfr (by decide) (v_assign rfl) ?_
  clear hfr
  intro a hfr
  refine wl_nil ?_
  refine wd_end (by kernel_rfl) ?_
  refine hK20 _ _ ?_
  replace hfr : Fr 182 [(1, _), (4, _), (5, _), (6, _), (7, _), (12, _), (13, _), (14, _), (15, _), (16, _)] [] a := hfr.pick [1, 4, 5, 6, 7, 12, 13, 14, 15, 16]
  refine wc_seq_k fun K21 hK21 => ?_
  refine wc_of_dr (by kernel_rfl) (dr_of_wd (by kernel_rfl) fun w16 hxz => ?_)
  replace hst : St No w0 [blk b3 [.int .i64 1, .int .i64 cl.asked, .int .i64 (cl.asked + rl.answer)] 39, own (.slice (some ⟨w8.heap.size, 0, none⟩) 4 4) 39 3 ([[.int .i64 1, .int .i64 cl.asked, .int .i64 (cl.asked + rl.answer)], [.int .i64 3, .int .i64 (cl.asked + rl.answer), .int .i64 ((cl.asked + rl.answer) + rl.cooling)], [.int .i64 4, .int .i64 ((cl.asked + rl.answer) + rl.cooling), .int .i64 (((cl.asked + rl.answer) + rl.cooling) + rl.reverse)], [.int .i64 5, .int .i64 (((cl.asked + rl.answer) + rl.cooling) + rl.reverse), .int .i64 (-1)]]), blk w5.heap.size [.int .i64 cl.number, .int .i64 cl.frm, .int .i64 cl.to, .int .i64 cl.holder, .int .i64 cl.asked, .bool cl.backed] 31, blk w4.heap.size [.int .i64 rl.answer, .int .i64 rl.cooling, .int .i64 rl.settle, .int .i64 rl.reverse] 29] w16 := hst.grow hxz
  refine wd_lin (k := 0) 3 [2] (by kernel_rfl) (by kernel_rfl) (by kernel_rfl) ?_
  refine wl_v hfr (by decide) (v_move rfl) ?_
  clear hfr
  intro a hfr
  refine wl_v hfr (by decide) ((v_ne rfl rfl).asb (b' := false) rfl) ?_
  clear hfr
  intro a hfr
  refine wl_v hfr (by decide) (v_move rfl) ?_
  clear hfr
  intro a hfr
  refine wl_nil ?_
  refine wd_sub (k := 3) 8 [3, 7] hfr (by kernel_rfl) (by kernel_rfl) (by kernel_rfl) (by rfl) ?_
  replace hfr : Fr 182 [(1, _), (4, _), (5, _), (6, _), (7, _), (12, _), (13, _), (14, _), (15, _), (16, _), (110, _), (111, _), (112, _)] [] a := hfr.pick [1, 4, 5, 6, 7, 12, 13, 14, 15, 16, 110, 111, 112]
  refine wc_phases' 5 [[], [], [], [1, 2], [3]] (fun i => match i with | 0 => pv (.agg #[.int .i64 1, .int .i64 cl.asked, .int .i64 (cl.asked + rl.answer)]) | 1 => pv ((.slice (some ⟨w8.heap.size, 0, none⟩) 4 4)) | 2 => pv (.int .i64 0) | 3 => pv (slAddr (.slice (some ⟨w8.heap.size, 0, none⟩) 4 4) (0 * 3)) | 4 => pv (.agg #[.int .i64 1, .int .i64 cl.asked, .int .i64 (cl.asked + rl.answer)]) | _ => fun _ _ => False) hfr hst (by kernel_rfl) (by kernel_rfl) ?_ ?_
  · intro i hi
    match i, hi with
    | 0, _ =>
      intro w hst
      exact OpV.g (v_load_all (hst.get (k := 0) rfl) rfl (Try.isAgg39 _) (Try.sizeOf39 _))
    | 1, _ =>
      intro w hst
      exact OpV.g (v_move rfl)
    | 2, _ =>
      intro w hst
      exact OpV.g (v_move rfl)
    | 3, _ =>
      rintro _ _ ⟨rfl, rfl⟩ _ _ ⟨rfl, rfl⟩
      intro w hst
      exact OpV.g ((v_indexAddr_sl (i := 0) (sT := 47) (hst.ownAt (i := 1) rfl) rfl rfl (Try.runUnderlying47 _) (Try.sizeOf39 _) (by omega) (by simp)).as (v' := slAddr (.slice (some ⟨w8.heap.size, 0, none⟩) 4 4) (0 * 3)) rfl)
    | 4, _ =>
      rintro _ _ ⟨rfl, rfl⟩
      intro w hst
      exact OpV.g ((v_load_sl (hst.ownAt (i := 1) rfl) (i := 0) (by simp) rfl (Try.isAgg39 _) (Try.sizeOf39 _)).as (v' := .agg #[.int .i64 1, .int .i64 cl.asked, .int .i64 (cl.asked + rl.answer)]) (by rfl))
  clear hfr hst
  rintro _ _ ⟨rfl, rfl⟩ _ _ ⟨rfl, rfl⟩ _ _ ⟨rfl, rfl⟩ _ _ ⟨rfl, rfl⟩ _ _ ⟨rfl, rfl⟩ a w17 hfr hst
  replace hfr : Fr 182 [(113, _), (114, _), (115, _), (116, _), (117, _), (1, _), (4, _), (5, _), (6, _), (7, _), (12, _), (13, _), (14, _), (15, _), (16, _), (110, _), (111, _), (112, _)] [] a := hfr
  replace hst : St No w0 [_, _, _, _] w17 := hst
  refine wl_nil ?_
  refine wd_lin (k := 8) 10 [9] (by kernel_rfl) (by kernel_rfl) (by kernel_rfl) ?_
  refine wl_vy hfr (by decide) rfl (by decide) rfl ((v_ne_agg rfl rfl (by kernel_rfl) (eqStt 1 cl.asked (cl.asked + rl.answer) 1 cl.asked (cl.asked + rl.answer) _)).asb (b' := false) (by simp)) ?_
  clear hfr
  intro a hfr
  refine wl_v hfr (by decide) (v_pick_f rfl rfl) ?_
  clear hfr
  intro a hfr
  refine wl_nil ?_
  refine wd_end (by kernel_rfl) ?_
  refine hK21 _ _ ?_
  replace hfr : Fr 182 [(1, _), (4, _), (5, _), (6, _), (7, _), (12, _), (13, _), (14, _), (119, _)] [] a := hfr.pick [1, 4, 5, 6, 7, 12, 13, 14, 119]
  replace hst : St No w0 [_, _, _] w17 := hst.mask [false, true, true, true]
  refine wc_cond_f hfr rfl ?_
  refine wc_skip ?_
  refine hK17 _ _ ?_
  refine wc_seq_k fun K22 hK22 => ?_
  refine wc_of_dr (by kernel_rfl) (dr_of_wd (by kernel_rfl) fun w18 hxz => ?_)
  replace hst : St No w0 [own (.slice (some ⟨w8.heap.size, 0, none⟩) 4 4) 39 3 ([[.int .i64 1, .int .i64 cl.asked, .int .i64 (cl.asked + rl.answer)], [.int .i64 3, .int .i64 (cl.asked + rl.answer), .int .i64 ((cl.asked + rl.answer) + rl.cooling)], [.int .i64 4, .int .i64 ((cl.asked + rl.answer) + rl.cooling), .int .i64 (((cl.asked + rl.answer) + rl.cooling) + rl.reverse)], [.int .i64 5, .int .i64 (((cl.asked + rl.answer) + rl.cooling) + rl.reverse), .int .i64 (-1)]]), blk w5.heap.size [.int .i64 cl.number, .int .i64 cl.frm, .int .i64 cl.to, .int .i64 cl.holder, .int .i64 cl.asked, .bool cl.backed] 31, blk w4.heap.size [.int .i64 rl.answer, .int .i64 rl.cooling, .int .i64 rl.settle, .int .i64 rl.reverse] 29] w18 := hst.grow hxz
  refine wd_sub (k := 0) 13 [10, 12] hfr (by kernel_rfl) (by kernel_rfl) (by kernel_rfl) (by rfl) ?_
  replace hfr : Fr 182 [(1, _), (4, _), (5, _), (6, _), (7, _), (12, _), (13, _), (14, _), (119, _)] [] a := hfr.pick [1, 4, 5, 6, 7, 12, 13, 14, 119]
  refine wc_phases_new 11 12 39 [.int .i64 0, .int .i64 0, .int .i64 0] [.int .i64 1, .int .i64 cl.asked, .int .i64 (cl.asked + rl.answer)] 13 [[], [], [], [], [2, 3], [4], [5], [0, 1, 6], [7], [8], [8], [], [9, 11]] (fun i => match i with | 0 => pv (.agg #[.int .i64 rl.answer, .int .i64 rl.cooling, .int .i64 rl.settle, .int .i64 rl.reverse]) | 1 => pv (.agg #[.int .i64 cl.number, .int .i64 cl.frm, .int .i64 cl.to, .int .i64 cl.holder, .int .i64 cl.asked, .bool cl.backed]) | 2 => pv ((.slice (some ⟨w8.heap.size, 0, none⟩) 4 4)) | 3 => pv (.int .i64 0) | 4 => pv (slAddr (.slice (some ⟨w8.heap.size, 0, none⟩) 4 4) (0 * 3)) | 5 => pv (slAddr (.slice (some ⟨w8.heap.size, 0, none⟩) 4 4) (0 * 3 + 1)) | 6 => pv (.int .i64 cl.asked) | 7 => pv (.tuple #[.agg #[.int .i64 1, .int .i64 cl.asked, .int .i64 (cl.asked + rl.answer)], .int .i64 0]) | 8 => pv (.tuple #[.agg #[.int .i64 1, .int .i64 cl.asked, .int .i64 (cl.asked + rl.answer)], .int .i64 0]) | 9 => pv (.agg #[.int .i64 1, .int .i64 cl.asked, .int .i64 (cl.asked + rl.answer)]) | 10 => pv (.int .i64 0) | 11 => fun v E => ∃ b, v = ptr b ∧ E = [] | 12 => fun v E => v = undef ∧ E = [] | _ => fun _ _ => False) hfr (H := [own (.slice (some ⟨w8.heap.size, 0, none⟩) 4 4) 39 3 ([[.int .i64 1, .int .i64 cl.asked, .int .i64 (cl.asked + rl.answer)], [.int .i64 3, .int .i64 (cl.asked + rl.answer), .int .i64 ((cl.asked + rl.answer) + rl.cooling)], [.int .i64 4, .int .i64 ((cl.asked + rl.answer) + rl.cooling), .int .i64 (((cl.asked + rl.answer) + rl.cooling) + rl.reverse)], [.int .i64 5, .int .i64 (((cl.asked + rl.answer) + rl.cooling) + rl.reverse), .int .i64 (-1)]]), blk w5.heap.size [.int .i64 cl.number, .int .i64 cl.frm, .int .i64 cl.to, .int .i64 cl.holder, .int .i64 cl.asked, .bool cl.backed] 31, blk w4.heap.size [.int .i64 rl.answer, .int .i64 rl.cooling, .int .i64 rl.settle, .int .i64 rl.reverse] 29]) hst (by kernel_rfl) (by kernel_rfl) (by kernel_rfl) (by kernel_rfl) (by decide) (by decide) (by decide) (by decide) (by decide) ?_ (fun v E h => h) ⟨rfl, rfl⟩ (fun v E => Iff.rfl) ?_ ?_ ?_ ?_
  · intro i v E h
    match i, h with
    | 0, _ => exact by decide
    | 1, _ => exact by decide
    | 2, _ => exact by decide
    | 3, _ => exact by decide
    | 4, _ => exact by decide
    | 5, _ => exact by decide
    | 6, _ => exact by decide
    | 7, _ => exact by decide
    | 8, _ => exact by decide
    | 9, _ => exact by decide
    | 10, _ => exact by decide
    | 11, _ => exact by decide
    | 12, _ => exact by decide
    | i + 13, h => exact h.elim
  · intro i hi hia hij e
    match i, hi, hia, hij with
    | 0, _, _, _ =>
      intro w hst
      exact OpV.g (v_load_all (hst.get (k := 3) rfl) rfl (Try.isAgg29 _) (Try.sizeOf29 _))
    | 1, _, _, _ =>
      intro w hst
      exact OpV.g (v_load_all (hst.get (k := 2) rfl) rfl (Try.isAgg31 _) (Try.sizeOf31 _))
    | 2, _, _, _ =>
      intro w hst
      exact OpV.g (v_move rfl)
    | 3, _, _, _ =>
      intro w hst
      exact OpV.g (v_move rfl)
    | 4, _, _, _ =>
      rintro _ _ ⟨rfl, rfl⟩ _ _ ⟨rfl, rfl⟩
      intro w hst
      exact OpV.g ((v_indexAddr_sl (i := 0) (sT := 47) (hst.ownAt (i := 1) rfl) rfl rfl (Try.runUnderlying47 _) (Try.sizeOf39 _) (by omega) (by simp)).as (v' := slAddr (.slice (some ⟨w8.heap.size, 0, none⟩) 4 4) (0 * 3)) rfl)
    | 5, _, _, _ =>
      rintro _ _ ⟨rfl, rfl⟩
      intro w hst
      exact OpV.g (v_fieldAddr_sl (k := 0 * 3) (j := 1) (hst.ownAt (i := 1) rfl) (i := 0) (by simp) rfl (fun _ _ => by kernel_rfl))
    | 6, _, _, _ =>
      rintro _ _ ⟨rfl, rfl⟩
      intro w hst
      exact OpV.g (v_load_sl1 (u := .int .i64 cl.asked) (i := 0) (j := 1) (hst.ownAt (i := 1) rfl) (by simp) rfl (Try.isAgg3 _) (by rfl))
    | 7, _, _, _ =>
      rintro _ _ ⟨rfl, rfl⟩ _ _ ⟨rfl, rfl⟩ _ _ ⟨rfl, rfl⟩
      intro w hst
      exact g_callp Try.call14 rfl (outcome2 (s := ⟨1, cl.asked, cl.asked + rl.answer⟩) (out1 (statuses_nil hr hc) (by simp only; omega) (by simp only; omega)) (outcome_ok rl cl (.slice none 0 0) [] cl.asked _ (slAt_nil _ _) (valid_nil hr hc) (by simp [isIn]; omega)))
    | 8, _, _, _ =>
      rintro _ _ ⟨rfl, rfl⟩
      intro w hst
      exact OpV.g (v_move rfl)
    | 9, _, _, _ =>
      rintro _ _ ⟨rfl, rfl⟩
      intro w hst
      exact OpV.g (v_extract rfl rfl)
    | 10, _, _, _ =>
      rintro _ _ ⟨rfl, rfl⟩
      intro w hst
      exact OpV.g (v_extract rfl rfl)
    | 11, _, h, _ => exact absurd rfl h
    | 12, _, _, h => exact absurd rfl h
    | i + 13, h, _, _ => exact absurd h (by omega)
  · exact fun Lv w => r_alloc (Try.zeroValue39 _)
  · rintro _ _ ⟨rfl, rfl⟩ _ _ ⟨b4, rfl, rfl⟩
    intro b hb w h
    have hb : some (ptr b4) = some (ptr b) := hb
    cases hb
    exact r_storeU rfl rfl h (Try.sizeOf39 _) rfl (Nat.le_of_ble_eq_true rfl) rfl
  clear hfr hst
  rintro bq _ _ ⟨⟨rfl, rfl⟩, -⟩ _ _ ⟨⟨rfl, rfl⟩, -⟩ _ _ ⟨⟨rfl, rfl⟩, -⟩ _ _ ⟨⟨rfl, rfl⟩, -⟩ _ _ ⟨⟨rfl, rfl⟩, -⟩ _ _ ⟨⟨rfl, rfl⟩, -⟩ _ _ ⟨⟨rfl, rfl⟩, -⟩ _ _ ⟨⟨rfl, rfl⟩, -⟩ _ _ ⟨⟨rfl, rfl⟩, -⟩ _ _ ⟨⟨rfl, rfl⟩, -⟩ _ _ ⟨⟨rfl, rfl⟩, -⟩ _ _ ⟨⟨b4, rfl, rfl⟩, hva⟩ a w19 hfr hst
  obtain rfl : b4 = bq := ptr_inj (hva rfl)
  replace hfr : Fr 182 [(121, _), (122, _), (123, _), (124, _), (125, _), (126, _), (127, _), (128, _), (120, _), (129, _), (130, _), (17, _), (1, _), (4, _), (5, _), (6, _), (7, _), (12, _), (13, _), (14, _), (119, _)] [] a := hfr
  replace hst : St No w0 [blk b4 [.int .i64 1, .int .i64 cl.asked, .int .i64 (cl.asked + rl.answer)] 39, own (.slice (some ⟨w8.heap.size, 0, none⟩) 4 4) 39 3 ([[.int .i64 1, .int .i64 cl.asked, .int .i64 (cl.asked + rl.answer)], [.int .i64 3, .int .i64 (cl.asked + rl.answer), .int .i64 ((cl.asked + rl.answer) + rl.cooling)], [.int .i64 4, .int .i64 ((cl.asked + rl.answer) + rl.cooling), .int .i64 (((cl.asked + rl.answer) + rl.cooling) + rl.reverse)], [.int .i64 5, .int .i64 (((cl.asked + rl.answer) + rl.cooling) + rl.reverse), .int .i64 (-1)]]), blk w5.heap.size [.int .i64 cl.number, .int .i64 cl.frm, .int .i64 cl.to, .int .i64 cl.holder, .int .i64 cl.asked, .bool cl.backed] 31, blk w4.heap.size [.int .i64 rl.answer, .int .i64 rl.cooling, .int .i64 rl.settle, .int .i64 rl.reverse] 29] w19 := hst
  refine wl_nil ?_
  refine wd_lin (k := 13) 14 [13] (by kernel_rfl) (by kernel_rfl) (by kernel_rfl) ?_
  refine wl_v hfr (by decide) (v_assign rfl) ?_
  clear hfr
  intro a hfr
  refine wl_nil ?_
  refine wd_end (by kernel_rfl) ?_
  refine hK22 _ _ ?_
  replace hfr : Fr 182 [(1, _), (4, _), (5, _), (6, _), (7, _), (12, _), (13, _), (14, _), (17, _), (18, _)] [] a := hfr.pick [1, 4, 5, 6, 7, 12, 13, 14, 17, 18]
  refine wc_seq_region fun K23 hK23 => ?_
  refine wl_v hfr (by decide) (v_load_all (hst.get (k := 3) rfl) rfl (Try.isAgg29 _) (Try.sizeOf29 _)) ?_
  clear hfr
  intro a hfr
  refine wl_v hfr (by decide) (v_load_all (hst.get (k := 2) rfl) rfl (Try.isAgg31 _) (Try.sizeOf31 _)) ?_
  clear hfr
  intro a hfr
  refine wl_v hfr (by decide) (v_move rfl) ?_
  clear hfr
  intro a hfr
  refine wl_callp hfr hst (by decide) Try.call14 rfl (outcome2 (s := ⟨1, cl.asked, cl.asked + rl.answer⟩) (out1 (statuses_nil hr hc) (by simp only; omega) (by simp only; omega)) (outcome_ok rl cl (.slice none 0 0) [] (cl.asked + p1) _ (slAt_nil _ _) (valid_nil hr hc) (by simp [isIn]; omega))) ?_
  clear hfr hst
  intro a w20 hfr hst
  refine wl_v hfr (by decide) (v_move rfl) ?_
  clear hfr
  intro a hfr
  refine wl_v hfr (by decide) (v_extract rfl rfl) ?_
  clear hfr
  intro a hfr
  refine wl_v hfr (by decide) (v_extract rfl rfl) ?_
  clear hfr
  intro a hfr
  refine wl_alloc hfr hst (by decide) (Try.zeroValue39 _) (cs := [.int .i64 0, .int .i64 0, .int .i64 0]) rfl ?_
  clear hfr hst
  intro a w21 hfr hst
  refine wl_store 0 hfr hst rfl rfl rfl (Try.sizeOf39 _) rfl (Nat.le_of_ble_eq_true rfl) (ds := [.int .i64 1, .int .i64 cl.asked, .int .i64 (cl.asked + rl.answer)]) rfl rfl ?_
  clear hfr hst
  intro a w22 hfr hst
  refine wl_v hfr (by decide) (v_assign rfl) ?_
  clear hfr
  intro a hfr
  refine wl_nil (hK23 _ _ ?_)
  replace hfr : Fr 182 [(1, _), (4, _), (5, _), (6, _), (7, _), (12, _), (13, _), (17, _), (18, _), (19, _), (20, _)] [] a := hfr.pick [1, 4, 5, 6, 7, 12, 13, 17, 18, 19, 20]
  refine wc_seq_k fun K24 hK24 => ?_
  refine wc_of_dr (by kernel_rfl) (dr_of_wd (by kernel_rfl) fun w23 hxz => ?_)
  replace hst : St No w0 [blk w20.heap.size [.int .i64 1, .int .i64 cl.asked, .int .i64 (cl.asked + rl.answer)] 39, blk b4 [.int .i64 1, .int .i64 cl.asked, .int .i64 (cl.asked + rl.answer)] 39, own (.slice (some ⟨w8.heap.size, 0, none⟩) 4 4) 39 3 ([[.int .i64 1, .int .i64 cl.asked, .int .i64 (cl.asked + rl.answer)], [.int .i64 3, .int .i64 (cl.asked + rl.answer), .int .i64 ((cl.asked + rl.answer) + rl.cooling)], [.int .i64 4, .int .i64 ((cl.asked + rl.answer) + rl.cooling), .int .i64 (((cl.asked + rl.answer) + rl.cooling) + rl.reverse)], [.int .i64 5, .int .i64 (((cl.asked + rl.answer) + rl.cooling) + rl.reverse), .int .i64 (-1)]]), blk w5.heap.size [.int .i64 cl.number, .int .i64 cl.frm, .int .i64 cl.to, .int .i64 cl.holder, .int .i64 cl.asked, .bool cl.backed] 31, blk w4.heap.size [.int .i64 rl.answer, .int .i64 rl.cooling, .int .i64 rl.settle, .int .i64 rl.reverse] 29] w23 := hst.grow hxz
  refine wd_lin (k := 0) 7 [6] (by kernel_rfl) (by kernel_rfl) (by kernel_rfl) ?_
  refine wl_v hfr (by decide) (v_move rfl) ?_
  clear hfr
  intro a hfr
  refine wl_v hfr (by decide) ((v_ne rfl rfl).asb (b' := false) rfl) ?_
  clear hfr
  intro a hfr
  refine wl_v hfr (by decide) (v_move rfl) ?_
  clear hfr
  intro a hfr
  refine wl_vy hfr (by decide) rfl (by decide) rfl (v_move rfl) ?_
  clear hfr
  intro a hfr
  refine wl_vy hfr (by decide) rfl (by decide) rfl ((v_ne rfl rfl).asb (b' := false) rfl) ?_
  clear hfr
  intro a hfr
  refine wl_v hfr (by decide) (v_pick_f rfl rfl) ?_
  clear hfr
  intro a hfr
  refine wl_v hfr (by decide) (v_move rfl) ?_
  clear hfr
  intro a hfr
  refine wl_nil ?_
  refine wd_sub (k := 7) 12 [7, 11] hfr (by kernel_rfl) (by kernel_rfl) (by kernel_rfl) (by rfl) ?_
  replace hfr : Fr 182 [(1, _), (4, _), (5, _), (6, _), (7, _), (12, _), (13, _), (17, _), (18, _), (19, _), (20, _), (138, _), (139, _), (140, _), (141, _), (142, _), (143, _), (144, _)] [] a := hfr.pick [1, 4, 5, 6, 7, 12, 13, 17, 18, 19, 20, 138, 139, 140, 141, 142, 143, 144]
  refine wc_phases' 5 [[], [], [], [1, 2], [3]] (fun i => match i with | 0 => pv (.agg #[.int .i64 1, .int .i64 cl.asked, .int .i64 (cl.asked + rl.answer)]) | 1 => pv ((.slice (some ⟨w8.heap.size, 0, none⟩) 4 4)) | 2 => pv (.int .i64 0) | 3 => pv (slAddr (.slice (some ⟨w8.heap.size, 0, none⟩) 4 4) (0 * 3)) | 4 => pv (.agg #[.int .i64 1, .int .i64 cl.asked, .int .i64 (cl.asked + rl.answer)]) | _ => fun _ _ => False) hfr hst (by kernel_rfl) (by kernel_rfl) ?_ ?_
  · intro i hi
    match i, hi with
    | 0, _ =>
      intro w hst
      exact OpV.g (v_load_all (hst.get (k := 1) rfl) rfl (Try.isAgg39 _) (Try.sizeOf39 _))
    | 1, _ =>
      intro w hst
      exact OpV.g (v_move rfl)
    | 2, _ =>
      intro w hst
      exact OpV.g (v_move rfl)
    | 3, _ =>
      rintro _ _ ⟨rfl, rfl⟩ _ _ ⟨rfl, rfl⟩
      intro w hst
      exact OpV.g ((v_indexAddr_sl (i := 0) (sT := 47) (hst.ownAt (i := 2) rfl) rfl rfl (Try.runUnderlying47 _) (Try.sizeOf39 _) (by omega) (by simp)).as (v' := slAddr (.slice (some ⟨w8.heap.size, 0, none⟩) 4 4) (0 * 3)) rfl)
    | 4, _ =>
      rintro _ _ ⟨rfl, rfl⟩
      intro w hst
      exact OpV.g ((v_load_sl (hst.ownAt (i := 2) rfl) (i := 0) (by simp) rfl (Try.isAgg39 _) (Try.sizeOf39 _)).as (v' := .agg #[.int .i64 1, .int .i64 cl.asked, .int .i64 (cl.asked + rl.answer)]) (by rfl))
  clear hfr hst
  rintro _ _ ⟨rfl, rfl⟩ _ _ ⟨rfl, rfl⟩ _ _ ⟨rfl, rfl⟩ _ _ ⟨rfl, rfl⟩ _ _ ⟨rfl, rfl⟩ a w24 hfr hst
  replace hfr : Fr 182 [(145, _), (146, _), (147, _), (148, _), (149, _), (1, _), (4, _), (5, _), (6, _), (7, _), (12, _), (13, _), (17, _), (18, _), (19, _), (20, _), (138, _), (139, _), (140, _), (141, _), (142, _), (143, _), (144, _)] [] a := hfr
  replace hst : St No w0 [_, _, _, _, _] w24 := hst
  refine wl_nil ?_
  refine wd_lin (k := 12) 15 [14] (by kernel_rfl) (by kernel_rfl) (by kernel_rfl) ?_
  refine wl_vy hfr (by decide) rfl (by decide) rfl ((v_ne_agg rfl rfl (by kernel_rfl) (eqStt 1 cl.asked (cl.asked + rl.answer) 1 cl.asked (cl.asked + rl.answer) _)).asb (b' := false) (by simp)) ?_
  clear hfr
  intro a hfr
  refine wl_v hfr (by decide) (v_pick_f rfl rfl) ?_
  clear hfr
  intro a hfr
  refine wl_v hfr (by decide) (v_move rfl) ?_
  clear hfr
  intro a hfr
  refine wl_nil ?_
  refine wd_sub (k := 15) 20 [15, 19] hfr (by kernel_rfl) (by kernel_rfl) (by kernel_rfl) (by rfl) ?_
  replace hfr : Fr 182 [(1, _), (4, _), (5, _), (6, _), (7, _), (12, _), (13, _), (17, _), (18, _), (19, _), (20, _), (138, _), (139, _), (140, _), (141, _), (142, _), (143, _), (144, _), (145, _), (146, _), (147, _), (148, _), (149, _), (150, _), (151, _), (152, _)] [] a := hfr.pick [1, 4, 5, 6, 7, 12, 13, 17, 18, 19, 20, 138, 139, 140, 141, 142, 143, 144, 145, 146, 147, 148, 149, 150, 151, 152]
  refine wc_phases' 5 [[], [], [], [1, 2], [3]] (fun i => match i with | 0 => pv (.agg #[.int .i64 1, .int .i64 cl.asked, .int .i64 (cl.asked + rl.answer)]) | 1 => pv ((.slice (some ⟨w8.heap.size, 0, none⟩) 4 4)) | 2 => pv (.int .i64 0) | 3 => pv (slAddr (.slice (some ⟨w8.heap.size, 0, none⟩) 4 4) (0 * 3)) | 4 => pv (.agg #[.int .i64 1, .int .i64 cl.asked, .int .i64 (cl.asked + rl.answer)]) | _ => fun _ _ => False) hfr hst (by kernel_rfl) (by kernel_rfl) ?_ ?_
  · intro i hi
    match i, hi with
    | 0, _ =>
      intro w hst
      exact OpV.g (v_load_all (hst.get (k := 0) rfl) rfl (Try.isAgg39 _) (Try.sizeOf39 _))
    | 1, _ =>
      intro w hst
      exact OpV.g (v_move rfl)
    | 2, _ =>
      intro w hst
      exact OpV.g (v_move rfl)
    | 3, _ =>
      rintro _ _ ⟨rfl, rfl⟩ _ _ ⟨rfl, rfl⟩
      intro w hst
      exact OpV.g ((v_indexAddr_sl (i := 0) (sT := 47) (hst.ownAt (i := 2) rfl) rfl rfl (Try.runUnderlying47 _) (Try.sizeOf39 _) (by omega) (by simp)).as (v' := slAddr (.slice (some ⟨w8.heap.size, 0, none⟩) 4 4) (0 * 3)) rfl)
    | 4, _ =>
      rintro _ _ ⟨rfl, rfl⟩
      intro w hst
      exact OpV.g ((v_load_sl (hst.ownAt (i := 2) rfl) (i := 0) (by simp) rfl (Try.isAgg39 _) (Try.sizeOf39 _)).as (v' := .agg #[.int .i64 1, .int .i64 cl.asked, .int .i64 (cl.asked + rl.answer)]) (by rfl))
  clear hfr hst
  rintro _ _ ⟨rfl, rfl⟩ _ _ ⟨rfl, rfl⟩ _ _ ⟨rfl, rfl⟩ _ _ ⟨rfl, rfl⟩ _ _ ⟨rfl, rfl⟩ a w25 hfr hst
  replace hfr : Fr 182 [(153, _), (154, _), (155, _), (156, _), (157, _), (1, _), (4, _), (5, _), (6, _), (7, _), (12, _), (13, _), (17, _), (18, _), (19, _), (20, _), (138, _), (139, _), (140, _), (141, _), (142, _), (143, _), (144, _), (145, _), (146, _), (147, _), (148, _), (149, _), (150, _), (151, _), (152, _)] [] a := hfr
  replace hst : St No w0 [_, _, _, _, _] w25 := hst
  refine wl_nil ?_
  refine wd_lin (k := 20) 22 [21] (by kernel_rfl) (by kernel_rfl) (by kernel_rfl) ?_
  refine wl_vy hfr (by decide) rfl (by decide) rfl ((v_ne_agg rfl rfl (by kernel_rfl) (eqStt 1 cl.asked (cl.asked + rl.answer) 1 cl.asked (cl.asked + rl.answer) _)).asb (b' := false) (by simp)) ?_
  clear hfr
  intro a hfr
  refine wl_v hfr (by decide) (v_pick_f rfl rfl) ?_
  clear hfr
  intro a hfr
  refine wl_nil ?_
  refine wd_end (by kernel_rfl) ?_
  refine hK24 _ _ ?_
  replace hfr : Fr 182 [(1, _), (4, _), (5, _), (6, _), (7, _), (12, _), (13, _), (159, _)] [] a := hfr.pick [1, 4, 5, 6, 7, 12, 13, 159]
  replace hst : St No w0 [_, _, _] w25 := hst.mask [false, false, true, true, true]
  refine wc_cond_f hfr rfl ?_
  refine wc_skip ?_
  refine hK15 _ _ ?_
  refine wc_region ?_
  refine wl_v hfr (by decide) (v_move rfl) ?_
  clear hfr
  intro a hfr
  refine wl_v hfr (by decide) ((v_add rfl rfl (by decide)).asi (m' := 1) rfl) ?_
  clear hfr
  intro a hfr
  refine wl_v hfr (by decide) (v_assign rfl) ?_
  clear hfr
  intro a hfr
  refine wl_nil ?_
  refine wr_succ ?_
  refine wc_seq_k fun K25 hK25 => ?_
  refine wc_seq_region fun K26 hK26 => ?_
  refine wl_v hfr (by decide) (v_move rfl) ?_
  clear hfr
  intro a hfr
  refine wl_v hfr (by decide) (v_move rfl) ?_
  clear hfr
  intro a hfr
  refine wl_v hfr (by decide) ((v_len_sl (sT := 47) (hst.ownAt (i := 0) rfl) rfl rfl (Try.runUnderlying47 _)).asi (m' := 4) (by rfl)) ?_
  clear hfr
  intro a hfr
  refine wl_v hfr (by decide) ((v_lt rfl rfl).asb (b' := true) rfl) ?_
  clear hfr
  intro a hfr
  refine wl_nil (hK26 _ _ ?_)
  replace hfr : Fr 182 [(1, _), (4, _), (5, _), (6, _), (7, _), (12, _), (13, _), (62, _)] [] a := hfr.pick [1, 4, 5, 6, 7, 12, 13, 62]
  refine wc_cond_t hfr rfl ?_
  refine wc_skip ?_
  refine hK25 _ _ ?_
  refine wc_seq_k fun K27 hK27 => ?_
  refine wc_block ?_
  refine wc_seq_k fun K28 hK28 => ?_
  refine wc_of_dr (by kernel_rfl) (dr_of_wd (by kernel_rfl) fun w26 hxz => ?_)
  replace hst : St No w0 [own (.slice (some ⟨w8.heap.size, 0, none⟩) 4 4) 39 3 ([[.int .i64 1, .int .i64 cl.asked, .int .i64 (cl.asked + rl.answer)], [.int .i64 3, .int .i64 (cl.asked + rl.answer), .int .i64 ((cl.asked + rl.answer) + rl.cooling)], [.int .i64 4, .int .i64 ((cl.asked + rl.answer) + rl.cooling), .int .i64 (((cl.asked + rl.answer) + rl.cooling) + rl.reverse)], [.int .i64 5, .int .i64 (((cl.asked + rl.answer) + rl.cooling) + rl.reverse), .int .i64 (-1)]]), blk w5.heap.size [.int .i64 cl.number, .int .i64 cl.frm, .int .i64 cl.to, .int .i64 cl.holder, .int .i64 cl.asked, .bool cl.backed] 31, blk w4.heap.size [.int .i64 rl.answer, .int .i64 rl.cooling, .int .i64 rl.settle, .int .i64 rl.reverse] 29] w26 := hst.grow hxz
  refine wd_sub (k := 0) 7 [4, 6] hfr (by kernel_rfl) (by kernel_rfl) (by kernel_rfl) (by rfl) ?_
  replace hfr : Fr 182 [(1, _), (4, _), (5, _), (6, _), (7, _), (12, _), (13, _), (62, _)] [] a := hfr.pick [1, 4, 5, 6, 7, 12, 13, 62]
  refine wc_phases' 7 [[], [], [0, 1], [2], [3], [], [5]] (fun i => match i with | 0 => pv ((.slice (some ⟨w8.heap.size, 0, none⟩) 4 4)) | 1 => pv (.int .i64 1) | 2 => pv (slAddr (.slice (some ⟨w8.heap.size, 0, none⟩) 4 4) (1 * 3)) | 3 => pv (slAddr (.slice (some ⟨w8.heap.size, 0, none⟩) 4 4) (1 * 3 + 1)) | 4 => pv (.int .i64 (cl.asked + rl.answer)) | 5 => pv (.int .i64 tt) | 6 => pv (.int .i64 p0) | _ => fun _ _ => False) hfr hst (by kernel_rfl) (by kernel_rfl) ?_ ?_
  · intro i hi
    match i, hi with
    | 0, _ =>
      intro w hst
      exact OpV.g (v_move rfl)
    | 1, _ =>
      intro w hst
      exact OpV.g (v_move rfl)
    | 2, _ =>
      rintro _ _ ⟨rfl, rfl⟩ _ _ ⟨rfl, rfl⟩
      intro w hst
      exact OpV.g ((v_indexAddr_sl (i := 1) (sT := 47) (hst.ownAt (i := 0) rfl) rfl rfl (Try.runUnderlying47 _) (Try.sizeOf39 _) (by omega) (by simp)).as (v' := slAddr (.slice (some ⟨w8.heap.size, 0, none⟩) 4 4) (1 * 3)) rfl)
    | 3, _ =>
      rintro _ _ ⟨rfl, rfl⟩
      intro w hst
      exact OpV.g (v_fieldAddr_sl (k := 1 * 3) (j := 1) (hst.ownAt (i := 0) rfl) (i := 1) (by simp) rfl (fun _ _ => by kernel_rfl))
    | 4, _ =>
      rintro _ _ ⟨rfl, rfl⟩
      intro w hst
      exact OpV.g (v_load_sl1 (u := .int .i64 (cl.asked + rl.answer)) (i := 1) (j := 1) (hst.ownAt (i := 0) rfl) (by simp) rfl (Try.isAgg3 _) (by rfl))
    | 5, _ =>
      intro w hst
      exact OpV.g (v_move rfl)
    | 6, _ =>
      rintro _ _ ⟨rfl, rfl⟩
      intro w hst
      exact g_callp Try.call15 rfl (pick2 hp0 (pick16_ok _ _ _ (by omega) (by omega) (by omega) (by omega)))
  clear hfr hst
  rintro _ _ ⟨rfl, rfl⟩ _ _ ⟨rfl, rfl⟩ _ _ ⟨rfl, rfl⟩ _ _ ⟨rfl, rfl⟩ _ _ ⟨rfl, rfl⟩ _ _ ⟨rfl, rfl⟩ _ _ ⟨rfl, rfl⟩ a w27 hfr hst
  replace hfr : Fr 182 [(65, _), (66, _), (67, _), (68, _), (69, _), (70, _), (71, _), (1, _), (4, _), (5, _), (6, _), (7, _), (12, _), (13, _), (62, _)] [] a := hfr
  replace hst : St No w0 [_, _, _] w27 := hst
  refine wl_nil ?_
  refine wd_lin (k := 7) 9 [8] (by kernel_rfl) (by kernel_rfl) (by kernel_rfl) ?_
  refine wl_v hfr (by decide) (v_add rfl rfl ⟨by omega, by omega⟩) ?_
  clear hfr
  intro a hfr
  refine wl_v hfr (by decide) (v_assign rfl) ?_
  clear hfr
  intro a hfr
  refine wl_nil ?_
  refine wd_end (by kernel_rfl) ?_
  refine hK28 _ _ ?_
  replace hfr : Fr 182 [(1, _), (4, _), (5, _), (6, _), (7, _), (12, _), (13, _), (14, _)] [] a := hfr.pick [1, 4, 5, 6, 7, 12, 13, 14]
  refine wc_seq_k fun K29 hK29 => ?_
  refine wc_seq_region fun K30 hK30 => ?_
  refine wl_v hfr (by decide) (v_move rfl) ?_
  clear hfr
  intro a hfr
  refine wl_v hfr (by decide) (v_move rfl) ?_
  clear hfr
  intro a hfr
  refine wl_v hfr (by decide) ((v_indexAddr_sl (i := 1) (sT := 47) (hst.ownAt (i := 0) rfl) rfl rfl (Try.runUnderlying47 _) (Try.sizeOf39 _) (by omega) (by simp)).as (v' := slAddr (.slice (some ⟨w8.heap.size, 0, none⟩) 4 4) (1 * 3)) rfl) ?_
  clear hfr
  intro a hfr
  refine wl_v hfr (by decide) (v_fieldAddr_sl (k := 1 * 3) (j := 2) (hst.ownAt (i := 0) rfl) (i := 1) (by simp) rfl (fun _ _ => by kernel_rfl)) ?_
  clear hfr
  intro a hfr
  refine wl_v hfr (by decide) (v_load_sl1 (u := .int .i64 ((cl.asked + rl.answer) + rl.cooling)) (i := 1) (j := 2) (hst.ownAt (i := 0) rfl) (by simp) rfl (Try.isAgg3 _) (by rfl)) ?_
  clear hfr
  intro a hfr
  refine wl_v hfr (by decide) ((v_ge rfl rfl).asb (b' := true) (by simp; omega)) ?_
  clear hfr
  intro a hfr
  refine wl_nil (hK30 _ _ ?_)
  refine wc_cond_t hfr rfl ?_
  refine wc_seq_k fun K31 hK31 => ?_
  refine wc_of_dr (by kernel_rfl) (dr_of_wd (by kernel_rfl) fun w28 hxz => ?_)
  replace hst : St No w0 [own (.slice (some ⟨w8.heap.size, 0, none⟩) 4 4) 39 3 ([[.int .i64 1, .int .i64 cl.asked, .int .i64 (cl.asked + rl.answer)], [.int .i64 3, .int .i64 (cl.asked + rl.answer), .int .i64 ((cl.asked + rl.answer) + rl.cooling)], [.int .i64 4, .int .i64 ((cl.asked + rl.answer) + rl.cooling), .int .i64 (((cl.asked + rl.answer) + rl.cooling) + rl.reverse)], [.int .i64 5, .int .i64 (((cl.asked + rl.answer) + rl.cooling) + rl.reverse), .int .i64 (-1)]]), blk w5.heap.size [.int .i64 cl.number, .int .i64 cl.frm, .int .i64 cl.to, .int .i64 cl.holder, .int .i64 cl.asked, .bool cl.backed] 31, blk w4.heap.size [.int .i64 rl.answer, .int .i64 rl.cooling, .int .i64 rl.settle, .int .i64 rl.reverse] 29] w28 := hst.grow hxz
  refine wd_sub (k := 0) 18 [4, 17] hfr (by kernel_rfl) (by kernel_rfl) (by kernel_rfl) (by rfl) ?_
  replace hfr : Fr 182 [(1, _), (4, _), (5, _), (6, _), (7, _), (12, _), (13, _), (14, _), (73, _), (74, _), (75, _), (76, _), (77, _), (78, _)] [] a := hfr.pick [1, 4, 5, 6, 7, 12, 13, 14, 73, 74, 75, 76, 77, 78]
  refine wc_phases' 18 [[], [], [0, 1], [2], [3], [], [], [], [6, 7], [8], [9], [], [], [11, 12], [13], [14], [10, 15], [5, 16]] (fun i => match i with | 0 => pv ((.slice (some ⟨w8.heap.size, 0, none⟩) 4 4)) | 1 => pv (.int .i64 1) | 2 => pv (slAddr (.slice (some ⟨w8.heap.size, 0, none⟩) 4 4) (1 * 3)) | 3 => pv (slAddr (.slice (some ⟨w8.heap.size, 0, none⟩) 4 4) (1 * 3 + 1)) | 4 => pv (.int .i64 (cl.asked + rl.answer)) | 5 => pv (.int .i64 tt) | 6 => pv ((.slice (some ⟨w8.heap.size, 0, none⟩) 4 4)) | 7 => pv (.int .i64 1) | 8 => pv (slAddr (.slice (some ⟨w8.heap.size, 0, none⟩) 4 4) (1 * 3)) | 9 => pv (slAddr (.slice (some ⟨w8.heap.size, 0, none⟩) 4 4) (1 * 3 + 2)) | 10 => pv (.int .i64 ((cl.asked + rl.answer) + rl.cooling)) | 11 => pv ((.slice (some ⟨w8.heap.size, 0, none⟩) 4 4)) | 12 => pv (.int .i64 1) | 13 => pv (slAddr (.slice (some ⟨w8.heap.size, 0, none⟩) 4 4) (1 * 3)) | 14 => pv (slAddr (.slice (some ⟨w8.heap.size, 0, none⟩) 4 4) (1 * 3 + 1)) | 15 => pv (.int .i64 (cl.asked + rl.answer)) | 16 => pv (.int .i64 (((cl.asked + rl.answer) + rl.cooling) - (cl.asked + rl.answer))) | 17 => pv (.int .i64 p2) | _ => fun _ _ => False) hfr hst (by kernel_rfl) (by kernel_rfl) ?_ ?_
  · intro i hi
    match i, hi with
    | 0, _ =>
      intro w hst
      exact OpV.g (v_move rfl)
    | 1, _ =>
      intro w hst
      exact OpV.g (v_move rfl)
    | 2, _ =>
      rintro _ _ ⟨rfl, rfl⟩ _ _ ⟨rfl, rfl⟩
      intro w hst
      exact OpV.g ((v_indexAddr_sl (i := 1) (sT := 47) (hst.ownAt (i := 0) rfl) rfl rfl (Try.runUnderlying47 _) (Try.sizeOf39 _) (by omega) (by simp)).as (v' := slAddr (.slice (some ⟨w8.heap.size, 0, none⟩) 4 4) (1 * 3)) rfl)
    | 3, _ =>
      rintro _ _ ⟨rfl, rfl⟩
      intro w hst
      exact OpV.g (v_fieldAddr_sl (k := 1 * 3) (j := 1) (hst.ownAt (i := 0) rfl) (i := 1) (by simp) rfl (fun _ _ => by kernel_rfl))
    | 4, _ =>
      rintro _ _ ⟨rfl, rfl⟩
      intro w hst
      exact OpV.g (v_load_sl1 (u := .int .i64 (cl.asked + rl.answer)) (i := 1) (j := 1) (hst.ownAt (i := 0) rfl) (by simp) rfl (Try.isAgg3 _) (by rfl))
    | 5, _ =>
      intro w hst
      exact OpV.g (v_move rfl)
    | 6, _ =>
      intro w hst
      exact OpV.g (v_move rfl)
    | 7, _ =>
      intro w hst
      exact OpV.g (v_move rfl)
    | 8, _ =>
      rintro _ _ ⟨rfl, rfl⟩ _ _ ⟨rfl, rfl⟩
      intro w hst
      exact OpV.g ((v_indexAddr_sl (i := 1) (sT := 47) (hst.ownAt (i := 0) rfl) rfl rfl (Try.runUnderlying47 _) (Try.sizeOf39 _) (by omega) (by simp)).as (v' := slAddr (.slice (some ⟨w8.heap.size, 0, none⟩) 4 4) (1 * 3)) rfl)
    | 9, _ =>
      rintro _ _ ⟨rfl, rfl⟩
      intro w hst
      exact OpV.g (v_fieldAddr_sl (k := 1 * 3) (j := 2) (hst.ownAt (i := 0) rfl) (i := 1) (by simp) rfl (fun _ _ => by kernel_rfl))
    | 10, _ =>
      rintro _ _ ⟨rfl, rfl⟩
      intro w hst
      exact OpV.g (v_load_sl1 (u := .int .i64 ((cl.asked + rl.answer) + rl.cooling)) (i := 1) (j := 2) (hst.ownAt (i := 0) rfl) (by simp) rfl (Try.isAgg3 _) (by rfl))
    | 11, _ =>
      intro w hst
      exact OpV.g (v_move rfl)
    | 12, _ =>
      intro w hst
      exact OpV.g (v_move rfl)
    | 13, _ =>
      rintro _ _ ⟨rfl, rfl⟩ _ _ ⟨rfl, rfl⟩
      intro w hst
      exact OpV.g ((v_indexAddr_sl (i := 1) (sT := 47) (hst.ownAt (i := 0) rfl) rfl rfl (Try.runUnderlying47 _) (Try.sizeOf39 _) (by omega) (by simp)).as (v' := slAddr (.slice (some ⟨w8.heap.size, 0, none⟩) 4 4) (1 * 3)) rfl)
    | 14, _ =>
      rintro _ _ ⟨rfl, rfl⟩
      intro w hst
      exact OpV.g (v_fieldAddr_sl (k := 1 * 3) (j := 1) (hst.ownAt (i := 0) rfl) (i := 1) (by simp) rfl (fun _ _ => by kernel_rfl))
    | 15, _ =>
      rintro _ _ ⟨rfl, rfl⟩
      intro w hst
      exact OpV.g (v_load_sl1 (u := .int .i64 (cl.asked + rl.answer)) (i := 1) (j := 1) (hst.ownAt (i := 0) rfl) (by simp) rfl (Try.isAgg3 _) (by rfl))
    | 16, _ =>
      rintro _ _ ⟨rfl, rfl⟩ _ _ ⟨rfl, rfl⟩
      intro w hst
      exact OpV.g (v_sub rfl rfl ⟨by omega, by omega⟩)
    | 17, _ =>
      rintro _ _ ⟨rfl, rfl⟩ _ _ ⟨rfl, rfl⟩
      intro w hst
      exact g_callp Try.call15 rfl (pick2 hp2 (pick16_ok _ _ _ (by omega) (by omega) (by omega) (by omega)))
    | i + 18, h => exact absurd h (by omega)
  clear hfr hst
  rintro _ _ ⟨rfl, rfl⟩ _ _ ⟨rfl, rfl⟩ _ _ ⟨rfl, rfl⟩ _ _ ⟨rfl, rfl⟩ _ _ ⟨rfl, rfl⟩ _ _ ⟨rfl, rfl⟩ _ _ ⟨rfl, rfl⟩ _ _ ⟨rfl, rfl⟩ _ _ ⟨rfl, rfl⟩ _ _ ⟨rfl, rfl⟩ _ _ ⟨rfl, rfl⟩ _ _ ⟨rfl, rfl⟩ _ _ ⟨rfl, rfl⟩ _ _ ⟨rfl, rfl⟩ _ _ ⟨rfl, rfl⟩ _ _ ⟨rfl, rfl⟩ _ _ ⟨rfl, rfl⟩ _ _ ⟨rfl, rfl⟩ a w29 hfr hst
  replace hfr : Fr 182 [(79, _), (80, _), (81, _), (82, _), (83, _), (84, _), (85, _), (86, _), (87, _), (88, _), (89, _), (90, _), (91, _), (92, _), (93, _), (94, _), (95, _), (96, _), (1, _), (4, _), (5, _), (6, _), (7, _), (12, _), (13, _), (14, _), (73, _), (74, _), (75, _), (76, _), (77, _), (78, _)] [] a := hfr
  replace hst : St No w0 [_, _, _] w29 := hst
  refine wl_nil ?_
  refine wd_lin (k := 18) 20 [19] (by kernel_rfl) (by kernel_rfl) (by kernel_rfl) ?_
  refine wl_v hfr (by decide) (v_add rfl rfl ⟨by omega, by omega⟩) ?_
  clear hfr
  intro a hfr
  refine wl_v hfr (by decide) (v_assign rfl) ?_
  clear hfr
  intro a hfr
  refine wl_nil ?_
  refine wd_end (by kernel_rfl) ?_
  refine hK31 _ _ ?_
  replace hfr : Fr 182 [(1, _), (4, _), (5, _), (6, _), (7, _), (12, _), (13, _), (14, _)] [] a := hfr.pick [1, 4, 5, 6, 7, 12, 13, 14]
  refine wc_seq_k fun K32 hK32 => ?_
  refine wc_of_dr (by kernel_rfl) (dr_of_wd (by kernel_rfl) fun w30 hxz => ?_)
  replace hst : St No w0 [own (.slice (some ⟨w8.heap.size, 0, none⟩) 4 4) 39 3 ([[.int .i64 1, .int .i64 cl.asked, .int .i64 (cl.asked + rl.answer)], [.int .i64 3, .int .i64 (cl.asked + rl.answer), .int .i64 ((cl.asked + rl.answer) + rl.cooling)], [.int .i64 4, .int .i64 ((cl.asked + rl.answer) + rl.cooling), .int .i64 (((cl.asked + rl.answer) + rl.cooling) + rl.reverse)], [.int .i64 5, .int .i64 (((cl.asked + rl.answer) + rl.cooling) + rl.reverse), .int .i64 (-1)]]), blk w5.heap.size [.int .i64 cl.number, .int .i64 cl.frm, .int .i64 cl.to, .int .i64 cl.holder, .int .i64 cl.asked, .bool cl.backed] 31, blk w4.heap.size [.int .i64 rl.answer, .int .i64 rl.cooling, .int .i64 rl.settle, .int .i64 rl.reverse] 29] w30 := hst.grow hxz
  refine wd_sub (k := 0) 14 [11, 13] hfr (by kernel_rfl) (by kernel_rfl) (by kernel_rfl) (by rfl) ?_
  replace hfr : Fr 182 [(1, _), (4, _), (5, _), (6, _), (7, _), (12, _), (13, _), (14, _)] [] a := hfr.pick [1, 4, 5, 6, 7, 12, 13, 14]
  refine wc_phases_new 12 13 39 [.int .i64 0, .int .i64 0, .int .i64 0] [.int .i64 3, .int .i64 (cl.asked + rl.answer), .int .i64 ((cl.asked + rl.answer) + rl.cooling)] 14 [[], [], [], [], [2, 3], [4], [5], [6], [0, 1, 7], [8], [9], [9], [], [10, 12]] (fun i => match i with | 0 => pv (.agg #[.int .i64 rl.answer, .int .i64 rl.cooling, .int .i64 rl.settle, .int .i64 rl.reverse]) | 1 => pv (.agg #[.int .i64 cl.number, .int .i64 cl.frm, .int .i64 cl.to, .int .i64 cl.holder, .int .i64 cl.asked, .bool cl.backed]) | 2 => pv ((.slice (some ⟨w8.heap.size, 0, none⟩) 4 4)) | 3 => pv (.int .i64 1) | 4 => pv (slAddr (.slice (some ⟨w8.heap.size, 0, none⟩) 4 4) (1 * 3)) | 5 => pv (slAddr (.slice (some ⟨w8.heap.size, 0, none⟩) 4 4) (1 * 3 + 2)) | 6 => pv (.int .i64 ((cl.asked + rl.answer) + rl.cooling)) | 7 => pv (.int .i64 (((cl.asked + rl.answer) + rl.cooling) - 1)) | 8 => pv (.tuple #[.agg #[.int .i64 3, .int .i64 (cl.asked + rl.answer), .int .i64 ((cl.asked + rl.answer) + rl.cooling)], .int .i64 0]) | 9 => pv (.tuple #[.agg #[.int .i64 3, .int .i64 (cl.asked + rl.answer), .int .i64 ((cl.asked + rl.answer) + rl.cooling)], .int .i64 0]) | 10 => pv (.agg #[.int .i64 3, .int .i64 (cl.asked + rl.answer), .int .i64 ((cl.asked + rl.answer) + rl.cooling)]) | 11 => pv (.int .i64 0) | 12 => fun v E => ∃ b, v = ptr b ∧ E = [] | 13 => fun v E => v = undef ∧ E = [] | _ => fun _ _ => False) hfr (H := [own (.slice (some ⟨w8.heap.size, 0, none⟩) 4 4) 39 3 ([[.int .i64 1, .int .i64 cl.asked, .int .i64 (cl.asked + rl.answer)], [.int .i64 3, .int .i64 (cl.asked + rl.answer), .int .i64 ((cl.asked + rl.answer) + rl.cooling)], [.int .i64 4, .int .i64 ((cl.asked + rl.answer) + rl.cooling), .int .i64 (((cl.asked + rl.answer) + rl.cooling) + rl.reverse)], [.int .i64 5, .int .i64 (((cl.asked + rl.answer) + rl.cooling) + rl.reverse), .int .i64 (-1)]]), blk w5.heap.size [.int .i64 cl.number, .int .i64 cl.frm, .int .i64 cl.to, .int .i64 cl.holder, .int .i64 cl.asked, .bool cl.backed] 31, blk w4.heap.size [.int .i64 rl.answer, .int .i64 rl.cooling, .int .i64 rl.settle, .int .i64 rl.reverse] 29]) hst (by kernel_rfl) (by kernel_rfl) (by kernel_rfl) (by kernel_rfl) (by decide) (by decide) (by decide) (by decide) (by decide) ?_ (fun v E h => h) ⟨rfl, rfl⟩ (fun v E => Iff.rfl) ?_ ?_ ?_ ?_
  · intro i v E h
    match i, h with
    | 0, _ => exact by decide
    | 1, _ => exact by decide
    | 2, _ => exact by decide
    | 3, _ => exact by decide
    | 4, _ => exact by decide
    | 5, _ => exact by decide
    | 6, _ => exact by decide
    | 7, _ => exact by decide
    | 8, _ => exact by decide
    | 9, _ => exact by decide
    | 10, _ => exact by decide
    | 11, _ => exact by decide
    | 12, _ => exact by decide
    | 13, _ => exact by decide
    | i + 14, h => exact h.elim
  · intro i hi hia hij e
    match i, hi, hia, hij with
    | 0, _, _, _ =>
      intro w hst
      exact OpV.g (v_load_all (hst.get (k := 3) rfl) rfl (Try.isAgg29 _) (Try.sizeOf29 _))
    | 1, _, _, _ =>
      intro w hst
      exact OpV.g (v_load_all (hst.get (k := 2) rfl) rfl (Try.isAgg31 _) (Try.sizeOf31 _))
    | 2, _, _, _ =>
      intro w hst
      exact OpV.g (v_move rfl)
    | 3, _, _, _ =>
      intro w hst
      exact OpV.g (v_move rfl)
    | 4, _, _, _ =>
      rintro _ _ ⟨rfl, rfl⟩ _ _ ⟨rfl, rfl⟩
      intro w hst
      exact OpV.g ((v_indexAddr_sl (i := 1) (sT := 47) (hst.ownAt (i := 1) rfl) rfl rfl (Try.runUnderlying47 _) (Try.sizeOf39 _) (by omega) (by simp)).as (v' := slAddr (.slice (some ⟨w8.heap.size, 0, none⟩) 4 4) (1 * 3)) rfl)
    | 5, _, _, _ =>
      rintro _ _ ⟨rfl, rfl⟩
      intro w hst
      exact OpV.g (v_fieldAddr_sl (k := 1 * 3) (j := 2) (hst.ownAt (i := 1) rfl) (i := 1) (by simp) rfl (fun _ _ => by kernel_rfl))
    | 6, _, _, _ =>
      rintro _ _ ⟨rfl, rfl⟩
      intro w hst
      exact OpV.g (v_load_sl1 (u := .int .i64 ((cl.asked + rl.answer) + rl.cooling)) (i := 1) (j := 2) (hst.ownAt (i := 1) rfl) (by simp) rfl (Try.isAgg3 _) (by rfl))
    | 7, _, _, _ =>
      rintro _ _ ⟨rfl, rfl⟩
      intro w hst
      exact OpV.g (v_sub rfl rfl ⟨by omega, by omega⟩)
    | 8, _, _, _ =>
      rintro _ _ ⟨rfl, rfl⟩ _ _ ⟨rfl, rfl⟩ _ _ ⟨rfl, rfl⟩
      intro w hst
      exact g_callp Try.call14 rfl (outcome2 (s := ⟨3, cl.asked + rl.answer, (cl.asked + rl.answer) + rl.cooling⟩) (out2 (statuses_nil hr hc) (by simp only; omega) (by simp only; omega) (by simp only; omega)) (outcome_ok rl cl (.slice none 0 0) [] (((cl.asked + rl.answer) + rl.cooling) - 1) _ (slAt_nil _ _) (valid_nil hr hc) (by simp [isIn]; omega)))
    | 9, _, _, _ =>
      rintro _ _ ⟨rfl, rfl⟩
      intro w hst
      exact OpV.g (v_move rfl)
    | 10, _, _, _ =>
      rintro _ _ ⟨rfl, rfl⟩
      intro w hst
      exact OpV.g (v_extract rfl rfl)
    | 11, _, _, _ =>
      rintro _ _ ⟨rfl, rfl⟩
      intro w hst
      exact OpV.g (v_extract rfl rfl)
    | 12, _, h, _ => exact absurd rfl h
    | 13, _, _, h => exact absurd rfl h
    | i + 14, h, _, _ => exact absurd h (by omega)
  · exact fun Lv w => r_alloc (Try.zeroValue39 _)
  · rintro _ _ ⟨rfl, rfl⟩ _ _ ⟨b5, rfl, rfl⟩
    intro b hb w h
    have hb : some (ptr b5) = some (ptr b) := hb
    cases hb
    exact r_storeU rfl rfl h (Try.sizeOf39 _) rfl (Nat.le_of_ble_eq_true rfl) rfl
  clear hfr hst
  rintro bq _ _ ⟨⟨rfl, rfl⟩, -⟩ _ _ ⟨⟨rfl, rfl⟩, -⟩ _ _ ⟨⟨rfl, rfl⟩, -⟩ _ _ ⟨⟨rfl, rfl⟩, -⟩ _ _ ⟨⟨rfl, rfl⟩, -⟩ _ _ ⟨⟨rfl, rfl⟩, -⟩ _ _ ⟨⟨rfl, rfl⟩, -⟩ _ _ ⟨⟨rfl, rfl⟩, -⟩ _ _ ⟨⟨rfl, rfl⟩, -⟩ _ _ ⟨⟨rfl, rfl⟩, -⟩ _ _ ⟨⟨rfl, rfl⟩, -⟩ _ _ ⟨⟨rfl, rfl⟩, -⟩ _ _ ⟨⟨b5, rfl, rfl⟩, hva⟩ a w31 hfr hst
  obtain rfl : b5 = bq := ptr_inj (hva rfl)
  replace hfr : Fr 182 [(99, _), (100, _), (101, _), (102, _), (103, _), (104, _), (105, _), (106, _), (107, _), (98, _), (108, _), (109, _), (15, _), (1, _), (4, _), (5, _), (6, _), (7, _), (12, _), (13, _), (14, _)] [] a := hfr
  replace hst : St No w0 [blk b5 [.int .i64 3, .int .i64 (cl.asked + rl.answer), .int .i64 ((cl.asked + rl.answer) + rl.cooling)] 39, own (.slice (some ⟨w8.heap.size, 0, none⟩) 4 4) 39 3 ([[.int .i64 1, .int .i64 cl.asked, .int .i64 (cl.asked + rl.answer)], [.int .i64 3, .int .i64 (cl.asked + rl.answer), .int .i64 ((cl.asked + rl.answer) + rl.cooling)], [.int .i64 4, .int .i64 ((cl.asked + rl.answer) + rl.cooling), .int .i64 (((cl.asked + rl.answer) + rl.cooling) + rl.reverse)], [.int .i64 5, .int .i64 (((cl.asked + rl.answer) + rl.cooling) + rl.reverse), .int .i64 (-1)]]), blk w5.heap.size [.int .i64 cl.number, .int .i64 cl.frm, .int .i64 cl.to, .int .i64 cl.holder, .int .i64 cl.asked, .bool cl.backed] 31, blk w4.heap.size [.int .i64 rl.answer, .int .i64 rl.cooling, .int .i64 rl.settle, .int .i64 rl.reverse] 29] w31 := hst
  refine wl_nil ?_
  refine wd_lin (k := 14) 15 [14] (by kernel_rfl) (by kernel_rfl) (by kernel_rfl) ?_
  refine wl_v hfr (by decide) (v_assign rfl) ?_
  clear hfr
  intro a hfr
  refine wl_nil ?_
  refine wd_end (by kernel_rfl) ?_
  refine hK32 _ _ ?_
  replace hfr : Fr 182 [(1, _), (4, _), (5, _), (6, _), (7, _), (12, _), (13, _), (14, _), (15, _), (16, _)] [] a := hfr.pick [1, 4, 5, 6, 7, 12, 13, 14, 15, 16]
  refine wc_seq_k fun K33 hK33 => ?_
  refine wc_of_dr (by kernel_rfl) (dr_of_wd (by kernel_rfl) fun w32 hxz => ?_)
  replace hst : St No w0 [blk b5 [.int .i64 3, .int .i64 (cl.asked + rl.answer), .int .i64 ((cl.asked + rl.answer) + rl.cooling)] 39, own (.slice (some ⟨w8.heap.size, 0, none⟩) 4 4) 39 3 ([[.int .i64 1, .int .i64 cl.asked, .int .i64 (cl.asked + rl.answer)], [.int .i64 3, .int .i64 (cl.asked + rl.answer), .int .i64 ((cl.asked + rl.answer) + rl.cooling)], [.int .i64 4, .int .i64 ((cl.asked + rl.answer) + rl.cooling), .int .i64 (((cl.asked + rl.answer) + rl.cooling) + rl.reverse)], [.int .i64 5, .int .i64 (((cl.asked + rl.answer) + rl.cooling) + rl.reverse), .int .i64 (-1)]]), blk w5.heap.size [.int .i64 cl.number, .int .i64 cl.frm, .int .i64 cl.to, .int .i64 cl.holder, .int .i64 cl.asked, .bool cl.backed] 31, blk w4.heap.size [.int .i64 rl.answer, .int .i64 rl.cooling, .int .i64 rl.settle, .int .i64 rl.reverse] 29] w32 := hst.grow hxz
  refine wd_lin (k := 0) 3 [2] (by kernel_rfl) (by kernel_rfl) (by kernel_rfl) ?_
  refine wl_v hfr (by decide) (v_move rfl) ?_
  clear hfr
  intro a hfr
  refine wl_v hfr (by decide) ((v_ne rfl rfl).asb (b' := false) rfl) ?_
  clear hfr
  intro a hfr
  refine wl_v hfr (by decide) (v_move rfl) ?_
  clear hfr
  intro a hfr
  refine wl_nil ?_
  refine wd_sub (k := 3) 8 [3, 7] hfr (by kernel_rfl) (by kernel_rfl) (by kernel_rfl) (by rfl) ?_
  replace hfr : Fr 182 [(1, _), (4, _), (5, _), (6, _), (7, _), (12, _), (13, _), (14, _), (15, _), (16, _), (110, _), (111, _), (112, _)] [] a := hfr.pick [1, 4, 5, 6, 7, 12, 13, 14, 15, 16, 110, 111, 112]
  refine wc_phases' 5 [[], [], [], [1, 2], [3]] (fun i => match i with | 0 => pv (.agg #[.int .i64 3, .int .i64 (cl.asked + rl.answer), .int .i64 ((cl.asked + rl.answer) + rl.cooling)]) | 1 => pv ((.slice (some ⟨w8.heap.size, 0, none⟩) 4 4)) | 2 => pv (.int .i64 1) | 3 => pv (slAddr (.slice (some ⟨w8.heap.size, 0, none⟩) 4 4) (1 * 3)) | 4 => pv (.agg #[.int .i64 3, .int .i64 (cl.asked + rl.answer), .int .i64 ((cl.asked + rl.answer) + rl.cooling)]) | _ => fun _ _ => False) hfr hst (by kernel_rfl) (by kernel_rfl) ?_ ?_
  · intro i hi
    match i, hi with
    | 0, _ =>
      intro w hst
      exact OpV.g (v_load_all (hst.get (k := 0) rfl) rfl (Try.isAgg39 _) (Try.sizeOf39 _))
    | 1, _ =>
      intro w hst
      exact OpV.g (v_move rfl)
    | 2, _ =>
      intro w hst
      exact OpV.g (v_move rfl)
    | 3, _ =>
      rintro _ _ ⟨rfl, rfl⟩ _ _ ⟨rfl, rfl⟩
      intro w hst
      exact OpV.g ((v_indexAddr_sl (i := 1) (sT := 47) (hst.ownAt (i := 1) rfl) rfl rfl (Try.runUnderlying47 _) (Try.sizeOf39 _) (by omega) (by simp)).as (v' := slAddr (.slice (some ⟨w8.heap.size, 0, none⟩) 4 4) (1 * 3)) rfl)
    | 4, _ =>
      rintro _ _ ⟨rfl, rfl⟩
      intro w hst
      exact OpV.g ((v_load_sl (hst.ownAt (i := 1) rfl) (i := 1) (by simp) rfl (Try.isAgg39 _) (Try.sizeOf39 _)).as (v' := .agg #[.int .i64 3, .int .i64 (cl.asked + rl.answer), .int .i64 ((cl.asked + rl.answer) + rl.cooling)]) (by rfl))
  clear hfr hst
  rintro _ _ ⟨rfl, rfl⟩ _ _ ⟨rfl, rfl⟩ _ _ ⟨rfl, rfl⟩ _ _ ⟨rfl, rfl⟩ _ _ ⟨rfl, rfl⟩ a w33 hfr hst
  replace hfr : Fr 182 [(113, _), (114, _), (115, _), (116, _), (117, _), (1, _), (4, _), (5, _), (6, _), (7, _), (12, _), (13, _), (14, _), (15, _), (16, _), (110, _), (111, _), (112, _)] [] a := hfr
  replace hst : St No w0 [_, _, _, _] w33 := hst
  refine wl_nil ?_
  refine wd_lin (k := 8) 10 [9] (by kernel_rfl) (by kernel_rfl) (by kernel_rfl) ?_
  refine wl_vy hfr (by decide) rfl (by decide) rfl ((v_ne_agg rfl rfl (by kernel_rfl) (eqStt 3 (cl.asked + rl.answer) ((cl.asked + rl.answer) + rl.cooling) 3 (cl.asked + rl.answer) ((cl.asked + rl.answer) + rl.cooling) _)).asb (b' := false) (by simp)) ?_
  clear hfr
  intro a hfr
  refine wl_v hfr (by decide) (v_pick_f rfl rfl) ?_
  clear hfr
  intro a hfr
  refine wl_nil ?_
  refine wd_end (by kernel_rfl) ?_
  refine hK33 _ _ ?_
  replace hfr : Fr 182 [(1, _), (4, _), (5, _), (6, _), (7, _), (12, _), (13, _), (14, _), (119, _)] [] a := hfr.pick [1, 4, 5, 6, 7, 12, 13, 14, 119]
  replace hst : St No w0 [_, _, _] w33 := hst.mask [false, true, true, true]
  refine wc_cond_f hfr rfl ?_
  refine wc_skip ?_
  refine hK29 _ _ ?_
  refine wc_seq_k fun K34 hK34 => ?_
  refine wc_of_dr (by kernel_rfl) (dr_of_wd (by kernel_rfl) fun w34 hxz => ?_)
  replace hst : St No w0 [own (.slice (some ⟨w8.heap.size, 0, none⟩) 4 4) 39 3 ([[.int .i64 1, .int .i64 cl.asked, .int .i64 (cl.asked + rl.answer)], [.int .i64 3, .int .i64 (cl.asked + rl.answer), .int .i64 ((cl.asked + rl.answer) + rl.cooling)], [.int .i64 4, .int .i64 ((cl.asked + rl.answer) + rl.cooling), .int .i64 (((cl.asked + rl.answer) + rl.cooling) + rl.reverse)], [.int .i64 5, .int .i64 (((cl.asked + rl.answer) + rl.cooling) + rl.reverse), .int .i64 (-1)]]), blk w5.heap.size [.int .i64 cl.number, .int .i64 cl.frm, .int .i64 cl.to, .int .i64 cl.holder, .int .i64 cl.asked, .bool cl.backed] 31, blk w4.heap.size [.int .i64 rl.answer, .int .i64 rl.cooling, .int .i64 rl.settle, .int .i64 rl.reverse] 29] w34 := hst.grow hxz
  refine wd_sub (k := 0) 13 [10, 12] hfr (by kernel_rfl) (by kernel_rfl) (by kernel_rfl) (by rfl) ?_
  replace hfr : Fr 182 [(1, _), (4, _), (5, _), (6, _), (7, _), (12, _), (13, _), (14, _), (119, _)] [] a := hfr.pick [1, 4, 5, 6, 7, 12, 13, 14, 119]
  refine wc_phases_new 11 12 39 [.int .i64 0, .int .i64 0, .int .i64 0] [.int .i64 3, .int .i64 (cl.asked + rl.answer), .int .i64 ((cl.asked + rl.answer) + rl.cooling)] 13 [[], [], [], [], [2, 3], [4], [5], [0, 1, 6], [7], [8], [8], [], [9, 11]] (fun i => match i with | 0 => pv (.agg #[.int .i64 rl.answer, .int .i64 rl.cooling, .int .i64 rl.settle, .int .i64 rl.reverse]) | 1 => pv (.agg #[.int .i64 cl.number, .int .i64 cl.frm, .int .i64 cl.to, .int .i64 cl.holder, .int .i64 cl.asked, .bool cl.backed]) | 2 => pv ((.slice (some ⟨w8.heap.size, 0, none⟩) 4 4)) | 3 => pv (.int .i64 1) | 4 => pv (slAddr (.slice (some ⟨w8.heap.size, 0, none⟩) 4 4) (1 * 3)) | 5 => pv (slAddr (.slice (some ⟨w8.heap.size, 0, none⟩) 4 4) (1 * 3 + 1)) | 6 => pv (.int .i64 (cl.asked + rl.answer)) | 7 => pv (.tuple #[.agg #[.int .i64 3, .int .i64 (cl.asked + rl.answer), .int .i64 ((cl.asked + rl.answer) + rl.cooling)], .int .i64 0]) | 8 => pv (.tuple #[.agg #[.int .i64 3, .int .i64 (cl.asked + rl.answer), .int .i64 ((cl.asked + rl.answer) + rl.cooling)], .int .i64 0]) | 9 => pv (.agg #[.int .i64 3, .int .i64 (cl.asked + rl.answer), .int .i64 ((cl.asked + rl.answer) + rl.cooling)]) | 10 => pv (.int .i64 0) | 11 => fun v E => ∃ b, v = ptr b ∧ E = [] | 12 => fun v E => v = undef ∧ E = [] | _ => fun _ _ => False) hfr (H := [own (.slice (some ⟨w8.heap.size, 0, none⟩) 4 4) 39 3 ([[.int .i64 1, .int .i64 cl.asked, .int .i64 (cl.asked + rl.answer)], [.int .i64 3, .int .i64 (cl.asked + rl.answer), .int .i64 ((cl.asked + rl.answer) + rl.cooling)], [.int .i64 4, .int .i64 ((cl.asked + rl.answer) + rl.cooling), .int .i64 (((cl.asked + rl.answer) + rl.cooling) + rl.reverse)], [.int .i64 5, .int .i64 (((cl.asked + rl.answer) + rl.cooling) + rl.reverse), .int .i64 (-1)]]), blk w5.heap.size [.int .i64 cl.number, .int .i64 cl.frm, .int .i64 cl.to, .int .i64 cl.holder, .int .i64 cl.asked, .bool cl.backed] 31, blk w4.heap.size [.int .i64 rl.answer, .int .i64 rl.cooling, .int .i64 rl.settle, .int .i64 rl.reverse] 29]) hst (by kernel_rfl) (by kernel_rfl) (by kernel_rfl) (by kernel_rfl) (by decide) (by decide) (by decide) (by decide) (by decide) ?_ (fun v E h => h) ⟨rfl, rfl⟩ (fun v E => Iff.rfl) ?_ ?_ ?_ ?_
  · intro i v E h
    match i, h with
    | 0, _ => exact by decide
    | 1, _ => exact by decide
    | 2, _ => exact by decide
    | 3, _ => exact by decide
    | 4, _ => exact by decide
    | 5, _ => exact by decide
    | 6, _ => exact by decide
    | 7, _ => exact by decide
    | 8, _ => exact by decide
    | 9, _ => exact by decide
    | 10, _ => exact by decide
    | 11, _ => exact by decide
    | 12, _ => exact by decide
    | i + 13, h => exact h.elim
  · intro i hi hia hij e
    match i, hi, hia, hij with
    | 0, _, _, _ =>
      intro w hst
      exact OpV.g (v_load_all (hst.get (k := 3) rfl) rfl (Try.isAgg29 _) (Try.sizeOf29 _))
    | 1, _, _, _ =>
      intro w hst
      exact OpV.g (v_load_all (hst.get (k := 2) rfl) rfl (Try.isAgg31 _) (Try.sizeOf31 _))
    | 2, _, _, _ =>
      intro w hst
      exact OpV.g (v_move rfl)
    | 3, _, _, _ =>
      intro w hst
      exact OpV.g (v_move rfl)
    | 4, _, _, _ =>
      rintro _ _ ⟨rfl, rfl⟩ _ _ ⟨rfl, rfl⟩
      intro w hst
      exact OpV.g ((v_indexAddr_sl (i := 1) (sT := 47) (hst.ownAt (i := 1) rfl) rfl rfl (Try.runUnderlying47 _) (Try.sizeOf39 _) (by omega) (by simp)).as (v' := slAddr (.slice (some ⟨w8.heap.size, 0, none⟩) 4 4) (1 * 3)) rfl)
    | 5, _, _, _ =>
      rintro _ _ ⟨rfl, rfl⟩
      intro w hst
      exact OpV.g (v_fieldAddr_sl (k := 1 * 3) (j := 1) (hst.ownAt (i := 1) rfl) (i := 1) (by simp) rfl (fun _ _ => by kernel_rfl))
    | 6, _, _, _ =>
      rintro _ _ ⟨rfl, rfl⟩
      intro w hst
      exact OpV.g (v_load_sl1 (u := .int .i64 (cl.asked + rl.answer)) (i := 1) (j := 1) (hst.ownAt (i := 1) rfl) (by simp) rfl (Try.isAgg3 _) (by rfl))
    | 7, _, _, _ =>
      rintro _ _ ⟨rfl, rfl⟩ _ _ ⟨rfl, rfl⟩ _ _ ⟨rfl, rfl⟩
      intro w hst
      exact g_callp Try.call14 rfl (outcome2 (s := ⟨3, cl.asked + rl.answer, (cl.asked + rl.answer) + rl.cooling⟩) (out2 (statuses_nil hr hc) (by simp only; omega) (by simp only; omega) (by simp only; omega)) (outcome_ok rl cl (.slice none 0 0) [] (cl.asked + rl.answer) _ (slAt_nil _ _) (valid_nil hr hc) (by simp [isIn]; omega)))
    | 8, _, _, _ =>
      rintro _ _ ⟨rfl, rfl⟩
      intro w hst
      exact OpV.g (v_move rfl)
    | 9, _, _, _ =>
      rintro _ _ ⟨rfl, rfl⟩
      intro w hst
      exact OpV.g (v_extract rfl rfl)
    | 10, _, _, _ =>
      rintro _ _ ⟨rfl, rfl⟩
      intro w hst
      exact OpV.g (v_extract rfl rfl)
    | 11, _, h, _ => exact absurd rfl h
    | 12, _, _, h => exact absurd rfl h
    | i + 13, h, _, _ => exact absurd h (by omega)
  · exact fun Lv w => r_alloc (Try.zeroValue39 _)
  · rintro _ _ ⟨rfl, rfl⟩ _ _ ⟨b6, rfl, rfl⟩
    intro b hb w h
    have hb : some (ptr b6) = some (ptr b) := hb
    cases hb
    exact r_storeU rfl rfl h (Try.sizeOf39 _) rfl (Nat.le_of_ble_eq_true rfl) rfl
  clear hfr hst
  rintro bq _ _ ⟨⟨rfl, rfl⟩, -⟩ _ _ ⟨⟨rfl, rfl⟩, -⟩ _ _ ⟨⟨rfl, rfl⟩, -⟩ _ _ ⟨⟨rfl, rfl⟩, -⟩ _ _ ⟨⟨rfl, rfl⟩, -⟩ _ _ ⟨⟨rfl, rfl⟩, -⟩ _ _ ⟨⟨rfl, rfl⟩, -⟩ _ _ ⟨⟨rfl, rfl⟩, -⟩ _ _ ⟨⟨rfl, rfl⟩, -⟩ _ _ ⟨⟨rfl, rfl⟩, -⟩ _ _ ⟨⟨rfl, rfl⟩, -⟩ _ _ ⟨⟨b6, rfl, rfl⟩, hva⟩ a w35 hfr hst
  obtain rfl : b6 = bq := ptr_inj (hva rfl)
  replace hfr : Fr 182 [(121, _), (122, _), (123, _), (124, _), (125, _), (126, _), (127, _), (128, _), (120, _), (129, _), (130, _), (17, _), (1, _), (4, _), (5, _), (6, _), (7, _), (12, _), (13, _), (14, _), (119, _)] [] a := hfr
  replace hst : St No w0 [blk b6 [.int .i64 3, .int .i64 (cl.asked + rl.answer), .int .i64 ((cl.asked + rl.answer) + rl.cooling)] 39, own (.slice (some ⟨w8.heap.size, 0, none⟩) 4 4) 39 3 ([[.int .i64 1, .int .i64 cl.asked, .int .i64 (cl.asked + rl.answer)], [.int .i64 3, .int .i64 (cl.asked + rl.answer), .int .i64 ((cl.asked + rl.answer) + rl.cooling)], [.int .i64 4, .int .i64 ((cl.asked + rl.answer) + rl.cooling), .int .i64 (((cl.asked + rl.answer) + rl.cooling) + rl.reverse)], [.int .i64 5, .int .i64 (((cl.asked + rl.answer) + rl.cooling) + rl.reverse), .int .i64 (-1)]]), blk w5.heap.size [.int .i64 cl.number, .int .i64 cl.frm, .int .i64 cl.to, .int .i64 cl.holder, .int .i64 cl.asked, .bool cl.backed] 31, blk w4.heap.size [.int .i64 rl.answer, .int .i64 rl.cooling, .int .i64 rl.settle, .int .i64 rl.reverse] 29] w35 := hst
  refine wl_nil ?_
  refine wd_lin (k := 13) 14 [13] (by kernel_rfl) (by kernel_rfl) (by kernel_rfl) ?_
  refine wl_v hfr (by decide) (v_assign rfl) ?_
  clear hfr
  intro a hfr
  refine wl_nil ?_
  refine wd_end (by kernel_rfl) ?_
  refine hK34 _ _ ?_
  replace hfr : Fr 182 [(1, _), (4, _), (5, _), (6, _), (7, _), (12, _), (13, _), (14, _), (17, _), (18, _)] [] a := hfr.pick [1, 4, 5, 6, 7, 12, 13, 14, 17, 18]
  refine wc_seq_region fun K35 hK35 => ?_
  refine wl_v hfr (by decide) (v_load_all (hst.get (k := 3) rfl) rfl (Try.isAgg29 _) (Try.sizeOf29 _)) ?_
  clear hfr
  intro a hfr
  refine wl_v hfr (by decide) (v_load_all (hst.get (k := 2) rfl) rfl (Try.isAgg31 _) (Try.sizeOf31 _)) ?_
  clear hfr
  intro a hfr
  refine wl_v hfr (by decide) (v_move rfl) ?_
  clear hfr
  intro a hfr
  refine wl_callp hfr hst (by decide) Try.call14 rfl (outcome2 (s := ⟨3, cl.asked + rl.answer, (cl.asked + rl.answer) + rl.cooling⟩) (out2 (statuses_nil hr hc) (by simp only; omega) (by simp only; omega) (by simp only; omega)) (outcome_ok rl cl (.slice none 0 0) [] ((cl.asked + rl.answer) + p2) _ (slAt_nil _ _) (valid_nil hr hc) (by simp [isIn]; omega))) ?_
  clear hfr hst
  intro a w36 hfr hst
  refine wl_v hfr (by decide) (v_move rfl) ?_
  clear hfr
  intro a hfr
  refine wl_v hfr (by decide) (v_extract rfl rfl) ?_
  clear hfr
  intro a hfr
  refine wl_v hfr (by decide) (v_extract rfl rfl) ?_
  clear hfr
  intro a hfr
  refine wl_alloc hfr hst (by decide) (Try.zeroValue39 _) (cs := [.int .i64 0, .int .i64 0, .int .i64 0]) rfl ?_
  clear hfr hst
  intro a w37 hfr hst
  refine wl_store 0 hfr hst rfl rfl rfl (Try.sizeOf39 _) rfl (Nat.le_of_ble_eq_true rfl) (ds := [.int .i64 3, .int .i64 (cl.asked + rl.answer), .int .i64 ((cl.asked + rl.answer) + rl.cooling)]) rfl rfl ?_
  clear hfr hst
  intro a w38 hfr hst
  refine wl_v hfr (by decide) (v_assign rfl) ?_
  clear hfr
  intro a hfr
  refine wl_nil (hK35 _ _ ?_)
  replace hfr : Fr 182 [(1, _), (4, _), (5, _), (6, _), (7, _), (12, _), (13, _), (17, _), (18, _), (19, _), (20, _)] [] a := hfr.pick [1, 4, 5, 6, 7, 12, 13, 17, 18, 19, 20]
  refine wc_seq_k fun K36 hK36 => ?_
  refine wc_of_dr (by kernel_rfl) (dr_of_wd (by kernel_rfl) fun w39 hxz => ?_)
  replace hst : St No w0 [blk w36.heap.size [.int .i64 3, .int .i64 (cl.asked + rl.answer), .int .i64 ((cl.asked + rl.answer) + rl.cooling)] 39, blk b6 [.int .i64 3, .int .i64 (cl.asked + rl.answer), .int .i64 ((cl.asked + rl.answer) + rl.cooling)] 39, own (.slice (some ⟨w8.heap.size, 0, none⟩) 4 4) 39 3 ([[.int .i64 1, .int .i64 cl.asked, .int .i64 (cl.asked + rl.answer)], [.int .i64 3, .int .i64 (cl.asked + rl.answer), .int .i64 ((cl.asked + rl.answer) + rl.cooling)], [.int .i64 4, .int .i64 ((cl.asked + rl.answer) + rl.cooling), .int .i64 (((cl.asked + rl.answer) + rl.cooling) + rl.reverse)], [.int .i64 5, .int .i64 (((cl.asked + rl.answer) + rl.cooling) + rl.reverse), .int .i64 (-1)]]), blk w5.heap.size [.int .i64 cl.number, .int .i64 cl.frm, .int .i64 cl.to, .int .i64 cl.holder, .int .i64 cl.asked, .bool cl.backed] 31, blk w4.heap.size [.int .i64 rl.answer, .int .i64 rl.cooling, .int .i64 rl.settle, .int .i64 rl.reverse] 29] w39 := hst.grow hxz
  refine wd_lin (k := 0) 7 [6] (by kernel_rfl) (by kernel_rfl) (by kernel_rfl) ?_
  refine wl_v hfr (by decide) (v_move rfl) ?_
  clear hfr
  intro a hfr
  refine wl_v hfr (by decide) ((v_ne rfl rfl).asb (b' := false) rfl) ?_
  clear hfr
  intro a hfr
  refine wl_v hfr (by decide) (v_move rfl) ?_
  clear hfr
  intro a hfr
  refine wl_vy hfr (by decide) rfl (by decide) rfl (v_move rfl) ?_
  clear hfr
  intro a hfr
  refine wl_vy hfr (by decide) rfl (by decide) rfl ((v_ne rfl rfl).asb (b' := false) rfl) ?_
  clear hfr
  intro a hfr
  refine wl_v hfr (by decide) (v_pick_f rfl rfl) ?_
  clear hfr
  intro a hfr
  refine wl_v hfr (by decide) (v_move rfl) ?_
  clear hfr
  intro a hfr
  refine wl_nil ?_
  refine wd_sub (k := 7) 12 [7, 11] hfr (by kernel_rfl) (by kernel_rfl) (by kernel_rfl) (by rfl) ?_
  replace hfr : Fr 182 [(1, _), (4, _), (5, _), (6, _), (7, _), (12, _), (13, _), (17, _), (18, _), (19, _), (20, _), (138, _), (139, _), (140, _), (141, _), (142, _), (143, _), (144, _)] [] a := hfr.pick [1, 4, 5, 6, 7, 12, 13, 17, 18, 19, 20, 138, 139, 140, 141, 142, 143, 144]
  refine wc_phases' 5 [[], [], [], [1, 2], [3]] (fun i => match i with | 0 => pv (.agg #[.int .i64 3, .int .i64 (cl.asked + rl.answer), .int .i64 ((cl.asked + rl.answer) + rl.cooling)]) | 1 => pv ((.slice (some ⟨w8.heap.size, 0, none⟩) 4 4)) | 2 => pv (.int .i64 1) | 3 => pv (slAddr (.slice (some ⟨w8.heap.size, 0, none⟩) 4 4) (1 * 3)) | 4 => pv (.agg #[.int .i64 3, .int .i64 (cl.asked + rl.answer), .int .i64 ((cl.asked + rl.answer) + rl.cooling)]) | _ => fun _ _ => False) hfr hst (by kernel_rfl) (by kernel_rfl) ?_ ?_
  · intro i hi
    match i, hi with
    | 0, _ =>
      intro w hst
      exact OpV.g (v_load_all (hst.get (k := 1) rfl) rfl (Try.isAgg39 _) (Try.sizeOf39 _))
    | 1, _ =>
      intro w hst
      exact OpV.g (v_move rfl)
    | 2, _ =>
      intro w hst
      exact OpV.g (v_move rfl)
    | 3, _ =>
      rintro _ _ ⟨rfl, rfl⟩ _ _ ⟨rfl, rfl⟩
      intro w hst
      exact OpV.g ((v_indexAddr_sl (i := 1) (sT := 47) (hst.ownAt (i := 2) rfl) rfl rfl (Try.runUnderlying47 _) (Try.sizeOf39 _) (by omega) (by simp)).as (v' := slAddr (.slice (some ⟨w8.heap.size, 0, none⟩) 4 4) (1 * 3)) rfl)
    | 4, _ =>
      rintro _ _ ⟨rfl, rfl⟩
      intro w hst
      exact OpV.g ((v_load_sl (hst.ownAt (i := 2) rfl) (i := 1) (by simp) rfl (Try.isAgg39 _) (Try.sizeOf39 _)).as (v' := .agg #[.int .i64 3, .int .i64 (cl.asked + rl.answer), .int .i64 ((cl.asked + rl.answer) + rl.cooling)]) (by rfl))
  clear hfr hst
  rintro _ _ ⟨rfl, rfl⟩ _ _ ⟨rfl, rfl⟩ _ _ ⟨rfl, rfl⟩ _ _ ⟨rfl, rfl⟩ _ _ ⟨rfl, rfl⟩ a w40 hfr hst
  replace hfr : Fr 182 [(145, _), (146, _), (147, _), (148, _), (149, _), (1, _), (4, _), (5, _), (6, _), (7, _), (12, _), (13, _), (17, _), (18, _), (19, _), (20, _), (138, _), (139, _), (140, _), (141, _), (142, _), (143, _), (144, _)] [] a := hfr
  replace hst : St No w0 [_, _, _, _, _] w40 := hst
  refine wl_nil ?_
  refine wd_lin (k := 12) 15 [14] (by kernel_rfl) (by kernel_rfl) (by kernel_rfl) ?_
  refine wl_vy hfr (by decide) rfl (by decide) rfl ((v_ne_agg rfl rfl (by kernel_rfl) (eqStt 3 (cl.asked + rl.answer) ((cl.asked + rl.answer) + rl.cooling) 3 (cl.asked + rl.answer) ((cl.asked + rl.answer) + rl.cooling) _)).asb (b' := false) (by simp)) ?_
  clear hfr
  intro a hfr
  refine wl_v hfr (by decide) (v_pick_f rfl rfl) ?_
  clear hfr
  intro a hfr
  refine wl_v hfr (by decide) (v_move rfl) ?_
  clear hfr
  intro a hfr
  refine wl_nil ?_
  refine wd_sub (k := 15) 20 [15, 19] hfr (by kernel_rfl) (by kernel_rfl) (by kernel_rfl) (by rfl) ?_
  replace hfr : Fr 182 [(1, _), (4, _), (5, _), (6, _), (7, _), (12, _), (13, _), (17, _), (18, _), (19, _), (20, _), (138, _), (139, _), (140, _), (141, _), (142, _), (143, _), (144, _), (145, _), (146, _), (147, _), (148, _), (149, _), (150, _), (151, _), (152, _)] [] a := hfr.pick [1, 4, 5, 6, 7, 12, 13, 17, 18, 19, 20, 138, 139, 140, 141, 142, 143, 144, 145, 146, 147, 148, 149, 150, 151, 152]
  refine wc_phases' 5 [[], [], [], [1, 2], [3]] (fun i => match i with | 0 => pv (.agg #[.int .i64 3, .int .i64 (cl.asked + rl.answer), .int .i64 ((cl.asked + rl.answer) + rl.cooling)]) | 1 => pv ((.slice (some ⟨w8.heap.size, 0, none⟩) 4 4)) | 2 => pv (.int .i64 1) | 3 => pv (slAddr (.slice (some ⟨w8.heap.size, 0, none⟩) 4 4) (1 * 3)) | 4 => pv (.agg #[.int .i64 3, .int .i64 (cl.asked + rl.answer), .int .i64 ((cl.asked + rl.answer) + rl.cooling)]) | _ => fun _ _ => False) hfr hst (by kernel_rfl) (by kernel_rfl) ?_ ?_
  · intro i hi
    match i, hi with
    | 0, _ =>
      intro w hst
      exact OpV.g (v_load_all (hst.get (k := 0) rfl) rfl (Try.isAgg39 _) (Try.sizeOf39 _))
    | 1, _ =>
      intro w hst
      exact OpV.g (v_move rfl)
    | 2, _ =>
      intro w hst
      exact OpV.g (v_move rfl)
    | 3, _ =>
      rintro _ _ ⟨rfl, rfl⟩ _ _ ⟨rfl, rfl⟩
      intro w hst
      exact OpV.g ((v_indexAddr_sl (i := 1) (sT := 47) (hst.ownAt (i := 2) rfl) rfl rfl (Try.runUnderlying47 _) (Try.sizeOf39 _) (by omega) (by simp)).as (v' := slAddr (.slice (some ⟨w8.heap.size, 0, none⟩) 4 4) (1 * 3)) rfl)
    | 4, _ =>
      rintro _ _ ⟨rfl, rfl⟩
      intro w hst
      exact OpV.g ((v_load_sl (hst.ownAt (i := 2) rfl) (i := 1) (by simp) rfl (Try.isAgg39 _) (Try.sizeOf39 _)).as (v' := .agg #[.int .i64 3, .int .i64 (cl.asked + rl.answer), .int .i64 ((cl.asked + rl.answer) + rl.cooling)]) (by rfl))
  clear hfr hst
  rintro _ _ ⟨rfl, rfl⟩ _ _ ⟨rfl, rfl⟩ _ _ ⟨rfl, rfl⟩ _ _ ⟨rfl, rfl⟩ _ _ ⟨rfl, rfl⟩ a w41 hfr hst
  replace hfr : Fr 182 [(153, _), (154, _), (155, _), (156, _), (157, _), (1, _), (4, _), (5, _), (6, _), (7, _), (12, _), (13, _), (17, _), (18, _), (19, _), (20, _), (138, _), (139, _), (140, _), (141, _), (142, _), (143, _), (144, _), (145, _), (146, _), (147, _), (148, _), (149, _), (150, _), (151, _), (152, _)] [] a := hfr
  replace hst : St No w0 [_, _, _, _, _] w41 := hst
  refine wl_nil ?_
  refine wd_lin (k := 20) 22 [21] (by kernel_rfl) (by kernel_rfl) (by kernel_rfl) ?_
  refine wl_vy hfr (by decide) rfl (by decide) rfl ((v_ne_agg rfl rfl (by kernel_rfl) (eqStt 3 (cl.asked + rl.answer) ((cl.asked + rl.answer) + rl.cooling) 3 (cl.asked + rl.answer) ((cl.asked + rl.answer) + rl.cooling) _)).asb (b' := false) (by simp)) ?_
  clear hfr
  intro a hfr
  refine wl_v hfr (by decide) (v_pick_f rfl rfl) ?_
  clear hfr
  intro a hfr
  refine wl_nil ?_
  refine wd_end (by kernel_rfl) ?_
  refine hK36 _ _ ?_
  replace hfr : Fr 182 [(1, _), (4, _), (5, _), (6, _), (7, _), (12, _), (13, _), (159, _)] [] a := hfr.pick [1, 4, 5, 6, 7, 12, 13, 159]
  replace hst : St No w0 [_, _, _] w41 := hst.mask [false, false, true, true, true]
  refine wc_cond_f hfr rfl ?_
  refine wc_skip ?_
  refine hK27 _ _ ?_
  refine wc_region ?_
  refine wl_v hfr (by decide) (v_move rfl) ?_
  clear hfr
  intro a hfr
  refine wl_v hfr (by decide) ((v_add rfl rfl (by decide)).asi (m' := 2) rfl) ?_
  clear hfr
  intro a hfr
  refine wl_v hfr (by decide) (v_assign rfl) ?_
  clear hfr
  intro a hfr
  refine wl_nil ?_
  refine wr_succ ?_
  refine wc_seq_k fun K37 hK37 => ?_
  refine wc_seq_region fun K38 hK38 => ?_
  refine wl_v hfr (by decide) (v_move rfl) ?_
  clear hfr
  intro a hfr
  refine wl_v hfr (by decide) (v_move rfl) ?_
  clear hfr
  intro a hfr
  refine wl_v hfr (by decide) ((v_len_sl (sT := 47) (hst.ownAt (i := 0) rfl) rfl rfl (Try.runUnderlying47 _)).asi (m' := 4) (by rfl)) ?_
  clear hfr
  intro a hfr
  refine wl_v hfr (by decide) ((v_lt rfl rfl).asb (b' := true) rfl) ?_
  clear hfr
  intro a hfr
  refine wl_nil (hK38 _ _ ?_)
  replace hfr : Fr 182 [(1, _), (4, _), (5, _), (6, _), (7, _), (12, _), (13, _), (62, _)] [] a := hfr.pick [1, 4, 5, 6, 7, 12, 13, 62]
  refine wc_cond_t hfr rfl ?_
  refine wc_skip ?_
  refine hK37 _ _ ?_
  refine wc_seq_k fun K39 hK39 => ?_
  refine wc_block ?_
  refine wc_seq_k fun K40 hK40 => ?_
  refine wc_of_dr (by kernel_rfl) (dr_of_wd (by kernel_rfl) fun w42 hxz => ?_)
  replace hst : St No w0 [own (.slice (some ⟨w8.heap.size, 0, none⟩) 4 4) 39 3 ([[.int .i64 1, .int .i64 cl.asked, .int .i64 (cl.asked + rl.answer)], [.int .i64 3, .int .i64 (cl.asked + rl.answer), .int .i64 ((cl.asked + rl.answer) + rl.cooling)], [.int .i64 4, .int .i64 ((cl.asked + rl.answer) + rl.cooling), .int .i64 (((cl.asked + rl.answer) + rl.cooling) + rl.reverse)], [.int .i64 5, .int .i64 (((cl.asked + rl.answer) + rl.cooling) + rl.reverse), .int .i64 (-1)]]), blk w5.heap.size [.int .i64 cl.number, .int .i64 cl.frm, .int .i64 cl.to, .int .i64 cl.holder, .int .i64 cl.asked, .bool cl.backed] 31, blk w4.heap.size [.int .i64 rl.answer, .int .i64 rl.cooling, .int .i64 rl.settle, .int .i64 rl.reverse] 29] w42 := hst.grow hxz
  refine wd_sub (k := 0) 7 [4, 6] hfr (by kernel_rfl) (by kernel_rfl) (by kernel_rfl) (by rfl) ?_
  replace hfr : Fr 182 [(1, _), (4, _), (5, _), (6, _), (7, _), (12, _), (13, _), (62, _)] [] a := hfr.pick [1, 4, 5, 6, 7, 12, 13, 62]
  refine wc_phases' 7 [[], [], [0, 1], [2], [3], [], [5]] (fun i => match i with | 0 => pv ((.slice (some ⟨w8.heap.size, 0, none⟩) 4 4)) | 1 => pv (.int .i64 2) | 2 => pv (slAddr (.slice (some ⟨w8.heap.size, 0, none⟩) 4 4) (2 * 3)) | 3 => pv (slAddr (.slice (some ⟨w8.heap.size, 0, none⟩) 4 4) (2 * 3 + 1)) | 4 => pv (.int .i64 ((cl.asked + rl.answer) + rl.cooling)) | 5 => pv (.int .i64 tt) | 6 => pv (.int .i64 p0) | _ => fun _ _ => False) hfr hst (by kernel_rfl) (by kernel_rfl) ?_ ?_
  · intro i hi
    match i, hi with
    | 0, _ =>
      intro w hst
      exact OpV.g (v_move rfl)
    | 1, _ =>
      intro w hst
      exact OpV.g (v_move rfl)
    | 2, _ =>
      rintro _ _ ⟨rfl, rfl⟩ _ _ ⟨rfl, rfl⟩
      intro w hst
      exact OpV.g ((v_indexAddr_sl (i := 2) (sT := 47) (hst.ownAt (i := 0) rfl) rfl rfl (Try.runUnderlying47 _) (Try.sizeOf39 _) (by omega) (by simp)).as (v' := slAddr (.slice (some ⟨w8.heap.size, 0, none⟩) 4 4) (2 * 3)) rfl)
    | 3, _ =>
      rintro _ _ ⟨rfl, rfl⟩
      intro w hst
      exact OpV.g (v_fieldAddr_sl (k := 2 * 3) (j := 1) (hst.ownAt (i := 0) rfl) (i := 2) (by simp) rfl (fun _ _ => by kernel_rfl))
    | 4, _ =>
      rintro _ _ ⟨rfl, rfl⟩
      intro w hst
      exact OpV.g (v_load_sl1 (u := .int .i64 ((cl.asked + rl.answer) + rl.cooling)) (i := 2) (j := 1) (hst.ownAt (i := 0) rfl) (by simp) rfl (Try.isAgg3 _) (by rfl))
    | 5, _ =>
      intro w hst
      exact OpV.g (v_move rfl)
    | 6, _ =>
      rintro _ _ ⟨rfl, rfl⟩
      intro w hst
      exact g_callp Try.call15 rfl (pick2 hp0 (pick16_ok _ _ _ (by omega) (by omega) (by omega) (by omega)))
  clear hfr hst
  rintro _ _ ⟨rfl, rfl⟩ _ _ ⟨rfl, rfl⟩ _ _ ⟨rfl, rfl⟩ _ _ ⟨rfl, rfl⟩ _ _ ⟨rfl, rfl⟩ _ _ ⟨rfl, rfl⟩ _ _ ⟨rfl, rfl⟩ a w43 hfr hst
  replace hfr : Fr 182 [(65, _), (66, _), (67, _), (68, _), (69, _), (70, _), (71, _), (1, _), (4, _), (5, _), (6, _), (7, _), (12, _), (13, _), (62, _)] [] a := hfr
  replace hst : St No w0 [_, _, _] w43 := hst
  refine wl_nil ?_
  refine wd_lin (k := 7) 9 [8] (by kernel_rfl) (by kernel_rfl) (by kernel_rfl) ?_
  refine wl_v hfr (by decide) (v_add rfl rfl ⟨by omega, by omega⟩) ?_
  clear hfr
  intro a hfr
  refine wl_v hfr (by decide) (v_assign rfl) ?_
  clear hfr
  intro a hfr
  refine wl_nil ?_
  refine wd_end (by kernel_rfl) ?_
  refine hK40 _ _ ?_
  replace hfr : Fr 182 [(1, _), (4, _), (5, _), (6, _), (7, _), (12, _), (13, _), (14, _)] [] a := hfr.pick [1, 4, 5, 6, 7, 12, 13, 14]
  refine wc_seq_k fun K41 hK41 => ?_
  refine wc_seq_region fun K42 hK42 => ?_
  refine wl_v hfr (by decide) (v_move rfl) ?_
  clear hfr
  intro a hfr
  refine wl_v hfr (by decide) (v_move rfl) ?_
  clear hfr
  intro a hfr
  refine wl_v hfr (by decide) ((v_indexAddr_sl (i := 2) (sT := 47) (hst.ownAt (i := 0) rfl) rfl rfl (Try.runUnderlying47 _) (Try.sizeOf39 _) (by omega) (by simp)).as (v' := slAddr (.slice (some ⟨w8.heap.size, 0, none⟩) 4 4) (2 * 3)) rfl) ?_
  clear hfr
  intro a hfr
  refine wl_v hfr (by decide) (v_fieldAddr_sl (k := 2 * 3) (j := 2) (hst.ownAt (i := 0) rfl) (i := 2) (by simp) rfl (fun _ _ => by kernel_rfl)) ?_
  clear hfr
  intro a hfr
  refine wl_v hfr (by decide) (v_load_sl1 (u := .int .i64 (((cl.asked + rl.answer) + rl.cooling) + rl.reverse)) (i := 2) (j := 2) (hst.ownAt (i := 0) rfl) (by simp) rfl (Try.isAgg3 _) (by rfl)) ?_
  clear hfr
  intro a hfr
  refine wl_v hfr (by decide) ((v_ge rfl rfl).asb (b' := true) (by simp; omega)) ?_
  clear hfr
  intro a hfr
  refine wl_nil (hK42 _ _ ?_)
  refine wc_cond_t hfr rfl ?_
  refine wc_seq_k fun K43 hK43 => ?_
  refine wc_of_dr (by kernel_rfl) (dr_of_wd (by kernel_rfl) fun w44 hxz => ?_)
  replace hst : St No w0 [own (.slice (some ⟨w8.heap.size, 0, none⟩) 4 4) 39 3 ([[.int .i64 1, .int .i64 cl.asked, .int .i64 (cl.asked + rl.answer)], [.int .i64 3, .int .i64 (cl.asked + rl.answer), .int .i64 ((cl.asked + rl.answer) + rl.cooling)], [.int .i64 4, .int .i64 ((cl.asked + rl.answer) + rl.cooling), .int .i64 (((cl.asked + rl.answer) + rl.cooling) + rl.reverse)], [.int .i64 5, .int .i64 (((cl.asked + rl.answer) + rl.cooling) + rl.reverse), .int .i64 (-1)]]), blk w5.heap.size [.int .i64 cl.number, .int .i64 cl.frm, .int .i64 cl.to, .int .i64 cl.holder, .int .i64 cl.asked, .bool cl.backed] 31, blk w4.heap.size [.int .i64 rl.answer, .int .i64 rl.cooling, .int .i64 rl.settle, .int .i64 rl.reverse] 29] w44 := hst.grow hxz
  refine wd_sub (k := 0) 18 [4, 17] hfr (by kernel_rfl) (by kernel_rfl) (by kernel_rfl) (by rfl) ?_
  replace hfr : Fr 182 [(1, _), (4, _), (5, _), (6, _), (7, _), (12, _), (13, _), (14, _), (73, _), (74, _), (75, _), (76, _), (77, _), (78, _)] [] a := hfr.pick [1, 4, 5, 6, 7, 12, 13, 14, 73, 74, 75, 76, 77, 78]
  refine wc_phases' 18 [[], [], [0, 1], [2], [3], [], [], [], [6, 7], [8], [9], [], [], [11, 12], [13], [14], [10, 15], [5, 16]] (fun i => match i with | 0 => pv ((.slice (some ⟨w8.heap.size, 0, none⟩) 4 4)) | 1 => pv (.int .i64 2) | 2 => pv (slAddr (.slice (some ⟨w8.heap.size, 0, none⟩) 4 4) (2 * 3)) | 3 => pv (slAddr (.slice (some ⟨w8.heap.size, 0, none⟩) 4 4) (2 * 3 + 1)) | 4 => pv (.int .i64 ((cl.asked + rl.answer) + rl.cooling)) | 5 => pv (.int .i64 tt) | 6 => pv ((.slice (some ⟨w8.heap.size, 0, none⟩) 4 4)) | 7 => pv (.int .i64 2) | 8 => pv (slAddr (.slice (some ⟨w8.heap.size, 0, none⟩) 4 4) (2 * 3)) | 9 => pv (slAddr (.slice (some ⟨w8.heap.size, 0, none⟩) 4 4) (2 * 3 + 2)) | 10 => pv (.int .i64 (((cl.asked + rl.answer) + rl.cooling) + rl.reverse)) | 11 => pv ((.slice (some ⟨w8.heap.size, 0, none⟩) 4 4)) | 12 => pv (.int .i64 2) | 13 => pv (slAddr (.slice (some ⟨w8.heap.size, 0, none⟩) 4 4) (2 * 3)) | 14 => pv (slAddr (.slice (some ⟨w8.heap.size, 0, none⟩) 4 4) (2 * 3 + 1)) | 15 => pv (.int .i64 ((cl.asked + rl.answer) + rl.cooling)) | 16 => pv (.int .i64 ((((cl.asked + rl.answer) + rl.cooling) + rl.reverse) - ((cl.asked + rl.answer) + rl.cooling))) | 17 => pv (.int .i64 p3) | _ => fun _ _ => False) hfr hst (by kernel_rfl) (by kernel_rfl) ?_ ?_
  · intro i hi
    match i, hi with
    | 0, _ =>
      intro w hst
      exact OpV.g (v_move rfl)
    | 1, _ =>
      intro w hst
      exact OpV.g (v_move rfl)
    | 2, _ =>
      rintro _ _ ⟨rfl, rfl⟩ _ _ ⟨rfl, rfl⟩
      intro w hst
      exact OpV.g ((v_indexAddr_sl (i := 2) (sT := 47) (hst.ownAt (i := 0) rfl) rfl rfl (Try.runUnderlying47 _) (Try.sizeOf39 _) (by omega) (by simp)).as (v' := slAddr (.slice (some ⟨w8.heap.size, 0, none⟩) 4 4) (2 * 3)) rfl)
    | 3, _ =>
      rintro _ _ ⟨rfl, rfl⟩
      intro w hst
      exact OpV.g (v_fieldAddr_sl (k := 2 * 3) (j := 1) (hst.ownAt (i := 0) rfl) (i := 2) (by simp) rfl (fun _ _ => by kernel_rfl))
    | 4, _ =>
      rintro _ _ ⟨rfl, rfl⟩
      intro w hst
      exact OpV.g (v_load_sl1 (u := .int .i64 ((cl.asked + rl.answer) + rl.cooling)) (i := 2) (j := 1) (hst.ownAt (i := 0) rfl) (by simp) rfl (Try.isAgg3 _) (by rfl))
    | 5, _ =>
      intro w hst
      exact OpV.g (v_move rfl)
    | 6, _ =>
      intro w hst
      exact OpV.g (v_move rfl)
    | 7, _ =>
      intro w hst
      exact OpV.g (v_move rfl)
    | 8, _ =>
      rintro _ _ ⟨rfl, rfl⟩ _ _ ⟨rfl, rfl⟩
      intro w hst
      exact OpV.g ((v_indexAddr_sl (i := 2) (sT := 47) (hst.ownAt (i := 0) rfl) rfl rfl (Try.runUnderlying47 _) (Try.sizeOf39 _) (by omega) (by simp)).as (v' := slAddr (.slice (some ⟨w8.heap.size, 0, none⟩) 4 4) (2 * 3)) rfl)
    | 9, _ =>
      rintro _ _ ⟨rfl, rfl⟩
      intro w hst
      exact OpV.g (v_fieldAddr_sl (k := 2 * 3) (j := 2) (hst.ownAt (i := 0) rfl) (i := 2) (by simp) rfl (fun _ _ => by kernel_rfl))
    | 10, _ =>
      rintro _ _ ⟨rfl, rfl⟩
      intro w hst
      exact OpV.g (v_load_sl1 (u := .int .i64 (((cl.asked + rl.answer) + rl.cooling) + rl.reverse)) (i := 2) (j := 2) (hst.ownAt (i := 0) rfl) (by simp) rfl (Try.isAgg3 _) (by rfl))
    | 11, _ =>
      intro w hst
      exact OpV.g (v_move rfl)
    | 12, _ =>
      intro w hst
      exact OpV.g (v_move rfl)
    | 13, _ =>
      rintro _ _ ⟨rfl, rfl⟩ _ _ ⟨rfl, rfl⟩
      intro w hst
      exact OpV.g ((v_indexAddr_sl (i := 2) (sT := 47) (hst.ownAt (i := 0) rfl) rfl rfl (Try.runUnderlying47 _) (Try.sizeOf39 _) (by omega) (by simp)).as (v' := slAddr (.slice (some ⟨w8.heap.size, 0, none⟩) 4 4) (2 * 3)) rfl)
    | 14, _ =>
      rintro _ _ ⟨rfl, rfl⟩
      intro w hst
      exact OpV.g (v_fieldAddr_sl (k := 2 * 3) (j := 1) (hst.ownAt (i := 0) rfl) (i := 2) (by simp) rfl (fun _ _ => by kernel_rfl))
    | 15, _ =>
      rintro _ _ ⟨rfl, rfl⟩
      intro w hst
      exact OpV.g (v_load_sl1 (u := .int .i64 ((cl.asked + rl.answer) + rl.cooling)) (i := 2) (j := 1) (hst.ownAt (i := 0) rfl) (by simp) rfl (Try.isAgg3 _) (by rfl))
    | 16, _ =>
      rintro _ _ ⟨rfl, rfl⟩ _ _ ⟨rfl, rfl⟩
      intro w hst
      exact OpV.g (v_sub rfl rfl ⟨by omega, by omega⟩)
    | 17, _ =>
      rintro _ _ ⟨rfl, rfl⟩ _ _ ⟨rfl, rfl⟩
      intro w hst
      exact g_callp Try.call15 rfl (pick2 hp3 (pick16_ok _ _ _ (by omega) (by omega) (by omega) (by omega)))
    | i + 18, h => exact absurd h (by omega)
  clear hfr hst
  rintro _ _ ⟨rfl, rfl⟩ _ _ ⟨rfl, rfl⟩ _ _ ⟨rfl, rfl⟩ _ _ ⟨rfl, rfl⟩ _ _ ⟨rfl, rfl⟩ _ _ ⟨rfl, rfl⟩ _ _ ⟨rfl, rfl⟩ _ _ ⟨rfl, rfl⟩ _ _ ⟨rfl, rfl⟩ _ _ ⟨rfl, rfl⟩ _ _ ⟨rfl, rfl⟩ _ _ ⟨rfl, rfl⟩ _ _ ⟨rfl, rfl⟩ _ _ ⟨rfl, rfl⟩ _ _ ⟨rfl, rfl⟩ _ _ ⟨rfl, rfl⟩ _ _ ⟨rfl, rfl⟩ _ _ ⟨rfl, rfl⟩ a w45 hfr hst
  replace hfr : Fr 182 [(79, _), (80, _), (81, _), (82, _), (83, _), (84, _), (85, _), (86, _), (87, _), (88, _), (89, _), (90, _), (91, _), (92, _), (93, _), (94, _), (95, _), (96, _), (1, _), (4, _), (5, _), (6, _), (7, _), (12, _), (13, _), (14, _), (73, _), (74, _), (75, _), (76, _), (77, _), (78, _)] [] a := hfr
  replace hst : St No w0 [_, _, _] w45 := hst
  refine wl_nil ?_
  refine wd_lin (k := 18) 20 [19] (by kernel_rfl) (by kernel_rfl) (by kernel_rfl) ?_
  refine wl_v hfr (by decide) (v_add rfl rfl ⟨by omega, by omega⟩) ?_
  clear hfr
  intro a hfr
  refine wl_v hfr (by decide) (v_assign rfl) ?_
  clear hfr
  intro a hfr
  refine wl_nil ?_
  refine wd_end (by kernel_rfl) ?_
  refine hK43 _ _ ?_
  replace hfr : Fr 182 [(1, _), (4, _), (5, _), (6, _), (7, _), (12, _), (13, _), (14, _)] [] a := hfr.pick [1, 4, 5, 6, 7, 12, 13, 14]
  refine wc_seq_k fun K44 hK44 => ?_
  refine wc_of_dr (by kernel_rfl) (dr_of_wd (by kernel_rfl) fun w46 hxz => ?_)
  replace hst : St No w0 [own (.slice (some ⟨w8.heap.size, 0, none⟩) 4 4) 39 3 ([[.int .i64 1, .int .i64 cl.asked, .int .i64 (cl.asked + rl.answer)], [.int .i64 3, .int .i64 (cl.asked + rl.answer), .int .i64 ((cl.asked + rl.answer) + rl.cooling)], [.int .i64 4, .int .i64 ((cl.asked + rl.answer) + rl.cooling), .int .i64 (((cl.asked + rl.answer) + rl.cooling) + rl.reverse)], [.int .i64 5, .int .i64 (((cl.asked + rl.answer) + rl.cooling) + rl.reverse), .int .i64 (-1)]]), blk w5.heap.size [.int .i64 cl.number, .int .i64 cl.frm, .int .i64 cl.to, .int .i64 cl.holder, .int .i64 cl.asked, .bool cl.backed] 31, blk w4.heap.size [.int .i64 rl.answer, .int .i64 rl.cooling, .int .i64 rl.settle, .int .i64 rl.reverse] 29] w46 := hst.grow hxz
  refine wd_sub (k := 0) 14 [11, 13] hfr (by kernel_rfl) (by kernel_rfl) (by kernel_rfl) (by rfl) ?_
  replace hfr : Fr 182 [(1, _), (4, _), (5, _), (6, _), (7, _), (12, _), (13, _), (14, _)] [] a := hfr.pick [1, 4, 5, 6, 7, 12, 13, 14]
  refine wc_phases_new 12 13 39 [.int .i64 0, .int .i64 0, .int .i64 0] [.int .i64 4, .int .i64 ((cl.asked + rl.answer) + rl.cooling), .int .i64 (((cl.asked + rl.answer) + rl.cooling) + rl.reverse)] 14 [[], [], [], [], [2, 3], [4], [5], [6], [0, 1, 7], [8], [9], [9], [], [10, 12]] (fun i => match i with | 0 => pv (.agg #[.int .i64 rl.answer, .int .i64 rl.cooling, .int .i64 rl.settle, .int .i64 rl.reverse]) | 1 => pv (.agg #[.int .i64 cl.number, .int .i64 cl.frm, .int .i64 cl.to, .int .i64 cl.holder, .int .i64 cl.asked, .bool cl.backed]) | 2 => pv ((.slice (some ⟨w8.heap.size, 0, none⟩) 4 4)) | 3 => pv (.int .i64 2) | 4 => pv (slAddr (.slice (some ⟨w8.heap.size, 0, none⟩) 4 4) (2 * 3)) | 5 => pv (slAddr (.slice (some ⟨w8.heap.size, 0, none⟩) 4 4) (2 * 3 + 2)) | 6 => pv (.int .i64 (((cl.asked + rl.answer) + rl.cooling) + rl.reverse)) | 7 => pv (.int .i64 ((((cl.asked + rl.answer) + rl.cooling) + rl.reverse) - 1)) | 8 => pv (.tuple #[.agg #[.int .i64 4, .int .i64 ((cl.asked + rl.answer) + rl.cooling), .int .i64 (((cl.asked + rl.answer) + rl.cooling) + rl.reverse)], .int .i64 0]) | 9 => pv (.tuple #[.agg #[.int .i64 4, .int .i64 ((cl.asked + rl.answer) + rl.cooling), .int .i64 (((cl.asked + rl.answer) + rl.cooling) + rl.reverse)], .int .i64 0]) | 10 => pv (.agg #[.int .i64 4, .int .i64 ((cl.asked + rl.answer) + rl.cooling), .int .i64 (((cl.asked + rl.answer) + rl.cooling) + rl.reverse)]) | 11 => pv (.int .i64 0) | 12 => fun v E => ∃ b, v = ptr b ∧ E = [] | 13 => fun v E => v = undef ∧ E = [] | _ => fun _ _ => False) hfr (H := [own (.slice (some ⟨w8.heap.size, 0, none⟩) 4 4) 39 3 ([[.int .i64 1, .int .i64 cl.asked, .int .i64 (cl.asked + rl.answer)], [.int .i64 3, .int .i64 (cl.asked + rl.answer), .int .i64 ((cl.asked + rl.answer) + rl.cooling)], [.int .i64 4, .int .i64 ((cl.asked + rl.answer) + rl.cooling), .int .i64 (((cl.asked + rl.answer) + rl.cooling) + rl.reverse)], [.int .i64 5, .int .i64 (((cl.asked + rl.answer) + rl.cooling) + rl.reverse), .int .i64 (-1)]]), blk w5.heap.size [.int .i64 cl.number, .int .i64 cl.frm, .int .i64 cl.to, .int .i64 cl.holder, .int .i64 cl.asked, .bool cl.backed] 31, blk w4.heap.size [.int .i64 rl.answer, .int .i64 rl.cooling, .int .i64 rl.settle, .int .i64 rl.reverse] 29]) hst (by kernel_rfl) (by kernel_rfl) (by kernel_rfl) (by kernel_rfl) (by decide) (by decide) (by decide) (by decide) (by decide) ?_ (fun v E h => h) ⟨rfl, rfl⟩ (fun v E => Iff.rfl) ?_ ?_ ?_ ?_
  · intro i v E h
    match i, h with
    | 0, _ => exact by decide
    | 1, _ => exact by decide
    | 2, _ => exact by decide
    | 3, _ => exact by decide
    | 4, _ => exact by decide
    | 5, _ => exact by decide
    | 6, _ => exact by decide
    | 7, _ => exact by decide
    | 8, _ => exact by decide
    | 9, _ => exact by decide
    | 10, _ => exact by decide
    | 11, _ => exact by decide
    | 12, _ => exact by decide
    | 13, _ => exact by decide
    | i + 14, h => exact h.elim
  · intro i hi hia hij e
    match i, hi, hia, hij with
    | 0, _, _, _ =>
      intro w hst
      exact OpV.g (v_load_all (hst.get (k := 3) rfl) rfl (Try.isAgg29 _) (Try.sizeOf29 _))
    | 1, _, _, _ =>
      intro w hst
      exact OpV.g (v_load_all (hst.get (k := 2) rfl) rfl (Try.isAgg31 _) (Try.sizeOf31 _))
    | 2, _, _, _ =>
      intro w hst
      exact OpV.g (v_move rfl)
    | 3, _, _, _ =>
      intro w hst
      exact OpV.g (v_move rfl)
    | 4, _, _, _ =>
      rintro _ _ ⟨rfl, rfl⟩ _ _ ⟨rfl, rfl⟩
      intro w hst
      exact OpV.g ((v_indexAddr_sl (i := 2) (sT := 47) (hst.ownAt (i := 1) rfl) rfl rfl (Try.runUnderlying47 _) (Try.sizeOf39 _) (by omega) (by simp)).as (v' := slAddr (.slice (some ⟨w8.heap.size, 0, none⟩) 4 4) (2 * 3)) rfl)
    | 5, _, _, _ =>
      rintro _ _ ⟨rfl, rfl⟩
      intro w hst
      exact OpV.g (v_fieldAddr_sl (k := 2 * 3) (j := 2) (hst.ownAt (i := 1) rfl) (i := 2) (by simp) rfl (fun _ _ => by kernel_rfl))
    | 6, _, _, _ =>
      rintro _ _ ⟨rfl, rfl⟩
      intro w hst
      exact OpV.g (v_load_sl1 (u := .int .i64 (((cl.asked + rl.answer) + rl.cooling) + rl.reverse)) (i := 2) (j := 2) (hst.ownAt (i := 1) rfl) (by simp) rfl (Try.isAgg3 _) (by rfl))
    | 7, _, _, _ =>
      rintro _ _ ⟨rfl, rfl⟩
      intro w hst
      exact OpV.g (v_sub rfl rfl ⟨by omega, by omega⟩)
    | 8, _, _, _ =>
      rintro _ _ ⟨rfl, rfl⟩ _ _ ⟨rfl, rfl⟩ _ _ ⟨rfl, rfl⟩
      intro w hst
      exact g_callp Try.call14 rfl (outcome2 (s := ⟨4, (cl.asked + rl.answer) + rl.cooling, ((cl.asked + rl.answer) + rl.cooling) + rl.reverse⟩) (out3 (statuses_nil hr hc) (by simp only; omega) (by simp only; omega) (by simp only; omega) (by simp only; omega)) (outcome_ok rl cl (.slice none 0 0) [] ((((cl.asked + rl.answer) + rl.cooling) + rl.reverse) - 1) _ (slAt_nil _ _) (valid_nil hr hc) (by simp [isIn]; omega)))
    | 9, _, _, _ =>
      rintro _ _ ⟨rfl, rfl⟩
      intro w hst
      exact OpV.g (v_move rfl)
    | 10, _, _, _ =>
      rintro _ _ ⟨rfl, rfl⟩
      intro w hst
      exact OpV.g (v_extract rfl rfl)
    | 11, _, _, _ =>
      rintro _ _ ⟨rfl, rfl⟩
      intro w hst
      exact OpV.g (v_extract rfl rfl)
    | 12, _, h, _ => exact absurd rfl h
    | 13, _, _, h => exact absurd rfl h
    | i + 14, h, _, _ => exact absurd h (by omega)
  · exact fun Lv w => r_alloc (Try.zeroValue39 _)
  · rintro _ _ ⟨rfl, rfl⟩ _ _ ⟨b7, rfl, rfl⟩
    intro b hb w h
    have hb : some (ptr b7) = some (ptr b) := hb
    cases hb
    exact r_storeU rfl rfl h (Try.sizeOf39 _) rfl (Nat.le_of_ble_eq_true rfl) rfl
  clear hfr hst
  rintro bq _ _ ⟨⟨rfl, rfl⟩, -⟩ _ _ ⟨⟨rfl, rfl⟩, -⟩ _ _ ⟨⟨rfl, rfl⟩, -⟩ _ _ ⟨⟨rfl, rfl⟩, -⟩ _ _ ⟨⟨rfl, rfl⟩, -⟩ _ _ ⟨⟨rfl, rfl⟩, -⟩ _ _ ⟨⟨rfl, rfl⟩, -⟩ _ _ ⟨⟨rfl, rfl⟩, -⟩ _ _ ⟨⟨rfl, rfl⟩, -⟩ _ _ ⟨⟨rfl, rfl⟩, -⟩ _ _ ⟨⟨rfl, rfl⟩, -⟩ _ _ ⟨⟨rfl, rfl⟩, -⟩ _ _ ⟨⟨b7, rfl, rfl⟩, hva⟩ a w47 hfr hst
  obtain rfl : b7 = bq := ptr_inj (hva rfl)
  replace hfr : Fr 182 [(99, _), (100, _), (101, _), (102, _), (103, _), (104, _), (105, _), (106, _), (107, _), (98, _), (108, _), (109, _), (15, _), (1, _), (4, _), (5, _), (6, _), (7, _), (12, _), (13, _), (14, _)] [] a := hfr
  replace hst : St No w0 [blk b7 [.int .i64 4, .int .i64 ((cl.asked + rl.answer) + rl.cooling), .int .i64 (((cl.asked + rl.answer) + rl.cooling) + rl.reverse)] 39, own (.slice (some ⟨w8.heap.size, 0, none⟩) 4 4) 39 3 ([[.int .i64 1, .int .i64 cl.asked, .int .i64 (cl.asked + rl.answer)], [.int .i64 3, .int .i64 (cl.asked + rl.answer), .int .i64 ((cl.asked + rl.answer) + rl.cooling)], [.int .i64 4, .int .i64 ((cl.asked + rl.answer) + rl.cooling), .int .i64 (((cl.asked + rl.answer) + rl.cooling) + rl.reverse)], [.int .i64 5, .int .i64 (((cl.asked + rl.answer) + rl.cooling) + rl.reverse), .int .i64 (-1)]]), blk w5.heap.size [.int .i64 cl.number, .int .i64 cl.frm, .int .i64 cl.to, .int .i64 cl.holder, .int .i64 cl.asked, .bool cl.backed] 31, blk w4.heap.size [.int .i64 rl.answer, .int .i64 rl.cooling, .int .i64 rl.settle, .int .i64 rl.reverse] 29] w47 := hst
  refine wl_nil ?_
  refine wd_lin (k := 14) 15 [14] (by kernel_rfl) (by kernel_rfl) (by kernel_rfl) ?_
  refine wl_v hfr (by decide) (v_assign rfl) ?_
  clear hfr
  intro a hfr
  refine wl_nil ?_
  refine wd_end (by kernel_rfl) ?_
  refine hK44 _ _ ?_
  replace hfr : Fr 182 [(1, _), (4, _), (5, _), (6, _), (7, _), (12, _), (13, _), (14, _), (15, _), (16, _)] [] a := hfr.pick [1, 4, 5, 6, 7, 12, 13, 14, 15, 16]
  refine wc_seq_k fun K45 hK45 => ?_
  refine wc_of_dr (by kernel_rfl) (dr_of_wd (by kernel_rfl) fun w48 hxz => ?_)
  replace hst : St No w0 [blk b7 [.int .i64 4, .int .i64 ((cl.asked + rl.answer) + rl.cooling), .int .i64 (((cl.asked + rl.answer) + rl.cooling) + rl.reverse)] 39, own (.slice (some ⟨w8.heap.size, 0, none⟩) 4 4) 39 3 ([[.int .i64 1, .int .i64 cl.asked, .int .i64 (cl.asked + rl.answer)], [.int .i64 3, .int .i64 (cl.asked + rl.answer), .int .i64 ((cl.asked + rl.answer) + rl.cooling)], [.int .i64 4, .int .i64 ((cl.asked + rl.answer) + rl.cooling), .int .i64 (((cl.asked + rl.answer) + rl.cooling) + rl.reverse)], [.int .i64 5, .int .i64 (((cl.asked + rl.answer) + rl.cooling) + rl.reverse), .int .i64 (-1)]]), blk w5.heap.size [.int .i64 cl.number, .int .i64 cl.frm, .int .i64 cl.to, .int .i64 cl.holder, .int .i64 cl.asked, .bool cl.backed] 31, blk w4.heap.size [.int .i64 rl.answer, .int .i64 rl.cooling, .int .i64 rl.settle, .int .i64 rl.reverse] 29] w48 := hst.grow hxz
  refine wd_lin (k := 0) 3 [2] (by kernel_rfl) (by kernel_rfl) (by kernel_rfl) ?_
  refine wl_v hfr (by decide) (v_move rfl) ?_
  clear hfr
  intro a hfr
  refine wl_v hfr (by decide) ((v_ne rfl rfl).asb (b' := false) rfl) ?_
  clear hfr
  intro a hfr
  refine wl_v hfr (by decide) (v_move rfl) ?_
  clear hfr
  intro a hfr
  refine wl_nil ?_
  refine wd_sub (k := 3) 8 [3, 7] hfr (by kernel_rfl) (by kernel_rfl) (by kernel_rfl) (by rfl) ?_
  replace hfr : Fr 182 [(1, _), (4, _), (5, _), (6, _), (7, _), (12, _), (13, _), (14, _), (15, _), (16, _), (110, _), (111, _), (112, _)] [] a := hfr.pick [1, 4, 5, 6, 7, 12, 13, 14, 15, 16, 110, 111, 112]
  refine wc_phases' 5 [[], [], [], [1, 2], [3]] (fun i => match i with | 0 => pv (.agg #[.int .i64 4, .int .i64 ((cl.asked + rl.answer) + rl.cooling), .int .i64 (((cl.asked + rl.answer) + rl.cooling) + rl.reverse)]) | 1 => pv ((.slice (some ⟨w8.heap.size, 0, none⟩) 4 4)) | 2 => pv (.int .i64 2) | 3 => pv (slAddr (.slice (some ⟨w8.heap.size, 0, none⟩) 4 4) (2 * 3)) | 4 => pv (.agg #[.int .i64 4, .int .i64 ((cl.asked + rl.answer) + rl.cooling), .int .i64 (((cl.asked + rl.answer) + rl.cooling) + rl.reverse)]) | _ => fun _ _ => False) hfr hst (by kernel_rfl) (by kernel_rfl) ?_ ?_
  · intro i hi
    match i, hi with
    | 0, _ =>
      intro w hst
      exact OpV.g (v_load_all (hst.get (k := 0) rfl) rfl (Try.isAgg39 _) (Try.sizeOf39 _))
    | 1, _ =>
      intro w hst
      exact OpV.g (v_move rfl)
    | 2, _ =>
      intro w hst
      exact OpV.g (v_move rfl)
    | 3, _ =>
      rintro _ _ ⟨rfl, rfl⟩ _ _ ⟨rfl, rfl⟩
      intro w hst
      exact OpV.g ((v_indexAddr_sl (i := 2) (sT := 47) (hst.ownAt (i := 1) rfl) rfl rfl (Try.runUnderlying47 _) (Try.sizeOf39 _) (by omega) (by simp)).as (v' := slAddr (.slice (some ⟨w8.heap.size, 0, none⟩) 4 4) (2 * 3)) rfl)
    | 4, _ =>
      rintro _ _ ⟨rfl, rfl⟩
      intro w hst
      exact OpV.g ((v_load_sl (hst.ownAt (i := 1) rfl) (i := 2) (by simp) rfl (Try.isAgg39 _) (Try.sizeOf39 _)).as (v' := .agg #[.int .i64 4, .int .i64 ((cl.asked + rl.answer) + rl.cooling), .int .i64 (((cl.asked + rl.answer) + rl.cooling) + rl.reverse)]) (by rfl))
  clear hfr hst
  rintro _ _ ⟨rfl, rfl⟩ _ _ ⟨rfl, rfl⟩ _ _ ⟨rfl, rfl⟩ _ _ ⟨rfl, rfl⟩ _ _ ⟨rfl, rfl⟩ a w49 hfr hst
  replace hfr : Fr 182 [(113, _), (114, _), (115, _), (116, _), (117, _), (1, _), (4, _), (5, _), (6, _), (7, _), (12, _), (13, _), (14, _), (15, _), (16, _), (110, _), (111, _), (112, _)] [] a := hfr
  replace hst : St No w0 [_, _, _, _] w49 := hst
  refine wl_nil ?_
  refine wd_lin (k := 8) 10 [9] (by kernel_rfl) (by kernel_rfl) (by kernel_rfl) ?_
  refine wl_vy hfr (by decide) rfl (by decide) rfl ((v_ne_agg rfl rfl (by kernel_rfl) (eqStt 4 ((cl.asked + rl.answer) + rl.cooling) (((cl.asked + rl.answer) + rl.cooling) + rl.reverse) 4 ((cl.asked + rl.answer) + rl.cooling) (((cl.asked + rl.answer) + rl.cooling) + rl.reverse) _)).asb (b' := false) (by simp)) ?_
  clear hfr
  intro a hfr
  refine wl_v hfr (by decide) (v_pick_f rfl rfl) ?_
  clear hfr
  intro a hfr
  refine wl_nil ?_
  refine wd_end (by kernel_rfl) ?_
  refine hK45 _ _ ?_
  replace hfr : Fr 182 [(1, _), (4, _), (5, _), (6, _), (7, _), (12, _), (13, _), (14, _), (119, _)] [] a := hfr.pick [1, 4, 5, 6, 7, 12, 13, 14, 119]
  replace hst : St No w0 [_, _, _] w49 := hst.mask [false, true, true, true]
  refine wc_cond_f hfr rfl ?_
  refine wc_skip ?_
  refine hK41 _ _ ?_
  refine wc_seq_k fun K46 hK46 => ?_
  refine wc_of_dr (by kernel_rfl) (dr_of_wd (by kernel_rfl) fun w50 hxz => ?_)
  replace hst : St No w0 [own (.slice (some ⟨w8.heap.size, 0, none⟩) 4 4) 39 3 ([[.int .i64 1, .int .i64 cl.asked, .int .i64 (cl.asked + rl.answer)], [.int .i64 3, .int .i64 (cl.asked + rl.answer), .int .i64 ((cl.asked + rl.answer) + rl.cooling)], [.int .i64 4, .int .i64 ((cl.asked + rl.answer) + rl.cooling), .int .i64 (((cl.asked + rl.answer) + rl.cooling) + rl.reverse)], [.int .i64 5, .int .i64 (((cl.asked + rl.answer) + rl.cooling) + rl.reverse), .int .i64 (-1)]]), blk w5.heap.size [.int .i64 cl.number, .int .i64 cl.frm, .int .i64 cl.to, .int .i64 cl.holder, .int .i64 cl.asked, .bool cl.backed] 31, blk w4.heap.size [.int .i64 rl.answer, .int .i64 rl.cooling, .int .i64 rl.settle, .int .i64 rl.reverse] 29] w50 := hst.grow hxz
  refine wd_sub (k := 0) 13 [10, 12] hfr (by kernel_rfl) (by kernel_rfl) (by kernel_rfl) (by rfl) ?_
  replace hfr : Fr 182 [(1, _), (4, _), (5, _), (6, _), (7, _), (12, _), (13, _), (14, _), (119, _)] [] a := hfr.pick [1, 4, 5, 6, 7, 12, 13, 14, 119]
  refine wc_phases_new 11 12 39 [.int .i64 0, .int .i64 0, .int .i64 0] [.int .i64 4, .int .i64 ((cl.asked + rl.answer) + rl.cooling), .int .i64 (((cl.asked + rl.answer) + rl.cooling) + rl.reverse)] 13 [[], [], [], [], [2, 3], [4], [5], [0, 1, 6], [7], [8], [8], [], [9, 11]] (fun i => match i with | 0 => pv (.agg #[.int .i64 rl.answer, .int .i64 rl.cooling, .int .i64 rl.settle, .int .i64 rl.reverse]) | 1 => pv (.agg #[.int .i64 cl.number, .int .i64 cl.frm, .int .i64 cl.to, .int .i64 cl.holder, .int .i64 cl.asked, .bool cl.backed]) | 2 => pv ((.slice (some ⟨w8.heap.size, 0, none⟩) 4 4)) | 3 => pv (.int .i64 2) | 4 => pv (slAddr (.slice (some ⟨w8.heap.size, 0, none⟩) 4 4) (2 * 3)) | 5 => pv (slAddr (.slice (some ⟨w8.heap.size, 0, none⟩) 4 4) (2 * 3 + 1)) | 6 => pv (.int .i64 ((cl.asked + rl.answer) + rl.cooling)) | 7 => pv (.tuple #[.agg #[.int .i64 4, .int .i64 ((cl.asked + rl.answer) + rl.cooling), .int .i64 (((cl.asked + rl.answer) + rl.cooling) + rl.reverse)], .int .i64 0]) | 8 => pv (.tuple #[.agg #[.int .i64 4, .int .i64 ((cl.asked + rl.answer) + rl.cooling), .int .i64 (((cl.asked + rl.answer) + rl.cooling) + rl.reverse)], .int .i64 0]) | 9 => pv (.agg #[.int .i64 4, .int .i64 ((cl.asked + rl.answer) + rl.cooling), .int .i64 (((cl.asked + rl.answer) + rl.cooling) + rl.reverse)]) | 10 => pv (.int .i64 0) | 11 => fun v E => ∃ b, v = ptr b ∧ E = [] | 12 => fun v E => v = undef ∧ E = [] | _ => fun _ _ => False) hfr (H := [own (.slice (some ⟨w8.heap.size, 0, none⟩) 4 4) 39 3 ([[.int .i64 1, .int .i64 cl.asked, .int .i64 (cl.asked + rl.answer)], [.int .i64 3, .int .i64 (cl.asked + rl.answer), .int .i64 ((cl.asked + rl.answer) + rl.cooling)], [.int .i64 4, .int .i64 ((cl.asked + rl.answer) + rl.cooling), .int .i64 (((cl.asked + rl.answer) + rl.cooling) + rl.reverse)], [.int .i64 5, .int .i64 (((cl.asked + rl.answer) + rl.cooling) + rl.reverse), .int .i64 (-1)]]), blk w5.heap.size [.int .i64 cl.number, .int .i64 cl.frm, .int .i64 cl.to, .int .i64 cl.holder, .int .i64 cl.asked, .bool cl.backed] 31, blk w4.heap.size [.int .i64 rl.answer, .int .i64 rl.cooling, .int .i64 rl.settle, .int .i64 rl.reverse] 29]) hst (by kernel_rfl) (by kernel_rfl) (by kernel_rfl) (by kernel_rfl) (by decide) (by decide) (by decide) (by decide) (by decide) ?_ (fun v E h => h) ⟨rfl, rfl⟩ (fun v E => Iff.rfl) ?_ ?_ ?_ ?_
  · intro i v E h
    match i, h with
    | 0, _ => exact by decide
    | 1, _ => exact by decide
    | 2, _ => exact by decide
    | 3, _ => exact by decide
    | 4, _ => exact by decide
    | 5, _ => exact by decide
    | 6, _ => exact by decide
    | 7, _ => exact by decide
    | 8, _ => exact by decide
    | 9, _ => exact by decide
    | 10, _ => exact by decide
    | 11, _ => exact by decide
    | 12, _ => exact by decide
    | i + 13, h => exact h.elim
  · intro i hi hia hij e
    match i, hi, hia, hij with
    | 0, _, _, _ =>
      intro w hst
      exact OpV.g (v_load_all (hst.get (k := 3) rfl) rfl (Try.isAgg29 _) (Try.sizeOf29 _))
    | 1, _, _, _ =>
      intro w hst
      exact OpV.g (v_load_all (hst.get (k := 2) rfl) rfl (Try.isAgg31 _) (Try.sizeOf31 _))
    | 2, _, _, _ =>
      intro w hst
      exact OpV.g (v_move rfl)
    | 3, _, _, _ =>
      intro w hst
      exact OpV.g (v_move rfl)
    | 4, _, _, _ =>
      rintro _ _ ⟨rfl, rfl⟩ _ _ ⟨rfl, rfl⟩
      intro w hst
      exact OpV.g ((v_indexAddr_sl (i := 2) (sT := 47) (hst.ownAt (i := 1) rfl) rfl rfl (Try.runUnderlying47 _) (Try.sizeOf39 _) (by omega) (by simp)).as (v' := slAddr (.slice (some ⟨w8.heap.size, 0, none⟩) 4 4) (2 * 3)) rfl)
    | 5, _, _, _ =>
      rintro _ _ ⟨rfl, rfl⟩
      intro w hst
      exact OpV.g (v_fieldAddr_sl (k := 2 * 3) (j := 1) (hst.ownAt (i := 1) rfl) (i := 2) (by simp) rfl (fun _ _ => by kernel_rfl))
    | 6, _, _, _ =>
      rintro _ _ ⟨rfl, rfl⟩
      intro w hst
      exact OpV.g (v_load_sl1 (u := .int .i64 ((cl.asked + rl.answer) + rl.cooling)) (i := 2) (j := 1) (hst.ownAt (i := 1) rfl) (by simp) rfl (Try.isAgg3 _) (by rfl))
    | 7, _, _, _ =>
      rintro _ _ ⟨rfl, rfl⟩ _ _ ⟨rfl, rfl⟩ _ _ ⟨rfl, rfl⟩
      intro w hst
      exact g_callp Try.call14 rfl (outcome2 (s := ⟨4, (cl.asked + rl.answer) + rl.cooling, ((cl.asked + rl.answer) + rl.cooling) + rl.reverse⟩) (out3 (statuses_nil hr hc) (by simp only; omega) (by simp only; omega) (by simp only; omega) (by simp only; omega)) (outcome_ok rl cl (.slice none 0 0) [] ((cl.asked + rl.answer) + rl.cooling) _ (slAt_nil _ _) (valid_nil hr hc) (by simp [isIn]; omega)))
    | 8, _, _, _ =>
      rintro _ _ ⟨rfl, rfl⟩
      intro w hst
      exact OpV.g (v_move rfl)
    | 9, _, _, _ =>
      rintro _ _ ⟨rfl, rfl⟩
      intro w hst
      exact OpV.g (v_extract rfl rfl)
    | 10, _, _, _ =>
      rintro _ _ ⟨rfl, rfl⟩
      intro w hst
      exact OpV.g (v_extract rfl rfl)
    | 11, _, h, _ => exact absurd rfl h
    | 12, _, _, h => exact absurd rfl h
    | i + 13, h, _, _ => exact absurd h (by omega)
  · exact fun Lv w => r_alloc (Try.zeroValue39 _)
  · rintro _ _ ⟨rfl, rfl⟩ _ _ ⟨b8, rfl, rfl⟩
    intro b hb w h
    have hb : some (ptr b8) = some (ptr b) := hb
    cases hb
    exact r_storeU rfl rfl h (Try.sizeOf39 _) rfl (Nat.le_of_ble_eq_true rfl) rfl
  clear hfr hst
  rintro bq _ _ ⟨⟨rfl, rfl⟩, -⟩ _ _ ⟨⟨rfl, rfl⟩, -⟩ _ _ ⟨⟨rfl, rfl⟩, -⟩ _ _ ⟨⟨rfl, rfl⟩, -⟩ _ _ ⟨⟨rfl, rfl⟩, -⟩ _ _ ⟨⟨rfl, rfl⟩, -⟩ _ _ ⟨⟨rfl, rfl⟩, -⟩ _ _ ⟨⟨rfl, rfl⟩, -⟩ _ _ ⟨⟨rfl, rfl⟩, -⟩ _ _ ⟨⟨rfl, rfl⟩, -⟩ _ _ ⟨⟨rfl, rfl⟩, -⟩ _ _ ⟨⟨b8, rfl, rfl⟩, hva⟩ a w51 hfr hst
  obtain rfl : b8 = bq := ptr_inj (hva rfl)
  replace hfr : Fr 182 [(121, _), (122, _), (123, _), (124, _), (125, _), (126, _), (127, _), (128, _), (120, _), (129, _), (130, _), (17, _), (1, _), (4, _), (5, _), (6, _), (7, _), (12, _), (13, _), (14, _), (119, _)] [] a := hfr
  replace hst : St No w0 [blk b8 [.int .i64 4, .int .i64 ((cl.asked + rl.answer) + rl.cooling), .int .i64 (((cl.asked + rl.answer) + rl.cooling) + rl.reverse)] 39, own (.slice (some ⟨w8.heap.size, 0, none⟩) 4 4) 39 3 ([[.int .i64 1, .int .i64 cl.asked, .int .i64 (cl.asked + rl.answer)], [.int .i64 3, .int .i64 (cl.asked + rl.answer), .int .i64 ((cl.asked + rl.answer) + rl.cooling)], [.int .i64 4, .int .i64 ((cl.asked + rl.answer) + rl.cooling), .int .i64 (((cl.asked + rl.answer) + rl.cooling) + rl.reverse)], [.int .i64 5, .int .i64 (((cl.asked + rl.answer) + rl.cooling) + rl.reverse), .int .i64 (-1)]]), blk w5.heap.size [.int .i64 cl.number, .int .i64 cl.frm, .int .i64 cl.to, .int .i64 cl.holder, .int .i64 cl.asked, .bool cl.backed] 31, blk w4.heap.size [.int .i64 rl.answer, .int .i64 rl.cooling, .int .i64 rl.settle, .int .i64 rl.reverse] 29] w51 := hst
  refine wl_nil ?_
  refine wd_lin (k := 13) 14 [13] (by kernel_rfl) (by kernel_rfl) (by kernel_rfl) ?_
  refine wl_v hfr (by decide) (v_assign rfl) ?_
  clear hfr
  intro a hfr
  refine wl_nil ?_
  refine wd_end (by kernel_rfl) ?_
  refine hK46 _ _ ?_
  replace hfr : Fr 182 [(1, _), (4, _), (5, _), (6, _), (7, _), (12, _), (13, _), (14, _), (17, _), (18, _)] [] a := hfr.pick [1, 4, 5, 6, 7, 12, 13, 14, 17, 18]
  refine wc_seq_region fun K47 hK47 => ?_
  refine wl_v hfr (by decide) (v_load_all (hst.get (k := 3) rfl) rfl (Try.isAgg29 _) (Try.sizeOf29 _)) ?_
  clear hfr
  intro a hfr
  refine wl_v hfr (by decide) (v_load_all (hst.get (k := 2) rfl) rfl (Try.isAgg31 _) (Try.sizeOf31 _)) ?_
  clear hfr
  intro a hfr
  refine wl_v hfr (by decide) (v_move rfl) ?_
  clear hfr
  intro a hfr
  refine wl_callp hfr hst (by decide) Try.call14 rfl (outcome2 (s := ⟨4, (cl.asked + rl.answer) + rl.cooling, ((cl.asked + rl.answer) + rl.cooling) + rl.reverse⟩) (out3 (statuses_nil hr hc) (by simp only; omega) (by simp only; omega) (by simp only; omega) (by simp only; omega)) (outcome_ok rl cl (.slice none 0 0) [] (((cl.asked + rl.answer) + rl.cooling) + p3) _ (slAt_nil _ _) (valid_nil hr hc) (by simp [isIn]; omega))) ?_
  clear hfr hst
  intro a w52 hfr hst
  refine wl_v hfr (by decide) (v_move rfl) ?_
  clear hfr
  intro a hfr
  refine wl_v hfr (by decide) (v_extract rfl rfl) ?_
  clear hfr
  intro a hfr
  refine wl_v hfr (by decide) (v_extract rfl rfl) ?_
  clear hfr
  intro a hfr
  refine wl_alloc hfr hst (by decide) (Try.zeroValue39 _) (cs := [.int .i64 0, .int .i64 0, .int .i64 0]) rfl ?_
  clear hfr hst
  intro a w53 hfr hst
  refine wl_store 0 hfr hst rfl rfl rfl (Try.sizeOf39 _) rfl (Nat.le_of_ble_eq_true rfl) (ds := [.int .i64 4, .int .i64 ((cl.asked + rl.answer) + rl.cooling), .int .i64 (((cl.asked + rl.answer) + rl.cooling) + rl.reverse)]) rfl rfl ?_
  clear hfr hst
  intro a w54 hfr hst
  refine wl_v hfr (by decide) (v_assign rfl) ?_
  clear hfr
  intro a hfr
  refine wl_nil (hK47 _ _ ?_)
  replace hfr : Fr 182 [(1, _), (4, _), (5, _), (6, _), (7, _), (12, _), (13, _), (17, _), (18, _), (19, _), (20, _)] [] a := hfr.pick [1, 4, 5, 6, 7, 12, 13, 17, 18, 19, 20]
  refine wc_seq_k fun K48 hK48 => ?_
  refine wc_of_dr (by kernel_rfl) (dr_of_wd (by kernel_rfl) fun w55 hxz => ?_)
  replace hst : St No w0 [blk w52.heap.size [.int .i64 4, .int .i64 ((cl.asked + rl.answer) + rl.cooling), .int .i64 (((cl.asked + rl.answer) + rl.cooling) + rl.reverse)] 39, blk b8 [.int .i64 4, .int .i64 ((cl.asked + rl.answer) + rl.cooling), .int .i64 (((cl.asked + rl.answer) + rl.cooling) + rl.reverse)] 39, own (.slice (some ⟨w8.heap.size, 0, none⟩) 4 4) 39 3 ([[.int .i64 1, .int .i64 cl.asked, .int .i64 (cl.asked + rl.answer)], [.int .i64 3, .int .i64 (cl.asked + rl.answer), .int .i64 ((cl.asked + rl.answer) + rl.cooling)], [.int .i64 4, .int .i64 ((cl.asked + rl.answer) + rl.cooling), .int .i64 (((cl.asked + rl.answer) + rl.cooling) + rl.reverse)], [.int .i64 5, .int .i64 (((cl.asked + rl.answer) + rl.cooling) + rl.reverse), .int .i64 (-1)]]), blk w5.heap.size [.int .i64 cl.number, .int .i64 cl.frm, .int .i64 cl.to, .int .i64 cl.holder, .int .i64 cl.asked, .bool cl.backed] 31, blk w4.heap.size [.int .i64 rl.answer, .int .i64 rl.cooling, .int .i64 rl.settle, .int .i64 rl.reverse] 29] w55 := hst.grow hxz
  refine wd_lin (k := 0) 7 [6] (by kernel_rfl) (by kernel_rfl) (by kernel_rfl) ?_
  refine wl_v hfr (by decide) (v_move rfl) ?_
  clear hfr
  intro a hfr
  refine wl_v hfr (by decide) ((v_ne rfl rfl).asb (b' := false) rfl) ?_
  clear hfr
  intro a hfr
  refine wl_v hfr (by decide) (v_move rfl) ?_
  clear hfr
  intro a hfr
  refine wl_vy hfr (by decide) rfl (by decide) rfl (v_move rfl) ?_
  clear hfr
  intro a hfr
  refine wl_vy hfr (by decide) rfl (by decide) rfl ((v_ne rfl rfl).asb (b' := false) rfl) ?_
  clear hfr
  intro a hfr
  refine wl_v hfr (by decide) (v_pick_f rfl rfl) ?_
  clear hfr
  intro a hfr
  refine wl_v hfr (by decide) (v_move rfl) ?_
  clear hfr
  intro a hfr
  refine wl_nil ?_
  refine wd_sub (k := 7) 12 [7, 11] hfr (by kernel_rfl) (by kernel_rfl) (by kernel_rfl) (by rfl) ?_
  replace hfr : Fr 182 [(1, _), (4, _), (5, _), (6, _), (7, _), (12, _), (13, _), (17, _), (18, _), (19, _), (20, _), (138, _), (139, _), (140, _), (141, _), (142, _), (143, _), (144, _)] [] a := hfr.pick [1, 4, 5, 6, 7, 12, 13, 17, 18, 19, 20, 138, 139, 140, 141, 142, 143, 144]
  refine wc_phases' 5 [[], [], [], [1, 2], [3]] (fun i => match i with | 0 => pv (.agg #[.int .i64 4, .int .i64 ((cl.asked + rl.answer) + rl.cooling), .int .i64 (((cl.asked + rl.answer) + rl.cooling) + rl.reverse)]) | 1 => pv ((.slice (some ⟨w8.heap.size, 0, none⟩) 4 4)) | 2 => pv (.int .i64 2) | 3 => pv (slAddr (.slice (some ⟨w8.heap.size, 0, none⟩) 4 4) (2 * 3)) | 4 => pv (.agg #[.int .i64 4, .int .i64 ((cl.asked + rl.answer) + rl.cooling), .int .i64 (((cl.asked + rl.answer) + rl.cooling) + rl.reverse)]) | _ => fun _ _ => False) hfr hst (by kernel_rfl) (by kernel_rfl) ?_ ?_
  · intro i hi
    match i, hi with
    | 0, _ =>
      intro w hst
      exact OpV.g (v_load_all (hst.get (k := 1) rfl) rfl (Try.isAgg39 _) (Try.sizeOf39 _))
    | 1, _ =>
      intro w hst
      exact OpV.g (v_move rfl)
    | 2, _ =>
      intro w hst
      exact OpV.g (v_move rfl)
    | 3, _ =>
      rintro _ _ ⟨rfl, rfl⟩ _ _ ⟨rfl, rfl⟩
      intro w hst
      exact OpV.g ((v_indexAddr_sl (i := 2) (sT := 47) (hst.ownAt (i := 2) rfl) rfl rfl (Try.runUnderlying47 _) (Try.sizeOf39 _) (by omega) (by simp)).as (v' := slAddr (.slice (some ⟨w8.heap.size, 0, none⟩) 4 4) (2 * 3)) rfl)
    | 4, _ =>
      rintro _ _ ⟨rfl, rfl⟩
      intro w hst
      exact OpV.g ((v_load_sl (hst.ownAt (i := 2) rfl) (i := 2) (by simp) rfl (Try.isAgg39 _) (Try.sizeOf39 _)).as (v' := .agg #[.int .i64 4, .int .i64 ((cl.asked + rl.answer) + rl.cooling), .int .i64 (((cl.asked + rl.answer) + rl.cooling) + rl.reverse)]) (by rfl))
  clear hfr hst
  rintro _ _ ⟨rfl, rfl⟩ _ _ ⟨rfl, rfl⟩ _ _ ⟨rfl, rfl⟩ _ _ ⟨rfl, rfl⟩ _ _ ⟨rfl, rfl⟩ a w56 hfr hst
  replace hfr : Fr 182 [(145, _), (146, _), (147, _), (148, _), (149, _), (1, _), (4, _), (5, _), (6, _), (7, _), (12, _), (13, _), (17, _), (18, _), (19, _), (20, _), (138, _), (139, _), (140, _), (141, _), (142, _), (143, _), (144, _)] [] a := hfr
  replace hst : St No w0 [_, _, _, _, _] w56 := hst
  refine wl_nil ?_
  refine wd_lin (k := 12) 15 [14] (by kernel_rfl) (by kernel_rfl) (by kernel_rfl) ?_
  refine wl_vy hfr (by decide) rfl (by decide) rfl ((v_ne_agg rfl rfl (by kernel_rfl) (eqStt 4 ((cl.asked + rl.answer) + rl.cooling) (((cl.asked + rl.answer) + rl.cooling) + rl.reverse) 4 ((cl.asked + rl.answer) + rl.cooling) (((cl.asked + rl.answer) + rl.cooling) + rl.reverse) _)).asb (b' := false) (by simp)) ?_
  clear hfr
  intro a hfr
  refine wl_v hfr (by decide) (v_pick_f rfl rfl) ?_
  clear hfr
  intro a hfr
  refine wl_v hfr (by decide) (v_move rfl) ?_
  clear hfr
  intro a hfr
  refine wl_nil ?_
  refine wd_sub (k := 15) 20 [15, 19] hfr (by kernel_rfl) (by kernel_rfl) (by kernel_rfl) (by rfl) ?_
  replace hfr : Fr 182 [(1, _), (4, _), (5, _), (6, _), (7, _), (12, _), (13, _), (17, _), (18, _), (19, _), (20, _), (138, _), (139, _), (140, _), (141, _), (142, _), (143, _), (144, _), (145, _), (146, _), (147, _), (148, _), (149, _), (150, _), (151, _), (152, _)] [] a := hfr.pick [1, 4, 5, 6, 7, 12, 13, 17, 18, 19, 20, 138, 139, 140, 141, 142, 143, 144, 145, 146, 147, 148, 149, 150, 151, 152]
  refine wc_phases' 5 [[], [], [], [1, 2], [3]] (fun i => match i with | 0 => pv (.agg #[.int .i64 4, .int .i64 ((cl.asked + rl.answer) + rl.cooling), .int .i64 (((cl.asked + rl.answer) + rl.cooling) + rl.reverse)]) | 1 => pv ((.slice (some ⟨w8.heap.size, 0, none⟩) 4 4)) | 2 => pv (.int .i64 2) | 3 => pv (slAddr (.slice (some ⟨w8.heap.size, 0, none⟩) 4 4) (2 * 3)) | 4 => pv (.agg #[.int .i64 4, .int .i64 ((cl.asked + rl.answer) + rl.cooling), .int .i64 (((cl.asked + rl.answer) + rl.cooling) + rl.reverse)]) | _ => fun _ _ => False) hfr hst (by kernel_rfl) (by kernel_rfl) ?_ ?_
  · intro i hi
    match i, hi with
    | 0, _ =>
      intro w hst
      exact OpV.g (v_load_all (hst.get (k := 0) rfl) rfl (Try.isAgg39 _) (Try.sizeOf39 _))
    | 1, _ =>
      intro w hst
      exact OpV.g (v_move rfl)
    | 2, _ =>
      intro w hst
      exact OpV.g (v_move rfl)
    | 3, _ =>
      rintro _ _ ⟨rfl, rfl⟩ _ _ ⟨rfl, rfl⟩
      intro w hst
      exact OpV.g ((v_indexAddr_sl (i := 2) (sT := 47) (hst.ownAt (i := 2) rfl) rfl rfl (Try.runUnderlying47 _) (Try.sizeOf39 _) (by omega) (by simp)).as (v' := slAddr (.slice (some ⟨w8.heap.size, 0, none⟩) 4 4) (2 * 3)) rfl)
    | 4, _ =>
      rintro _ _ ⟨rfl, rfl⟩
      intro w hst
      exact OpV.g ((v_load_sl (hst.ownAt (i := 2) rfl) (i := 2) (by simp) rfl (Try.isAgg39 _) (Try.sizeOf39 _)).as (v' := .agg #[.int .i64 4, .int .i64 ((cl.asked + rl.answer) + rl.cooling), .int .i64 (((cl.asked + rl.answer) + rl.cooling) + rl.reverse)]) (by rfl))
  clear hfr hst
  rintro _ _ ⟨rfl, rfl⟩ _ _ ⟨rfl, rfl⟩ _ _ ⟨rfl, rfl⟩ _ _ ⟨rfl, rfl⟩ _ _ ⟨rfl, rfl⟩ a w57 hfr hst
  replace hfr : Fr 182 [(153, _), (154, _), (155, _), (156, _), (157, _), (1, _), (4, _), (5, _), (6, _), (7, _), (12, _), (13, _), (17, _), (18, _), (19, _), (20, _), (138, _), (139, _), (140, _), (141, _), (142, _), (143, _), (144, _), (145, _), (146, _), (147, _), (148, _), (149, _), (150, _), (151, _), (152, _)] [] a := hfr
  replace hst : St No w0 [_, _, _, _, _] w57 := hst
  refine wl_nil ?_
  refine wd_lin (k := 20) 22 [21] (by kernel_rfl) (by kernel_rfl) (by kernel_rfl) ?_
  refine wl_vy hfr (by decide) rfl (by decide) rfl ((v_ne_agg rfl rfl (by kernel_rfl) (eqStt 4 ((cl.asked + rl.answer) + rl.cooling) (((cl.asked + rl.answer) + rl.cooling) + rl.reverse) 4 ((cl.asked + rl.answer) + rl.cooling) (((cl.asked + rl.answer) + rl.cooling) + rl.reverse) _)).asb (b' := false) (by simp)) ?_
  clear hfr
  intro a hfr
  refine wl_v hfr (by decide) (v_pick_f rfl rfl) ?_
  clear hfr
  intro a hfr
  refine wl_nil ?_
  refine wd_end (by kernel_rfl) ?_
  refine hK48 _ _ ?_
  replace hfr : Fr 182 [(1, _), (4, _), (5, _), (6, _), (7, _), (12, _), (13, _), (159, _)] [] a := hfr.pick [1, 4, 5, 6, 7, 12, 13, 159]
  replace hst : St No w0 [_, _, _] w57 := hst.mask [false, false, true, true, true]
  refine wc_cond_f hfr rfl ?_
  refine wc_skip ?_
  refine hK39 _ _ ?_
  refine wc_region ?_
  refine wl_v hfr (by decide) (v_move rfl) ?_
  clear hfr
  intro a hfr
  refine wl_v hfr (by decide) ((v_add rfl rfl (by decide)).asi (m' := 3) rfl) ?_
  clear hfr
  intro a hfr
  refine wl_v hfr (by decide) (v_assign rfl) ?_
  clear hfr
  intro a hfr
  refine wl_nil ?_
  refine wr_succ ?_
  refine wc_seq_k fun K49 hK49 => ?_
  refine wc_seq_region fun K50 hK50 => ?_
  refine wl_v hfr (by decide) (v_move rfl) ?_
  clear hfr
  intro a hfr
  refine wl_v hfr (by decide) (v_move rfl) ?_
  clear hfr
  intro a hfr
  refine wl_v hfr (by decide) ((v_len_sl (sT := 47) (hst.ownAt (i := 0) rfl) rfl rfl (Try.runUnderlying47 _)).asi (m' := 4) (by rfl)) ?_
  clear hfr
  intro a hfr
  refine wl_v hfr (by decide) ((v_lt rfl rfl).asb (b' := true) rfl) ?_
  clear hfr
  intro a hfr
  refine wl_nil (hK50 _ _ ?_)
  replace hfr : Fr 182 [(1, _), (4, _), (5, _), (6, _), (7, _), (12, _), (13, _), (62, _)] [] a := hfr.pick [1, 4, 5, 6, 7, 12, 13, 62]
  refine wc_cond_t hfr rfl ?_
  refine wc_skip ?_
  refine hK49 _ _ ?_
  refine wc_seq_k fun K51 hK51 => ?_
  refine wc_block ?_
  refine wc_seq_k fun K52 hK52 => ?_
  refine wc_of_dr (by kernel_rfl) (dr_of_wd (by kernel_rfl) fun w58 hxz => ?_)
  replace hst : St No w0 [own (.slice (some ⟨w8.heap.size, 0, none⟩) 4 4) 39 3 ([[.int .i64 1, .int .i64 cl.asked, .int .i64 (cl.asked + rl.answer)], [.int .i64 3, .int .i64 (cl.asked + rl.answer), .int .i64 ((cl.asked + rl.answer) + rl.cooling)], [.int .i64 4, .int .i64 ((cl.asked + rl.answer) + rl.cooling), .int .i64 (((cl.asked + rl.answer) + rl.cooling) + rl.reverse)], [.int .i64 5, .int .i64 (((cl.asked + rl.answer) + rl.cooling) + rl.reverse), .int .i64 (-1)]]), blk w5.heap.size [.int .i64 cl.number, .int .i64 cl.frm, .int .i64 cl.to, .int .i64 cl.holder, .int .i64 cl.asked, .bool cl.backed] 31, blk w4.heap.size [.int .i64 rl.answer, .int .i64 rl.cooling, .int .i64 rl.settle, .int .i64 rl.reverse] 29] w58 := hst.grow hxz
  refine wd_sub (k := 0) 7 [4, 6] hfr (by kernel_rfl) (by kernel_rfl) (by kernel_rfl) (by rfl) ?_
  replace hfr : Fr 182 [(1, _), (4, _), (5, _), (6, _), (7, _), (12, _), (13, _), (62, _)] [] a := hfr.pick [1, 4, 5, 6, 7, 12, 13, 62]
  refine wc_phases' 7 [[], [], [0, 1], [2], [3], [], [5]] (fun i => match i with | 0 => pv ((.slice (some ⟨w8.heap.size, 0, none⟩) 4 4)) | 1 => pv (.int .i64 3) | 2 => pv (slAddr (.slice (some ⟨w8.heap.size, 0, none⟩) 4 4) (3 * 3)) | 3 => pv (slAddr (.slice (some ⟨w8.heap.size, 0, none⟩) 4 4) (3 * 3 + 1)) | 4 => pv (.int .i64 (((cl.asked + rl.answer) + rl.cooling) + rl.reverse)) | 5 => pv (.int .i64 tt) | 6 => pv (.int .i64 p0) | _ => fun _ _ => False) hfr hst (by kernel_rfl) (by kernel_rfl) ?_ ?_
  · intro i hi
    match i, hi with
    | 0, _ =>
      intro w hst
      exact OpV.g (v_move rfl)
    | 1, _ =>
      intro w hst
      exact OpV.g (v_move rfl)
    | 2, _ =>
      rintro _ _ ⟨rfl, rfl⟩ _ _ ⟨rfl, rfl⟩
      intro w hst
      exact OpV.g ((v_indexAddr_sl (i := 3) (sT := 47) (hst.ownAt (i := 0) rfl) rfl rfl (Try.runUnderlying47 _) (Try.sizeOf39 _) (by omega) (by simp)).as (v' := slAddr (.slice (some ⟨w8.heap.size, 0, none⟩) 4 4) (3 * 3)) rfl)
    | 3, _ =>
      rintro _ _ ⟨rfl, rfl⟩
      intro w hst
      exact OpV.g (v_fieldAddr_sl (k := 3 * 3) (j := 1) (hst.ownAt (i := 0) rfl) (i := 3) (by simp) rfl (fun _ _ => by kernel_rfl))
    | 4, _ =>
      rintro _ _ ⟨rfl, rfl⟩
      intro w hst
      exact OpV.g (v_load_sl1 (u := .int .i64 (((cl.asked + rl.answer) + rl.cooling) + rl.reverse)) (i := 3) (j := 1) (hst.ownAt (i := 0) rfl) (by simp) rfl (Try.isAgg3 _) (by rfl))
    | 5, _ =>
      intro w hst
      exact OpV.g (v_move rfl)
    | 6, _ =>
      rintro _ _ ⟨rfl, rfl⟩
      intro w hst
      exact g_callp Try.call15 rfl (pick2 hp0 (pick16_ok _ _ _ (by omega) (by omega) (by omega) (by omega)))
  clear hfr hst
  rintro _ _ ⟨rfl, rfl⟩ _ _ ⟨rfl, rfl⟩ _ _ ⟨rfl, rfl⟩ _ _ ⟨rfl, rfl⟩ _ _ ⟨rfl, rfl⟩ _ _ ⟨rfl, rfl⟩ _ _ ⟨rfl, rfl⟩ a w59 hfr hst
  replace hfr : Fr 182 [(65, _), (66, _), (67, _), (68, _), (69, _), (70, _), (71, _), (1, _), (4, _), (5, _), (6, _), (7, _), (12, _), (13, _), (62, _)] [] a := hfr
  replace hst : St No w0 [_, _, _] w59 := hst
  refine wl_nil ?_
  refine wd_lin (k := 7) 9 [8] (by kernel_rfl) (by kernel_rfl) (by kernel_rfl) ?_
  refine wl_v hfr (by decide) (v_add rfl rfl ⟨by omega, by omega⟩) ?_
  clear hfr
  intro a hfr
  refine wl_v hfr (by decide) (v_assign rfl) ?_
  clear hfr
  intro a hfr
  refine wl_nil ?_
  refine wd_end (by kernel_rfl) ?_
  refine hK52 _ _ ?_
  replace hfr : Fr 182 [(1, _), (4, _), (5, _), (6, _), (7, _), (12, _), (13, _), (14, _)] [] a := hfr.pick [1, 4, 5, 6, 7, 12, 13, 14]
  refine wc_seq_k fun K53 hK53 => ?_
  refine wc_seq_region fun K54 hK54 => ?_
  refine wl_v hfr (by decide) (v_move rfl) ?_
  clear hfr
  intro a hfr
  refine wl_v hfr (by decide) (v_move rfl) ?_
  clear hfr
  intro a hfr
  refine wl_v hfr (by decide) ((v_indexAddr_sl (i := 3) (sT := 47) (hst.ownAt (i := 0) rfl) rfl rfl (Try.runUnderlying47 _) (Try.sizeOf39 _) (by omega) (by simp)).as (v' := slAddr (.slice (some ⟨w8.heap.size, 0, none⟩) 4 4) (3 * 3)) rfl) ?_
  clear hfr
  intro a hfr
  refine wl_v hfr (by decide) (v_fieldAddr_sl (k := 3 * 3) (j := 2) (hst.ownAt (i := 0) rfl) (i := 3) (by simp) rfl (fun _ _ => by kernel_rfl)) ?_
  clear hfr
  intro a hfr
  refine wl_v hfr (by decide) (v_load_sl1 (u := .int .i64 (-1)) (i := 3) (j := 2) (hst.ownAt (i := 0) rfl) (by simp) rfl (Try.isAgg3 _) (by rfl)) ?_
  clear hfr
  intro a hfr
  refine wl_v hfr (by decide) ((v_ge rfl rfl).asb (b' := false) rfl) ?_
  clear hfr
  intro a hfr
  refine wl_nil (hK54 _ _ ?_)
  refine wc_cond_f hfr rfl ?_
  refine wc_skip ?_
  refine hK53 _ _ ?_
  refine wc_seq_k fun K55 hK55 => ?_
  refine wc_of_dr (by kernel_rfl) (dr_of_wd (by kernel_rfl) fun w60 hxz => ?_)
  replace hst : St No w0 [own (.slice (some ⟨w8.heap.size, 0, none⟩) 4 4) 39 3 ([[.int .i64 1, .int .i64 cl.asked, .int .i64 (cl.asked + rl.answer)], [.int .i64 3, .int .i64 (cl.asked + rl.answer), .int .i64 ((cl.asked + rl.answer) + rl.cooling)], [.int .i64 4, .int .i64 ((cl.asked + rl.answer) + rl.cooling), .int .i64 (((cl.asked + rl.answer) + rl.cooling) + rl.reverse)], [.int .i64 5, .int .i64 (((cl.asked + rl.answer) + rl.cooling) + rl.reverse), .int .i64 (-1)]]), blk w5.heap.size [.int .i64 cl.number, .int .i64 cl.frm, .int .i64 cl.to, .int .i64 cl.holder, .int .i64 cl.asked, .bool cl.backed] 31, blk w4.heap.size [.int .i64 rl.answer, .int .i64 rl.cooling, .int .i64 rl.settle, .int .i64 rl.reverse] 29] w60 := hst.grow hxz
  refine wd_sub (k := 0) 13 [10, 12] hfr (by kernel_rfl) (by kernel_rfl) (by kernel_rfl) (by rfl) ?_
  replace hfr : Fr 182 [(1, _), (4, _), (5, _), (6, _), (7, _), (12, _), (13, _), (14, _), (73, _), (74, _), (75, _), (76, _), (77, _), (78, _)] [] a := hfr.pick [1, 4, 5, 6, 7, 12, 13, 14, 73, 74, 75, 76, 77, 78]
  refine wc_phases_new 11 12 39 [.int .i64 0, .int .i64 0, .int .i64 0] [.int .i64 5, .int .i64 (((cl.asked + rl.answer) + rl.cooling) + rl.reverse), .int .i64 (-1)] 13 [[], [], [], [], [2, 3], [4], [5], [0, 1, 6], [7], [8], [8], [], [9, 11]] (fun i => match i with | 0 => pv (.agg #[.int .i64 rl.answer, .int .i64 rl.cooling, .int .i64 rl.settle, .int .i64 rl.reverse]) | 1 => pv (.agg #[.int .i64 cl.number, .int .i64 cl.frm, .int .i64 cl.to, .int .i64 cl.holder, .int .i64 cl.asked, .bool cl.backed]) | 2 => pv ((.slice (some ⟨w8.heap.size, 0, none⟩) 4 4)) | 3 => pv (.int .i64 3) | 4 => pv (slAddr (.slice (some ⟨w8.heap.size, 0, none⟩) 4 4) (3 * 3)) | 5 => pv (slAddr (.slice (some ⟨w8.heap.size, 0, none⟩) 4 4) (3 * 3 + 1)) | 6 => pv (.int .i64 (((cl.asked + rl.answer) + rl.cooling) + rl.reverse)) | 7 => pv (.tuple #[.agg #[.int .i64 5, .int .i64 (((cl.asked + rl.answer) + rl.cooling) + rl.reverse), .int .i64 (-1)], .int .i64 0]) | 8 => pv (.tuple #[.agg #[.int .i64 5, .int .i64 (((cl.asked + rl.answer) + rl.cooling) + rl.reverse), .int .i64 (-1)], .int .i64 0]) | 9 => pv (.agg #[.int .i64 5, .int .i64 (((cl.asked + rl.answer) + rl.cooling) + rl.reverse), .int .i64 (-1)]) | 10 => pv (.int .i64 0) | 11 => fun v E => ∃ b, v = ptr b ∧ E = [] | 12 => fun v E => v = undef ∧ E = [] | _ => fun _ _ => False) hfr (H := [own (.slice (some ⟨w8.heap.size, 0, none⟩) 4 4) 39 3 ([[.int .i64 1, .int .i64 cl.asked, .int .i64 (cl.asked + rl.answer)], [.int .i64 3, .int .i64 (cl.asked + rl.answer), .int .i64 ((cl.asked + rl.answer) + rl.cooling)], [.int .i64 4, .int .i64 ((cl.asked + rl.answer) + rl.cooling), .int .i64 (((cl.asked + rl.answer) + rl.cooling) + rl.reverse)], [.int .i64 5, .int .i64 (((cl.asked + rl.answer) + rl.cooling) + rl.reverse), .int .i64 (-1)]]), blk w5.heap.size [.int .i64 cl.number, .int .i64 cl.frm, .int .i64 cl.to, .int .i64 cl.holder, .int .i64 cl.asked, .bool cl.backed] 31, blk w4.heap.size [.int .i64 rl.answer, .int .i64 rl.cooling, .int .i64 rl.settle, .int .i64 rl.reverse] 29]) hst (by kernel_rfl) (by kernel_rfl) (by kernel_rfl) (by kernel_rfl) (by decide) (by decide) (by decide) (by decide) (by decide) ?_ (fun v E h => h) ⟨rfl, rfl⟩ (fun v E => Iff.rfl) ?_ ?_ ?_ ?_
  · intro i v E h
    match i, h with
    | 0, _ => exact by decide
    | 1, _ => exact by decide
    | 2, _ => exact by decide
    | 3, _ => exact by decide
    | 4, _ => exact by decide
    | 5, _ => exact by decide
    | 6, _ => exact by decide
    | 7, _ => exact by decide
    | 8, _ => exact by decide
    | 9, _ => exact by decide
    | 10, _ => exact by decide
    | 11, _ => exact by decide
    | 12, _ => exact by decide
    | i + 13, h => exact h.elim
  · intro i hi hia hij e
    match i, hi, hia, hij with
    | 0, _, _, _ =>
      intro w hst
      exact OpV.g (v_load_all (hst.get (k := 3) rfl) rfl (Try.isAgg29 _) (Try.sizeOf29 _))
    | 1, _, _, _ =>
      intro w hst
      exact OpV.g (v_load_all (hst.get (k := 2) rfl) rfl (Try.isAgg31 _) (Try.sizeOf31 _))
    | 2, _, _, _ =>
      intro w hst
      exact OpV.g (v_move rfl)
    | 3, _, _, _ =>
      intro w hst
      exact OpV.g (v_move rfl)
    | 4, _, _, _ =>
      rintro _ _ ⟨rfl, rfl⟩ _ _ ⟨rfl, rfl⟩
      intro w hst
      exact OpV.g ((v_indexAddr_sl (i := 3) (sT := 47) (hst.ownAt (i := 1) rfl) rfl rfl (Try.runUnderlying47 _) (Try.sizeOf39 _) (by omega) (by simp)).as (v' := slAddr (.slice (some ⟨w8.heap.size, 0, none⟩) 4 4) (3 * 3)) rfl)
    | 5, _, _, _ =>
      rintro _ _ ⟨rfl, rfl⟩
      intro w hst
      exact OpV.g (v_fieldAddr_sl (k := 3 * 3) (j := 1) (hst.ownAt (i := 1) rfl) (i := 3) (by simp) rfl (fun _ _ => by kernel_rfl))
    | 6, _, _, _ =>
      rintro _ _ ⟨rfl, rfl⟩
      intro w hst
      exact OpV.g (v_load_sl1 (u := .int .i64 (((cl.asked + rl.answer) + rl.cooling) + rl.reverse)) (i := 3) (j := 1) (hst.ownAt (i := 1) rfl) (by simp) rfl (Try.isAgg3 _) (by rfl))
    | 7, _, _, _ =>
      rintro _ _ ⟨rfl, rfl⟩ _ _ ⟨rfl, rfl⟩ _ _ ⟨rfl, rfl⟩
      intro w hst
      exact g_callp Try.call14 rfl (outcome2 (s := ⟨5, ((cl.asked + rl.answer) + rl.cooling) + rl.reverse, -1⟩) (out4e (statuses_nil hr hc) (by simp only; omega) (by simp only; omega) (by simp only; omega) (by simp only; omega)) (outcome_ok rl cl (.slice none 0 0) [] (((cl.asked + rl.answer) + rl.cooling) + rl.reverse) _ (slAt_nil _ _) (valid_nil hr hc) (by simp [isIn]; omega)))
    | 8, _, _, _ =>
      rintro _ _ ⟨rfl, rfl⟩
      intro w hst
      exact OpV.g (v_move rfl)
    | 9, _, _, _ =>
      rintro _ _ ⟨rfl, rfl⟩
      intro w hst
      exact OpV.g (v_extract rfl rfl)
    | 10, _, _, _ =>
      rintro _ _ ⟨rfl, rfl⟩
      intro w hst
      exact OpV.g (v_extract rfl rfl)
    | 11, _, h, _ => exact absurd rfl h
    | 12, _, _, h => exact absurd rfl h
    | i + 13, h, _, _ => exact absurd h (by omega)
  · exact fun Lv w => r_alloc (Try.zeroValue39 _)
  · rintro _ _ ⟨rfl, rfl⟩ _ _ ⟨b9, rfl, rfl⟩
    intro b hb w h
    have hb : some (ptr b9) = some (ptr b) := hb
    cases hb
    exact r_storeU rfl rfl h (Try.sizeOf39 _) rfl (Nat.le_of_ble_eq_true rfl) rfl
  clear hfr hst
  rintro bq _ _ ⟨⟨rfl, rfl⟩, -⟩ _ _ ⟨⟨rfl, rfl⟩, -⟩ _ _ ⟨⟨rfl, rfl⟩, -⟩ _ _ ⟨⟨rfl, rfl⟩, -⟩ _ _ ⟨⟨rfl, rfl⟩, -⟩ _ _ ⟨⟨rfl, rfl⟩, -⟩ _ _ ⟨⟨rfl, rfl⟩, -⟩ _ _ ⟨⟨rfl, rfl⟩, -⟩ _ _ ⟨⟨rfl, rfl⟩, -⟩ _ _ ⟨⟨rfl, rfl⟩, -⟩ _ _ ⟨⟨rfl, rfl⟩, -⟩ _ _ ⟨⟨b9, rfl, rfl⟩, hva⟩ a w61 hfr hst
  obtain rfl : b9 = bq := ptr_inj (hva rfl)
  replace hfr : Fr 182 [(121, _), (122, _), (123, _), (124, _), (125, _), (126, _), (127, _), (128, _), (120, _), (129, _), (130, _), (17, _), (1, _), (4, _), (5, _), (6, _), (7, _), (12, _), (13, _), (14, _), (73, _), (74, _), (75, _), (76, _), (77, _), (78, _)] [] a := hfr
  replace hst : St No w0 [blk b9 [.int .i64 5, .int .i64 (((cl.asked + rl.answer) + rl.cooling) + rl.reverse), .int .i64 (-1)] 39, own (.slice (some ⟨w8.heap.size, 0, none⟩) 4 4) 39 3 ([[.int .i64 1, .int .i64 cl.asked, .int .i64 (cl.asked + rl.answer)], [.int .i64 3, .int .i64 (cl.asked + rl.answer), .int .i64 ((cl.asked + rl.answer) + rl.cooling)], [.int .i64 4, .int .i64 ((cl.asked + rl.answer) + rl.cooling), .int .i64 (((cl.asked + rl.answer) + rl.cooling) + rl.reverse)], [.int .i64 5, .int .i64 (((cl.asked + rl.answer) + rl.cooling) + rl.reverse), .int .i64 (-1)]]), blk w5.heap.size [.int .i64 cl.number, .int .i64 cl.frm, .int .i64 cl.to, .int .i64 cl.holder, .int .i64 cl.asked, .bool cl.backed] 31, blk w4.heap.size [.int .i64 rl.answer, .int .i64 rl.cooling, .int .i64 rl.settle, .int .i64 rl.reverse] 29] w61 := hst
  refine wl_nil ?_
  refine wd_lin (k := 13) 14 [13] (by kernel_rfl) (by kernel_rfl) (by kernel_rfl) ?_
  refine wl_v hfr (by decide) (v_assign rfl) ?_
  clear hfr
  intro a hfr
  refine wl_nil ?_
  refine wd_end (by kernel_rfl) ?_
  refine hK55 _ _ ?_
  replace hfr : Fr 182 [(1, _), (4, _), (5, _), (6, _), (7, _), (12, _), (13, _), (14, _), (17, _), (18, _)] [] a := hfr.pick [1, 4, 5, 6, 7, 12, 13, 14, 17, 18]
  refine wc_seq_region fun K56 hK56 => ?_
  refine wl_v hfr (by decide) (v_load_all (hst.get (k := 3) rfl) rfl (Try.isAgg29 _) (Try.sizeOf29 _)) ?_
  clear hfr
  intro a hfr
  refine wl_v hfr (by decide) (v_load_all (hst.get (k := 2) rfl) rfl (Try.isAgg31 _) (Try.sizeOf31 _)) ?_
  clear hfr
  intro a hfr
  refine wl_v hfr (by decide) (v_move rfl) ?_
  clear hfr
  intro a hfr
  refine wl_callp hfr hst (by decide) Try.call14 rfl (outcome2 (s := ⟨5, ((cl.asked + rl.answer) + rl.cooling) + rl.reverse, -1⟩) (out4e (statuses_nil hr hc) (by simp only; omega) (by simp only; omega) (by simp only; omega) (by simp only; omega)) (outcome_ok rl cl (.slice none 0 0) [] ((((cl.asked + rl.answer) + rl.cooling) + rl.reverse) + p0) _ (slAt_nil _ _) (valid_nil hr hc) (by simp [isIn]; omega))) ?_
  clear hfr hst
  intro a w62 hfr hst
  refine wl_v hfr (by decide) (v_move rfl) ?_
  clear hfr
  intro a hfr
  refine wl_v hfr (by decide) (v_extract rfl rfl) ?_
  clear hfr
  intro a hfr
  refine wl_v hfr (by decide) (v_extract rfl rfl) ?_
  clear hfr
  intro a hfr
  refine wl_alloc hfr hst (by decide) (Try.zeroValue39 _) (cs := [.int .i64 0, .int .i64 0, .int .i64 0]) rfl ?_
  clear hfr hst
  intro a w63 hfr hst
  refine wl_store 0 hfr hst rfl rfl rfl (Try.sizeOf39 _) rfl (Nat.le_of_ble_eq_true rfl) (ds := [.int .i64 5, .int .i64 (((cl.asked + rl.answer) + rl.cooling) + rl.reverse), .int .i64 (-1)]) rfl rfl ?_
  clear hfr hst
  intro a w64 hfr hst
  refine wl_v hfr (by decide) (v_assign rfl) ?_
  clear hfr
  intro a hfr
  refine wl_nil (hK56 _ _ ?_)
  replace hfr : Fr 182 [(1, _), (4, _), (5, _), (6, _), (7, _), (12, _), (13, _), (17, _), (18, _), (19, _), (20, _)] [] a := hfr.pick [1, 4, 5, 6, 7, 12, 13, 17, 18, 19, 20]
  refine wc_seq_k fun K57 hK57 => ?_
  refine wc_of_dr (by kernel_rfl) (dr_of_wd (by kernel_rfl) fun w65 hxz => ?_)
  replace hst : St No w0 [blk w62.heap.size [.int .i64 5, .int .i64 (((cl.asked + rl.answer) + rl.cooling) + rl.reverse), .int .i64 (-1)] 39, blk b9 [.int .i64 5, .int .i64 (((cl.asked + rl.answer) + rl.cooling) + rl.reverse), .int .i64 (-1)] 39, own (.slice (some ⟨w8.heap.size, 0, none⟩) 4 4) 39 3 ([[.int .i64 1, .int .i64 cl.asked, .int .i64 (cl.asked + rl.answer)], [.int .i64 3, .int .i64 (cl.asked + rl.answer), .int .i64 ((cl.asked + rl.answer) + rl.cooling)], [.int .i64 4, .int .i64 ((cl.asked + rl.answer) + rl.cooling), .int .i64 (((cl.asked + rl.answer) + rl.cooling) + rl.reverse)], [.int .i64 5, .int .i64 (((cl.asked + rl.answer) + rl.cooling) + rl.reverse), .int .i64 (-1)]]), blk w5.heap.size [.int .i64 cl.number, .int .i64 cl.frm, .int .i64 cl.to, .int .i64 cl.holder, .int .i64 cl.asked, .bool cl.backed] 31, blk w4.heap.size [.int .i64 rl.answer, .int .i64 rl.cooling, .int .i64 rl.settle, .int .i64 rl.reverse] 29] w65 := hst.grow hxz
  refine wd_lin (k := 0) 7 [6] (by kernel_rfl) (by kernel_rfl) (by kernel_rfl) ?_
  refine wl_v hfr (by decide) (v_move rfl) ?_
  clear hfr
  intro a hfr
  refine wl_v hfr (by decide) ((v_ne rfl rfl).asb (b' := false) rfl) ?_
  clear hfr
  intro a hfr
  refine wl_v hfr (by decide) (v_move rfl) ?_
  clear hfr
  intro a hfr
  refine wl_vy hfr (by decide) rfl (by decide) rfl (v_move rfl) ?_
  clear hfr
  intro a hfr
  refine wl_vy hfr (by decide) rfl (by decide) rfl ((v_ne rfl rfl).asb (b' := false) rfl) ?_
  clear hfr
  intro a hfr
  refine wl_v hfr (by decide) (v_pick_f rfl rfl) ?_
  clear hfr
  intro a hfr
  refine wl_v hfr (by decide) (v_move rfl) ?_
  clear hfr
  intro a hfr
  refine wl_nil ?_
  refine wd_sub (k := 7) 12 [7, 11] hfr (by kernel_rfl) (by kernel_rfl) (by kernel_rfl) (by rfl) ?_
  replace hfr : Fr 182 [(1, _), (4, _), (5, _), (6, _), (7, _), (12, _), (13, _), (17, _), (18, _), (19, _), (20, _), (138, _), (139, _), (140, _), (141, _), (142, _), (143, _), (144, _)] [] a := hfr.pick [1, 4, 5, 6, 7, 12, 13, 17, 18, 19, 20, 138, 139, 140, 141, 142, 143, 144]
  refine wc_phases' 5 [[], [], [], [1, 2], [3]] (fun i => match i with | 0 => pv (.agg #[.int .i64 5, .int .i64 (((cl.asked + rl.answer) + rl.cooling) + rl.reverse), .int .i64 (-1)]) | 1 => pv ((.slice (some ⟨w8.heap.size, 0, none⟩) 4 4)) | 2 => pv (.int .i64 3) | 3 => pv (slAddr (.slice (some ⟨w8.heap.size, 0, none⟩) 4 4) (3 * 3)) | 4 => pv (.agg #[.int .i64 5, .int .i64 (((cl.asked + rl.answer) + rl.cooling) + rl.reverse), .int .i64 (-1)]) | _ => fun _ _ => False) hfr hst (by kernel_rfl) (by kernel_rfl) ?_ ?_
  · intro i hi
    match i, hi with
    | 0, _ =>
      intro w hst
      exact OpV.g (v_load_all (hst.get (k := 1) rfl) rfl (Try.isAgg39 _) (Try.sizeOf39 _))
    | 1, _ =>
      intro w hst
      exact OpV.g (v_move rfl)
    | 2, _ =>
      intro w hst
      exact OpV.g (v_move rfl)
    | 3, _ =>
      rintro _ _ ⟨rfl, rfl⟩ _ _ ⟨rfl, rfl⟩
      intro w hst
      exact OpV.g ((v_indexAddr_sl (i := 3) (sT := 47) (hst.ownAt (i := 2) rfl) rfl rfl (Try.runUnderlying47 _) (Try.sizeOf39 _) (by omega) (by simp)).as (v' := slAddr (.slice (some ⟨w8.heap.size, 0, none⟩) 4 4) (3 * 3)) rfl)
    | 4, _ =>
      rintro _ _ ⟨rfl, rfl⟩
      intro w hst
      exact OpV.g ((v_load_sl (hst.ownAt (i := 2) rfl) (i := 3) (by simp) rfl (Try.isAgg39 _) (Try.sizeOf39 _)).as (v' := .agg #[.int .i64 5, .int .i64 (((cl.asked + rl.answer) + rl.cooling) + rl.reverse), .int .i64 (-1)]) (by rfl))
  clear hfr hst
  rintro _ _ ⟨rfl, rfl⟩ _ _ ⟨rfl, rfl⟩ _ _ ⟨rfl, rfl⟩ _ _ ⟨rfl, rfl⟩ _ _ ⟨rfl, rfl⟩ a w66 hfr hst
  replace hfr : Fr 182 [(145, _), (146, _), (147, _), (148, _), (149, _), (1, _), (4, _), (5, _), (6, _), (7, _), (12, _), (13, _), (17, _), (18, _), (19, _), (20, _), (138, _), (139, _), (140, _), (141, _), (142, _), (143, _), (144, _)] [] a := hfr
  replace hst : St No w0 [_, _, _, _, _] w66 := hst
  refine wl_nil ?_
  refine wd_lin (k := 12) 15 [14] (by kernel_rfl) (by kernel_rfl) (by kernel_rfl) ?_
  refine wl_vy hfr (by decide) rfl (by decide) rfl ((v_ne_agg rfl rfl (by kernel_rfl) (eqStt 5 (((cl.asked + rl.answer) + rl.cooling) + rl.reverse) (-1) 5 (((cl.asked + rl.answer) + rl.cooling) + rl.reverse) (-1) _)).asb (b' := false) (by simp)) ?_
  clear hfr
  intro a hfr
  refine wl_v hfr (by decide) (v_pick_f rfl rfl) ?_
  clear hfr
  intro a hfr
  refine wl_v hfr (by decide) (v_move rfl) ?_
  clear hfr
  intro a hfr
  refine wl_nil ?_
  refine wd_sub (k := 15) 20 [15, 19] hfr (by kernel_rfl) (by kernel_rfl) (by kernel_rfl) (by rfl) ?_
  replace hfr : Fr 182 [(1, _), (4, _), (5, _), (6, _), (7, _), (12, _), (13, _), (17, _), (18, _), (19, _), (20, _), (138, _), (139, _), (140, _), (141, _), (142, _), (143, _), (144, _), (145, _), (146, _), (147, _), (148, _), (149, _), (150, _), (151, _), (152, _)] [] a := hfr.pick [1, 4, 5, 6, 7, 12, 13, 17, 18, 19, 20, 138, 139, 140, 141, 142, 143, 144, 145, 146, 147, 148, 149, 150, 151, 152]
  refine wc_phases' 5 [[], [], [], [1, 2], [3]] (fun i => match i with | 0 => pv (.agg #[.int .i64 5, .int .i64 (((cl.asked + rl.answer) + rl.cooling) + rl.reverse), .int .i64 (-1)]) | 1 => pv ((.slice (some ⟨w8.heap.size, 0, none⟩) 4 4)) | 2 => pv (.int .i64 3) | 3 => pv (slAddr (.slice (some ⟨w8.heap.size, 0, none⟩) 4 4) (3 * 3)) | 4 => pv (.agg #[.int .i64 5, .int .i64 (((cl.asked + rl.answer) + rl.cooling) + rl.reverse), .int .i64 (-1)]) | _ => fun _ _ => False) hfr hst (by kernel_rfl) (by kernel_rfl) ?_ ?_
  · intro i hi
    match i, hi with
    | 0, _ =>
      intro w hst
      exact OpV.g (v_load_all (hst.get (k := 0) rfl) rfl (Try.isAgg39 _) (Try.sizeOf39 _))
    | 1, _ =>
      intro w hst
      exact OpV.g (v_move rfl)
    | 2, _ =>
      intro w hst
      exact OpV.g (v_move rfl)
    | 3, _ =>
      rintro _ _ ⟨rfl, rfl⟩ _ _ ⟨rfl, rfl⟩
      intro w hst
      exact OpV.g ((v_indexAddr_sl (i := 3) (sT := 47) (hst.ownAt (i := 2) rfl) rfl rfl (Try.runUnderlying47 _) (Try.sizeOf39 _) (by omega) (by simp)).as (v' := slAddr (.slice (some ⟨w8.heap.size, 0, none⟩) 4 4) (3 * 3)) rfl)
    | 4, _ =>
      rintro _ _ ⟨rfl, rfl⟩
      intro w hst
      exact OpV.g ((v_load_sl (hst.ownAt (i := 2) rfl) (i := 3) (by simp) rfl (Try.isAgg39 _) (Try.sizeOf39 _)).as (v' := .agg #[.int .i64 5, .int .i64 (((cl.asked + rl.answer) + rl.cooling) + rl.reverse), .int .i64 (-1)]) (by rfl))
  clear hfr hst
  rintro _ _ ⟨rfl, rfl⟩ _ _ ⟨rfl, rfl⟩ _ _ ⟨rfl, rfl⟩ _ _ ⟨rfl, rfl⟩ _ _ ⟨rfl, rfl⟩ a w67 hfr hst
  replace hfr : Fr 182 [(153, _), (154, _), (155, _), (156, _), (157, _), (1, _), (4, _), (5, _), (6, _), (7, _), (12, _), (13, _), (17, _), (18, _), (19, _), (20, _), (138, _), (139, _), (140, _), (141, _), (142, _), (143, _), (144, _), (145, _), (146, _), (147, _), (148, _), (149, _), (150, _), (151, _), (152, _)] [] a := hfr
  replace hst : St No w0 [_, _, _, _, _] w67 := hst
  refine wl_nil ?_
  refine wd_lin (k := 20) 22 [21] (by kernel_rfl) (by kernel_rfl) (by kernel_rfl) ?_
  refine wl_vy hfr (by decide) rfl (by decide) rfl ((v_ne_agg rfl rfl (by kernel_rfl) (eqStt 5 (((cl.asked + rl.answer) + rl.cooling) + rl.reverse) (-1) 5 (((cl.asked + rl.answer) + rl.cooling) + rl.reverse) (-1) _)).asb (b' := false) (by simp)) ?_
  clear hfr
  intro a hfr
  refine wl_v hfr (by decide) (v_pick_f rfl rfl) ?_
  clear hfr
  intro a hfr
  refine wl_nil ?_
  refine wd_end (by kernel_rfl) ?_
  refine hK57 _ _ ?_
  replace hfr : Fr 182 [(1, _), (4, _), (5, _), (6, _), (7, _), (12, _), (13, _), (159, _)] [] a := hfr.pick [1, 4, 5, 6, 7, 12, 13, 159]
  replace hst : St No w0 [_, _, _] w67 := hst.mask [false, false, true, true, true]
  refine wc_cond_f hfr rfl ?_
  refine wc_skip ?_
  refine hK51 _ _ ?_
  refine wc_region ?_
  refine wl_v hfr (by decide) (v_move rfl) ?_
  clear hfr
  intro a hfr
  refine wl_v hfr (by decide) ((v_add rfl rfl (by decide)).asi (m' := 4) rfl) ?_
  clear hfr
  intro a hfr
  refine wl_v hfr (by decide) (v_assign rfl) ?_
  clear hfr
  intro a hfr
  refine wl_nil ?_
  refine wr_succ ?_
  refine wc_seq_k fun K58 hK58 => ?_
  refine wc_seq_region fun K59 hK59 => ?_
  refine wl_v hfr (by decide) (v_move rfl) ?_
  clear hfr
  intro a hfr
  refine wl_v hfr (by decide) (v_move rfl) ?_
  clear hfr
  intro a hfr
  refine wl_v hfr (by decide) ((v_len_sl (sT := 47) (hst.ownAt (i := 0) rfl) rfl rfl (Try.runUnderlying47 _)).asi (m' := 4) (by rfl)) ?_
  clear hfr
  intro a hfr
  refine wl_v hfr (by decide) ((v_lt rfl rfl).asb (b' := false) rfl) ?_
  clear hfr
  intro a hfr
  refine wl_nil (hK59 _ _ ?_)
  replace hfr : Fr 182 [(1, _), (4, _), (5, _), (6, _), (7, _), (12, _), (13, _), (62, _)] [] a := hfr.pick [1, 4, 5, 6, 7, 12, 13, 62]
  refine wc_cond_f hfr rfl ?_
  refine wc_exit ?_
  refine hK11 _ _ ?_
  refine wc_seq_k fun K60 hK60 => ?_
  refine wc_seq_region fun K61 hK61 => ?_
  refine wl_v hfr (by decide) (v_fieldAddr (v := .pointer (some ⟨w5.heap.size, 4, none⟩)) rfl (by kernel_rfl)) ?_
  clear hfr
  intro a hfr
  refine wl_v hfr (by decide) (v_load_blk1 (hst.get (k := 1) rfl) rfl (Try.isAgg3 _) rfl) ?_
  clear hfr
  intro a hfr
  refine wl_v hfr (by decide) (v_gt rfl rfl) ?_
  clear hfr
  intro a hfr
  refine wl_nil (hK61 _ _ ?_)
  replace hfr : Fr 182 [(4, _), (5, _), (6, _), (7, _), (162, _)] [] a := hfr.pick [4, 5, 6, 7, 162]
  replace hst : St No w0 [_, _] w67 := hst.mask [false, true, true]
  refine wc_cond hfr rfl (fun hc10 => ?_) (fun hc10 => ?_)
  · rw [hc10] at hfr
    try simp only [Bool.not_eq_true', Bool.not_eq_false', decide_eq_true_eq, decide_eq_false_iff_not] at hc10
    refine wc_seq_region fun K62 hK62 => ?_
    refine wl_v hfr (by decide) (v_load_all (hst.get (k := 1) rfl) rfl (Try.isAgg29 _) (Try.sizeOf29 _)) ?_
    clear hfr
    intro a hfr
    refine wl_v hfr (by decide) (v_load_all (hst.get (k := 0) rfl) rfl (Try.isAgg31 _) (Try.sizeOf31 _)) ?_
    clear hfr
    intro a hfr
    refine wl_v hfr (by decide) (v_fieldAddr (v := .pointer (some ⟨w5.heap.size, 4, none⟩)) rfl (by kernel_rfl)) ?_
    clear hfr
    intro a hfr
    refine wl_v hfr (by decide) (v_load_blk1 (hst.get (k := 0) rfl) rfl (Try.isAgg3 _) rfl) ?_
    clear hfr
    intro a hfr
    refine wl_v hfr (by decide) (v_sub rfl rfl ⟨by omega, by omega⟩) ?_
    clear hfr
    intro a hfr
    refine wl_callp hfr hst (by decide) Try.call14 rfl (outcome2 (s := ⟨0, 0, cl.asked⟩) (out0 (statuses_nil hr hc) (by simp only; omega)) (outcome_ok rl cl (.slice none 0 0) [] (cl.asked - 1) _ (slAt_nil _ _) (valid_nil hr hc) (by simp [isIn]; omega))) ?_
    clear hfr hst
    intro a w68 hfr hst
    refine wl_v hfr (by decide) (v_move rfl) ?_
    clear hfr
    intro a hfr
    refine wl_v hfr (by decide) (v_extract rfl rfl) ?_
    clear hfr
    intro a hfr
    refine wl_v hfr (by decide) (v_extract rfl rfl) ?_
    clear hfr
    intro a hfr
    refine wl_alloc hfr hst (by decide) (Try.zeroValue39 _) (cs := [.int .i64 0, .int .i64 0, .int .i64 0]) rfl ?_
    clear hfr hst
    intro a w69 hfr hst
    refine wl_store 0 hfr hst rfl rfl rfl (Try.sizeOf39 _) rfl (Nat.le_of_ble_eq_true rfl) (ds := [.int .i64 0, .int .i64 0, .int .i64 cl.asked]) rfl rfl ?_
    clear hfr hst
    intro a w70 hfr hst
    refine wl_v hfr (by decide) (v_assign rfl) ?_
    clear hfr
    intro a hfr
    refine wl_nil (hK62 _ _ ?_)
    replace hfr : Fr 182 [(4, _), (5, _), (7, _), (21, _), (22, _)] [] a := hfr.pick [4, 5, 7, 21, 22]
    replace hst : St No w0 [_, _] w70 := hst.mask [true, true, false]
    refine wc_seq_region fun K63 hK63 => ?_
    refine wl_v hfr (by decide) (v_move rfl) ?_
    clear hfr
    intro a hfr
    refine wl_v hfr (by decide) ((v_eq rfl rfl).asb (b' := true) rfl) ?_
    clear hfr
    intro a hfr
    refine wl_v hfr (by decide) (v_move rfl) ?_
    clear hfr
    intro a hfr
    refine wl_vy hfr (by decide) rfl (by decide) rfl (v_load_all (hst.get (k := 0) rfl) rfl (Try.isAgg39 _) (Try.sizeOf39 _)) ?_
    clear hfr
    intro a hfr
    refine wl_vy hfr (by decide) rfl (by decide) rfl (v_fieldAddr (v := .pointer (some ⟨w5.heap.size, 4, none⟩)) rfl (by kernel_rfl)) ?_
    clear hfr
    intro a hfr
    refine wl_vy hfr (by decide) rfl (by decide) rfl (v_load_blk1 (hst.get (k := 1) rfl) rfl (Try.isAgg3 _) rfl) ?_
    clear hfr
    intro a hfr
    refine wl_vy hfr (by decide) rfl (by decide) rfl (v_build (v := .agg #[.int .i64 0, .int .i64 0, .int .i64 cl.asked]) rfl (by kernel_rfl)) ?_
    clear hfr
    intro a hfr
    refine wl_vy hfr (by decide) rfl (by decide) rfl ((v_eq_agg rfl rfl (by kernel_rfl) (eqStt 0 0 cl.asked 0 0 cl.asked _)).asb (b' := true) (by simp)) ?_
    clear hfr
    intro a hfr
    refine wl_v hfr (by decide) (v_pick_t rfl rfl) ?_
    clear hfr
    intro a hfr
    refine wl_v hfr (by decide) (v_assign rfl) ?_
    clear hfr
    intro a hfr
    refine wl_nil (hK63 _ _ ?_)
    replace hfr : Fr 182 [(5, _), (4, _)] [] a := hfr.pick [5, 4]
    replace hst : St No w0 [] w70 := hst.mask [false, false]
    refine wc_ret ?_
    refine fin_ret hfr Try.results4 (resAre_tmp rfl resAre_nil) ?_
    exact ⟨by simp [retv], hst.ext⟩
  rw [hc10] at hfr
  try simp only [Bool.not_eq_true', Bool.not_eq_false', decide_eq_true_eq, decide_eq_false_iff_not] at hc10
  refine wc_skip ?_
  refine hK60 _ _ ?_
  refine wc_seq_region fun K64 hK64 => ?_
  refine wl_v hfr (by decide) (v_move rfl) ?_
  clear hfr
  intro a hfr
  refine wl_v hfr (by decide) (v_assign rfl) ?_
  clear hfr
  intro a hfr
  refine wl_nil (hK64 _ _ ?_)
  refine wc_ret ?_
  refine fin_ret hfr Try.results4 (resAre_tmp rfl resAre_nil) ?_
  exact ⟨by simp [retv], hst.ext⟩
end Go.Proofs.Ytdamipejlfipcaa
