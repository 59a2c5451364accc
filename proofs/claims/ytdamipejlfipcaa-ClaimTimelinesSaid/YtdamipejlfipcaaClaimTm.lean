import Derived.Test.YtdamipejlfipcaaClaimMv
namespace Go.Proofs.Ytdamipejlfipcaa
open Go.RowKit Go.PW
set_option linter.unusedVariables false
set_option linter.unusedSimpArgs false
set_option maxRecDepth 4000

theorem alF_yes {ss : List Stt} {i al : Nat} {sp si : Stt} (h1 : 1 ≤ i) (hp : ss.getD (i - 1) ⟨0, 0, 0⟩ = sp) (hi : ss.getD i ⟨0, 0, 0⟩ = si) (h : si.since = sp.next) (ha : al = alF ss i) : al + 1 = alF ss (i + 1) := by
  obtain ⟨j, rfl⟩ : ∃ j, i = j + 1 := ⟨i - 1, by omega⟩
  rw [alF, hi, show ss.getD j ⟨0, 0, 0⟩ = sp from hp, if_pos h, ← ha]
theorem alF_no {ss : List Stt} {i al : Nat} {sp si : Stt} (h1 : 1 ≤ i) (hp : ss.getD (i - 1) ⟨0, 0, 0⟩ = sp) (hi : ss.getD i ⟨0, 0, 0⟩ = si) (h : ¬ si.since = sp.next) (ha : al = alF ss i) : al = alF ss (i + 1) := by
  obtain ⟨j, rfl⟩ : ∃ j, i = j + 1 := ⟨i - 1, by omega⟩
  rw [alF, hi, show ss.getD j ⟨0, 0, 0⟩ = sp from hp, if_neg h, ← ha]; rfl

set_option maxHeartbeats 4000000 in
/-- dialtone/dialtonelaw16.ClaimTimelines -/
theorem timelines_walk (x0 x1 x2 x3 y0 y1 y2 y3 y4 y5 : Int) (xv : Value) (xs : List Tri) (w0 : World) (gf : isI64 x0 ∧ isI64 x1 ∧ isI64 x2 ∧ isI64 x3 ∧ isI64 y0 ∧ isI64 y1 ∧ isI64 y2 ∧ isI64 y3 ∧ isI64 y4 ∧ isI64 y5) (hxv : SlAt w0 xv 3 (xs.map Tri.cells)) (hfit : ∀ k, k < xs.length → (xs.getD k ⟨0, 0, 0⟩).fits) (tt : Int) (gtt : isI64 tt) :
    Ret Try.prog 6 #[.agg #[.int .i64 x0, .int .i64 x1, .int .i64 x2, .int .i64 x3, .int .i64 y0, .int .i64 y1, .int .i64 y2, .int .i64 y3, .int .i64 y4, .int .i64 y5, xv], .int .i64 tt] w0 fun v w => v = .bool true ∧ Ext No w0 w := by
  obtain ⟨g0, g1, g2, g3, g4, g5, g6, g7, g8, g9⟩ := gf
  obtain ⟨rl, hrl⟩ : ∃ r, mkRul x0 x1 x2 x3 = r := ⟨_, rfl⟩
  obtain ⟨cl, hcl0⟩ : ∃ c, mkClm y0 y1 y2 y3 y4 y5 = c := ⟨_, rfl⟩
  have hr : areValid rl = true := hrl ▸ mkRul_valid x0 x1 x2 x3
  have hc : isClaim cl = true := hcl0 ▸ (mkClm_valid y0 y1 y2 y3 y4 y5).1
  have ha : cl.asked < 1000 := hcl0 ▸ (mkClm_valid y0 y1 y2 y3 y4 y5).2
  have hcl := isClaim_le hc
  have hrl1 := areValid_le hr
  have hrl2 := mkRul_day x0 x1 x2 x3
  rw [hrl] at hrl2
  obtain ⟨l, hl0⟩ : ∃ l, mkL rl cl xs = l := ⟨_, rfl⟩
  obtain ⟨hv, hl10⟩ : valid rl cl l = true ∧ l.length ≤ 10 := hl0 ▸ mkL_valid hr hc ha xs
  unfold isI64 at gtt
  obtain ⟨pt, hpt⟩ : ∃ k, pick tt 80 = k := ⟨_, rfl⟩
  have bpt := pick_lt tt 80 (by omega)
  rw [hpt] at bpt
  obtain ⟨tq, htq⟩ : ∃ z, cl.asked + pt = z := ⟨_, rfl⟩
  have htq1 : cl.asked ≤ tq ∧ tq ≤ 2000 := by omega
  have htin : isIn tq 0 20000000 = true := by simp [isIn]; omega
  obtain ⟨so, hso⟩ : ∃ s, outcome rl cl l tq = s := ⟨_, rfl⟩
  obtain ⟨ss, hss⟩ : ∃ s, statuses rl cl l = s := ⟨_, rfl⟩
  obtain ⟨vo, hvo⟩ : ∃ s, voids rl cl l = s := ⟨_, rfl⟩
  obtain ⟨hf0, hlk, hct, hcl2, hl200, hfo, htame⟩ := timeline_facts hv hss hvo
  obtain ⟨ls, hls⟩ : ∃ s, ss.getD (ss.length - 1) ⟨0, 0, 0⟩ = s := ⟨_, rfl⟩
  rw [hls] at hcl2
  obtain ⟨hls1, hls2⟩ := hcl2
  obtain ⟨kw, hkw⟩ : ∃ z, (if so.state = 4 ∨ so.state = 5 then cl.to else cl.frm) = z := ⟨_, rfl⟩
  have hkw1 : ((so.state = 4 ∨ so.state = 5) ∧ kw = cl.to) ∨ ((so.state ≠ 4 ∧ so.state ≠ 5) ∧ kw = cl.frm) := by rw [← hkw]; split <;> simp_all
  have hvl : vo.length ≤ l.length := by have h2 := voids_len (r := rl) (b := cl.backed) l 0 (first rl cl); rw [← hvo]; exact h2
  refine ret_of Try.func6 rfl Try.ntmps6 (Nat.le_of_ble_eq_true rfl) fun a hfr => ?_
  replace hfr : Fr 238 [(0, _), (1, _)] [] a := hfr
  replace hst : St No w0 [] w0 := St.init w0
  refine wc_seq_region fun K1 hK1 => ?_
  refine wl_box hfr hst (by decide) rfl (cs := [.int .i64 x0, .int .i64 x1, .int .i64 x2, .int .i64 x3, .int .i64 y0, .int .i64 y1, .int .i64 y2, .int .i64 y3, .int .i64 y4, .int .i64 y5, xv]) rfl ?_
  clear hfr hst
  intro a w1 hfr hst
  refine wl_v hfr (by decide) (v_assign rfl) ?_
  clear hfr
  intro a hfr
  refine wl_nil (hK1 _ _ ?_)
  refine wc_seq_region fun K2 hK2 => ?_
  refine wl_callp hfr hst (by decide) Try.call11 rfl (sane_ok _) ?_
  clear hfr hst
  intro a w2 hfr hst
  refine wl_v hfr (by decide) (v_assign rfl) ?_
  clear hfr
  intro a hfr
  refine wl_nil (hK2 _ _ ?_)
  refine wc_seq_k fun K3 hK3 => ?_
  refine wc_seq_region fun K4 hK4 => ?_
  refine wl_v hfr (by decide) (v_move rfl) ?_
  clear hfr
  intro a hfr
  refine wl_v hfr (by decide) ((v_not rfl).asb (b' := false) rfl) ?_
  clear hfr
  intro a hfr
  refine wl_nil (hK4 _ _ ?_)
  refine wc_cond_f hfr rfl ?_
  refine wc_skip ?_
  refine hK3 _ _ ?_
  refine wc_seq_region fun K5 hK5 => ?_
  refine wl_v hfr (by decide) (v_load_all (hst.get (k := 0) rfl) rfl (Try.isAgg26 _) (Try.sizeOf26 _)) ?_
  clear hfr
  intro a hfr
  refine wl_callm hfr hst (by decide) Try.call12 rfl (made2 hrl hcl0 hl0 (made_ok x0 x1 x2 x3 y0 y1 y2 y3 y4 y5 xv xs _ g0 g1 g2 g3 g4 g5 g6 g7 g8 g9 (hst.arg hxv) hfit)) ?_
  clear hfr hst
  intro a w3 x2 hp hfr hst
  revert x2 hp hfr hst; rintro v1 hp hfr hst
  clear hp
  replace hst : St No w0 [own v1 45 3 (l.map Evt.cells), blk w0.heap.size [.int .i64 x0, .int .i64 x1, .int .i64 x2, .int .i64 x3, .int .i64 y0, .int .i64 y1, .int .i64 y2, .int .i64 y3, .int .i64 y4, .int .i64 y5, xv] 26] w3 := hst
  refine wl_v hfr (by decide) (v_move rfl) ?_
  clear hfr
  intro a hfr
  refine wl_v hfr (by decide) (v_extract rfl rfl) ?_
  clear hfr
  intro a hfr
  refine wl_v hfr (by decide) (v_extract rfl rfl) ?_
  clear hfr
  intro a hfr
  refine wl_v hfr (by decide) (v_extract rfl rfl) ?_
  clear hfr
  intro a hfr
  refine wl_alloc hfr hst (by decide) (Try.zeroValue29 _) (cs := [.int .i64 0, .int .i64 0, .int .i64 0, .int .i64 0]) rfl ?_
  clear hfr hst
  intro a w4 hfr hst
  refine wl_alloc hfr hst (by decide) (Try.zeroValue31 _) (cs := [.int .i64 0, .int .i64 0, .int .i64 0, .int .i64 0, .int .i64 0, .bool false]) rfl ?_
  clear hfr hst
  intro a w5 hfr hst
  refine wl_store 1 hfr hst rfl rfl rfl (Try.sizeOf29 _) rfl (Nat.le_of_ble_eq_true rfl) (ds := [.int .i64 rl.answer, .int .i64 rl.cooling, .int .i64 rl.settle, .int .i64 rl.reverse]) rfl rfl ?_
  clear hfr hst
  intro a w6 hfr hst
  refine wl_store 0 hfr hst rfl rfl rfl (Try.sizeOf31 _) rfl (Nat.le_of_ble_eq_true rfl) (ds := [.int .i64 cl.number, .int .i64 cl.frm, .int .i64 cl.to, .int .i64 cl.holder, .int .i64 cl.asked, .bool cl.backed]) rfl rfl ?_
  clear hfr hst
  intro a w7 hfr hst
  refine wl_v hfr (by decide) (v_assign rfl) ?_
  clear hfr
  intro a hfr
  refine wl_nil (hK5 _ _ ?_)
  replace hfr : Fr 238 [(1, _), (4, _), (6, _), (7, _), (8, _)] [] a := hfr.pick [1, 4, 6, 7, 8]
  replace hst : St No w0 [_, _, _] w7 := hst.mask [true, true, true, false]
  refine wc_seq_region fun K6 hK6 => ?_
  refine wl_v hfr (by decide) (v_load_all (hst.get (k := 1) rfl) rfl (Try.isAgg29 _) (Try.sizeOf29 _)) ?_
  clear hfr
  intro a hfr
  refine wl_v hfr (by decide) (v_load_all (hst.get (k := 0) rfl) rfl (Try.isAgg31 _) (Try.sizeOf31 _)) ?_
  clear hfr
  intro a hfr
  refine wl_v hfr (by decide) (v_move rfl) ?_
  clear hfr
  intro a hfr
  refine wl_callm hfr hst (by decide) Try.call18 rfl (timeline3 hss (timeline_ok rl cl v1 l _ (hst.ownAt (i := 2) rfl) hv)) ?_
  clear hfr hst
  intro a w8 x4 hp hfr hst
  revert x4 hp hfr hst; rintro v3 hp hfr hst
  clear hp
  replace hst : St No w0 [own v3 39 3 (ss.map Stt.cells), blk w4.heap.size [.int .i64 cl.number, .int .i64 cl.frm, .int .i64 cl.to, .int .i64 cl.holder, .int .i64 cl.asked, .bool cl.backed] 31, blk w3.heap.size [.int .i64 rl.answer, .int .i64 rl.cooling, .int .i64 rl.settle, .int .i64 rl.reverse] 29, own v1 45 3 (l.map Evt.cells)] w8 := hst
  refine wl_v hfr (by decide) (v_move rfl) ?_
  clear hfr
  intro a hfr
  refine wl_v hfr (by decide) (v_extract rfl rfl) ?_
  clear hfr
  intro a hfr
  refine wl_v hfr (by decide) (v_extract rfl rfl) ?_
  clear hfr
  intro a hfr
  refine wl_v hfr (by decide) (v_assign rfl) ?_
  clear hfr
  intro a hfr
  refine wl_v hfr (by decide) (v_assign rfl) ?_
  clear hfr
  intro a hfr
  refine wl_nil (hK6 _ _ ?_)
  replace hfr : Fr 238 [(1, _), (4, _), (6, _), (7, _), (8, _), (9, _), (10, _)] [] a := hfr.pick [1, 4, 6, 7, 8, 9, 10]
  refine wc_seq_region fun K7 hK7 => ?_
  refine wl_v hfr (by decide) (v_load_all (hst.get (k := 2) rfl) rfl (Try.isAgg29 _) (Try.sizeOf29 _)) ?_
  clear hfr
  intro a hfr
  refine wl_v hfr (by decide) (v_load_all (hst.get (k := 1) rfl) rfl (Try.isAgg31 _) (Try.sizeOf31 _)) ?_
  clear hfr
  intro a hfr
  refine wl_v hfr (by decide) (v_move rfl) ?_
  clear hfr
  intro a hfr
  refine wl_callm hfr hst (by decide) Try.call17 rfl (void3 hvo (void_ok rl cl v1 l _ (hst.ownAt (i := 3) rfl) hv)) ?_
  clear hfr hst
  intro a w9 x6 hp hfr hst
  revert x6 hp hfr hst; rintro v5 hp hfr hst
  clear hp
  replace hst : St No w0 [own v5 3 1 (vo.map fun i => [.int .i64 i]), own v3 39 3 (ss.map Stt.cells), blk w4.heap.size [.int .i64 cl.number, .int .i64 cl.frm, .int .i64 cl.to, .int .i64 cl.holder, .int .i64 cl.asked, .bool cl.backed] 31, blk w3.heap.size [.int .i64 rl.answer, .int .i64 rl.cooling, .int .i64 rl.settle, .int .i64 rl.reverse] 29, own v1 45 3 (l.map Evt.cells)] w9 := hst
  refine wl_v hfr (by decide) (v_move rfl) ?_
  clear hfr
  intro a hfr
  refine wl_v hfr (by decide) (v_extract rfl rfl) ?_
  clear hfr
  intro a hfr
  refine wl_v hfr (by decide) (v_extract rfl rfl) ?_
  clear hfr
  intro a hfr
  refine wl_v hfr (by decide) (v_assign rfl) ?_
  clear hfr
  intro a hfr
  refine wl_v hfr (by decide) (v_assign rfl) ?_
  clear hfr
  intro a hfr
  refine wl_nil (hK7 _ _ ?_)
  replace hfr : Fr 238 [(1, _), (4, _), (6, _), (7, _), (8, _), (9, _), (10, _), (11, _), (12, _)] [] a := hfr.pick [1, 4, 6, 7, 8, 9, 10, 11, 12]
  refine wc_seq_k fun K8 hK8 => ?_
  refine wc_seq_k fun K9 hK9 => ?_
  refine wc_of_dr (by kernel_rfl) (dr_of_wd (by kernel_rfl) fun w10 hxz => ?_)
  replace hst : St No w0 [own v5 3 1 (vo.map fun i => [.int .i64 i]), own v3 39 3 (ss.map Stt.cells), blk w4.heap.size [.int .i64 cl.number, .int .i64 cl.frm, .int .i64 cl.to, .int .i64 cl.holder, .int .i64 cl.asked, .bool cl.backed] 31, blk w3.heap.size [.int .i64 rl.answer, .int .i64 rl.cooling, .int .i64 rl.settle, .int .i64 rl.reverse] 29, own v1 45 3 (l.map Evt.cells)] w10 := hst.grow hxz
  refine wd_lin (k := 0) 12 [11] (by kernel_rfl) (by kernel_rfl) (by kernel_rfl) ?_
  refine wl_v hfr (by decide) (v_move rfl) ?_
  clear hfr
  intro a hfr
  refine wl_v hfr (by decide) ((v_ne rfl rfl).asb (b' := false) rfl) ?_
  clear hfr
  intro a hfr
  refine wl_v hfr (by decide) (v_move rfl) ?_
  clear hfr
  intro a hfr
  refine wl_vy hfr (by decide) rfl (by decide) rfl (v_move rfl) ?_
  clear hfr
  intro a hfr
  refine wl_vy hfr (by decide) rfl (by decide) rfl ((v_ne rfl rfl).asb (b' := false) rfl) ?_
  clear hfr
  intro a hfr
  refine wl_v hfr (by decide) (v_pick_f rfl rfl) ?_
  clear hfr
  intro a hfr
  refine wl_v hfr (by decide) (v_move rfl) ?_
  clear hfr
  intro a hfr
  refine wl_vy hfr (by decide) rfl (by decide) rfl (v_move rfl) ?_
  clear hfr
  intro a hfr
  refine wl_vy hfr (by decide) rfl (by decide) rfl ((v_len_sl (sT := 47) (hst.ownAt (i := 1) rfl) rfl rfl (Try.runUnderlying47 _)).asi (m' := (ss.length : Int)) (by simp)) ?_
  clear hfr
  intro a hfr
  refine wl_vy hfr (by decide) rfl (by decide) rfl ((v_eq rfl rfl).asb (b' := false) (by exact decide_eq_false (by omega))) ?_
  clear hfr
  intro a hfr
  refine wl_v hfr (by decide) (v_pick_f rfl rfl) ?_
  clear hfr
  intro a hfr
  refine wl_v hfr (by decide) (v_move rfl) ?_
  clear hfr
  intro a hfr
  refine wl_nil ?_
  refine wd_sub (k := 12) 23 [14, 22] hfr (by kernel_rfl) (by kernel_rfl) (by kernel_rfl) (by rfl) ?_
  replace hfr : Fr 238 [(1, _), (4, _), (6, _), (7, _), (8, _), (9, _), (10, _), (11, _), (12, _), (48, _), (49, _), (50, _), (51, _), (52, _), (53, _), (54, _), (55, _), (56, _), (57, _), (58, _), (59, _)] [] a := hfr.pick [1, 4, 6, 7, 8, 9, 10, 11, 12, 48, 49, 50, 51, 52, 53, 54, 55, 56, 57, 58, 59]
  refine wc_phases' 11 [[], [0], [1], [], [3], [], [5], [], [7], [6, 8], [4, 9]] (fun i => match i with | 0 => pv (v3) | 1 => pv (slAddr v3 (0 * 3)) | 2 => pv (.agg #[.int .i64 1, .int .i64 cl.asked, .int .i64 (cl.asked + rl.answer)]) | 3 => pv (.pointer (some ⟨w4.heap.size, 4, none⟩)) | 4 => pv (.int .i64 cl.asked) | 5 => pv (.pointer (some ⟨w4.heap.size, 4, none⟩)) | 6 => pv (.int .i64 cl.asked) | 7 => pv (.pointer (some ⟨w3.heap.size, 0, none⟩)) | 8 => pv (.int .i64 rl.answer) | 9 => pv (.int .i64 (cl.asked + rl.answer)) | 10 => pv (.agg #[.int .i64 1, .int .i64 cl.asked, .int .i64 (cl.asked + rl.answer)]) | _ => fun _ _ => False) hfr hst (by kernel_rfl) (by kernel_rfl) ?_ ?_
  · intro i hi
    match i, hi with
    | 0, _ =>
      intro w hst
      exact OpV.g (v_move rfl)
    | 1, _ =>
      rintro _ _ ⟨rfl, rfl⟩
      intro w hst
      exact OpV.g ((v_indexAddr_sl (i := 0) (sT := 47) (hst.ownAt (i := 1) rfl) rfl rfl (Try.runUnderlying47 _) (Try.sizeOf39 _) (by omega) (by simp; omega)).as (v' := slAddr v3 (0 * 3)) rfl)
    | 2, _ =>
      rintro _ _ ⟨rfl, rfl⟩
      intro w hst
      exact OpV.g ((v_load_sl (hst.ownAt (i := 1) rfl) (i := 0) (by simp; omega) rfl (Try.isAgg39 _) (Try.sizeOf39 _)).as (v' := .agg #[.int .i64 1, .int .i64 cl.asked, .int .i64 (cl.asked + rl.answer)]) (by have hq := hf0; rw [List.getD_eq_getElem?_getD, List.getElem?_eq_getElem (by omega), Option.getD_some] at hq; simp [hq, Stt.cells]))
    | 3, _ =>
      intro w hst
      exact OpV.g (v_fieldAddr (v := .pointer (some ⟨w4.heap.size, 4, none⟩)) rfl (by kernel_rfl))
    | 4, _ =>
      rintro _ _ ⟨rfl, rfl⟩
      intro w hst
      exact OpV.g (v_load_blk1 (hst.get (k := 2) rfl) rfl (Try.isAgg3 _) rfl)
    | 5, _ =>
      intro w hst
      exact OpV.g (v_fieldAddr (v := .pointer (some ⟨w4.heap.size, 4, none⟩)) rfl (by kernel_rfl))
    | 6, _ =>
      rintro _ _ ⟨rfl, rfl⟩
      intro w hst
      exact OpV.g (v_load_blk1 (hst.get (k := 2) rfl) rfl (Try.isAgg3 _) rfl)
    | 7, _ =>
      intro w hst
      exact OpV.g (v_fieldAddr (v := .pointer (some ⟨w3.heap.size, 0, none⟩)) rfl (by kernel_rfl))
    | 8, _ =>
      rintro _ _ ⟨rfl, rfl⟩
      intro w hst
      exact OpV.g (v_load_blk1 (hst.get (k := 3) rfl) rfl (Try.isAgg3 _) rfl)
    | 9, _ =>
      rintro _ _ ⟨rfl, rfl⟩ _ _ ⟨rfl, rfl⟩
      intro w hst
      exact OpV.g (v_add rfl rfl ⟨by omega, by omega⟩)
    | 10, _ =>
      rintro _ _ ⟨rfl, rfl⟩ _ _ ⟨rfl, rfl⟩
      intro w hst
      exact OpV.g (v_build (v := .agg #[.int .i64 1, .int .i64 cl.asked, .int .i64 (cl.asked + rl.answer)]) rfl (by kernel_rfl))
  clear hfr hst
  rintro _ _ ⟨rfl, rfl⟩ _ _ ⟨rfl, rfl⟩ _ _ ⟨rfl, rfl⟩ _ _ ⟨rfl, rfl⟩ _ _ ⟨rfl, rfl⟩ _ _ ⟨rfl, rfl⟩ _ _ ⟨rfl, rfl⟩ _ _ ⟨rfl, rfl⟩ _ _ ⟨rfl, rfl⟩ _ _ ⟨rfl, rfl⟩ _ _ ⟨rfl, rfl⟩ a w11 hfr hst
  replace hfr : Fr 238 [(60, _), (61, _), (62, _), (63, _), (64, _), (65, _), (66, _), (67, _), (68, _), (69, _), (70, _), (1, _), (4, _), (6, _), (7, _), (8, _), (9, _), (10, _), (11, _), (12, _), (48, _), (49, _), (50, _), (51, _), (52, _), (53, _), (54, _), (55, _), (56, _), (57, _), (58, _), (59, _)] [] a := hfr
  replace hst : St No w0 [_, _, _, _, _] w11 := hst
  refine wl_nil ?_
  refine wd_lin (k := 23) 26 [25] (by kernel_rfl) (by kernel_rfl) (by kernel_rfl) ?_
  refine wl_vy hfr (by decide) rfl (by decide) rfl ((v_ne_agg rfl rfl (by kernel_rfl) (eqStt 1 cl.asked (cl.asked + rl.answer) 1 cl.asked (cl.asked + rl.answer) _)).asb (b' := false) (by simp)) ?_
  clear hfr
  intro a hfr
  refine wl_v hfr (by decide) (v_pick_f rfl rfl) ?_
  clear hfr
  intro a hfr
  refine wl_v hfr (by decide) (v_move rfl) ?_
  clear hfr
  intro a hfr
  refine wl_nil ?_
  refine wd_sub (k := 26) 30 [26, 29] hfr (by kernel_rfl) (by kernel_rfl) (by kernel_rfl) (by rfl) ?_
  replace hfr : Fr 238 [(1, _), (4, _), (6, _), (7, _), (8, _), (9, _), (10, _), (11, _), (12, _), (48, _), (49, _), (50, _), (51, _), (52, _), (53, _), (54, _), (55, _), (56, _), (57, _), (58, _), (59, _), (60, _), (61, _), (62, _), (63, _), (64, _), (65, _), (66, _), (67, _), (68, _), (69, _), (70, _), (71, _), (72, _), (73, _)] [] a := hfr.pick [1, 4, 6, 7, 8, 9, 10, 11, 12, 48, 49, 50, 51, 52, 53, 54, 55, 56, 57, 58, 59, 60, 61, 62, 63, 64, 65, 66, 67, 68, 69, 70, 71, 72, 73]
  refine wc_phases' 4 [[], [], [1], [2]] (fun i => match i with | 0 => pv (v3) | 1 => pv (v3) | 2 => pv (.int .i64 (ss.length : Int)) | 3 => pv (.int .i64 ((ss.length : Int) - 1)) | _ => fun _ _ => False) hfr hst (by kernel_rfl) (by kernel_rfl) ?_ ?_
  · intro i hi
    match i, hi with
    | 0, _ =>
      intro w hst
      exact OpV.g (v_move rfl)
    | 1, _ =>
      intro w hst
      exact OpV.g (v_move rfl)
    | 2, _ =>
      rintro _ _ ⟨rfl, rfl⟩
      intro w hst
      exact OpV.g ((v_len_sl (sT := 47) (hst.ownAt (i := 1) rfl) rfl rfl (Try.runUnderlying47 _)).asi (m' := (ss.length : Int)) (by simp))
    | 3, _ =>
      rintro _ _ ⟨rfl, rfl⟩
      intro w hst
      exact OpV.g (v_sub rfl rfl ⟨by omega, by omega⟩)
  clear hfr hst
  rintro _ _ ⟨rfl, rfl⟩ _ _ ⟨rfl, rfl⟩ _ _ ⟨rfl, rfl⟩ _ _ ⟨rfl, rfl⟩ a w12 hfr hst
  replace hfr : Fr 238 [(74, _), (75, _), (76, _), (77, _), (1, _), (4, _), (6, _), (7, _), (8, _), (9, _), (10, _), (11, _), (12, _), (48, _), (49, _), (50, _), (51, _), (52, _), (53, _), (54, _), (55, _), (56, _), (57, _), (58, _), (59, _), (60, _), (61, _), (62, _), (63, _), (64, _), (65, _), (66, _), (67, _), (68, _), (69, _), (70, _), (71, _), (72, _), (73, _)] [] a := hfr
  replace hst : St No w0 [_, _, _, _, _] w12 := hst
  refine wl_nil ?_
  refine wd_lin (k := 30) 35 [34] (by kernel_rfl) (by kernel_rfl) (by kernel_rfl) ?_
  refine wl_vy hfr (by decide) rfl (by decide) rfl ((v_indexAddr_sl (i := (ss.length : Int) - 1) (sT := 47) (hst.ownAt (i := 1) rfl) rfl rfl (Try.runUnderlying47 _) (Try.sizeOf39 _) (by omega) (by simp; omega)).as (v' := slAddr v3 ((ss.length - 1) * 3)) (by rw [show ((ss.length : Int) - 1).toNat = ss.length - 1 from by omega])) ?_
  clear hfr
  intro a hfr
  refine wl_vy hfr (by decide) rfl (by decide) rfl ((v_load_sl (hst.ownAt (i := 1) rfl) (i := (ss.length - 1)) (by simp; omega) rfl (Try.isAgg39 _) (Try.sizeOf39 _)).as (v' := .agg #[.int .i64 ls.state, .int .i64 ls.since, .int .i64 ls.next]) (by have hq := hls; rw [List.getD_eq_getElem?_getD, List.getElem?_eq_getElem (by omega), Option.getD_some] at hq; simp [hq, Stt.cells])) ?_
  clear hfr
  intro a hfr
  refine wl_callpy hfr hst (by decide) rfl (by decide) rfl Try.call16 rfl (ret_lit (y := .bool true) (closed_ok ls _) (by simp [hls1]; omega)) ?_
  clear hfr hst
  intro a w13 hfr hst
  refine wl_vy hfr (by decide) rfl (by decide) rfl ((v_not rfl).asb (b' := false) rfl) ?_
  clear hfr
  intro a hfr
  refine wl_v hfr (by decide) (v_pick_f rfl rfl) ?_
  clear hfr
  intro a hfr
  refine wl_nil ?_
  refine wd_end (by kernel_rfl) ?_
  refine hK9 _ _ ?_
  replace hfr : Fr 238 [(1, _), (4, _), (6, _), (7, _), (8, _), (9, _), (11, _), (82, _)] [] a := hfr.pick [1, 4, 6, 7, 8, 9, 11, 82]
  refine wc_cond_f hfr rfl ?_
  refine wc_skip ?_
  refine hK8 _ _ ?_
  refine wc_seq_region fun K10 hK10 => ?_
  refine wl_v hfr (by decide) (v_assign rfl) ?_
  clear hfr
  intro a hfr
  refine wl_nil (hK10 _ _ ?_)
  refine wc_seq_k fun K11 hK11 => ?_
  refine wc_seq_region fun K12 hK12 => ?_
  refine wl_v hfr (by decide) (v_assign rfl) ?_
  clear hfr
  intro a hfr
  refine wl_nil (hK12 _ _ ?_)
  refine wc_block ?_
  refine wc_loop (fun m a w => ∃ (al : Nat) (zi : Nat), m = ss.length - zi ∧ (1 ≤ zi) ∧ (zi ≤ ss.length) ∧ (al ≤ zi) ∧ (al = alF ss zi) ∧ Fr 238 [(1, .int .i64 tt), (6, .pointer (some ⟨w3.heap.size, 0, none⟩)), (7, .pointer (some ⟨w4.heap.size, 0, none⟩)), (8, v1), (9, v3), (11, v5), (13, .int .i64 (al : Int)), (14, .int .i64 (zi : Int))] [] a ∧ St No w0 [own v5 3 1 (vo.map fun i => [.int .i64 i]), own v3 39 3 (ss.map Stt.cells), blk w4.heap.size [.int .i64 cl.number, .int .i64 cl.frm, .int .i64 cl.to, .int .i64 cl.holder, .int .i64 cl.asked, .bool cl.backed] 31, blk w3.heap.size [.int .i64 rl.answer, .int .i64 rl.cooling, .int .i64 rl.settle, .int .i64 rl.reverse] 29, own v1 45 3 (l.map Evt.cells)] w) _ ⟨0, 1, rfl, (by omega), (by omega), (by omega), rfl, hfr.pick [1, 6, 7, 8, 9, 11, 13, 14], hst.select [0, 1, 2, 3, 4] (by decide)⟩ ?_
  rintro _ a w14 ⟨al, zi, rfl, hi1, hi2, hal2, hal, hfr, hst⟩
  refine wc_seq_k fun K13 hK13 => ?_
  refine wc_seq_region fun K14 hK14 => ?_
  refine wl_v hfr (by decide) (v_move rfl) ?_
  clear hfr
  intro a hfr
  refine wl_v hfr (by decide) (v_move rfl) ?_
  clear hfr
  intro a hfr
  refine wl_v hfr (by decide) ((v_len_sl (sT := 47) (hst.ownAt (i := 1) rfl) rfl rfl (Try.runUnderlying47 _)).asi (m' := (ss.length : Int)) (by simp)) ?_
  clear hfr
  intro a hfr
  refine wl_v hfr (by decide) (v_lt rfl rfl) ?_
  clear hfr
  intro a hfr
  refine wl_nil (hK14 _ _ ?_)
  refine wc_cond hfr rfl (fun hc7 => ?_) (fun hc7 => ?_)
  · rw [hc7] at hfr
    try simp only [Bool.not_eq_true', Bool.not_eq_false', decide_eq_true_eq, decide_eq_false_iff_not] at hc7
    obtain ⟨si, hsi⟩ : ∃ s, ss.getD zi ⟨0, 0, 0⟩ = s := ⟨_, rfl⟩
    obtain ⟨sp, hsp⟩ : ∃ s, ss.getD (zi - 1) ⟨0, 0, 0⟩ = s := ⟨_, rfl⟩
    obtain ⟨k1, k2, k3, k4⟩ : Link l sp si := by rw [← hsi, ← hsp]; exact hlk zi (by omega) (by omega)
    refine wc_skip ?_
    refine hK13 _ _ ?_
    refine wc_seq_k fun K15 hK15 => ?_
    refine wc_block ?_
    refine wc_seq_region fun K16 hK16 => ?_
    refine wl_v hfr (by decide) (v_move rfl) ?_
    clear hfr
    intro a hfr
    refine wl_v hfr (by decide) (v_move rfl) ?_
    clear hfr
    intro a hfr
    refine wl_v hfr (by decide) (v_sub rfl rfl ⟨by omega, by omega⟩) ?_
    clear hfr
    intro a hfr
    refine wl_v hfr (by decide) (v_max2 rfl rfl) ?_
    clear hfr
    intro a hfr
    refine wl_v hfr (by decide) ((v_indexAddr_sl (i := max ((zi : Int) - 1) 0) (sT := 47) (hst.ownAt (i := 1) rfl) rfl rfl (Try.runUnderlying47 _) (Try.sizeOf39 _) (by omega) (by simp; omega)).as (v' := slAddr v3 ((zi - 1) * 3)) (by rw [show (max ((zi : Int) - 1) 0).toNat = zi - 1 from by omega])) ?_
    clear hfr
    intro a hfr
    refine wl_v hfr (by decide) ((v_load_sl (hst.ownAt (i := 1) rfl) (i := (zi - 1)) (by simp; omega) rfl (Try.isAgg39 _) (Try.sizeOf39 _)).as (v' := .agg #[.int .i64 sp.state, .int .i64 sp.since, .int .i64 sp.next]) (by have hq := hsp; rw [List.getD_eq_getElem?_getD, List.getElem?_eq_getElem (by omega), Option.getD_some] at hq; simp [hq, Stt.cells])) ?_
    clear hfr
    intro a hfr
    refine wl_alloc hfr hst (by decide) (Try.zeroValue39 _) (cs := [.int .i64 0, .int .i64 0, .int .i64 0]) rfl ?_
    clear hfr hst
    intro a w15 hfr hst
    refine wl_store 0 hfr hst rfl rfl rfl (Try.sizeOf39 _) rfl (Nat.le_of_ble_eq_true rfl) (ds := [.int .i64 sp.state, .int .i64 sp.since, .int .i64 sp.next]) rfl rfl ?_
    clear hfr hst
    intro a w16 hfr hst
    refine wl_nil (hK16 _ _ ?_)
    replace hfr : Fr 238 [(1, _), (6, _), (7, _), (8, _), (9, _), (11, _), (13, _), (14, _), (15, _)] [] a := hfr.pick [1, 6, 7, 8, 9, 11, 13, 14, 15]
    refine wc_seq_k fun K17 hK17 => ?_
    refine wc_seq_k fun K18 hK18 => ?_
    refine wc_of_dr (by kernel_rfl) (dr_of_wd (by kernel_rfl) fun w17 hxz => ?_)
    replace hst : St No w0 [blk w14.heap.size [.int .i64 sp.state, .int .i64 sp.since, .int .i64 sp.next] 39, own v5 3 1 (vo.map fun i => [.int .i64 i]), own v3 39 3 (ss.map Stt.cells), blk w4.heap.size [.int .i64 cl.number, .int .i64 cl.frm, .int .i64 cl.to, .int .i64 cl.holder, .int .i64 cl.asked, .bool cl.backed] 31, blk w3.heap.size [.int .i64 rl.answer, .int .i64 rl.cooling, .int .i64 rl.settle, .int .i64 rl.reverse] 29, own v1 45 3 (l.map Evt.cells)] w17 := hst.grow hxz
    refine wd_lin (k := 0) 4 [3] (by kernel_rfl) (by kernel_rfl) (by kernel_rfl) ?_
    refine wl_v hfr (by decide) (v_fieldAddr (v := .pointer (some ⟨w14.heap.size, 2, none⟩)) rfl (by kernel_rfl)) ?_
    clear hfr
    intro a hfr
    refine wl_v hfr (by decide) (v_load_blk1 (hst.get (k := 0) rfl) rfl (Try.isAgg3 _) rfl) ?_
    clear hfr
    intro a hfr
    refine wl_v hfr (by decide) ((v_lt rfl rfl).asb (b' := false) (by simp; omega)) ?_
    clear hfr
    intro a hfr
    refine wl_v hfr (by decide) (v_move rfl) ?_
    clear hfr
    intro a hfr
    refine wl_nil ?_
    refine wd_sub (k := 4) 11 [8, 10] hfr (by kernel_rfl) (by kernel_rfl) (by kernel_rfl) (by rfl) ?_
    replace hfr : Fr 238 [(1, _), (6, _), (7, _), (8, _), (9, _), (11, _), (13, _), (14, _), (15, _), (95, _), (96, _), (97, _), (98, _)] [] a := hfr.pick [1, 6, 7, 8, 9, 11, 13, 14, 15, 95, 96, 97, 98]
    refine wc_phases' 7 [[], [], [0, 1], [2], [3], [], [5]] (fun i => match i with | 0 => pv (v3) | 1 => pv (.int .i64 (zi : Int)) | 2 => pv (slAddr v3 (zi * 3)) | 3 => pv (slAddr v3 (zi * 3 + 1)) | 4 => pv (.int .i64 si.since) | 5 => pv (.pointer (some ⟨w14.heap.size, 1, none⟩)) | 6 => pv (.int .i64 sp.since) | _ => fun _ _ => False) hfr hst (by kernel_rfl) (by kernel_rfl) ?_ ?_
    · intro i hi
      match i, hi with
      | 0, _ =>
        intro w hst
        exact OpV.g (v_move rfl)
      | 1, _ =>
        intro w hst
        exact OpV.g (v_move rfl)
      | 2, _ =>
        rintro _ _ ⟨rfl, rfl⟩ _ _ ⟨rfl, rfl⟩
        intro w hst
        exact OpV.g ((v_indexAddr_sl (i := (zi : Int)) (sT := 47) (hst.ownAt (i := 2) rfl) rfl rfl (Try.runUnderlying47 _) (Try.sizeOf39 _) (by omega) (by simp; omega)).as (v' := slAddr v3 (zi * 3)) rfl)
      | 3, _ =>
        rintro _ _ ⟨rfl, rfl⟩
        intro w hst
        exact OpV.g (v_fieldAddr_sl (k := zi * 3) (j := 1) (hst.ownAt (i := 2) rfl) (i := zi) (by simp; omega) rfl (fun _ _ => by kernel_rfl))
      | 4, _ =>
        rintro _ _ ⟨rfl, rfl⟩
        intro w hst
        exact OpV.g (v_load_sl1 (u := .int .i64 si.since) (i := zi) (j := 1) (hst.ownAt (i := 2) rfl) (by simp; omega) rfl (Try.isAgg3 _) (by have hq := hsi; rw [List.getD_eq_getElem?_getD, List.getElem?_eq_getElem (by omega), Option.getD_some] at hq; simp [hq, Stt.cells]))
      | 5, _ =>
        intro w hst
        exact OpV.g (v_fieldAddr (v := .pointer (some ⟨w14.heap.size, 1, none⟩)) rfl (by kernel_rfl))
      | 6, _ =>
        rintro _ _ ⟨rfl, rfl⟩
        intro w hst
        exact OpV.g (v_load_blk1 (hst.get (k := 0) rfl) rfl (Try.isAgg3 _) rfl)
    clear hfr hst
    rintro _ _ ⟨rfl, rfl⟩ _ _ ⟨rfl, rfl⟩ _ _ ⟨rfl, rfl⟩ _ _ ⟨rfl, rfl⟩ _ _ ⟨rfl, rfl⟩ _ _ ⟨rfl, rfl⟩ _ _ ⟨rfl, rfl⟩ a w18 hfr hst
    replace hfr : Fr 238 [(99, _), (100, _), (101, _), (102, _), (103, _), (104, _), (105, _), (1, _), (6, _), (7, _), (8, _), (9, _), (11, _), (13, _), (14, _), (15, _), (95, _), (96, _), (97, _), (98, _)] [] a := hfr
    replace hst : St No w0 [_, _, _, _, _, _] w18 := hst
    refine wl_nil ?_
    refine wd_lin (k := 11) 14 [13] (by kernel_rfl) (by kernel_rfl) (by kernel_rfl) ?_
    refine wl_vy hfr (by decide) rfl (by decide) rfl ((v_lt rfl rfl).asb (b' := false) (by simp; omega)) ?_
    clear hfr
    intro a hfr
    refine wl_v hfr (by decide) (v_pick_f rfl rfl) ?_
    clear hfr
    intro a hfr
    refine wl_v hfr (by decide) (v_move rfl) ?_
    clear hfr
    intro a hfr
    refine wl_nil ?_
    refine wd_sub (k := 14) 21 [18, 20] hfr (by kernel_rfl) (by kernel_rfl) (by kernel_rfl) (by rfl) ?_
    replace hfr : Fr 238 [(1, _), (6, _), (7, _), (8, _), (9, _), (11, _), (13, _), (14, _), (15, _), (95, _), (96, _), (97, _), (98, _), (99, _), (100, _), (101, _), (102, _), (103, _), (104, _), (105, _), (106, _), (107, _), (108, _)] [] a := hfr.pick [1, 6, 7, 8, 9, 11, 13, 14, 15, 95, 96, 97, 98, 99, 100, 101, 102, 103, 104, 105, 106, 107, 108]
    refine wc_phases' 7 [[], [], [0, 1], [2], [3], [], [5]] (fun i => match i with | 0 => pv (v3) | 1 => pv (.int .i64 (zi : Int)) | 2 => pv (slAddr v3 (zi * 3)) | 3 => pv (slAddr v3 (zi * 3 + 1)) | 4 => pv (.int .i64 si.since) | 5 => pv (.pointer (some ⟨w14.heap.size, 2, none⟩)) | 6 => pv (.int .i64 sp.next) | _ => fun _ _ => False) hfr hst (by kernel_rfl) (by kernel_rfl) ?_ ?_
    · intro i hi
      match i, hi with
      | 0, _ =>
        intro w hst
        exact OpV.g (v_move rfl)
      | 1, _ =>
        intro w hst
        exact OpV.g (v_move rfl)
      | 2, _ =>
        rintro _ _ ⟨rfl, rfl⟩ _ _ ⟨rfl, rfl⟩
        intro w hst
        exact OpV.g ((v_indexAddr_sl (i := (zi : Int)) (sT := 47) (hst.ownAt (i := 2) rfl) rfl rfl (Try.runUnderlying47 _) (Try.sizeOf39 _) (by omega) (by simp; omega)).as (v' := slAddr v3 (zi * 3)) rfl)
      | 3, _ =>
        rintro _ _ ⟨rfl, rfl⟩
        intro w hst
        exact OpV.g (v_fieldAddr_sl (k := zi * 3) (j := 1) (hst.ownAt (i := 2) rfl) (i := zi) (by simp; omega) rfl (fun _ _ => by kernel_rfl))
      | 4, _ =>
        rintro _ _ ⟨rfl, rfl⟩
        intro w hst
        exact OpV.g (v_load_sl1 (u := .int .i64 si.since) (i := zi) (j := 1) (hst.ownAt (i := 2) rfl) (by simp; omega) rfl (Try.isAgg3 _) (by have hq := hsi; rw [List.getD_eq_getElem?_getD, List.getElem?_eq_getElem (by omega), Option.getD_some] at hq; simp [hq, Stt.cells]))
      | 5, _ =>
        intro w hst
        exact OpV.g (v_fieldAddr (v := .pointer (some ⟨w14.heap.size, 2, none⟩)) rfl (by kernel_rfl))
      | 6, _ =>
        rintro _ _ ⟨rfl, rfl⟩
        intro w hst
        exact OpV.g (v_load_blk1 (hst.get (k := 0) rfl) rfl (Try.isAgg3 _) rfl)
    clear hfr hst
    rintro _ _ ⟨rfl, rfl⟩ _ _ ⟨rfl, rfl⟩ _ _ ⟨rfl, rfl⟩ _ _ ⟨rfl, rfl⟩ _ _ ⟨rfl, rfl⟩ _ _ ⟨rfl, rfl⟩ _ _ ⟨rfl, rfl⟩ a w19 hfr hst
    replace hfr : Fr 238 [(109, _), (110, _), (111, _), (112, _), (113, _), (114, _), (115, _), (1, _), (6, _), (7, _), (8, _), (9, _), (11, _), (13, _), (14, _), (15, _), (95, _), (96, _), (97, _), (98, _), (99, _), (100, _), (101, _), (102, _), (103, _), (104, _), (105, _), (106, _), (107, _), (108, _)] [] a := hfr
    replace hst : St No w0 [_, _, _, _, _, _] w19 := hst
    refine wl_nil ?_
    refine wd_lin (k := 21) 23 [22] (by kernel_rfl) (by kernel_rfl) (by kernel_rfl) ?_
    refine wl_vy hfr (by decide) rfl (by decide) rfl ((v_gt rfl rfl).asb (b' := false) (by simp; omega)) ?_
    clear hfr
    intro a hfr
    refine wl_v hfr (by decide) (v_pick_f rfl rfl) ?_
    clear hfr
    intro a hfr
    refine wl_nil ?_
    refine wd_end (by kernel_rfl) ?_
    refine hK18 _ _ ?_
    replace hfr : Fr 238 [(1, _), (6, _), (7, _), (8, _), (9, _), (11, _), (13, _), (14, _), (15, _), (117, _)] [] a := hfr.pick [1, 6, 7, 8, 9, 11, 13, 14, 15, 117]
    refine wc_cond_f hfr rfl ?_
    refine wc_skip ?_
    refine hK17 _ _ ?_
    refine wc_seq_k fun K19 hK19 => ?_
    refine wc_seq_k fun K20 hK20 => ?_
    refine wc_of_dr (by kernel_rfl) (dr_of_wd (by kernel_rfl) fun w20 hxz => ?_)
    replace hst : St No w0 [blk w14.heap.size [.int .i64 sp.state, .int .i64 sp.since, .int .i64 sp.next] 39, own v5 3 1 (vo.map fun i => [.int .i64 i]), own v3 39 3 (ss.map Stt.cells), blk w4.heap.size [.int .i64 cl.number, .int .i64 cl.frm, .int .i64 cl.to, .int .i64 cl.holder, .int .i64 cl.asked, .bool cl.backed] 31, blk w3.heap.size [.int .i64 rl.answer, .int .i64 rl.cooling, .int .i64 rl.settle, .int .i64 rl.reverse] 29, own v1 45 3 (l.map Evt.cells)] w20 := hst.grow hxz
    refine wd_sub (k := 0) 7 [4, 6] hfr (by kernel_rfl) (by kernel_rfl) (by kernel_rfl) (by rfl) ?_
    replace hfr : Fr 238 [(1, _), (6, _), (7, _), (8, _), (9, _), (11, _), (13, _), (14, _), (15, _), (117, _)] [] a := hfr.pick [1, 6, 7, 8, 9, 11, 13, 14, 15, 117]
    refine wc_phases' 7 [[], [], [0, 1], [2], [3], [], [5]] (fun i => match i with | 0 => pv (v3) | 1 => pv (.int .i64 (zi : Int)) | 2 => pv (slAddr v3 (zi * 3)) | 3 => pv (slAddr v3 (zi * 3 + 1)) | 4 => pv (.int .i64 si.since) | 5 => pv (.pointer (some ⟨w14.heap.size, 2, none⟩)) | 6 => pv (.int .i64 sp.next) | _ => fun _ _ => False) hfr hst (by kernel_rfl) (by kernel_rfl) ?_ ?_
    · intro i hi
      match i, hi with
      | 0, _ =>
        intro w hst
        exact OpV.g (v_move rfl)
      | 1, _ =>
        intro w hst
        exact OpV.g (v_move rfl)
      | 2, _ =>
        rintro _ _ ⟨rfl, rfl⟩ _ _ ⟨rfl, rfl⟩
        intro w hst
        exact OpV.g ((v_indexAddr_sl (i := (zi : Int)) (sT := 47) (hst.ownAt (i := 2) rfl) rfl rfl (Try.runUnderlying47 _) (Try.sizeOf39 _) (by omega) (by simp; omega)).as (v' := slAddr v3 (zi * 3)) rfl)
      | 3, _ =>
        rintro _ _ ⟨rfl, rfl⟩
        intro w hst
        exact OpV.g (v_fieldAddr_sl (k := zi * 3) (j := 1) (hst.ownAt (i := 2) rfl) (i := zi) (by simp; omega) rfl (fun _ _ => by kernel_rfl))
      | 4, _ =>
        rintro _ _ ⟨rfl, rfl⟩
        intro w hst
        exact OpV.g (v_load_sl1 (u := .int .i64 si.since) (i := zi) (j := 1) (hst.ownAt (i := 2) rfl) (by simp; omega) rfl (Try.isAgg3 _) (by have hq := hsi; rw [List.getD_eq_getElem?_getD, List.getElem?_eq_getElem (by omega), Option.getD_some] at hq; simp [hq, Stt.cells]))
      | 5, _ =>
        intro w hst
        exact OpV.g (v_fieldAddr (v := .pointer (some ⟨w14.heap.size, 2, none⟩)) rfl (by kernel_rfl))
      | 6, _ =>
        rintro _ _ ⟨rfl, rfl⟩
        intro w hst
        exact OpV.g (v_load_blk1 (hst.get (k := 0) rfl) rfl (Try.isAgg3 _) rfl)
    clear hfr hst
    rintro _ _ ⟨rfl, rfl⟩ _ _ ⟨rfl, rfl⟩ _ _ ⟨rfl, rfl⟩ _ _ ⟨rfl, rfl⟩ _ _ ⟨rfl, rfl⟩ _ _ ⟨rfl, rfl⟩ _ _ ⟨rfl, rfl⟩ a w21 hfr hst
    replace hfr : Fr 238 [(118, _), (119, _), (120, _), (121, _), (122, _), (123, _), (124, _), (1, _), (6, _), (7, _), (8, _), (9, _), (11, _), (13, _), (14, _), (15, _), (117, _)] [] a := hfr
    replace hst : St No w0 [_, _, _, _, _, _] w21 := hst
    refine wl_nil ?_
    refine wd_lin (k := 7) 8 [7] (by kernel_rfl) (by kernel_rfl) (by kernel_rfl) ?_
    refine wl_v hfr (by decide) (v_eq rfl rfl) ?_
    clear hfr
    intro a hfr
    refine wl_nil ?_
    refine wd_end (by kernel_rfl) ?_
    refine hK20 _ _ ?_
    replace hfr : Fr 238 [(1, _), (6, _), (7, _), (8, _), (9, _), (11, _), (13, _), (14, _), (125, _)] [] a := hfr.pick [1, 6, 7, 8, 9, 11, 13, 14, 125]
    replace hst : St No w0 [_, _, _, _, _] w21 := hst.mask [false, true, true, true, true, true]
    refine wc_cond hfr rfl (fun hc8 => ?_) (fun hc8 => ?_)
    · rw [hc8] at hfr
      try simp only [Bool.not_eq_true', Bool.not_eq_false', decide_eq_true_eq, decide_eq_false_iff_not] at hc8
      refine wc_seq_region fun K21 hK21 => ?_
      refine wl_v hfr (by decide) (v_move rfl) ?_
      clear hfr
      intro a hfr
      refine wl_v hfr (by decide) (v_add rfl rfl ⟨by omega, by omega⟩) ?_
      clear hfr
      intro a hfr
      refine wl_v hfr (by decide) (v_assign rfl) ?_
      clear hfr
      intro a hfr
      refine wl_nil (hK21 _ _ ?_)
      refine wc_exit ?_
      refine hK15 _ _ ?_
      refine wc_region ?_
      refine wl_v hfr (by decide) (v_move rfl) ?_
      clear hfr
      intro a hfr
      refine wl_v hfr (by decide) (v_add rfl rfl ⟨by omega, by omega⟩) ?_
      clear hfr
      intro a hfr
      refine wl_v hfr (by decide) (v_assign rfl) ?_
      clear hfr
      intro a hfr
      refine wl_nil ?_
      refine ⟨_, ?_, al + 1, zi + 1, rfl, (by omega), (by omega), (by omega), (alF_yes (by omega) hsp hsi (by assumption) hal), hfr.pick [1, 6, 7, 8, 9, 11, 13, 14], hst.select [0, 1, 2, 3, 4] (by decide)⟩
      omega
    rw [hc8] at hfr
    try simp only [Bool.not_eq_true', Bool.not_eq_false', decide_eq_true_eq, decide_eq_false_iff_not] at hc8
    refine wc_skip ?_
    refine hK19 _ _ ?_
    refine wc_seq_region fun K22 hK22 => ?_
    refine wl_v hfr (by decide) (v_assign rfl) ?_
    clear hfr
    intro a hfr
    refine wl_nil (hK22 _ _ ?_)
    refine wc_seq_k fun K23 hK23 => ?_
    refine wc_seq_region fun K24 hK24 => ?_
    refine wl_v hfr (by decide) (v_assign rfl) ?_
    clear hfr
    intro a hfr
    refine wl_nil (hK24 _ _ ?_)
    refine wc_block ?_
    refine wc_loop (fun m a w => ∃ (k : Nat) (fb : Bool), m = l.length - k ∧ (k ≤ l.length) ∧ (fb = (l.take k).any fun e => decide (e.at_ = si.since)) ∧ Fr 238 [(1, .int .i64 tt), (6, .pointer (some ⟨w3.heap.size, 0, none⟩)), (7, .pointer (some ⟨w4.heap.size, 0, none⟩)), (8, v1), (9, v3), (11, v5), (13, .int .i64 (al : Int)), (14, .int .i64 (zi : Int)), (17, .int .i64 (k : Int)), (16, .bool fb)] [] a ∧ St No w0 [own v5 3 1 (vo.map fun i => [.int .i64 i]), own v3 39 3 (ss.map Stt.cells), blk w4.heap.size [.int .i64 cl.number, .int .i64 cl.frm, .int .i64 cl.to, .int .i64 cl.holder, .int .i64 cl.asked, .bool cl.backed] 31, blk w3.heap.size [.int .i64 rl.answer, .int .i64 rl.cooling, .int .i64 rl.settle, .int .i64 rl.reverse] 29, own v1 45 3 (l.map Evt.cells)] w) _ ⟨0, false, rfl, Nat.zero_le _, rfl, hfr.pick [1, 6, 7, 8, 9, 11, 13, 14, 17, 16], hst.select [0, 1, 2, 3, 4] (by decide)⟩ ?_
    rintro _ a w22 ⟨k, fb, rfl, hk, hfb, hfr, hst⟩
    refine wc_seq_k fun K25 hK25 => ?_
    refine wc_seq_region fun K26 hK26 => ?_
    refine wl_v hfr (by decide) (v_move rfl) ?_
    clear hfr
    intro a hfr
    refine wl_v hfr (by decide) (v_move rfl) ?_
    clear hfr
    intro a hfr
    refine wl_v hfr (by decide) ((v_len_sl (sT := 32) (hst.ownAt (i := 4) rfl) rfl rfl (Try.runUnderlying32 _)).asi (m' := (l.length : Int)) (by simp)) ?_
    clear hfr
    intro a hfr
    refine wl_v hfr (by decide) (v_lt rfl rfl) ?_
    clear hfr
    intro a hfr
    refine wl_nil (hK26 _ _ ?_)
    refine wc_cond hfr rfl (fun hc9 => ?_) (fun hc9 => ?_)
    · rw [hc9] at hfr
      try simp only [Bool.not_eq_true', Bool.not_eq_false', decide_eq_true_eq, decide_eq_false_iff_not] at hc9
      have hkl : k < l.length := by omega
      obtain ⟨ev, hev⟩ : ∃ ev, l.getD k ⟨0, 0, 0⟩ = ev := ⟨_, rfl⟩
      refine wc_skip ?_
      refine hK25 _ _ ?_
      refine wc_seq_k fun K27 hK27 => ?_
      refine wc_block ?_
      refine wc_of_dr (by kernel_rfl) (dr_of_wd (by kernel_rfl) fun w23 hxz => ?_)
      replace hst : St No w0 [own v5 3 1 (vo.map fun i => [.int .i64 i]), own v3 39 3 (ss.map Stt.cells), blk w4.heap.size [.int .i64 cl.number, .int .i64 cl.frm, .int .i64 cl.to, .int .i64 cl.holder, .int .i64 cl.asked, .bool cl.backed] 31, blk w3.heap.size [.int .i64 rl.answer, .int .i64 rl.cooling, .int .i64 rl.settle, .int .i64 rl.reverse] 29, own v1 45 3 (l.map Evt.cells)] w23 := hst.grow hxz
      refine wd_lin (k := 0) 2 [1] (by kernel_rfl) (by kernel_rfl) (by kernel_rfl) ?_
      refine wl_v hfr (by decide) (v_move rfl) ?_
      clear hfr
      intro a hfr
      refine wl_v hfr (by decide) (v_move rfl) ?_
      clear hfr
      intro a hfr
      refine wl_nil ?_
      rcases Bool.eq_false_or_eq_true (fb) with hb10 | hb10
      · rw [hb10] at hfr
        try simp only [Bool.not_eq_true', Bool.not_eq_false', decide_eq_true_eq, decide_eq_false_iff_not] at hb10
        replace hfr : Fr 238 [(1, .int .i64 tt), (6, .pointer (some ⟨w3.heap.size, 0, none⟩)), (7, .pointer (some ⟨w4.heap.size, 0, none⟩)), (8, v1), (9, v3), (11, v5), (13, .int .i64 (al : Int)), (14, .int .i64 (zi : Int)), (17, .int .i64 (k : Int)), (16, .bool true), (128, .int .i64 (k : Int)), (129, v1), (130, .int .i64 (l.length : Int)), (131, .bool true), (134, .bool true), (135, .bool true)] [] a := hfr.pick [1, 6, 7, 8, 9, 11, 13, 14, 17, 16, 128, 129, 130, 131, 134, 135]
        refine wd_skip (k := 2) 12 [6, 11] hfr (by kernel_rfl) (by kernel_rfl) (by kernel_rfl) (by rfl) ?_
        clear hfr
        intro a hfr
        replace hfr : Fr 238 [(136, undef), (137, undef), (138, undef), (139, undef), (140, undef), (141, undef), (142, undef), (143, undef), (144, undef), (145, undef), (1, .int .i64 tt), (6, .pointer (some ⟨w3.heap.size, 0, none⟩)), (7, .pointer (some ⟨w4.heap.size, 0, none⟩)), (8, v1), (9, v3), (11, v5), (13, .int .i64 (al : Int)), (14, .int .i64 (zi : Int)), (17, .int .i64 (k : Int)), (16, .bool true), (128, .int .i64 (k : Int)), (129, v1), (130, .int .i64 (l.length : Int)), (131, .bool true), (134, .bool true), (135, .bool true)] [] a := hfr
        refine wd_lin (k := 12) 15 [14] (by kernel_rfl) (by kernel_rfl) (by kernel_rfl) ?_
        refine wl_vn hfr (by decide) rfl (by decide) rfl rfl ?_
        clear hfr
        intro a hfr
        refine wl_v hfr (by decide) (v_pick_t rfl rfl) ?_
        clear hfr
        intro a hfr
        refine wl_v hfr (by decide) (v_assign rfl) ?_
        clear hfr
        intro a hfr
        refine wl_nil ?_
        refine wd_end (by kernel_rfl) ?_
        refine hK27 _ _ ?_
        replace hfr : Fr 238 [(1, _), (6, _), (7, _), (8, _), (9, _), (11, _), (13, _), (14, _), (17, _), (16, _)] [] a := hfr.pick [1, 6, 7, 8, 9, 11, 13, 14, 17, 16]
        refine wc_region ?_
        refine wl_v hfr (by decide) (v_move rfl) ?_
        clear hfr
        intro a hfr
        refine wl_v hfr (by decide) (v_add rfl rfl ⟨by omega, by omega⟩) ?_
        clear hfr
        intro a hfr
        refine wl_v hfr (by decide) (v_assign rfl) ?_
        clear hfr
        intro a hfr
        refine wl_nil ?_
        refine ⟨_, ?_, k + 1, true, rfl, (by omega), (by rw [take_snoc hkl hev, List.any_append, ← hfb, hb10]; simp), hfr.pick [1, 6, 7, 8, 9, 11, 13, 14, 17, 16], hst.select [0, 1, 2, 3, 4] (by decide)⟩
        omega
      rw [hb10] at hfr
      try simp only [Bool.not_eq_true', Bool.not_eq_false', decide_eq_true_eq, decide_eq_false_iff_not] at hb10
      refine wd_sub (k := 2) 12 [6, 11] hfr (by kernel_rfl) (by kernel_rfl) (by kernel_rfl) (by rfl) ?_
      replace hfr : Fr 238 [(1, _), (6, _), (7, _), (8, _), (9, _), (11, _), (13, _), (14, _), (17, _), (16, _), (128, _), (129, _), (130, _), (131, _), (134, _), (135, _)] [] a := hfr.pick [1, 6, 7, 8, 9, 11, 13, 14, 17, 16, 128, 129, 130, 131, 134, 135]
      refine wc_phases' 10 [[], [], [0, 1], [2], [3], [], [], [5, 6], [7], [8]] (fun i => match i with | 0 => pv (v1) | 1 => pv (.int .i64 (k : Int)) | 2 => pv (slAddr v1 (k * 3)) | 3 => pv (slAddr v1 (k * 3 + 1)) | 4 => pv (.int .i64 ev.at_) | 5 => pv (v3) | 6 => pv (.int .i64 (zi : Int)) | 7 => pv (slAddr v3 (zi * 3)) | 8 => pv (slAddr v3 (zi * 3 + 1)) | 9 => pv (.int .i64 si.since) | _ => fun _ _ => False) hfr hst (by kernel_rfl) (by kernel_rfl) ?_ ?_
      · intro i hi
        match i, hi with
        | 0, _ =>
          intro w hst
          exact OpV.g (v_move rfl)
        | 1, _ =>
          intro w hst
          exact OpV.g (v_move rfl)
        | 2, _ =>
          rintro _ _ ⟨rfl, rfl⟩ _ _ ⟨rfl, rfl⟩
          intro w hst
          exact OpV.g ((v_indexAddr_sl (i := (k : Int)) (sT := 32) (hst.ownAt (i := 4) rfl) rfl rfl (Try.runUnderlying32 _) (Try.sizeOf45 _) (by omega) (by simpa using hkl)).as (v' := slAddr v1 (k * 3)) rfl)
        | 3, _ =>
          rintro _ _ ⟨rfl, rfl⟩
          intro w hst
          exact OpV.g (v_fieldAddr_sl (k := k * 3) (j := 1) (hst.ownAt (i := 4) rfl) (i := k) (by simpa using hkl) rfl (fun _ _ => by kernel_rfl))
        | 4, _ =>
          rintro _ _ ⟨rfl, rfl⟩
          intro w hst
          exact OpV.g (v_load_sl1 (u := .int .i64 ev.at_) (i := k) (j := 1) (hst.ownAt (i := 4) rfl) (by simpa using hkl) rfl (Try.isAgg3 _) (by rw [← hev]; first | (show _ = Value.agg (l.getD k ⟨0, 0, 0⟩).cells.toArray; simp [hkl]) | simp [List.getElem?_eq_getElem hkl, Evt.cells]))
        | 5, _ =>
          intro w hst
          exact OpV.g (v_move rfl)
        | 6, _ =>
          intro w hst
          exact OpV.g (v_move rfl)
        | 7, _ =>
          rintro _ _ ⟨rfl, rfl⟩ _ _ ⟨rfl, rfl⟩
          intro w hst
          exact OpV.g ((v_indexAddr_sl (i := (zi : Int)) (sT := 47) (hst.ownAt (i := 1) rfl) rfl rfl (Try.runUnderlying47 _) (Try.sizeOf39 _) (by omega) (by simp; omega)).as (v' := slAddr v3 (zi * 3)) rfl)
        | 8, _ =>
          rintro _ _ ⟨rfl, rfl⟩
          intro w hst
          exact OpV.g (v_fieldAddr_sl (k := zi * 3) (j := 1) (hst.ownAt (i := 1) rfl) (i := zi) (by simp; omega) rfl (fun _ _ => by kernel_rfl))
        | 9, _ =>
          rintro _ _ ⟨rfl, rfl⟩
          intro w hst
          exact OpV.g (v_load_sl1 (u := .int .i64 si.since) (i := zi) (j := 1) (hst.ownAt (i := 1) rfl) (by simp; omega) rfl (Try.isAgg3 _) (by have hq := hsi; rw [List.getD_eq_getElem?_getD, List.getElem?_eq_getElem (by omega), Option.getD_some] at hq; simp [hq, Stt.cells]))
      clear hfr hst
      rintro _ _ ⟨rfl, rfl⟩ _ _ ⟨rfl, rfl⟩ _ _ ⟨rfl, rfl⟩ _ _ ⟨rfl, rfl⟩ _ _ ⟨rfl, rfl⟩ _ _ ⟨rfl, rfl⟩ _ _ ⟨rfl, rfl⟩ _ _ ⟨rfl, rfl⟩ _ _ ⟨rfl, rfl⟩ _ _ ⟨rfl, rfl⟩ a w24 hfr hst
      replace hfr : Fr 238 [(136, _), (137, _), (138, _), (139, _), (140, _), (141, _), (142, _), (143, _), (144, _), (145, _), (1, _), (6, _), (7, _), (8, _), (9, _), (11, _), (13, _), (14, _), (17, _), (16, _), (128, _), (129, _), (130, _), (131, _), (134, _), (135, _)] [] a := hfr
      replace hst : St No w0 [_, _, _, _, _] w24 := hst
      refine wl_nil ?_
      refine wd_lin (k := 12) 15 [14] (by kernel_rfl) (by kernel_rfl) (by kernel_rfl) ?_
      refine wl_vy hfr (by decide) rfl (by decide) rfl (v_eq rfl rfl) ?_
      clear hfr
      intro a hfr
      refine wl_v hfr (by decide) (v_pick_f rfl rfl) ?_
      clear hfr
      intro a hfr
      refine wl_v hfr (by decide) (v_assign rfl) ?_
      clear hfr
      intro a hfr
      refine wl_nil ?_
      refine wd_end (by kernel_rfl) ?_
      refine hK27 _ _ ?_
      replace hfr : Fr 238 [(1, _), (6, _), (7, _), (8, _), (9, _), (11, _), (13, _), (14, _), (17, _), (16, _)] [] a := hfr.pick [1, 6, 7, 8, 9, 11, 13, 14, 17, 16]
      refine wc_region ?_
      refine wl_v hfr (by decide) (v_move rfl) ?_
      clear hfr
      intro a hfr
      refine wl_v hfr (by decide) (v_add rfl rfl ⟨by omega, by omega⟩) ?_
      clear hfr
      intro a hfr
      refine wl_v hfr (by decide) (v_assign rfl) ?_
      clear hfr
      intro a hfr
      refine wl_nil ?_
      refine ⟨_, ?_, k + 1, (decide (ev.at_ = si.since)), rfl, (by omega), (by rw [take_snoc hkl hev, List.any_append, ← hfb, hb10]; simp), hfr.pick [1, 6, 7, 8, 9, 11, 13, 14, 17, 16], hst.select [0, 1, 2, 3, 4] (by decide)⟩
      omega
    rw [hc9] at hfr
    try simp only [Bool.not_eq_true', Bool.not_eq_false', decide_eq_true_eq, decide_eq_false_iff_not] at hc9
    have hke : k = l.length := by omega
    have hfbt : fb = true := by
      rw [hfb, hke, List.take_length, List.any_eq_true]
      obtain ⟨e0, he1, he2⟩ := k4.resolve_left (by assumption)
      exact ⟨e0, he1, by simpa using he2⟩
    refine wc_exit ?_
    refine hK23 _ _ ?_
    refine wc_seq_region fun K28 hK28 => ?_
    refine wl_v hfr (by decide) (v_move rfl) ?_
    clear hfr
    intro a hfr
    refine wl_v hfr (by decide) (v_not rfl) ?_
    clear hfr
    intro a hfr
    refine wl_nil (hK28 _ _ ?_)
    replace hfr : Fr 238 [(1, _), (6, _), (7, _), (8, _), (9, _), (11, _), (13, _), (14, _), (149, _)] [] a := hfr.pick [1, 6, 7, 8, 9, 11, 13, 14, 149]
    refine wc_cond hfr rfl (fun hc11 => ?_) (fun hc11 => ?_)
    · rw [hc11] at hfr
      try simp only [Bool.not_eq_true', Bool.not_eq_false', decide_eq_true_eq, decide_eq_false_iff_not] at hc11
      simp_all
    rw [hc11] at hfr
    try simp only [Bool.not_eq_true', Bool.not_eq_false', decide_eq_true_eq, decide_eq_false_iff_not] at hc11
    refine wc_skip ?_
    refine hK15 _ _ ?_
    refine wc_region ?_
    refine wl_v hfr (by decide) (v_move rfl) ?_
    clear hfr
    intro a hfr
    refine wl_v hfr (by decide) (v_add rfl rfl ⟨by omega, by omega⟩) ?_
    clear hfr
    intro a hfr
    refine wl_v hfr (by decide) (v_assign rfl) ?_
    clear hfr
    intro a hfr
    refine wl_nil ?_
    refine ⟨_, ?_, al, zi + 1, rfl, (by omega), (by omega), (by omega), (alF_no (by omega) hsp hsi (by assumption) hal), hfr.pick [1, 6, 7, 8, 9, 11, 13, 14], hst.select [0, 1, 2, 3, 4] (by decide)⟩
    omega
  rw [hc7] at hfr
  try simp only [Bool.not_eq_true', Bool.not_eq_false', decide_eq_true_eq, decide_eq_false_iff_not] at hc7
  have hie : zi = ss.length := by omega
  subst hie
  refine wc_exit ?_
  refine hK11 _ _ ?_
  refine wc_seq_k fun K29 hK29 => ?_
  refine wc_seq_region fun K30 hK30 => ?_
  refine wl_v hfr (by decide) (v_move rfl) ?_
  clear hfr
  intro a hfr
  refine wl_v hfr (by decide) ((v_len_sl (sT := 47) (hst.ownAt (i := 1) rfl) rfl rfl (Try.runUnderlying47 _)).asi (m' := (ss.length : Int)) (by simp)) ?_
  clear hfr
  intro a hfr
  refine wl_v hfr (by decide) (v_move rfl) ?_
  clear hfr
  intro a hfr
  refine wl_v hfr (by decide) (v_add rfl rfl ⟨by omega, by omega⟩) ?_
  clear hfr
  intro a hfr
  refine wl_v hfr (by decide) (v_move rfl) ?_
  clear hfr
  intro a hfr
  refine wl_v hfr (by decide) ((v_len_sl (sT := 32) (hst.ownAt (i := 4) rfl) rfl rfl (Try.runUnderlying32 _)).asi (m' := (l.length : Int)) (by simp)) ?_
  clear hfr
  intro a hfr
  refine wl_v hfr (by decide) (v_add rfl rfl ⟨by omega, by omega⟩) ?_
  clear hfr
  intro a hfr
  refine wl_v hfr (by decide) (v_move rfl) ?_
  clear hfr
  intro a hfr
  refine wl_v hfr (by decide) ((v_len_sl (sT := 49) (hst.ownAt (i := 0) rfl) rfl rfl (Try.runUnderlying49 _)).asi (m' := (vo.length : Int)) (by simp)) ?_
  clear hfr
  intro a hfr
  refine wl_v hfr (by decide) (v_sub rfl rfl ⟨by omega, by omega⟩) ?_
  clear hfr
  intro a hfr
  refine wl_v hfr (by decide) ((v_ne rfl rfl).asb (b' := false) (by simp; omega)) ?_
  clear hfr
  intro a hfr
  refine wl_nil (hK30 _ _ ?_)
  replace hfr : Fr 238 [(1, _), (6, _), (7, _), (8, _), (9, _), (160, _)] [] a := hfr.pick [1, 6, 7, 8, 9, 160]
  replace hst : St No w0 [_, _, _, _] w14 := hst.mask [false, true, true, true, true]
  refine wc_cond_f hfr rfl ?_
  refine wc_skip ?_
  refine hK29 _ _ ?_
  refine wc_seq_k fun K31 hK31 => ?_
  refine wc_of_dr (by kernel_rfl) (dr_of_wd (by kernel_rfl) fun w25 hxz => ?_)
  replace hst : St No w0 [own v3 39 3 (ss.map Stt.cells), blk w4.heap.size [.int .i64 cl.number, .int .i64 cl.frm, .int .i64 cl.to, .int .i64 cl.holder, .int .i64 cl.asked, .bool cl.backed] 31, blk w3.heap.size [.int .i64 rl.answer, .int .i64 rl.cooling, .int .i64 rl.settle, .int .i64 rl.reverse] 29, own v1 45 3 (l.map Evt.cells)] w25 := hst.grow hxz
  refine wd_sub (k := 0) 4 [1, 3] hfr (by kernel_rfl) (by kernel_rfl) (by kernel_rfl) (by rfl) ?_
  replace hfr : Fr 238 [(1, _), (6, _), (7, _), (8, _), (9, _), (160, _)] [] a := hfr.pick [1, 6, 7, 8, 9, 160]
  refine wc_phases' 4 [[], [0], [], [2]] (fun i => match i with | 0 => pv (.pointer (some ⟨w4.heap.size, 4, none⟩)) | 1 => pv (.int .i64 cl.asked) | 2 => pv (.int .i64 tt) | 3 => pv (.int .i64 pt) | _ => fun _ _ => False) hfr hst (by kernel_rfl) (by kernel_rfl) ?_ ?_
  · intro i hi
    match i, hi with
    | 0, _ =>
      intro w hst
      exact OpV.g (v_fieldAddr (v := .pointer (some ⟨w4.heap.size, 4, none⟩)) rfl (by kernel_rfl))
    | 1, _ =>
      rintro _ _ ⟨rfl, rfl⟩
      intro w hst
      exact OpV.g (v_load_blk1 (hst.get (k := 1) rfl) rfl (Try.isAgg3 _) rfl)
    | 2, _ =>
      intro w hst
      exact OpV.g (v_move rfl)
    | 3, _ =>
      rintro _ _ ⟨rfl, rfl⟩
      intro w hst
      exact g_callp Try.call15 rfl (pick2 hpt (pick16_ok _ _ _ (by omega) (by omega) (by omega) (by omega)))
  clear hfr hst
  rintro _ _ ⟨rfl, rfl⟩ _ _ ⟨rfl, rfl⟩ _ _ ⟨rfl, rfl⟩ _ _ ⟨rfl, rfl⟩ a w26 hfr hst
  replace hfr : Fr 238 [(161, _), (162, _), (163, _), (164, _), (1, _), (6, _), (7, _), (8, _), (9, _), (160, _)] [] a := hfr
  replace hst : St No w0 [_, _, _, _] w26 := hst
  refine wl_nil ?_
  refine wd_lin (k := 4) 6 [5] (by kernel_rfl) (by kernel_rfl) (by kernel_rfl) ?_
  refine wl_v hfr (by decide) (v_add rfl rfl ⟨by omega, by omega⟩) ?_
  clear hfr
  intro a hfr
  refine wl_v hfr (by decide) (v_assign rfl) ?_
  clear hfr
  intro a hfr
  refine wl_nil ?_
  refine wd_end (by kernel_rfl) ?_
  refine hK31 _ _ ?_
  replace hfr : Fr 238 [(6, _), (7, _), (8, _), (9, _), (1, _)] [] a := hfr.pick [6, 7, 8, 9, 1]
  rw [htq] at hfr
  refine wc_seq_region fun K32 hK32 => ?_
  refine wl_v hfr (by decide) (v_move rfl) ?_
  clear hfr
  intro a hfr
  refine wl_v hfr (by decide) ((v_indexAddr_sl (i := 0) (sT := 47) (hst.ownAt (i := 0) rfl) rfl rfl (Try.runUnderlying47 _) (Try.sizeOf39 _) (by omega) (by simp; omega)).as (v' := slAddr v3 (0 * 3)) rfl) ?_
  clear hfr
  intro a hfr
  refine wl_v hfr (by decide) ((v_load_sl (hst.ownAt (i := 0) rfl) (i := 0) (by simp; omega) rfl (Try.isAgg39 _) (Try.sizeOf39 _)).as (v' := .agg #[.int .i64 1, .int .i64 cl.asked, .int .i64 (cl.asked + rl.answer)]) (by have hq := hf0; rw [List.getD_eq_getElem?_getD, List.getElem?_eq_getElem (by omega), Option.getD_some] at hq; simp [hq, Stt.cells])) ?_
  clear hfr
  intro a hfr
  refine wl_alloc hfr hst (by decide) (Try.zeroValue39 _) (cs := [.int .i64 0, .int .i64 0, .int .i64 0]) rfl ?_
  clear hfr hst
  intro a w27 hfr hst
  refine wl_store 0 hfr hst rfl rfl rfl (Try.sizeOf39 _) rfl (Nat.le_of_ble_eq_true rfl) (ds := [.int .i64 1, .int .i64 cl.asked, .int .i64 (cl.asked + rl.answer)]) rfl rfl ?_
  clear hfr hst
  intro a w28 hfr hst
  refine wl_nil (hK32 _ _ ?_)
  refine wc_seq_k fun K33 hK33 => ?_
  refine wc_seq_region fun K34 hK34 => ?_
  refine wl_v hfr (by decide) (v_assign rfl) ?_
  clear hfr
  intro a hfr
  refine wl_nil (hK34 _ _ ?_)
  refine wc_block ?_
  refine wc_loop (fun m a w => ∃ (j : Nat) (wq : Stt), m = ss.length - j ∧ (j ≤ ss.length) ∧ (wq = (ss.take j).foldl (fun (w s : Stt) => if s.since ≤ tq then s else w) (ss.getD 0 ⟨0, 0, 0⟩)) ∧ Fr 238 [(6, .pointer (some ⟨w3.heap.size, 0, none⟩)), (7, .pointer (some ⟨w4.heap.size, 0, none⟩)), (8, v1), (9, v3), (1, .int .i64 tq), (18, .pointer (some ⟨w26.heap.size, 0, none⟩)), (19, .int .i64 (j : Int))] [] a ∧ St No w0 [blk w26.heap.size [.int .i64 wq.state, .int .i64 wq.since, .int .i64 wq.next] 39, own v3 39 3 (ss.map Stt.cells), blk w4.heap.size [.int .i64 cl.number, .int .i64 cl.frm, .int .i64 cl.to, .int .i64 cl.holder, .int .i64 cl.asked, .bool cl.backed] 31, blk w3.heap.size [.int .i64 rl.answer, .int .i64 rl.cooling, .int .i64 rl.settle, .int .i64 rl.reverse] 29, own v1 45 3 (l.map Evt.cells)] w) _ ⟨0, ⟨1, cl.asked, cl.asked + rl.answer⟩, rfl, Nat.zero_le _, hf0.symm, hfr.pick [6, 7, 8, 9, 1, 18, 19], hst.select [0, 1, 2, 3, 4] (by decide)⟩ ?_
  rintro _ a w29 ⟨j, wq, rfl, hj, hw, hfr, hst⟩
  refine wc_seq_k fun K35 hK35 => ?_
  refine wc_seq_region fun K36 hK36 => ?_
  refine wl_v hfr (by decide) (v_move rfl) ?_
  clear hfr
  intro a hfr
  refine wl_v hfr (by decide) (v_move rfl) ?_
  clear hfr
  intro a hfr
  refine wl_v hfr (by decide) ((v_len_sl (sT := 47) (hst.ownAt (i := 1) rfl) rfl rfl (Try.runUnderlying47 _)).asi (m' := (ss.length : Int)) (by simp)) ?_
  clear hfr
  intro a hfr
  refine wl_v hfr (by decide) (v_lt rfl rfl) ?_
  clear hfr
  intro a hfr
  refine wl_nil (hK36 _ _ ?_)
  refine wc_cond hfr rfl (fun hc12 => ?_) (fun hc12 => ?_)
  · rw [hc12] at hfr
    try simp only [Bool.not_eq_true', Bool.not_eq_false', decide_eq_true_eq, decide_eq_false_iff_not] at hc12
    have hkj : j < ss.length := by omega
    obtain ⟨sj, hsj⟩ : ∃ s, ss.getD j ⟨0, 0, 0⟩ = s := ⟨_, rfl⟩
    refine wc_skip ?_
    refine hK35 _ _ ?_
    refine wc_seq_k fun K37 hK37 => ?_
    refine wc_block ?_
    refine wc_seq_region fun K38 hK38 => ?_
    refine wl_v hfr (by decide) (v_move rfl) ?_
    clear hfr
    intro a hfr
    refine wl_v hfr (by decide) (v_move rfl) ?_
    clear hfr
    intro a hfr
    refine wl_v hfr (by decide) ((v_indexAddr_sl (i := (j : Int)) (sT := 47) (hst.ownAt (i := 1) rfl) rfl rfl (Try.runUnderlying47 _) (Try.sizeOf39 _) (by omega) (by simp; omega)).as (v' := slAddr v3 (j * 3)) rfl) ?_
    clear hfr
    intro a hfr
    refine wl_v hfr (by decide) (v_fieldAddr_sl (k := j * 3) (j := 1) (hst.ownAt (i := 1) rfl) (i := j) (by simp; omega) rfl (fun _ _ => by kernel_rfl)) ?_
    clear hfr
    intro a hfr
    refine wl_v hfr (by decide) (v_load_sl1 (u := .int .i64 sj.since) (i := j) (j := 1) (hst.ownAt (i := 1) rfl) (by simp; omega) rfl (Try.isAgg3 _) (by have hq := hsj; rw [List.getD_eq_getElem?_getD, List.getElem?_eq_getElem (by omega), Option.getD_some] at hq; simp [hq, Stt.cells])) ?_
    clear hfr
    intro a hfr
    refine wl_v hfr (by decide) (v_move rfl) ?_
    clear hfr
    intro a hfr
    refine wl_v hfr (by decide) (v_le rfl rfl) ?_
    clear hfr
    intro a hfr
    refine wl_nil (hK38 _ _ ?_)
    replace hfr : Fr 238 [(6, _), (7, _), (8, _), (9, _), (1, _), (18, _), (19, _), (181, _)] [] a := hfr.pick [6, 7, 8, 9, 1, 18, 19, 181]
    refine wc_cond hfr rfl (fun hc13 => ?_) (fun hc13 => ?_)
    · rw [hc13] at hfr
      try simp only [Bool.not_eq_true', Bool.not_eq_false', decide_eq_true_eq, decide_eq_false_iff_not] at hc13
      refine wc_region ?_
      refine wl_v hfr (by decide) (v_move rfl) ?_
      clear hfr
      intro a hfr
      refine wl_v hfr (by decide) (v_move rfl) ?_
      clear hfr
      intro a hfr
      refine wl_v hfr (by decide) ((v_indexAddr_sl (i := (j : Int)) (sT := 47) (hst.ownAt (i := 1) rfl) rfl rfl (Try.runUnderlying47 _) (Try.sizeOf39 _) (by omega) (by simp; omega)).as (v' := slAddr v3 (j * 3)) rfl) ?_
      clear hfr
      intro a hfr
      refine wl_v hfr (by decide) ((v_load_sl (hst.ownAt (i := 1) rfl) (i := j) (by simp; omega) rfl (Try.isAgg39 _) (Try.sizeOf39 _)).as (v' := .agg #[.int .i64 sj.state, .int .i64 sj.since, .int .i64 sj.next]) (by have hq := hsj; rw [List.getD_eq_getElem?_getD, List.getElem?_eq_getElem (by omega), Option.getD_some] at hq; simp [hq, Stt.cells])) ?_
      clear hfr
      intro a hfr
      refine wl_store 0 hfr hst rfl rfl rfl (Try.sizeOf39 _) rfl (Nat.le_of_ble_eq_true rfl) (ds := [.int .i64 sj.state, .int .i64 sj.since, .int .i64 sj.next]) rfl rfl ?_
      clear hfr hst
      intro a w30 hfr hst
      refine wl_nil ?_
      refine hK37 _ _ ?_
      refine wc_region ?_
      refine wl_v hfr (by decide) (v_move rfl) ?_
      clear hfr
      intro a hfr
      refine wl_v hfr (by decide) (v_add rfl rfl ⟨by omega, by omega⟩) ?_
      clear hfr
      intro a hfr
      refine wl_v hfr (by decide) (v_assign rfl) ?_
      clear hfr
      intro a hfr
      refine wl_nil ?_
      refine ⟨_, ?_, j + 1, sj, rfl, (by omega), (by rw [take_snoc hkj hsj, List.foldl_append, ← hw]; simp [*]), hfr.pick [6, 7, 8, 9, 1, 18, 19], hst.select [0, 1, 2, 3, 4] (by decide)⟩
      omega
    rw [hc13] at hfr
    try simp only [Bool.not_eq_true', Bool.not_eq_false', decide_eq_true_eq, decide_eq_false_iff_not] at hc13
    refine wc_skip ?_
    refine hK37 _ _ ?_
    refine wc_region ?_
    refine wl_v hfr (by decide) (v_move rfl) ?_
    clear hfr
    intro a hfr
    refine wl_v hfr (by decide) (v_add rfl rfl ⟨by omega, by omega⟩) ?_
    clear hfr
    intro a hfr
    refine wl_v hfr (by decide) (v_assign rfl) ?_
    clear hfr
    intro a hfr
    refine wl_nil ?_
    refine ⟨_, ?_, j + 1, wq, rfl, (by omega), (by rw [take_snoc hkj hsj, List.foldl_append, ← hw]; simp; omega), hfr.pick [6, 7, 8, 9, 1, 18, 19], hst.select [0, 1, 2, 3, 4] (by decide)⟩
    omega
  rw [hc12] at hfr
  try simp only [Bool.not_eq_true', Bool.not_eq_false', decide_eq_true_eq, decide_eq_false_iff_not] at hc12
  have hje : j = ss.length := by omega
  rw [hje, List.take_length, ← hfo tq (by omega), hso] at hw
  rw [hw] at hst
  refine wc_exit ?_
  refine hK33 _ _ ?_
  refine wc_seq_region fun K39 hK39 => ?_
  refine wl_v hfr (by decide) (v_load_all (hst.get (k := 3) rfl) rfl (Try.isAgg29 _) (Try.sizeOf29 _)) ?_
  clear hfr
  intro a hfr
  refine wl_v hfr (by decide) (v_load_all (hst.get (k := 2) rfl) rfl (Try.isAgg31 _) (Try.sizeOf31 _)) ?_
  clear hfr
  intro a hfr
  refine wl_v hfr (by decide) (v_move rfl) ?_
  clear hfr
  intro a hfr
  refine wl_v hfr (by decide) (v_move rfl) ?_
  clear hfr
  intro a hfr
  refine wl_callp hfr hst (by decide) Try.call14 rfl (outcome2 (s := so) hso (outcome_ok rl cl v1 l tq _ (hst.ownAt (i := 4) rfl) hv htin)) ?_
  clear hfr hst
  intro a w31 hfr hst
  refine wl_v hfr (by decide) (v_move rfl) ?_
  clear hfr
  intro a hfr
  refine wl_v hfr (by decide) (v_extract rfl rfl) ?_
  clear hfr
  intro a hfr
  refine wl_v hfr (by decide) (v_extract rfl rfl) ?_
  clear hfr
  intro a hfr
  refine wl_alloc hfr hst (by decide) (Try.zeroValue39 _) (cs := [.int .i64 0, .int .i64 0, .int .i64 0]) rfl ?_
  clear hfr hst
  intro a w32 hfr hst
  refine wl_store 0 hfr hst rfl rfl rfl (Try.sizeOf39 _) rfl (Nat.le_of_ble_eq_true rfl) (ds := [.int .i64 so.state, .int .i64 so.since, .int .i64 so.next]) rfl rfl ?_
  clear hfr hst
  intro a w33 hfr hst
  refine wl_v hfr (by decide) (v_assign rfl) ?_
  clear hfr
  intro a hfr
  refine wl_nil (hK39 _ _ ?_)
  replace hfr : Fr 238 [(6, _), (7, _), (8, _), (1, _), (18, _), (20, _), (21, _)] [] a := hfr.pick [6, 7, 8, 1, 18, 20, 21]
  replace hst : St No w0 [_, _, _, _, _] w33 := hst.mask [true, true, false, true, true, true]
  refine wc_seq_region fun K40 hK40 => ?_
  refine wl_v hfr (by decide) (v_load_all (hst.get (k := 3) rfl) rfl (Try.isAgg29 _) (Try.sizeOf29 _)) ?_
  clear hfr
  intro a hfr
  refine wl_v hfr (by decide) (v_load_all (hst.get (k := 2) rfl) rfl (Try.isAgg31 _) (Try.sizeOf31 _)) ?_
  clear hfr
  intro a hfr
  refine wl_v hfr (by decide) (v_move rfl) ?_
  clear hfr
  intro a hfr
  refine wl_v hfr (by decide) (v_move rfl) ?_
  clear hfr
  intro a hfr
  refine wl_callp hfr hst (by decide) Try.call20 rfl (hkw ▸ with2 hso (with_ok rl cl v1 l tq _ (hst.ownAt (i := 4) rfl) hv htin)) ?_
  clear hfr hst
  intro a w34 hfr hst
  refine wl_v hfr (by decide) (v_move rfl) ?_
  clear hfr
  intro a hfr
  refine wl_v hfr (by decide) (v_extract rfl rfl) ?_
  clear hfr
  intro a hfr
  refine wl_v hfr (by decide) (v_extract rfl rfl) ?_
  clear hfr
  intro a hfr
  refine wl_v hfr (by decide) (v_assign rfl) ?_
  clear hfr
  intro a hfr
  refine wl_v hfr (by decide) (v_assign rfl) ?_
  clear hfr
  intro a hfr
  refine wl_nil (hK40 _ _ ?_)
  replace hfr : Fr 238 [(7, _), (18, _), (20, _), (21, _), (22, _), (23, _)] [] a := hfr.pick [7, 18, 20, 21, 22, 23]
  replace hst : St No w0 [_, _, _] w34 := hst.mask [true, true, true, false, false]
  refine wc_seq_region fun K41 hK41 => ?_
  refine wl_v hfr (by decide) (v_fieldAddr (v := .pointer (some ⟨w31.heap.size, 0, none⟩)) rfl (by kernel_rfl)) ?_
  clear hfr
  intro a hfr
  refine wl_v hfr (by decide) (v_load_blk1 (hst.get (k := 0) rfl) rfl (Try.isAgg3 _) rfl) ?_
  clear hfr
  intro a hfr
  refine wl_v hfr (by decide) (v_eq rfl rfl) ?_
  clear hfr
  intro a hfr
  refine wl_v hfr (by decide) (v_move rfl) ?_
  clear hfr
  intro a hfr
  rcases Bool.eq_false_or_eq_true (decide (so.state = 4)) with hb14 | hb14
  · rw [hb14] at hfr
    try simp only [Bool.not_eq_true', Bool.not_eq_false', decide_eq_true_eq, decide_eq_false_iff_not] at hb14
    refine wl_vn hfr (by decide) rfl (by decide) rfl rfl ?_
    clear hfr
    intro a hfr
    refine wl_vn hfr (by decide) rfl (by decide) rfl rfl ?_
    clear hfr
    intro a hfr
    refine wl_vn hfr (by decide) rfl (by decide) rfl rfl ?_
    clear hfr
    intro a hfr
    refine wl_v hfr (by decide) (v_pick_t rfl rfl) ?_
    clear hfr
    intro a hfr
    refine wl_v hfr (by decide) (v_assign rfl) ?_
    clear hfr
    intro a hfr
    refine wl_nil (hK41 _ _ ?_)
    replace hfr : Fr 238 [(7, _), (18, _), (20, _), (21, _), (22, _), (23, _), (24, _)] [] a := hfr.pick [7, 18, 20, 21, 22, 23, 24]
    refine wc_seq_region fun K42 hK42 => ?_
    refine wl_v hfr (by decide) (v_move rfl) ?_
    clear hfr
    intro a hfr
    refine wl_v hfr (by decide) ((v_eq rfl rfl).asb (b' := true) rfl) ?_
    clear hfr
    intro a hfr
    refine wl_v hfr (by decide) (v_move rfl) ?_
    clear hfr
    intro a hfr
    refine wl_vy hfr (by decide) rfl (by decide) rfl (v_move rfl) ?_
    clear hfr
    intro a hfr
    refine wl_vy hfr (by decide) rfl (by decide) rfl ((v_eq rfl rfl).asb (b' := true) rfl) ?_
    clear hfr
    intro a hfr
    refine wl_v hfr (by decide) (v_pick_t rfl rfl) ?_
    clear hfr
    intro a hfr
    refine wl_v hfr (by decide) (v_move rfl) ?_
    clear hfr
    intro a hfr
    refine wl_vy hfr (by decide) rfl (by decide) rfl (v_load_all (hst.get (k := 0) rfl) rfl (Try.isAgg39 _) (Try.sizeOf39 _)) ?_
    clear hfr
    intro a hfr
    refine wl_vy hfr (by decide) rfl (by decide) rfl (v_load_all (hst.get (k := 1) rfl) rfl (Try.isAgg39 _) (Try.sizeOf39 _)) ?_
    clear hfr
    intro a hfr
    refine wl_vy hfr (by decide) rfl (by decide) rfl ((v_eq_agg rfl rfl (by kernel_rfl) (eqStt so.state so.since so.next so.state so.since so.next _)).asb (b' := true) (by simp)) ?_
    clear hfr
    intro a hfr
    refine wl_v hfr (by decide) (v_pick_t rfl rfl) ?_
    clear hfr
    intro a hfr
    refine wl_v hfr (by decide) (v_move rfl) ?_
    clear hfr
    intro a hfr
    refine wl_vy hfr (by decide) rfl (by decide) rfl (v_move rfl) ?_
    clear hfr
    intro a hfr
    refine wl_vy hfr (by decide) rfl (by decide) rfl (v_fieldAddr (v := .pointer (some ⟨w4.heap.size, 2, none⟩)) rfl (by kernel_rfl)) ?_
    clear hfr
    intro a hfr
    refine wl_vy hfr (by decide) rfl (by decide) rfl (v_load_blk1 (hst.get (k := 2) rfl) rfl (Try.isAgg3 _) rfl) ?_
    clear hfr
    intro a hfr
    refine wl_vy hfr (by decide) rfl (by decide) rfl ((v_eq rfl rfl).asb (b' := true) (by simp; omega)) ?_
    clear hfr
    intro a hfr
    refine wl_vy hfr (by decide) rfl (by decide) rfl (v_move rfl) ?_
    clear hfr
    intro a hfr
    refine wl_vy hfr (by decide) rfl (by decide) rfl ((v_eq_bool rfl rfl Try.underlying4).asb (b' := true) rfl) ?_
    clear hfr
    intro a hfr
    refine wl_v hfr (by decide) (v_pick_t rfl rfl) ?_
    clear hfr
    intro a hfr
    refine wl_v hfr (by decide) (v_move rfl) ?_
    clear hfr
    intro a hfr
    refine wl_vy hfr (by decide) rfl (by decide) rfl (v_move rfl) ?_
    clear hfr
    intro a hfr
    refine wl_vy hfr (by decide) rfl (by decide) rfl (v_fieldAddr (v := .pointer (some ⟨w4.heap.size, 1, none⟩)) rfl (by kernel_rfl)) ?_
    clear hfr
    intro a hfr
    refine wl_vy hfr (by decide) rfl (by decide) rfl (v_load_blk1 (hst.get (k := 2) rfl) rfl (Try.isAgg3 _) rfl) ?_
    clear hfr
    intro a hfr
    refine wl_vy hfr (by decide) rfl (by decide) rfl ((v_eq rfl rfl).asb (b' := false) (by simp; omega)) ?_
    clear hfr
    intro a hfr
    refine wl_vy hfr (by decide) rfl (by decide) rfl (v_move rfl) ?_
    clear hfr
    intro a hfr
    refine wl_vy hfr (by decide) rfl (by decide) rfl ((v_not rfl).asb (b' := false) rfl) ?_
    clear hfr
    intro a hfr
    refine wl_vy hfr (by decide) rfl (by decide) rfl ((v_eq_bool rfl rfl Try.underlying4).asb (b' := true) rfl) ?_
    clear hfr
    intro a hfr
    refine wl_v hfr (by decide) (v_pick_t rfl rfl) ?_
    clear hfr
    intro a hfr
    refine wl_v hfr (by decide) (v_assign rfl) ?_
    clear hfr
    intro a hfr
    refine wl_nil (hK42 _ _ ?_)
    replace hfr : Fr 238 [(4, _)] [] a := hfr.pick [4]
    replace hst : St No w0 [] w34 := hst.mask [false, false, false]
    refine wc_ret ?_
    refine fin_ret hfr Try.results6 (resAre_tmp rfl resAre_nil) ?_
    exact ⟨by simp [retv], hst.ext⟩
  rw [hb14] at hfr
  try simp only [Bool.not_eq_true', Bool.not_eq_false', decide_eq_true_eq, decide_eq_false_iff_not] at hb14
  refine wl_vy hfr (by decide) rfl (by decide) rfl (v_fieldAddr (v := .pointer (some ⟨w31.heap.size, 0, none⟩)) rfl (by kernel_rfl)) ?_
  clear hfr
  intro a hfr
  refine wl_vy hfr (by decide) rfl (by decide) rfl (v_load_blk1 (hst.get (k := 0) rfl) rfl (Try.isAgg3 _) rfl) ?_
  clear hfr
  intro a hfr
  refine wl_vy hfr (by decide) rfl (by decide) rfl (v_eq rfl rfl) ?_
  clear hfr
  intro a hfr
  refine wl_v hfr (by decide) (v_pick_f rfl rfl) ?_
  clear hfr
  intro a hfr
  refine wl_v hfr (by decide) (v_assign rfl) ?_
  clear hfr
  intro a hfr
  refine wl_nil (hK41 _ _ ?_)
  replace hfr : Fr 238 [(7, _), (18, _), (20, _), (21, _), (22, _), (23, _), (24, _)] [] a := hfr.pick [7, 18, 20, 21, 22, 23, 24]
  refine wc_seq_region fun K43 hK43 => ?_
  rcases Bool.eq_false_or_eq_true (decide (so.state = 5)) with hb15 | hb15
  · rw [hb15] at hfr
    try simp only [Bool.not_eq_true', Bool.not_eq_false', decide_eq_true_eq, decide_eq_false_iff_not] at hb15
    refine wl_v hfr (by decide) (v_move rfl) ?_
    clear hfr
    intro a hfr
    refine wl_v hfr (by decide) ((v_eq rfl rfl).asb (b' := true) rfl) ?_
    clear hfr
    intro a hfr
    refine wl_v hfr (by decide) (v_move rfl) ?_
    clear hfr
    intro a hfr
    refine wl_vy hfr (by decide) rfl (by decide) rfl (v_move rfl) ?_
    clear hfr
    intro a hfr
    refine wl_vy hfr (by decide) rfl (by decide) rfl ((v_eq rfl rfl).asb (b' := true) rfl) ?_
    clear hfr
    intro a hfr
    refine wl_v hfr (by decide) (v_pick_t rfl rfl) ?_
    clear hfr
    intro a hfr
    refine wl_v hfr (by decide) (v_move rfl) ?_
    clear hfr
    intro a hfr
    refine wl_vy hfr (by decide) rfl (by decide) rfl (v_load_all (hst.get (k := 0) rfl) rfl (Try.isAgg39 _) (Try.sizeOf39 _)) ?_
    clear hfr
    intro a hfr
    refine wl_vy hfr (by decide) rfl (by decide) rfl (v_load_all (hst.get (k := 1) rfl) rfl (Try.isAgg39 _) (Try.sizeOf39 _)) ?_
    clear hfr
    intro a hfr
    refine wl_vy hfr (by decide) rfl (by decide) rfl ((v_eq_agg rfl rfl (by kernel_rfl) (eqStt so.state so.since so.next so.state so.since so.next _)).asb (b' := true) (by simp)) ?_
    clear hfr
    intro a hfr
    refine wl_v hfr (by decide) (v_pick_t rfl rfl) ?_
    clear hfr
    intro a hfr
    refine wl_v hfr (by decide) (v_move rfl) ?_
    clear hfr
    intro a hfr
    refine wl_vy hfr (by decide) rfl (by decide) rfl (v_move rfl) ?_
    clear hfr
    intro a hfr
    refine wl_vy hfr (by decide) rfl (by decide) rfl (v_fieldAddr (v := .pointer (some ⟨w4.heap.size, 2, none⟩)) rfl (by kernel_rfl)) ?_
    clear hfr
    intro a hfr
    refine wl_vy hfr (by decide) rfl (by decide) rfl (v_load_blk1 (hst.get (k := 2) rfl) rfl (Try.isAgg3 _) rfl) ?_
    clear hfr
    intro a hfr
    refine wl_vy hfr (by decide) rfl (by decide) rfl ((v_eq rfl rfl).asb (b' := true) (by simp; omega)) ?_
    clear hfr
    intro a hfr
    refine wl_vy hfr (by decide) rfl (by decide) rfl (v_move rfl) ?_
    clear hfr
    intro a hfr
    refine wl_vy hfr (by decide) rfl (by decide) rfl ((v_eq_bool rfl rfl Try.underlying4).asb (b' := true) rfl) ?_
    clear hfr
    intro a hfr
    refine wl_v hfr (by decide) (v_pick_t rfl rfl) ?_
    clear hfr
    intro a hfr
    refine wl_v hfr (by decide) (v_move rfl) ?_
    clear hfr
    intro a hfr
    refine wl_vy hfr (by decide) rfl (by decide) rfl (v_move rfl) ?_
    clear hfr
    intro a hfr
    refine wl_vy hfr (by decide) rfl (by decide) rfl (v_fieldAddr (v := .pointer (some ⟨w4.heap.size, 1, none⟩)) rfl (by kernel_rfl)) ?_
    clear hfr
    intro a hfr
    refine wl_vy hfr (by decide) rfl (by decide) rfl (v_load_blk1 (hst.get (k := 2) rfl) rfl (Try.isAgg3 _) rfl) ?_
    clear hfr
    intro a hfr
    refine wl_vy hfr (by decide) rfl (by decide) rfl ((v_eq rfl rfl).asb (b' := false) (by simp; omega)) ?_
    clear hfr
    intro a hfr
    refine wl_vy hfr (by decide) rfl (by decide) rfl (v_move rfl) ?_
    clear hfr
    intro a hfr
    refine wl_vy hfr (by decide) rfl (by decide) rfl ((v_not rfl).asb (b' := false) rfl) ?_
    clear hfr
    intro a hfr
    refine wl_vy hfr (by decide) rfl (by decide) rfl ((v_eq_bool rfl rfl Try.underlying4).asb (b' := true) rfl) ?_
    clear hfr
    intro a hfr
    refine wl_v hfr (by decide) (v_pick_t rfl rfl) ?_
    clear hfr
    intro a hfr
    refine wl_v hfr (by decide) (v_assign rfl) ?_
    clear hfr
    intro a hfr
    refine wl_nil (hK43 _ _ ?_)
    replace hfr : Fr 238 [(4, _)] [] a := hfr.pick [4]
    replace hst : St No w0 [] w34 := hst.mask [false, false, false]
    refine wc_ret ?_
    refine fin_ret hfr Try.results6 (resAre_tmp rfl resAre_nil) ?_
    exact ⟨by simp [retv], hst.ext⟩
  rw [hb15] at hfr
  try simp only [Bool.not_eq_true', Bool.not_eq_false', decide_eq_true_eq, decide_eq_false_iff_not] at hb15
  refine wl_v hfr (by decide) (v_move rfl) ?_
  clear hfr
  intro a hfr
  refine wl_v hfr (by decide) ((v_eq rfl rfl).asb (b' := true) rfl) ?_
  clear hfr
  intro a hfr
  refine wl_v hfr (by decide) (v_move rfl) ?_
  clear hfr
  intro a hfr
  refine wl_vy hfr (by decide) rfl (by decide) rfl (v_move rfl) ?_
  clear hfr
  intro a hfr
  refine wl_vy hfr (by decide) rfl (by decide) rfl ((v_eq rfl rfl).asb (b' := true) rfl) ?_
  clear hfr
  intro a hfr
  refine wl_v hfr (by decide) (v_pick_t rfl rfl) ?_
  clear hfr
  intro a hfr
  refine wl_v hfr (by decide) (v_move rfl) ?_
  clear hfr
  intro a hfr
  refine wl_vy hfr (by decide) rfl (by decide) rfl (v_load_all (hst.get (k := 0) rfl) rfl (Try.isAgg39 _) (Try.sizeOf39 _)) ?_
  clear hfr
  intro a hfr
  refine wl_vy hfr (by decide) rfl (by decide) rfl (v_load_all (hst.get (k := 1) rfl) rfl (Try.isAgg39 _) (Try.sizeOf39 _)) ?_
  clear hfr
  intro a hfr
  refine wl_vy hfr (by decide) rfl (by decide) rfl ((v_eq_agg rfl rfl (by kernel_rfl) (eqStt so.state so.since so.next so.state so.since so.next _)).asb (b' := true) (by simp)) ?_
  clear hfr
  intro a hfr
  refine wl_v hfr (by decide) (v_pick_t rfl rfl) ?_
  clear hfr
  intro a hfr
  refine wl_v hfr (by decide) (v_move rfl) ?_
  clear hfr
  intro a hfr
  refine wl_vy hfr (by decide) rfl (by decide) rfl (v_move rfl) ?_
  clear hfr
  intro a hfr
  refine wl_vy hfr (by decide) rfl (by decide) rfl (v_fieldAddr (v := .pointer (some ⟨w4.heap.size, 2, none⟩)) rfl (by kernel_rfl)) ?_
  clear hfr
  intro a hfr
  refine wl_vy hfr (by decide) rfl (by decide) rfl (v_load_blk1 (hst.get (k := 2) rfl) rfl (Try.isAgg3 _) rfl) ?_
  clear hfr
  intro a hfr
  refine wl_vy hfr (by decide) rfl (by decide) rfl ((v_eq rfl rfl).asb (b' := false) (by simp; omega)) ?_
  clear hfr
  intro a hfr
  refine wl_vy hfr (by decide) rfl (by decide) rfl (v_move rfl) ?_
  clear hfr
  intro a hfr
  refine wl_vy hfr (by decide) rfl (by decide) rfl ((v_eq_bool rfl rfl Try.underlying4).asb (b' := true) rfl) ?_
  clear hfr
  intro a hfr
  refine wl_v hfr (by decide) (v_pick_t rfl rfl) ?_
  clear hfr
  intro a hfr
  refine wl_v hfr (by decide) (v_move rfl) ?_
  clear hfr
  intro a hfr
  refine wl_vy hfr (by decide) rfl (by decide) rfl (v_move rfl) ?_
  clear hfr
  intro a hfr
  refine wl_vy hfr (by decide) rfl (by decide) rfl (v_fieldAddr (v := .pointer (some ⟨w4.heap.size, 1, none⟩)) rfl (by kernel_rfl)) ?_
  clear hfr
  intro a hfr
  refine wl_vy hfr (by decide) rfl (by decide) rfl (v_load_blk1 (hst.get (k := 2) rfl) rfl (Try.isAgg3 _) rfl) ?_
  clear hfr
  intro a hfr
  refine wl_vy hfr (by decide) rfl (by decide) rfl ((v_eq rfl rfl).asb (b' := true) (by simp; omega)) ?_
  clear hfr
  intro a hfr
  refine wl_vy hfr (by decide) rfl (by decide) rfl (v_move rfl) ?_
  clear hfr
  intro a hfr
  refine wl_vy hfr (by decide) rfl (by decide) rfl ((v_not rfl).asb (b' := true) rfl) ?_
  clear hfr
  intro a hfr
  refine wl_vy hfr (by decide) rfl (by decide) rfl ((v_eq_bool rfl rfl Try.underlying4).asb (b' := true) rfl) ?_
  clear hfr
  intro a hfr
  refine wl_v hfr (by decide) (v_pick_t rfl rfl) ?_
  clear hfr
  intro a hfr
  refine wl_v hfr (by decide) (v_assign rfl) ?_
  clear hfr
  intro a hfr
  refine wl_nil (hK43 _ _ ?_)
  replace hfr : Fr 238 [(4, _)] [] a := hfr.pick [4]
  replace hst : St No w0 [] w34 := hst.mask [false, false, false]
  refine wc_ret ?_
  refine fin_ret hfr Try.results6 (resAre_tmp rfl resAre_nil) ?_
  exact ⟨by simp [retv], hst.ext⟩
end Go.Proofs.Ytdamipejlfipcaa
