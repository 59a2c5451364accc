import Derived.Test.YtdamipejlfipcaaClaimMv
namespace Go.Proofs.Ytdamipejlfipcaa
open Go.RowKit Go.PW
set_option linter.unusedVariables false
set_option linter.unusedSimpArgs false
set_option maxRecDepth 4000

theorem filt_yes {α : Type} {l : List α} {k : Nat} {d ev : α} {p : α → Bool} (hk : k < l.length) (he : l.getD k d = ev) (hp : p ev = true) : (l.take (k + 1)).filter p = (l.take k).filter p ++ [ev] := by
  rw [take_snoc hk he, List.filter_append]; simp [hp]
theorem filt_no {α : Type} {l : List α} {k : Nat} {d ev : α} {p : α → Bool} (hk : k < l.length) (he : l.getD k d = ev) (hp : p ev = false) : (l.take (k + 1)).filter p = (l.take k).filter p := by
  rw [take_snoc hk he, List.filter_append]; simp [hp]
theorem keep_yes {r : Rul} {b : Bool} {l : List Evt} {vo : List Int} {i k : Nat} (hi : i < l.length) (hk : k < vo.length) (hv : vo.getD k 0 = (i : Int)) (hn : ∃ now, (runE r b i now (l.drop i)).2 = vo.drop k) :
    keepF i (l.drop i) (vo.drop k) = keepF (i + 1) (l.drop (i + 1)) (vo.drop (k + 1)) ∧ ∃ now, (runE r b (i + 1) now (l.drop (i + 1))).2 = vo.drop (k + 1) := by
  obtain ⟨now, hn⟩ := hn
  have hd : vo.drop k = (i : Int) :: vo.drop (k + 1) := by
    rw [List.drop_eq_getElem_cons hk, ← hv]; simp [List.getD_eq_getElem?_getD, List.getElem?_eq_getElem hk]
  have hl := drop_getD l i hi
  rw [hd] at hn ⊢
  rw [hl] at hn ⊢
  refine ⟨by rw [keepF, if_pos (by simp), List.tail_cons], ?_⟩
  cases ha : (after b (lastOf now (alone r (l.getD i ⟨0, 0, 0⟩).at_ now)).state (l.getD i ⟨0, 0, 0⟩)).2 with
  | true =>
    rw [runE_yes rfl ha] at hn
    have := voids_ge (r := r) (b := b) (l.drop (i + 1)) (i + 1) _ (i : Int) (by rw [hn]; simp)
    omega
  | false =>
    rw [runE_no rfl ha] at hn
    exact ⟨_, by injection hn⟩
theorem keep_no {r : Rul} {b : Bool} {l : List Evt} {vo : List Int} {i k : Nat} {ev : Evt} (hi : i < l.length) (he : l.getD i ⟨0, 0, 0⟩ = ev) (hk : vo.length ≤ k ∨ vo.getD k 0 ≠ (i : Int)) (hn : ∃ now, (runE r b i now (l.drop i)).2 = vo.drop k) :
    keepF i (l.drop i) (vo.drop k) = ev :: keepF (i + 1) (l.drop (i + 1)) (vo.drop k) ∧ ∃ now, (runE r b (i + 1) now (l.drop (i + 1))).2 = vo.drop k := by
  obtain ⟨now, hn⟩ := hn
  have hh : (vo.drop k).head? ≠ some (i : Int) := by
    rw [List.head?_drop]
    rcases hk with hk | hk
    · rw [List.getElem?_eq_none hk]; simp
    · rw [List.getD_eq_getElem?_getD] at hk
      intro h; rw [h] at hk; simp at hk
  have hl := drop_getD l i hi
  rw [he] at hl
  rw [hl] at hn ⊢
  refine ⟨by rw [keepF, if_neg hh], ?_⟩
  cases ha : (after b (lastOf now (alone r ev.at_ now)).state ev).2 with
  | true => rw [runE_yes rfl ha] at hn; exact ⟨_, hn⟩
  | false => rw [runE_no rfl ha] at hn; exact absurd (by rw [← hn]; rfl) hh
theorem keep_end {r : Rul} {b : Bool} {l : List Evt} {vo : List Int} {i k : Nat} (hi : l.length ≤ i) (hk : k ≤ vo.length) (hn : ∃ now, (runE r b i now (l.drop i)).2 = vo.drop k) : keepF i (l.drop i) (vo.drop k) = [] ∧ k = vo.length := by
  obtain ⟨now, hn⟩ := hn
  rw [List.drop_eq_nil_of_le hi] at hn ⊢
  rw [runE] at hn
  have : vo.length ≤ k := by
    have := congrArg List.length hn
    simp at this; omega
  exact ⟨rfl, by omega⟩

set_option maxHeartbeats 4000000 in
/-- dialtone/dialtonelaw16.ClaimLater -/
theorem later_walk (x0 x1 x2 x3 y0 y1 y2 y3 y4 y5 : Int) (xv : Value) (xs : List Tri) (w0 : World) (gf : isI64 x0 ∧ isI64 x1 ∧ isI64 x2 ∧ isI64 x3 ∧ isI64 y0 ∧ isI64 y1 ∧ isI64 y2 ∧ isI64 y3 ∧ isI64 y4 ∧ isI64 y5) (hxv : SlAt w0 xv 3 (xs.map Tri.cells)) (hfit : ∀ k, k < xs.length → (xs.getD k ⟨0, 0, 0⟩).fits) (tt : Int) (gtt : isI64 tt) :
    Ret Try.prog 5 #[.agg #[.int .i64 x0, .int .i64 x1, .int .i64 x2, .int .i64 x3, .int .i64 y0, .int .i64 y1, .int .i64 y2, .int .i64 y3, .int .i64 y4, .int .i64 y5, xv], .int .i64 tt] w0 fun v w => v = .bool true ∧ Ext No w0 w := by
  obtain ⟨g0, g1, g2, g3, g4, g5, g6, g7, g8, g9⟩ := gf
  obtain ⟨rl, hrl⟩ : ∃ r, mkRul x0 x1 x2 x3 = r := ⟨_, rfl⟩
  obtain ⟨cl, hcl0⟩ : ∃ c, mkClm y0 y1 y2 y3 y4 y5 = c := ⟨_, rfl⟩
  have hr : areValid rl = true := hrl ▸ mkRul_valid x0 x1 x2 x3
  have hc : isClaim cl = true := hcl0 ▸ (mkClm_valid y0 y1 y2 y3 y4 y5).1
  have ha : cl.asked < 1000 := hcl0 ▸ (mkClm_valid y0 y1 y2 y3 y4 y5).2
  have hcl := isClaim_le hc
  have hrl1 := areValid_le hr
  have hrl2 := mkRul_day x0 x1 x2 x3
  rw [hrl] at hrl2
  obtain ⟨l, hl0⟩ : ∃ l, mkL rl cl xs = l := ⟨_, rfl⟩
  obtain ⟨hv, hl10⟩ : valid rl cl l = true ∧ l.length ≤ 10 := hl0 ▸ mkL_valid hr hc ha xs
  unfold isI64 at gtt
  obtain ⟨pt, hpt⟩ : ∃ k, pick tt 80 = k := ⟨_, rfl⟩
  have bpt := pick_lt tt 80 (by omega)
  rw [hpt] at bpt
  obtain ⟨tq, htq⟩ : ∃ z, max (((cl.asked + pt) - 1)) 0 = z := ⟨_, rfl⟩
  have htq1 : 0 ≤ tq ∧ tq ≤ 2000 := by omega
  have htin : isIn tq 0 20000000 = true := by simp [isIn]; omega
  obtain ⟨so, hso⟩ : ∃ s, outcome rl cl l tq = s := ⟨_, rfl⟩
  obtain ⟨ss, hss⟩ : ∃ s, statuses rl cl l = s := ⟨_, rfl⟩
  obtain ⟨vo, hvo⟩ : ∃ s, voids rl cl l = s := ⟨_, rfl⟩
  obtain ⟨hss2, hvo2, hv2⟩ := statuses_keep hv
  rw [hvo] at hss2 hvo2 hv2
  rw [hss] at hss2
  obtain ⟨kp, hkp⟩ : ∃ z, keepF 0 l vo = z := ⟨_, rfl⟩
  rw [hkp] at hss2 hvo2 hv2
  have hvl : vo.length ≤ l.length := by have h1 := (statuses_chn hv).2; have h2 := voids_len (r := rl) (b := cl.backed) l 0 (first rl cl); rw [← hvo]; exact h2
  have hl20 := (valid_parts hv).2.2.1
  refine ret_of Try.func5 rfl Try.ntmps5 (Nat.le_of_ble_eq_true rfl) fun a hfr => ?_
  replace hfr : Fr 175 [(0, _), (1, _)] [] a := hfr
  replace hst : St No w0 [] w0 := St.init w0
  refine wc_seq_region fun K1 hK1 => ?_
  refine wl_box hfr hst (by decide) rfl (cs := [.int .i64 x0, .int .i64 x1, .int .i64 x2, .int .i64 x3, .int .i64 y0, .int .i64 y1, .int .i64 y2, .int .i64 y3, .int .i64 y4, .int .i64 y5, xv]) rfl ?_
  clear hfr hst
  intro a w1 hfr hst
  refine wl_v hfr (by decide) (v_assign rfl) ?_
  clear hfr
  intro a hfr
  refine wl_nil (hK1 _ _ ?_)
  refine wc_seq_region fun K2 hK2 => ?_
  refine wl_callp hfr hst (by decide) Try.call11 rfl (sane_ok _) ?_
  clear hfr hst
  intro a w2 hfr hst
  refine wl_v hfr (by decide) (v_assign rfl) ?_
  clear hfr
  intro a hfr
  refine wl_nil (hK2 _ _ ?_)
  refine wc_seq_k fun K3 hK3 => ?_
  refine wc_seq_region fun K4 hK4 => ?_
  refine wl_v hfr (by decide) (v_move rfl) ?_
  clear hfr
  intro a hfr
  refine wl_v hfr (by decide) ((v_not rfl).asb (b' := false) rfl) ?_
  clear hfr
  intro a hfr
  refine wl_nil (hK4 _ _ ?_)
  refine wc_cond_f hfr rfl ?_
  refine wc_skip ?_
  refine hK3 _ _ ?_
  refine wc_seq_region fun K5 hK5 => ?_
  refine wl_v hfr (by decide) (v_load_all (hst.get (k := 0) rfl) rfl (Try.isAgg26 _) (Try.sizeOf26 _)) ?_
  clear hfr
  intro a hfr
  refine wl_callm hfr hst (by decide) Try.call12 rfl (made2 hrl hcl0 hl0 (made_ok x0 x1 x2 x3 y0 y1 y2 y3 y4 y5 xv xs _ g0 g1 g2 g3 g4 g5 g6 g7 g8 g9 (hst.arg hxv) hfit)) ?_
  clear hfr hst
  intro a w3 x2 hp hfr hst
  revert x2 hp hfr hst; rintro v1 hp hfr hst
  clear hp
  replace hst : St No w0 [own v1 45 3 (l.map Evt.cells), blk w0.heap.size [.int .i64 x0, .int .i64 x1, .int .i64 x2, .int .i64 x3, .int .i64 y0, .int .i64 y1, .int .i64 y2, .int .i64 y3, .int .i64 y4, .int .i64 y5, xv] 26] w3 := hst
  refine wl_v hfr (by decide) (v_move rfl) ?_
  clear hfr
  intro a hfr
  refine wl_v hfr (by decide) (v_extract rfl rfl) ?_
  clear hfr
  intro a hfr
  refine wl_v hfr (by decide) (v_extract rfl rfl) ?_
  clear hfr
  intro a hfr
  refine wl_v hfr (by decide) (v_extract rfl rfl) ?_
  clear hfr
  intro a hfr
  refine wl_alloc hfr hst (by decide) (Try.zeroValue29 _) (cs := [.int .i64 0, .int .i64 0, .int .i64 0, .int .i64 0]) rfl ?_
  clear hfr hst
  intro a w4 hfr hst
  refine wl_alloc hfr hst (by decide) (Try.zeroValue31 _) (cs := [.int .i64 0, .int .i64 0, .int .i64 0, .int .i64 0, .int .i64 0, .bool false]) rfl ?_
  clear hfr hst
  intro a w5 hfr hst
  refine wl_store 1 hfr hst rfl rfl rfl (Try.sizeOf29 _) rfl (Nat.le_of_ble_eq_true rfl) (ds := [.int .i64 rl.answer, .int .i64 rl.cooling, .int .i64 rl.settle, .int .i64 rl.reverse]) rfl rfl ?_
  clear hfr hst
  intro a w6 hfr hst
  refine wl_store 0 hfr hst rfl rfl rfl (Try.sizeOf31 _) rfl (Nat.le_of_ble_eq_true rfl) (ds := [.int .i64 cl.number, .int .i64 cl.frm, .int .i64 cl.to, .int .i64 cl.holder, .int .i64 cl.asked, .bool cl.backed]) rfl rfl ?_
  clear hfr hst
  intro a w7 hfr hst
  refine wl_v hfr (by decide) (v_assign rfl) ?_
  clear hfr
  intro a hfr
  refine wl_nil (hK5 _ _ ?_)
  replace hfr : Fr 175 [(1, _), (4, _), (6, _), (7, _), (8, _)] [] a := hfr.pick [1, 4, 6, 7, 8]
  replace hst : St No w0 [_, _, _] w7 := hst.mask [true, true, true, false]
  refine wc_seq_k fun K6 hK6 => ?_
  refine wc_of_dr (by kernel_rfl) (dr_of_wd (by kernel_rfl) fun w8 hxz => ?_)
  replace hst : St No w0 [blk w4.heap.size [.int .i64 cl.number, .int .i64 cl.frm, .int .i64 cl.to, .int .i64 cl.holder, .int .i64 cl.asked, .bool cl.backed] 31, blk w3.heap.size [.int .i64 rl.answer, .int .i64 rl.cooling, .int .i64 rl.settle, .int .i64 rl.reverse] 29, own v1 45 3 (l.map Evt.cells)] w8 := hst.grow hxz
  refine wd_sub (k := 0) 4 [1, 3] hfr (by kernel_rfl) (by kernel_rfl) (by kernel_rfl) (by rfl) ?_
  replace hfr : Fr 175 [(1, _), (4, _), (6, _), (7, _), (8, _)] [] a := hfr.pick [1, 4, 6, 7, 8]
  refine wc_phases' 4 [[], [0], [], [2]] (fun i => match i with | 0 => pv (.pointer (some ⟨w4.heap.size, 4, none⟩)) | 1 => pv (.int .i64 cl.asked) | 2 => pv (.int .i64 tt) | 3 => pv (.int .i64 pt) | _ => fun _ _ => False) hfr hst (by kernel_rfl) (by kernel_rfl) ?_ ?_
  · intro i hi
    match i, hi with
    | 0, _ =>
      intro w hst
      exact OpV.g (v_fieldAddr (v := .pointer (some ⟨w4.heap.size, 4, none⟩)) rfl (by kernel_rfl))
    | 1, _ =>
      rintro _ _ ⟨rfl, rfl⟩
      intro w hst
      exact OpV.g (v_load_blk1 (hst.get (k := 0) rfl) rfl (Try.isAgg3 _) rfl)
    | 2, _ =>
      intro w hst
      exact OpV.g (v_move rfl)
    | 3, _ =>
      rintro _ _ ⟨rfl, rfl⟩
      intro w hst
      exact g_callp Try.call15 rfl (pick2 hpt (pick16_ok _ _ _ (by omega) (by omega) (by omega) (by omega)))
  clear hfr hst
  rintro _ _ ⟨rfl, rfl⟩ _ _ ⟨rfl, rfl⟩ _ _ ⟨rfl, rfl⟩ _ _ ⟨rfl, rfl⟩ a w9 hfr hst
  replace hfr : Fr 175 [(35, _), (36, _), (37, _), (38, _), (1, _), (4, _), (6, _), (7, _), (8, _)] [] a := hfr
  replace hst : St No w0 [_, _, _] w9 := hst
  refine wl_nil ?_
  refine wd_lin (k := 4) 7 [6] (by kernel_rfl) (by kernel_rfl) (by kernel_rfl) ?_
  refine wl_v hfr (by decide) (v_add rfl rfl ⟨by omega, by omega⟩) ?_
  clear hfr
  intro a hfr
  refine wl_v hfr (by decide) (v_sub rfl rfl ⟨by omega, by omega⟩) ?_
  clear hfr
  intro a hfr
  refine wl_v hfr (by decide) (v_assign rfl) ?_
  clear hfr
  intro a hfr
  refine wl_nil ?_
  refine wd_end (by kernel_rfl) ?_
  refine hK6 _ _ ?_
  replace hfr : Fr 175 [(4, _), (6, _), (7, _), (8, _), (1, _)] [] a := hfr.pick [4, 6, 7, 8, 1]
  refine wc_seq_region fun K7 hK7 => ?_
  refine wl_v hfr (by decide) (v_move rfl) ?_
  clear hfr
  intro a hfr
  refine wl_v hfr (by decide) (v_max2 rfl rfl) ?_
  clear hfr
  intro a hfr
  refine wl_v hfr (by decide) (v_assign rfl) ?_
  clear hfr
  intro a hfr
  refine wl_nil (hK7 _ _ ?_)
  rw [htq] at hfr
  refine wc_seq_region fun K8 hK8 => ?_
  refine wl_v hfr (by decide) (v_assign rfl) ?_
  clear hfr
  intro a hfr
  refine wl_nil (hK8 _ _ ?_)
  refine wc_seq_k fun K9 hK9 => ?_
  refine wc_seq_region fun K10 hK10 => ?_
  refine wl_v hfr (by decide) (v_assign rfl) ?_
  clear hfr
  intro a hfr
  refine wl_nil (hK10 _ _ ?_)
  refine wc_block ?_
  replace hst : St No w0 (own (.slice none 0 0) 45 3 [] :: [blk w4.heap.size [.int .i64 cl.number, .int .i64 cl.frm, .int .i64 cl.to, .int .i64 cl.holder, .int .i64 cl.asked, .bool cl.backed] 31, blk w3.heap.size [.int .i64 rl.answer, .int .i64 rl.cooling, .int .i64 rl.settle, .int .i64 rl.reverse] 29, own v1 45 3 (l.map Evt.cells)]) w9 := hst.nil_own
  refine wc_loop (fun m a w => ∃ (k : Nat) (v : Value), m = l.length - k ∧ (k ≤ l.length) ∧ Fr 175 [(4, .bool false), (6, .pointer (some ⟨w3.heap.size, 0, none⟩)), (7, .pointer (some ⟨w4.heap.size, 0, none⟩)), (8, v1), (1, .int .i64 tq), (10, .int .i64 (k : Int)), (9, v)] [] a ∧ St No w0 [own v 45 3 (((l.take k).filter (fun e : Evt => decide (e.at_ ≤ tq))).map Evt.cells), blk w4.heap.size [.int .i64 cl.number, .int .i64 cl.frm, .int .i64 cl.to, .int .i64 cl.holder, .int .i64 cl.asked, .bool cl.backed] 31, blk w3.heap.size [.int .i64 rl.answer, .int .i64 rl.cooling, .int .i64 rl.settle, .int .i64 rl.reverse] 29, own v1 45 3 (l.map Evt.cells)] w) _ ⟨0, .slice none 0 0, rfl, Nat.zero_le _, hfr.pick [4, 6, 7, 8, 1, 10, 9], hst.select [0, 1, 2, 3] (by decide)⟩ ?_
  rintro _ a w10 ⟨k, v, rfl, hk, hfr, hst⟩
  refine wc_seq_k fun K11 hK11 => ?_
  refine wc_seq_region fun K12 hK12 => ?_
  refine wl_v hfr (by decide) (v_move rfl) ?_
  clear hfr
  intro a hfr
  refine wl_v hfr (by decide) (v_move rfl) ?_
  clear hfr
  intro a hfr
  refine wl_v hfr (by decide) ((v_len_sl (sT := 32) (hst.ownAt (i := 3) rfl) rfl rfl (Try.runUnderlying32 _)).asi (m' := (l.length : Int)) (by simp)) ?_
  clear hfr
  intro a hfr
  refine wl_v hfr (by decide) (v_lt rfl rfl) ?_
  clear hfr
  intro a hfr
  refine wl_nil (hK12 _ _ ?_)
  refine wc_cond hfr rfl (fun hc3 => ?_) (fun hc3 => ?_)
  · rw [hc3] at hfr
    try simp only [Bool.not_eq_true', Bool.not_eq_false', decide_eq_true_eq, decide_eq_false_iff_not] at hc3
    have hkl : k < l.length := by omega
    obtain ⟨ev, hev⟩ : ∃ ev, l.getD k ⟨0, 0, 0⟩ = ev := ⟨_, rfl⟩
    refine wc_skip ?_
    refine hK11 _ _ ?_
    refine wc_seq_k fun K13 hK13 => ?_
    refine wc_block ?_
    refine wc_seq_region fun K14 hK14 => ?_
    refine wl_v hfr (by decide) (v_move rfl) ?_
    clear hfr
    intro a hfr
    refine wl_v hfr (by decide) (v_move rfl) ?_
    clear hfr
    intro a hfr
    refine wl_v hfr (by decide) ((v_indexAddr_sl (i := (k : Int)) (sT := 32) (hst.ownAt (i := 3) rfl) rfl rfl (Try.runUnderlying32 _) (Try.sizeOf45 _) (by omega) (by simpa using hkl)).as (v' := slAddr v1 (k * 3)) rfl) ?_
    clear hfr
    intro a hfr
    refine wl_v hfr (by decide) (v_fieldAddr_sl (k := k * 3) (j := 1) (hst.ownAt (i := 3) rfl) (i := k) (by simpa using hkl) rfl (fun _ _ => by kernel_rfl)) ?_
    clear hfr
    intro a hfr
    refine wl_v hfr (by decide) (v_load_sl1 (u := .int .i64 ev.at_) (i := k) (j := 1) (hst.ownAt (i := 3) rfl) (by simpa using hkl) rfl (Try.isAgg3 _) (by rw [← hev]; first | (show _ = Value.agg (l.getD k ⟨0, 0, 0⟩).cells.toArray; simp [hkl]) | simp [List.getElem?_eq_getElem hkl, Evt.cells])) ?_
    clear hfr
    intro a hfr
    refine wl_v hfr (by decide) (v_move rfl) ?_
    clear hfr
    intro a hfr
    refine wl_v hfr (by decide) (v_le rfl rfl) ?_
    clear hfr
    intro a hfr
    refine wl_nil (hK14 _ _ ?_)
    replace hfr : Fr 175 [(4, _), (6, _), (7, _), (8, _), (1, _), (10, _), (9, _), (55, _)] [] a := hfr.pick [4, 6, 7, 8, 1, 10, 9, 55]
    refine wc_cond hfr rfl (fun hc4 => ?_) (fun hc4 => ?_)
    · rw [hc4] at hfr
      try simp only [Bool.not_eq_true', Bool.not_eq_false', decide_eq_true_eq, decide_eq_false_iff_not] at hc4
      refine wc_region ?_
      refine wl_v hfr (by decide) (v_move rfl) ?_
      clear hfr
      intro a hfr
      refine wl_v hfr (by decide) (v_move rfl) ?_
      clear hfr
      intro a hfr
      refine wl_v hfr (by decide) (v_move rfl) ?_
      clear hfr
      intro a hfr
      refine wl_v hfr (by decide) ((v_indexAddr_sl (i := (k : Int)) (sT := 32) (hst.ownAt (i := 3) rfl) rfl rfl (Try.runUnderlying32 _) (Try.sizeOf45 _) (by omega) (by simpa using hkl)).as (v' := slAddr v1 (k * 3)) rfl) ?_
      clear hfr
      intro a hfr
      refine wl_v hfr (by decide) ((v_load_sl (hst.ownAt (i := 3) rfl) (i := k) (by simpa using hkl) rfl (Try.isAgg45 _) (Try.sizeOf45 _)).as (v' := .agg #[.int .i64 ev.kind, .int .i64 ev.at_, .int .i64 ev.reason]) (by rw [← hev]; first | (show _ = Value.agg (l.getD k ⟨0, 0, 0⟩).cells.toArray; simp [hkl]) | simp [List.getElem?_eq_getElem hkl, Evt.cells])) ?_
      clear hfr
      intro a hfr
      refine wl_buildSlice (E := 45) (sz := 3) rfl [[.int .i64 ev.kind, .int .i64 ev.at_, .int .i64 ev.reason]] (by kernel_rfl) (by simp) rfl (by decide) (by decide) hfr hst ?_
      clear hfr hst
      intro a w11 hfr hst
      refine wl_append (i := 1) (sT := 32) (inf := Try.t45) (z := .agg #[.int .i64 0, .int .i64 0, .int .i64 0]) (b := 0) (off := 0) (m := 0) (c := 0) rfl rfl rfl (hst.ownAt (i := 0) rfl) (by simp) Try.underlying32 rfl rfl rfl rfl (by decide) (by simp [Value.oneCell']) (by have hby : Try.t45.bytes = 24 := rfl; have h1 := List.length_filter_le (fun e : Evt => decide (e.at_ ≤ tq)) (l.take k); have h2 := List.length_take_le k l; first | (simp [big, hby]; omega) | (simp [big, hby] at *; omega)) (by have hby : Try.t45.bytes = 24 := rfl; have h1 := List.length_filter_le (fun e : Evt => decide (e.at_ ≤ tq)) (l.take k); have h2 := List.length_take_le k l; first | (simp [big, hby]; omega) | (simp [big, hby] at *; omega)) (by decide) hfr hst fun a w12 s5 hfr hst _ => ?_
      refine wl_v hfr (by decide) (v_assign rfl) ?_
      clear hfr
      intro a hfr
      refine wl_nil ?_
      refine hK13 _ _ ?_
      replace hfr : Fr 175 [(4, _), (6, _), (7, _), (8, _), (1, _), (10, _), (9, _)] [] a := hfr.pick [4, 6, 7, 8, 1, 10, 9]
      replace hst : St No w0 [_, _, _, _] w12 := hst.mask [false, true, true, true, true]
      refine wc_region ?_
      refine wl_v hfr (by decide) (v_move rfl) ?_
      clear hfr
      intro a hfr
      refine wl_v hfr (by decide) (v_add rfl rfl ⟨by omega, by omega⟩) ?_
      clear hfr
      intro a hfr
      refine wl_v hfr (by decide) (v_assign rfl) ?_
      clear hfr
      intro a hfr
      refine wl_nil ?_
      rw [show (((l.take k).filter (fun e : Evt => decide (e.at_ ≤ tq))).map Evt.cells) ++ ([[.int .i64 ev.kind, .int .i64 ev.at_, .int .i64 ev.reason]]) = (((l.take (k + 1)).filter (fun e : Evt => decide (e.at_ ≤ tq))).map Evt.cells) from by rw [filt_yes hkl hev (by simp [*])]; simp [Evt.cells]] at hst
      refine ⟨_, ?_, k + 1, s5, rfl, (by omega), hfr.pick [4, 6, 7, 8, 1, 10, 9], hst.select [0, 1, 2, 3] (by decide)⟩
      omega
    rw [hc4] at hfr
    try simp only [Bool.not_eq_true', Bool.not_eq_false', decide_eq_true_eq, decide_eq_false_iff_not] at hc4
    refine wc_skip ?_
    refine hK13 _ _ ?_
    refine wc_region ?_
    refine wl_v hfr (by decide) (v_move rfl) ?_
    clear hfr
    intro a hfr
    refine wl_v hfr (by decide) (v_add rfl rfl ⟨by omega, by omega⟩) ?_
    clear hfr
    intro a hfr
    refine wl_v hfr (by decide) (v_assign rfl) ?_
    clear hfr
    intro a hfr
    refine wl_nil ?_
    rw [show (((l.take k).filter (fun e : Evt => decide (e.at_ ≤ tq))).map Evt.cells) = (((l.take (k + 1)).filter (fun e : Evt => decide (e.at_ ≤ tq))).map Evt.cells) from by rw [filt_no hkl hev (by simp; omega)]] at hst
    refine ⟨_, ?_, k + 1, v, rfl, (by omega), hfr.pick [4, 6, 7, 8, 1, 10, 9], hst.select [0, 1, 2, 3] (by decide)⟩
    omega
  rw [hc3] at hfr
  try simp only [Bool.not_eq_true', Bool.not_eq_false', decide_eq_true_eq, decide_eq_false_iff_not] at hc3
  have hke : k = l.length := by omega
  subst hke
  rw [List.take_length] at hst
  refine wc_exit ?_
  refine hK9 _ _ ?_
  refine wc_seq_region fun K15 hK15 => ?_
  refine wl_v hfr (by decide) (v_load_all (hst.get (k := 2) rfl) rfl (Try.isAgg29 _) (Try.sizeOf29 _)) ?_
  clear hfr
  intro a hfr
  refine wl_v hfr (by decide) (v_load_all (hst.get (k := 1) rfl) rfl (Try.isAgg31 _) (Try.sizeOf31 _)) ?_
  clear hfr
  intro a hfr
  refine wl_v hfr (by decide) (v_move rfl) ?_
  clear hfr
  intro a hfr
  refine wl_v hfr (by decide) (v_move rfl) ?_
  clear hfr
  intro a hfr
  refine wl_callp hfr hst (by decide) Try.call14 rfl (outcome2 (s := so) hso (outcome_ok rl cl v1 l tq _ (hst.ownAt (i := 3) rfl) hv htin)) ?_
  clear hfr hst
  intro a w13 hfr hst
  refine wl_v hfr (by decide) (v_move rfl) ?_
  clear hfr
  intro a hfr
  refine wl_v hfr (by decide) (v_extract rfl rfl) ?_
  clear hfr
  intro a hfr
  refine wl_v hfr (by decide) (v_extract rfl rfl) ?_
  clear hfr
  intro a hfr
  refine wl_alloc hfr hst (by decide) (Try.zeroValue39 _) (cs := [.int .i64 0, .int .i64 0, .int .i64 0]) rfl ?_
  clear hfr hst
  intro a w14 hfr hst
  refine wl_store 0 hfr hst rfl rfl rfl (Try.sizeOf39 _) rfl (Nat.le_of_ble_eq_true rfl) (ds := [.int .i64 so.state, .int .i64 so.since, .int .i64 so.next]) rfl rfl ?_
  clear hfr hst
  intro a w15 hfr hst
  refine wl_v hfr (by decide) (v_assign rfl) ?_
  clear hfr
  intro a hfr
  refine wl_nil (hK15 _ _ ?_)
  replace hfr : Fr 175 [(4, _), (6, _), (7, _), (8, _), (1, _), (9, _), (11, _), (12, _)] [] a := hfr.pick [4, 6, 7, 8, 1, 9, 11, 12]
  refine wc_seq_region fun K16 hK16 => ?_
  refine wl_v hfr (by decide) (v_load_all (hst.get (k := 3) rfl) rfl (Try.isAgg29 _) (Try.sizeOf29 _)) ?_
  clear hfr
  intro a hfr
  refine wl_v hfr (by decide) (v_load_all (hst.get (k := 2) rfl) rfl (Try.isAgg31 _) (Try.sizeOf31 _)) ?_
  clear hfr
  intro a hfr
  refine wl_v hfr (by decide) (v_move rfl) ?_
  clear hfr
  intro a hfr
  refine wl_v hfr (by decide) (v_move rfl) ?_
  clear hfr
  intro a hfr
  refine wl_callp hfr hst (by decide) Try.call14 rfl (outcome2 (s := so) ((outcome_filter hv (by omega)).trans hso) (outcome_ok rl cl v (l.filter (fun e : Evt => decide (e.at_ ≤ tq))) tq _ (hst.ownAt (i := 1) rfl) (valid_sub hv List.filter_sublist) htin)) ?_
  clear hfr hst
  intro a w16 hfr hst
  refine wl_v hfr (by decide) (v_move rfl) ?_
  clear hfr
  intro a hfr
  refine wl_v hfr (by decide) (v_extract rfl rfl) ?_
  clear hfr
  intro a hfr
  refine wl_v hfr (by decide) (v_extract rfl rfl) ?_
  clear hfr
  intro a hfr
  refine wl_alloc hfr hst (by decide) (Try.zeroValue39 _) (cs := [.int .i64 0, .int .i64 0, .int .i64 0]) rfl ?_
  clear hfr hst
  intro a w17 hfr hst
  refine wl_store 0 hfr hst rfl rfl rfl (Try.sizeOf39 _) rfl (Nat.le_of_ble_eq_true rfl) (ds := [.int .i64 so.state, .int .i64 so.since, .int .i64 so.next]) rfl rfl ?_
  clear hfr hst
  intro a w18 hfr hst
  refine wl_v hfr (by decide) (v_assign rfl) ?_
  clear hfr
  intro a hfr
  refine wl_nil (hK16 _ _ ?_)
  replace hfr : Fr 175 [(4, _), (6, _), (7, _), (8, _), (11, _), (12, _), (13, _), (14, _)] [] a := hfr.pick [4, 6, 7, 8, 11, 12, 13, 14]
  refine wc_seq_region fun K17 hK17 => ?_
  refine wl_v hfr (by decide) (v_load_all (hst.get (k := 4) rfl) rfl (Try.isAgg29 _) (Try.sizeOf29 _)) ?_
  clear hfr
  intro a hfr
  refine wl_v hfr (by decide) (v_load_all (hst.get (k := 3) rfl) rfl (Try.isAgg31 _) (Try.sizeOf31 _)) ?_
  clear hfr
  intro a hfr
  refine wl_v hfr (by decide) (v_move rfl) ?_
  clear hfr
  intro a hfr
  refine wl_callm hfr hst (by decide) Try.call17 rfl (void3 hvo (void_ok rl cl v1 l _ (hst.ownAt (i := 5) rfl) hv)) ?_
  clear hfr hst
  intro a w19 x7 hp hfr hst
  revert x7 hp hfr hst; rintro v6 hp hfr hst
  clear hp
  replace hst : St No w0 [own v6 3 1 (vo.map fun i => [.int .i64 i]), blk w16.heap.size [.int .i64 so.state, .int .i64 so.since, .int .i64 so.next] 39, blk w13.heap.size [.int .i64 so.state, .int .i64 so.since, .int .i64 so.next] 39, own v 45 3 ((l.filter (fun e : Evt => decide (e.at_ ≤ tq))).map Evt.cells), blk w4.heap.size [.int .i64 cl.number, .int .i64 cl.frm, .int .i64 cl.to, .int .i64 cl.holder, .int .i64 cl.asked, .bool cl.backed] 31, blk w3.heap.size [.int .i64 rl.answer, .int .i64 rl.cooling, .int .i64 rl.settle, .int .i64 rl.reverse] 29, own v1 45 3 (l.map Evt.cells)] w19 := hst
  refine wl_v hfr (by decide) (v_move rfl) ?_
  clear hfr
  intro a hfr
  refine wl_v hfr (by decide) (v_extract rfl rfl) ?_
  clear hfr
  intro a hfr
  refine wl_v hfr (by decide) (v_extract rfl rfl) ?_
  clear hfr
  intro a hfr
  refine wl_v hfr (by decide) (v_assign rfl) ?_
  clear hfr
  intro a hfr
  refine wl_v hfr (by decide) (v_assign rfl) ?_
  clear hfr
  intro a hfr
  refine wl_nil (hK17 _ _ ?_)
  replace hfr : Fr 175 [(4, _), (6, _), (7, _), (8, _), (11, _), (12, _), (13, _), (14, _), (15, _), (16, _)] [] a := hfr.pick [4, 6, 7, 8, 11, 12, 13, 14, 15, 16]
  refine wc_seq_k fun K18 hK18 => ?_
  refine wc_seq_region fun K19 hK19 => ?_
  refine wl_v hfr (by decide) (v_move rfl) ?_
  clear hfr
  intro a hfr
  refine wl_v hfr (by decide) ((v_ne rfl rfl).asb (b' := false) rfl) ?_
  clear hfr
  intro a hfr
  refine wl_v hfr (by decide) (v_move rfl) ?_
  clear hfr
  intro a hfr
  refine wl_vy hfr (by decide) rfl (by decide) rfl (v_move rfl) ?_
  clear hfr
  intro a hfr
  refine wl_vy hfr (by decide) rfl (by decide) rfl ((v_ne rfl rfl).asb (b' := false) rfl) ?_
  clear hfr
  intro a hfr
  refine wl_v hfr (by decide) (v_pick_f rfl rfl) ?_
  clear hfr
  intro a hfr
  refine wl_v hfr (by decide) (v_move rfl) ?_
  clear hfr
  intro a hfr
  refine wl_vy hfr (by decide) rfl (by decide) rfl (v_move rfl) ?_
  clear hfr
  intro a hfr
  refine wl_vy hfr (by decide) rfl (by decide) rfl ((v_ne rfl rfl).asb (b' := false) rfl) ?_
  clear hfr
  intro a hfr
  refine wl_v hfr (by decide) (v_pick_f rfl rfl) ?_
  clear hfr
  intro a hfr
  refine wl_v hfr (by decide) (v_move rfl) ?_
  clear hfr
  intro a hfr
  refine wl_vy hfr (by decide) rfl (by decide) rfl (v_load_all (hst.get (k := 2) rfl) rfl (Try.isAgg39 _) (Try.sizeOf39 _)) ?_
  clear hfr
  intro a hfr
  refine wl_vy hfr (by decide) rfl (by decide) rfl (v_load_all (hst.get (k := 1) rfl) rfl (Try.isAgg39 _) (Try.sizeOf39 _)) ?_
  clear hfr
  intro a hfr
  refine wl_vy hfr (by decide) rfl (by decide) rfl ((v_ne_agg rfl rfl (by kernel_rfl) (eqStt so.state so.since so.next so.state so.since so.next _)).asb (b' := false) (by simp)) ?_
  clear hfr
  intro a hfr
  refine wl_v hfr (by decide) (v_pick_f rfl rfl) ?_
  clear hfr
  intro a hfr
  refine wl_nil (hK19 _ _ ?_)
  replace hfr : Fr 175 [(4, _), (6, _), (7, _), (8, _), (15, _), (100, _)] [] a := hfr.pick [4, 6, 7, 8, 15, 100]
  replace hst : St No w0 [_, _, _, _, _] w19 := hst.mask [true, false, false, true, true, true, true]
  refine wc_cond_f hfr rfl ?_
  refine wc_skip ?_
  refine hK18 _ _ ?_
  refine wc_seq_region fun K20 hK20 => ?_
  refine wl_v hfr (by decide) (v_assign rfl) ?_
  clear hfr
  intro a hfr
  refine wl_nil (hK20 _ _ ?_)
  refine wc_seq_region fun K21 hK21 => ?_
  refine wl_v hfr (by decide) (v_assign rfl) ?_
  clear hfr
  intro a hfr
  refine wl_nil (hK21 _ _ ?_)
  refine wc_seq_k fun K22 hK22 => ?_
  refine wc_seq_region fun K23 hK23 => ?_
  refine wl_v hfr (by decide) (v_assign rfl) ?_
  clear hfr
  intro a hfr
  refine wl_nil (hK23 _ _ ?_)
  refine wc_block ?_
  replace hst : St No w0 (own (.slice none 0 0) 45 3 [] :: [own v6 3 1 (vo.map fun i => [.int .i64 i]), own v 45 3 ((l.filter (fun e : Evt => decide (e.at_ ≤ tq))).map Evt.cells), blk w4.heap.size [.int .i64 cl.number, .int .i64 cl.frm, .int .i64 cl.to, .int .i64 cl.holder, .int .i64 cl.asked, .bool cl.backed] 31, blk w3.heap.size [.int .i64 rl.answer, .int .i64 rl.cooling, .int .i64 rl.settle, .int .i64 rl.reverse] 29, own v1 45 3 (l.map Evt.cells)]) w19 := hst.nil_own
  refine wc_loop (fun m a w => ∃ (k : Nat) (i : Nat) (rest : List Evt) (u : Value), m = l.length - i ∧ (k ≤ vo.length) ∧ (i ≤ l.length) ∧ (rest.length ≤ i) ∧ (rest ++ keepF i (l.drop i) (vo.drop k) = kp) ∧ (∃ now, (runE rl cl.backed i now (l.drop i)).2 = vo.drop k) ∧ Fr 175 [(4, .bool false), (6, .pointer (some ⟨w3.heap.size, 0, none⟩)), (7, .pointer (some ⟨w4.heap.size, 0, none⟩)), (8, v1), (15, v6), (18, .int .i64 (k : Int)), (19, .int .i64 (i : Int)), (17, u)] [] a ∧ St No w0 [own u 45 3 (rest.map Evt.cells), own v6 3 1 (vo.map fun i => [.int .i64 i]), own v 45 3 ((l.filter (fun e : Evt => decide (e.at_ ≤ tq))).map Evt.cells), blk w4.heap.size [.int .i64 cl.number, .int .i64 cl.frm, .int .i64 cl.to, .int .i64 cl.holder, .int .i64 cl.asked, .bool cl.backed] 31, blk w3.heap.size [.int .i64 rl.answer, .int .i64 rl.cooling, .int .i64 rl.settle, .int .i64 rl.reverse] 29, own v1 45 3 (l.map Evt.cells)] w) _ ⟨0, 0, [], .slice none 0 0, rfl, Nat.zero_le _, Nat.zero_le _, Nat.zero_le _, hkp, ⟨_, hvo⟩, hfr.pick [4, 6, 7, 8, 15, 18, 19, 17], hst.select [0, 1, 2, 3, 4, 5] (by decide)⟩ ?_
  rintro _ a w20 ⟨k, i, rest, u, rfl, hkv0, hi, hrl3, hrest, hnow, hfr, hst⟩
  refine wc_seq_k fun K24 hK24 => ?_
  refine wc_seq_region fun K25 hK25 => ?_
  refine wl_v hfr (by decide) (v_move rfl) ?_
  clear hfr
  intro a hfr
  refine wl_v hfr (by decide) (v_move rfl) ?_
  clear hfr
  intro a hfr
  refine wl_v hfr (by decide) ((v_len_sl (sT := 32) (hst.ownAt (i := 5) rfl) rfl rfl (Try.runUnderlying32 _)).asi (m' := (l.length : Int)) (by simp)) ?_
  clear hfr
  intro a hfr
  refine wl_v hfr (by decide) (v_lt rfl rfl) ?_
  clear hfr
  intro a hfr
  refine wl_nil (hK25 _ _ ?_)
  refine wc_cond hfr rfl (fun hc8 => ?_) (fun hc8 => ?_)
  · rw [hc8] at hfr
    try simp only [Bool.not_eq_true', Bool.not_eq_false', decide_eq_true_eq, decide_eq_false_iff_not] at hc8
    have hil : i < l.length := by omega
    have hkl : i < l.length := hil
    obtain ⟨ev, hev⟩ : ∃ ev, l.getD i ⟨0, 0, 0⟩ = ev := ⟨_, rfl⟩
    obtain ⟨vk, hvk⟩ : ∃ z, vo.getD k 0 = z := ⟨_, rfl⟩
    refine wc_skip ?_
    refine hK24 _ _ ?_
    refine wc_seq_k fun K26 hK26 => ?_
    refine wc_block ?_
    refine wc_seq_region fun K27 hK27 => ?_
    refine wl_v hfr (by decide) (v_move rfl) ?_
    clear hfr
    intro a hfr
    refine wl_v hfr (by decide) (v_move rfl) ?_
    clear hfr
    intro a hfr
    refine wl_v hfr (by decide) ((v_len_sl (sT := 49) (hst.ownAt (i := 1) rfl) rfl rfl (Try.runUnderlying49 _)).asi (m' := (vo.length : Int)) (by simp)) ?_
    clear hfr
    intro a hfr
    refine wl_v hfr (by decide) (v_lt rfl rfl) ?_
    clear hfr
    intro a hfr
    refine wl_v hfr (by decide) (v_move rfl) ?_
    clear hfr
    intro a hfr
    rcases Bool.eq_false_or_eq_true (decide ((k : Int) < (vo.length : Int))) with hb9 | hb9
    · rw [hb9] at hfr
      try simp only [Bool.not_eq_true', Bool.not_eq_false', decide_eq_true_eq, decide_eq_false_iff_not] at hb9
      have hkv : k < vo.length := by omega
      refine wl_vy hfr (by decide) rfl (by decide) rfl (v_move rfl) ?_
      clear hfr
      intro a hfr
      refine wl_vy hfr (by decide) rfl (by decide) rfl (v_move rfl) ?_
      clear hfr
      intro a hfr
      refine wl_vy hfr (by decide) rfl (by decide) rfl ((v_indexAddr_sl (i := (k : Int)) (sT := 49) (hst.ownAt (i := 1) rfl) rfl rfl (Try.runUnderlying49 _) (Try.sizeOf3 _) (by omega) (by simpa using hkv)).as (v' := slAddr v6 (k * 1)) rfl) ?_
      clear hfr
      intro a hfr
      refine wl_vy hfr (by decide) rfl (by decide) rfl (v_load_sl1 (u := .int .i64 vk) (i := k) (j := 0) (hst.ownAt (i := 1) rfl) (by simpa using hkv) rfl (Try.isAgg3 _) (by rw [← hvk]; simp [List.getD_eq_getElem?_getD, List.getElem?_eq_getElem hkv])) ?_
      clear hfr
      intro a hfr
      refine wl_vy hfr (by decide) rfl (by decide) rfl (v_move rfl) ?_
      clear hfr
      intro a hfr
      refine wl_vy hfr (by decide) rfl (by decide) rfl (v_eq rfl rfl) ?_
      clear hfr
      intro a hfr
      refine wl_v hfr (by decide) (v_pick_t rfl rfl) ?_
      clear hfr
      intro a hfr
      refine wl_nil (hK27 _ _ ?_)
      replace hfr : Fr 175 [(4, _), (6, _), (7, _), (8, _), (15, _), (18, _), (19, _), (17, _), (118, _)] [] a := hfr.pick [4, 6, 7, 8, 15, 18, 19, 17, 118]
      refine wc_cond hfr rfl (fun hc10 => ?_) (fun hc10 => ?_)
      · rw [hc10] at hfr
        try simp only [Bool.not_eq_true', Bool.not_eq_false', decide_eq_true_eq, decide_eq_false_iff_not] at hc10
        refine wc_region ?_
        refine wl_v hfr (by decide) (v_move rfl) ?_
        clear hfr
        intro a hfr
        refine wl_v hfr (by decide) (v_add rfl rfl ⟨by omega, by omega⟩) ?_
        clear hfr
        intro a hfr
        refine wl_v hfr (by decide) (v_assign rfl) ?_
        clear hfr
        intro a hfr
        refine wl_nil ?_
        refine hK26 _ _ ?_
        refine wc_region ?_
        refine wl_v hfr (by decide) (v_move rfl) ?_
        clear hfr
        intro a hfr
        refine wl_v hfr (by decide) (v_add rfl rfl ⟨by omega, by omega⟩) ?_
        clear hfr
        intro a hfr
        refine wl_v hfr (by decide) (v_assign rfl) ?_
        clear hfr
        intro a hfr
        refine wl_nil ?_
        obtain ⟨hk1, hk2⟩ := keep_yes hil hkv (by omega) hnow
        refine ⟨_, ?_, k + 1, i + 1, rest, u, rfl, (by omega), (by omega), (by omega), (by rw [← hk1]; exact hrest), hk2, hfr.pick [4, 6, 7, 8, 15, 18, 19, 17], hst.select [0, 1, 2, 3, 4, 5] (by decide)⟩
        omega
      rw [hc10] at hfr
      try simp only [Bool.not_eq_true', Bool.not_eq_false', decide_eq_true_eq, decide_eq_false_iff_not] at hc10
      refine wc_region ?_
      refine wl_v hfr (by decide) (v_move rfl) ?_
      clear hfr
      intro a hfr
      refine wl_v hfr (by decide) (v_move rfl) ?_
      clear hfr
      intro a hfr
      refine wl_v hfr (by decide) (v_move rfl) ?_
      clear hfr
      intro a hfr
      refine wl_v hfr (by decide) ((v_indexAddr_sl (i := (i : Int)) (sT := 32) (hst.ownAt (i := 5) rfl) rfl rfl (Try.runUnderlying32 _) (Try.sizeOf45 _) (by omega) (by simpa using hkl)).as (v' := slAddr v1 (i * 3)) rfl) ?_
      clear hfr
      intro a hfr
      refine wl_v hfr (by decide) ((v_load_sl (hst.ownAt (i := 5) rfl) (i := i) (by simpa using hkl) rfl (Try.isAgg45 _) (Try.sizeOf45 _)).as (v' := .agg #[.int .i64 ev.kind, .int .i64 ev.at_, .int .i64 ev.reason]) (by rw [← hev]; first | (show _ = Value.agg (l.getD i ⟨0, 0, 0⟩).cells.toArray; simp [hkl]) | simp [List.getElem?_eq_getElem hkl, Evt.cells])) ?_
      clear hfr
      intro a hfr
      refine wl_buildSlice (E := 45) (sz := 3) rfl [[.int .i64 ev.kind, .int .i64 ev.at_, .int .i64 ev.reason]] (by kernel_rfl) (by simp) rfl (by decide) (by decide) hfr hst ?_
      clear hfr hst
      intro a w21 hfr hst
      refine wl_append (i := 1) (sT := 32) (inf := Try.t45) (z := .agg #[.int .i64 0, .int .i64 0, .int .i64 0]) (b := 0) (off := 0) (m := 0) (c := 0) rfl rfl rfl (hst.ownAt (i := 0) rfl) (by simp) Try.underlying32 rfl rfl rfl rfl (by decide) (by simp [Value.oneCell']) (by have hby : Try.t45.bytes = 24 := rfl; have h1 := List.length_filter_le (fun e : Evt => decide (e.at_ ≤ tq)) (l.take k); have h2 := List.length_take_le k l; first | (simp [big, hby]; omega) | (simp [big, hby] at *; omega)) (by have hby : Try.t45.bytes = 24 := rfl; have h1 := List.length_filter_le (fun e : Evt => decide (e.at_ ≤ tq)) (l.take k); have h2 := List.length_take_le k l; first | (simp [big, hby]; omega) | (simp [big, hby] at *; omega)) (by decide) hfr hst fun a w22 s11 hfr hst _ => ?_
      refine wl_v hfr (by decide) (v_assign rfl) ?_
      clear hfr
      intro a hfr
      refine wl_nil ?_
      refine hK26 _ _ ?_
      replace hfr : Fr 175 [(4, _), (6, _), (7, _), (8, _), (15, _), (18, _), (19, _), (17, _)] [] a := hfr.pick [4, 6, 7, 8, 15, 18, 19, 17]
      replace hst : St No w0 [_, _, _, _, _, _] w22 := hst.mask [false, true, true, true, true, true, true]
      refine wc_region ?_
      refine wl_v hfr (by decide) (v_move rfl) ?_
      clear hfr
      intro a hfr
      refine wl_v hfr (by decide) (v_add rfl rfl ⟨by omega, by omega⟩) ?_
      clear hfr
      intro a hfr
      refine wl_v hfr (by decide) (v_assign rfl) ?_
      clear hfr
      intro a hfr
      refine wl_nil ?_
      obtain ⟨hk1, hk2⟩ := keep_no hil hev (by omega) hnow
      rw [show (rest.map Evt.cells) ++ ([[.int .i64 ev.kind, .int .i64 ev.at_, .int .i64 ev.reason]]) = ((rest ++ [ev]).map Evt.cells) from by simp [Evt.cells]] at hst
      refine ⟨_, ?_, k, i + 1, rest ++ [ev], s11, rfl, hkv0, (by omega), (by simp; omega), (by rw [hk1] at hrest; rw [← hrest]; simp), hk2, hfr.pick [4, 6, 7, 8, 15, 18, 19, 17], hst.select [0, 1, 2, 3, 4, 5] (by decide)⟩
      omega
    rw [hb9] at hfr
    try simp only [Bool.not_eq_true', Bool.not_eq_false', decide_eq_true_eq, decide_eq_false_iff_not] at hb9
    refine wl_vn hfr (by decide) rfl (by decide) rfl rfl ?_
    clear hfr
    intro a hfr
    refine wl_vn hfr (by decide) rfl (by decide) rfl rfl ?_
    clear hfr
    intro a hfr
    refine wl_vn hfr (by decide) rfl (by decide) rfl rfl ?_
    clear hfr
    intro a hfr
    refine wl_vn hfr (by decide) rfl (by decide) rfl rfl ?_
    clear hfr
    intro a hfr
    refine wl_vn hfr (by decide) rfl (by decide) rfl rfl ?_
    clear hfr
    intro a hfr
    refine wl_vn hfr (by decide) rfl (by decide) rfl rfl ?_
    clear hfr
    intro a hfr
    refine wl_v hfr (by decide) (v_pick_f rfl rfl) ?_
    clear hfr
    intro a hfr
    refine wl_nil (hK27 _ _ ?_)
    replace hfr : Fr 175 [(4, _), (6, _), (7, _), (8, _), (15, _), (18, _), (19, _), (17, _), (118, _)] [] a := hfr.pick [4, 6, 7, 8, 15, 18, 19, 17, 118]
    refine wc_cond_f hfr rfl ?_
    refine wc_region ?_
    refine wl_v hfr (by decide) (v_move rfl) ?_
    clear hfr
    intro a hfr
    refine wl_v hfr (by decide) (v_move rfl) ?_
    clear hfr
    intro a hfr
    refine wl_v hfr (by decide) (v_move rfl) ?_
    clear hfr
    intro a hfr
    refine wl_v hfr (by decide) ((v_indexAddr_sl (i := (i : Int)) (sT := 32) (hst.ownAt (i := 5) rfl) rfl rfl (Try.runUnderlying32 _) (Try.sizeOf45 _) (by omega) (by simpa using hkl)).as (v' := slAddr v1 (i * 3)) rfl) ?_
    clear hfr
    intro a hfr
    refine wl_v hfr (by decide) ((v_load_sl (hst.ownAt (i := 5) rfl) (i := i) (by simpa using hkl) rfl (Try.isAgg45 _) (Try.sizeOf45 _)).as (v' := .agg #[.int .i64 ev.kind, .int .i64 ev.at_, .int .i64 ev.reason]) (by rw [← hev]; first | (show _ = Value.agg (l.getD i ⟨0, 0, 0⟩).cells.toArray; simp [hkl]) | simp [List.getElem?_eq_getElem hkl, Evt.cells])) ?_
    clear hfr
    intro a hfr
    refine wl_buildSlice (E := 45) (sz := 3) rfl [[.int .i64 ev.kind, .int .i64 ev.at_, .int .i64 ev.reason]] (by kernel_rfl) (by simp) rfl (by decide) (by decide) hfr hst ?_
    clear hfr hst
    intro a w23 hfr hst
    refine wl_append (i := 1) (sT := 32) (inf := Try.t45) (z := .agg #[.int .i64 0, .int .i64 0, .int .i64 0]) (b := 0) (off := 0) (m := 0) (c := 0) rfl rfl rfl (hst.ownAt (i := 0) rfl) (by simp) Try.underlying32 rfl rfl rfl rfl (by decide) (by simp [Value.oneCell']) (by have hby : Try.t45.bytes = 24 := rfl; have h1 := List.length_filter_le (fun e : Evt => decide (e.at_ ≤ tq)) (l.take k); have h2 := List.length_take_le k l; first | (simp [big, hby]; omega) | (simp [big, hby] at *; omega)) (by have hby : Try.t45.bytes = 24 := rfl; have h1 := List.length_filter_le (fun e : Evt => decide (e.at_ ≤ tq)) (l.take k); have h2 := List.length_take_le k l; first | (simp [big, hby]; omega) | (simp [big, hby] at *; omega)) (by decide) hfr hst fun a w24 s12 hfr hst _ => ?_
    refine wl_v hfr (by decide) (v_assign rfl) ?_
    clear hfr
    intro a hfr
    refine wl_nil ?_
    refine hK26 _ _ ?_
    replace hfr : Fr 175 [(4, _), (6, _), (7, _), (8, _), (15, _), (18, _), (19, _), (17, _)] [] a := hfr.pick [4, 6, 7, 8, 15, 18, 19, 17]
    replace hst : St No w0 [_, _, _, _, _, _] w24 := hst.mask [false, true, true, true, true, true, true]
    refine wc_region ?_
    refine wl_v hfr (by decide) (v_move rfl) ?_
    clear hfr
    intro a hfr
    refine wl_v hfr (by decide) (v_add rfl rfl ⟨by omega, by omega⟩) ?_
    clear hfr
    intro a hfr
    refine wl_v hfr (by decide) (v_assign rfl) ?_
    clear hfr
    intro a hfr
    refine wl_nil ?_
    obtain ⟨hk1, hk2⟩ := keep_no hil hev (by omega) hnow
    rw [show (rest.map Evt.cells) ++ ([[.int .i64 ev.kind, .int .i64 ev.at_, .int .i64 ev.reason]]) = ((rest ++ [ev]).map Evt.cells) from by simp [Evt.cells]] at hst
    refine ⟨_, ?_, k, i + 1, rest ++ [ev], s12, rfl, hkv0, (by omega), (by simp; omega), (by rw [hk1] at hrest; rw [← hrest]; simp), hk2, hfr.pick [4, 6, 7, 8, 15, 18, 19, 17], hst.select [0, 1, 2, 3, 4, 5] (by decide)⟩
    omega
  rw [hc8] at hfr
  try simp only [Bool.not_eq_true', Bool.not_eq_false', decide_eq_true_eq, decide_eq_false_iff_not] at hc8
  obtain ⟨hk1, hk2⟩ := keep_end (by omega) hkv0 hnow
  rw [hk1, List.append_nil] at hrest
  rw [hrest] at hst
  refine wc_exit ?_
  refine hK22 _ _ ?_
  refine wc_seq_region fun K28 hK28 => ?_
  refine wl_v hfr (by decide) (v_load_all (hst.get (k := 4) rfl) rfl (Try.isAgg29 _) (Try.sizeOf29 _)) ?_
  clear hfr
  intro a hfr
  refine wl_v hfr (by decide) (v_load_all (hst.get (k := 3) rfl) rfl (Try.isAgg31 _) (Try.sizeOf31 _)) ?_
  clear hfr
  intro a hfr
  refine wl_v hfr (by decide) (v_move rfl) ?_
  clear hfr
  intro a hfr
  refine wl_callm hfr hst (by decide) Try.call18 rfl (timeline3 hss (timeline_ok rl cl v1 l _ (hst.ownAt (i := 5) rfl) hv)) ?_
  clear hfr hst
  intro a w25 x14 hp hfr hst
  revert x14 hp hfr hst; rintro v13 hp hfr hst
  clear hp
  replace hst : St No w0 [own v13 39 3 (ss.map Stt.cells), own u 45 3 (kp.map Evt.cells), own v6 3 1 (vo.map fun i => [.int .i64 i]), own v 45 3 ((l.filter (fun e : Evt => decide (e.at_ ≤ tq))).map Evt.cells), blk w4.heap.size [.int .i64 cl.number, .int .i64 cl.frm, .int .i64 cl.to, .int .i64 cl.holder, .int .i64 cl.asked, .bool cl.backed] 31, blk w3.heap.size [.int .i64 rl.answer, .int .i64 rl.cooling, .int .i64 rl.settle, .int .i64 rl.reverse] 29, own v1 45 3 (l.map Evt.cells)] w25 := hst
  refine wl_v hfr (by decide) (v_move rfl) ?_
  clear hfr
  intro a hfr
  refine wl_v hfr (by decide) (v_extract rfl rfl) ?_
  clear hfr
  intro a hfr
  refine wl_v hfr (by decide) (v_extract rfl rfl) ?_
  clear hfr
  intro a hfr
  refine wl_v hfr (by decide) (v_assign rfl) ?_
  clear hfr
  intro a hfr
  refine wl_v hfr (by decide) (v_assign rfl) ?_
  clear hfr
  intro a hfr
  refine wl_nil (hK28 _ _ ?_)
  replace hfr : Fr 175 [(4, _), (6, _), (7, _), (15, _), (18, _), (17, _), (20, _), (21, _)] [] a := hfr.pick [4, 6, 7, 15, 18, 17, 20, 21]
  refine wc_seq_region fun K29 hK29 => ?_
  refine wl_v hfr (by decide) (v_load_all (hst.get (k := 5) rfl) rfl (Try.isAgg29 _) (Try.sizeOf29 _)) ?_
  clear hfr
  intro a hfr
  refine wl_v hfr (by decide) (v_load_all (hst.get (k := 4) rfl) rfl (Try.isAgg31 _) (Try.sizeOf31 _)) ?_
  clear hfr
  intro a hfr
  refine wl_v hfr (by decide) (v_move rfl) ?_
  clear hfr
  intro a hfr
  refine wl_callm hfr hst (by decide) Try.call18 rfl (timeline3 hss2 (timeline_ok rl cl u kp _ (hst.ownAt (i := 1) rfl) hv2)) ?_
  clear hfr hst
  intro a w26 x16 hp hfr hst
  revert x16 hp hfr hst; rintro v15 hp hfr hst
  clear hp
  replace hst : St No w0 [own v15 39 3 (ss.map Stt.cells), own v13 39 3 (ss.map Stt.cells), own u 45 3 (kp.map Evt.cells), own v6 3 1 (vo.map fun i => [.int .i64 i]), own v 45 3 ((l.filter (fun e : Evt => decide (e.at_ ≤ tq))).map Evt.cells), blk w4.heap.size [.int .i64 cl.number, .int .i64 cl.frm, .int .i64 cl.to, .int .i64 cl.holder, .int .i64 cl.asked, .bool cl.backed] 31, blk w3.heap.size [.int .i64 rl.answer, .int .i64 rl.cooling, .int .i64 rl.settle, .int .i64 rl.reverse] 29, own v1 45 3 (l.map Evt.cells)] w26 := hst
  refine wl_v hfr (by decide) (v_move rfl) ?_
  clear hfr
  intro a hfr
  refine wl_v hfr (by decide) (v_extract rfl rfl) ?_
  clear hfr
  intro a hfr
  refine wl_v hfr (by decide) (v_extract rfl rfl) ?_
  clear hfr
  intro a hfr
  refine wl_v hfr (by decide) (v_assign rfl) ?_
  clear hfr
  intro a hfr
  refine wl_v hfr (by decide) (v_assign rfl) ?_
  clear hfr
  intro a hfr
  refine wl_nil (hK29 _ _ ?_)
  replace hfr : Fr 175 [(4, _), (6, _), (7, _), (15, _), (18, _), (17, _), (20, _), (21, _), (22, _), (23, _)] [] a := hfr.pick [4, 6, 7, 15, 18, 17, 20, 21, 22, 23]
  refine wc_seq_region fun K30 hK30 => ?_
  refine wl_v hfr (by decide) (v_load_all (hst.get (k := 6) rfl) rfl (Try.isAgg29 _) (Try.sizeOf29 _)) ?_
  clear hfr
  intro a hfr
  refine wl_v hfr (by decide) (v_load_all (hst.get (k := 5) rfl) rfl (Try.isAgg31 _) (Try.sizeOf31 _)) ?_
  clear hfr
  intro a hfr
  refine wl_v hfr (by decide) (v_move rfl) ?_
  clear hfr
  intro a hfr
  refine wl_callm hfr hst (by decide) Try.call17 rfl (void3 hvo2 (void_ok rl cl u kp _ (hst.ownAt (i := 2) rfl) hv2)) ?_
  clear hfr hst
  intro a w27 x18 hp hfr hst
  revert x18 hp hfr hst; rintro v17 hp hfr hst
  clear hp
  replace hst : St No w0 [own v17 3 1 (([] : List Int).map fun i => [.int .i64 i]), own v15 39 3 (ss.map Stt.cells), own v13 39 3 (ss.map Stt.cells), own u 45 3 (kp.map Evt.cells), own v6 3 1 (vo.map fun i => [.int .i64 i]), own v 45 3 ((l.filter (fun e : Evt => decide (e.at_ ≤ tq))).map Evt.cells), blk w4.heap.size [.int .i64 cl.number, .int .i64 cl.frm, .int .i64 cl.to, .int .i64 cl.holder, .int .i64 cl.asked, .bool cl.backed] 31, blk w3.heap.size [.int .i64 rl.answer, .int .i64 rl.cooling, .int .i64 rl.settle, .int .i64 rl.reverse] 29, own v1 45 3 (l.map Evt.cells)] w27 := hst
  refine wl_v hfr (by decide) (v_move rfl) ?_
  clear hfr
  intro a hfr
  refine wl_v hfr (by decide) (v_extract rfl rfl) ?_
  clear hfr
  intro a hfr
  refine wl_v hfr (by decide) (v_extract rfl rfl) ?_
  clear hfr
  intro a hfr
  refine wl_v hfr (by decide) (v_assign rfl) ?_
  clear hfr
  intro a hfr
  refine wl_v hfr (by decide) (v_assign rfl) ?_
  clear hfr
  intro a hfr
  refine wl_nil (hK30 _ _ ?_)
  replace hfr : Fr 175 [(4, _), (15, _), (18, _), (20, _), (21, _), (22, _), (23, _), (24, _), (25, _)] [] a := hfr.pick [4, 15, 18, 20, 21, 22, 23, 24, 25]
  replace hst : St No w0 [_, _, _, _, _, _, _] w27 := hst.mask [true, true, true, true, true, true, false, false, true]
  refine wc_seq_region fun K31 hK31 => ?_
  refine wl_v hfr (by decide) (v_move rfl) ?_
  clear hfr
  intro a hfr
  refine wl_v hfr (by decide) (v_move rfl) ?_
  clear hfr
  intro a hfr
  refine wl_v hfr (by decide) ((v_len_sl (sT := 49) (hst.ownAt (i := 4) rfl) rfl rfl (Try.runUnderlying49 _)).asi (m' := (vo.length : Int)) (by simp)) ?_
  clear hfr
  intro a hfr
  refine wl_v hfr (by decide) ((v_eq rfl rfl).asb (b' := true) (by simp; omega)) ?_
  clear hfr
  intro a hfr
  refine wl_v hfr (by decide) (v_move rfl) ?_
  clear hfr
  intro a hfr
  refine wl_vy hfr (by decide) rfl (by decide) rfl (v_move rfl) ?_
  clear hfr
  intro a hfr
  refine wl_vy hfr (by decide) rfl (by decide) rfl ((v_eq rfl rfl).asb (b' := true) rfl) ?_
  clear hfr
  intro a hfr
  refine wl_v hfr (by decide) (v_pick_t rfl rfl) ?_
  clear hfr
  intro a hfr
  refine wl_v hfr (by decide) (v_move rfl) ?_
  clear hfr
  intro a hfr
  refine wl_vy hfr (by decide) rfl (by decide) rfl (v_move rfl) ?_
  clear hfr
  intro a hfr
  refine wl_vy hfr (by decide) rfl (by decide) rfl ((v_eq rfl rfl).asb (b' := true) rfl) ?_
  clear hfr
  intro a hfr
  refine wl_v hfr (by decide) (v_pick_t rfl rfl) ?_
  clear hfr
  intro a hfr
  refine wl_v hfr (by decide) (v_move rfl) ?_
  clear hfr
  intro a hfr
  refine wl_vy hfr (by decide) rfl (by decide) rfl (v_move rfl) ?_
  clear hfr
  intro a hfr
  refine wl_vy hfr (by decide) rfl (by decide) rfl ((v_eq rfl rfl).asb (b' := true) rfl) ?_
  clear hfr
  intro a hfr
  refine wl_v hfr (by decide) (v_pick_t rfl rfl) ?_
  clear hfr
  intro a hfr
  refine wl_v hfr (by decide) (v_move rfl) ?_
  clear hfr
  intro a hfr
  refine wl_vy hfr (by decide) rfl (by decide) rfl (v_move rfl) ?_
  clear hfr
  intro a hfr
  refine wl_vy hfr (by decide) rfl (by decide) rfl ((v_len_sl (sT := 49) (hst.ownAt (i := 0) rfl) rfl rfl (Try.runUnderlying49 _)).asi (m' := 0) (by simp)) ?_
  clear hfr
  intro a hfr
  refine wl_vy hfr (by decide) rfl (by decide) rfl ((v_eq rfl rfl).asb (b' := true) rfl) ?_
  clear hfr
  intro a hfr
  refine wl_v hfr (by decide) (v_pick_t rfl rfl) ?_
  clear hfr
  intro a hfr
  refine wl_v hfr (by decide) (v_move rfl) ?_
  clear hfr
  intro a hfr
  refine wl_vy hfr (by decide) rfl (by decide) rfl (v_move rfl) ?_
  clear hfr
  intro a hfr
  refine wl_vy hfr (by decide) rfl (by decide) rfl (v_move rfl) ?_
  clear hfr
  intro a hfr
  refine wl_callpy hfr hst (by decide) rfl (by decide) rfl Try.call19 rfl (ret_lit (y := .bool true) (sameTimeline_ok ss ss v13 v15 _ (hst.ownAt (i := 2) rfl) (hst.ownAt (i := 1) rfl)) (by simp)) ?_
  clear hfr hst
  intro a w28 hfr hst
  refine wl_v hfr (by decide) (v_pick_t rfl rfl) ?_
  clear hfr
  intro a hfr
  refine wl_v hfr (by decide) (v_assign rfl) ?_
  clear hfr
  intro a hfr
  refine wl_nil (hK31 _ _ ?_)
  replace hfr : Fr 175 [(4, _)] [] a := hfr.pick [4]
  replace hst : St No w0 [_, _, _] w28 := hst.mask [false, false, false, true, false, true, true]
  refine wc_ret ?_
  refine fin_ret hfr Try.results5 (resAre_tmp rfl resAre_nil) ?_
  exact ⟨by simp [retv], hst.ext⟩
end Go.Proofs.Ytdamipejlfipcaa
