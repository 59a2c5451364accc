import Derived.Test.YtdamipejlfipcaaClkM
import Derived.Test.YtdamipejlfipcaaClaimL
import Derived.Test.YtdamipejlfipcaaClaimW
namespace Go.Proofs.Ytdamipejlfipcaa
open Go.RowKit Go.PW
set_option linter.unusedVariables false
set_option linter.unusedSimpArgs false
set_option maxRecDepth 4000

set_option maxHeartbeats 4000000 in
/-- dialtone/dialtonelaw16.ClaimClocks -/
theorem clocks_walk (x0 x1 x2 x3 y0 y1 y2 y3 y4 y5 : Int) (xv : Value) (xs : List Tri) (w0 : World) (gf : isI64 x0 ∧ isI64 x1 ∧ isI64 x2 ∧ isI64 x3 ∧ isI64 y0 ∧ isI64 y1 ∧ isI64 y2 ∧ isI64 y3 ∧ isI64 y4 ∧ isI64 y5) (hxv : SlAt w0 xv 3 (xs.map Tri.cells)) (hfit : ∀ k, k < xs.length → (xs.getD k ⟨0, 0, 0⟩).fits) (drift start : Int) (rv av : Value) (rates : List Int) (ats : List Tri) (tt bw : Int) (gd : isI64 drift) (gs : isI64 start) (hrv : SlAt w0 rv 1 (rates.map fun i => [.int .i64 i])) (hrates : ∀ k, k < rates.length → isI64 (rates.getD k 0)) (hav : SlAt w0 av 3 (ats.map Tri.cells)) (hats : ∀ k, k < ats.length → (ats.getD k ⟨0, 0, 0⟩).fits) (gtt : isI64 tt) (gbw : isI64 bw) :
    Ret Try.prog 9 #[.agg #[.int .i64 x0, .int .i64 x1, .int .i64 x2, .int .i64 x3, .int .i64 y0, .int .i64 y1, .int .i64 y2, .int .i64 y3, .int .i64 y4, .int .i64 y5, xv], .int .i64 drift, .int .i64 start, rv, av, .int .i64 tt, .int .i64 bw] w0 fun v w => v = .bool true ∧ Ext No w0 w := by
  obtain ⟨g0, g1, g2, g3, g4, g5, g6, g7, g8, g9⟩ := gf
  obtain ⟨rl, hrl⟩ : ∃ r, mkRul x0 x1 x2 x3 = r := ⟨_, rfl⟩
  obtain ⟨cl, hcl0⟩ : ∃ c, mkClm y0 y1 y2 y3 y4 y5 = c := ⟨_, rfl⟩
  have hr : areValid rl = true := hrl ▸ mkRul_valid x0 x1 x2 x3
  have hc : isClaim cl = true := hcl0 ▸ (mkClm_valid y0 y1 y2 y3 y4 y5).1
  have ha : cl.asked < 1000 := hcl0 ▸ (mkClm_valid y0 y1 y2 y3 y4 y5).2
  have hcl := isClaim_le hc
  have hrl1 := areValid_le hr
  have hrl2 := mkRul_day x0 x1 x2 x3
  rw [hrl] at hrl2
  obtain ⟨l, hl0⟩ : ∃ l, mkL rl cl xs = l := ⟨_, rfl⟩
  obtain ⟨hv, hl10⟩ : valid rl cl l = true ∧ l.length ≤ 10 := hl0 ▸ mkL_valid hr hc ha xs
  unfold isI64 at gtt gbw
  obtain ⟨tp, htp⟩ : ∃ k, pick tt 3000 = k := ⟨_, rfl⟩
  have btp := pick_lt tt 3000 (by omega)
  rw [htp] at btp
  have hdr := driftOf_le drift
  refine ret_of Try.func9 rfl Try.ntmps9 (Nat.le_of_ble_eq_true rfl) fun a hfr => ?_
  replace hfr : Fr 136 [(0, _), (1, _), (2, _), (3, _), (4, _), (5, _), (6, _)] [] a := hfr
  replace hst : St No w0 [] w0 := St.init w0
  refine wc_seq_region fun K1 hK1 => ?_
  refine wl_box hfr hst (by decide) rfl (cs := [.int .i64 x0, .int .i64 x1, .int .i64 x2, .int .i64 x3, .int .i64 y0, .int .i64 y1, .int .i64 y2, .int .i64 y3, .int .i64 y4, .int .i64 y5, xv]) rfl ?_
  clear hfr hst
  intro a w1 hfr hst
  refine wl_v hfr (by decide) (v_assign rfl) ?_
  clear hfr
  intro a hfr
  refine wl_nil (hK1 _ _ ?_)
  refine wc_seq_region fun K2 hK2 => ?_
  refine wl_callp hfr hst (by decide) Try.call11 rfl (sane_ok _) ?_
  clear hfr hst
  intro a w2 hfr hst
  refine wl_v hfr (by decide) (v_assign rfl) ?_
  clear hfr
  intro a hfr
  refine wl_nil (hK2 _ _ ?_)
  refine wc_seq_k fun K3 hK3 => ?_
  refine wc_seq_region fun K4 hK4 => ?_
  refine wl_v hfr (by decide) (v_move rfl) ?_
  clear hfr
  intro a hfr
  refine wl_v hfr (by decide) ((v_not rfl).asb (b' := false) rfl) ?_
  clear hfr
  intro a hfr
  refine wl_nil (hK4 _ _ ?_)
  refine wc_cond_f hfr rfl ?_
  refine wc_skip ?_
  refine hK3 _ _ ?_
  refine wc_seq_region fun K5 hK5 => ?_
  refine wl_v hfr (by decide) (v_load_all (hst.get (k := 0) rfl) rfl (Try.isAgg26 _) (Try.sizeOf26 _)) ?_
  clear hfr
  intro a hfr
  refine wl_callm hfr hst (by decide) Try.call12 rfl (made2 hrl hcl0 hl0 (made_ok x0 x1 x2 x3 y0 y1 y2 y3 y4 y5 xv xs _ g0 g1 g2 g3 g4 g5 g6 g7 g8 g9 (hst.arg hxv) hfit)) ?_
  clear hfr hst
  intro a w3 x2 hp hfr hst
  revert x2 hp hfr hst; rintro v1 hp hfr hst
  clear hp
  replace hst : St No w0 [own v1 45 3 (l.map Evt.cells), blk w0.heap.size [.int .i64 x0, .int .i64 x1, .int .i64 x2, .int .i64 x3, .int .i64 y0, .int .i64 y1, .int .i64 y2, .int .i64 y3, .int .i64 y4, .int .i64 y5, xv] 26] w3 := hst
  refine wl_v hfr (by decide) (v_move rfl) ?_
  clear hfr
  intro a hfr
  refine wl_v hfr (by decide) (v_extract rfl rfl) ?_
  clear hfr
  intro a hfr
  refine wl_v hfr (by decide) (v_extract rfl rfl) ?_
  clear hfr
  intro a hfr
  refine wl_v hfr (by decide) (v_extract rfl rfl) ?_
  clear hfr
  intro a hfr
  refine wl_alloc hfr hst (by decide) (Try.zeroValue29 _) (cs := [.int .i64 0, .int .i64 0, .int .i64 0, .int .i64 0]) rfl ?_
  clear hfr hst
  intro a w4 hfr hst
  refine wl_alloc hfr hst (by decide) (Try.zeroValue31 _) (cs := [.int .i64 0, .int .i64 0, .int .i64 0, .int .i64 0, .int .i64 0, .bool false]) rfl ?_
  clear hfr hst
  intro a w5 hfr hst
  refine wl_store 1 hfr hst rfl rfl rfl (Try.sizeOf29 _) rfl (Nat.le_of_ble_eq_true rfl) (ds := [.int .i64 rl.answer, .int .i64 rl.cooling, .int .i64 rl.settle, .int .i64 rl.reverse]) rfl rfl ?_
  clear hfr hst
  intro a w6 hfr hst
  refine wl_store 0 hfr hst rfl rfl rfl (Try.sizeOf31 _) rfl (Nat.le_of_ble_eq_true rfl) (ds := [.int .i64 cl.number, .int .i64 cl.frm, .int .i64 cl.to, .int .i64 cl.holder, .int .i64 cl.asked, .bool cl.backed]) rfl rfl ?_
  clear hfr hst
  intro a w7 hfr hst
  refine wl_v hfr (by decide) (v_assign rfl) ?_
  clear hfr
  intro a hfr
  refine wl_nil (hK5 _ _ ?_)
  replace hfr : Fr 136 [(1, _), (2, _), (3, _), (4, _), (5, _), (6, _), (14, _), (16, _), (17, _), (18, _)] [] a := hfr.pick [1, 2, 3, 4, 5, 6, 14, 16, 17, 18]
  replace hst : St No w0 [_, _, _] w7 := hst.mask [true, true, true, false]
  refine wc_seq_region fun K6 hK6 => ?_
  refine wl_v hfr (by decide) (v_move rfl) ?_
  clear hfr
  intro a hfr
  refine wl_v hfr (by decide) (v_move rfl) ?_
  clear hfr
  intro a hfr
  refine wl_v hfr (by decide) (v_move rfl) ?_
  clear hfr
  intro a hfr
  refine wl_v hfr (by decide) (v_move rfl) ?_
  clear hfr
  intro a hfr
  refine wl_callm hfr hst (by decide) Try.call22 rfl (made5_ok drift start rv av rates ats _ (hst.arg hrv) hrates (hst.arg hav) hats gd gs) ?_
  clear hfr hst
  intro a w8 x3 hp hfr hst
  obtain ⟨cv, rs⟩ := x3
  obtain ⟨hok, hln, hmd⟩ := hp
  replace hst : St No w0 [own cv 98 3 (rs.map Rdg.cells), blk w4.heap.size [.int .i64 cl.number, .int .i64 cl.frm, .int .i64 cl.to, .int .i64 cl.holder, .int .i64 cl.asked, .bool cl.backed] 31, blk w3.heap.size [.int .i64 rl.answer, .int .i64 rl.cooling, .int .i64 rl.settle, .int .i64 rl.reverse] 29, own v1 45 3 (l.map Evt.cells)] w8 := hst
  refine wl_alloc hfr hst (by decide) (Try.zeroValue59 _) (cs := [.int .i64 0, .slice none 0 0]) rfl ?_
  clear hfr hst
  intro a w9 hfr hst
  refine wl_store_one (us := [.int .i64 (driftOf drift), cv]) 0 hfr hst rfl rfl rfl (Try.sizeOf59 _) (by intro z hz; simp only [List.mem_cons, List.not_mem_nil, or_false] at hz; rcases hz with rfl | rfl <;> first | rfl | exact SlAt.one (hst.ownAt (i := 1) rfl)) (Nat.le_of_ble_eq_true rfl) (ds := [.int .i64 (driftOf drift), cv]) rfl rfl ?_
  clear hfr hst
  intro a w10 hfr hst
  refine wl_nil (hK6 _ _ ?_)
  replace hfr : Fr 136 [(1, _), (2, _), (3, _), (5, _), (6, _), (14, _), (16, _), (17, _), (18, _), (19, _)] [] a := hfr.pick [1, 2, 3, 5, 6, 14, 16, 17, 18, 19]
  refine wc_seq_region fun K7 hK7 => ?_
  refine wl_v hfr (by decide) (v_move rfl) ?_
  clear hfr
  intro a hfr
  refine wl_callp hfr hst (by decide) Try.call15 rfl (pick2 htp (pick16_ok _ _ _ (by omega) (by omega) (by omega) (by omega))) ?_
  clear hfr hst
  intro a w11 hfr hst
  refine wl_v hfr (by decide) (v_assign rfl) ?_
  clear hfr
  intro a hfr
  refine wl_nil (hK7 _ _ ?_)
  refine wc_seq_k fun K8 hK8 => ?_
  obtain ⟨sh, hsh⟩ : ∃ q, shown drift start rates tp = q := ⟨_, rfl⟩
  have hshb := shown_le drift start rates (t := tp) (by omega) (by omega)
  obtain ⟨q, hw⟩ : ∃ q, windowF (driftOf drift) sh (0, 10000000) rs = q := ⟨_, rfl⟩
  obtain ⟨fi, la⟩ := q
  have hwh := window_has (drift := drift) (start := start) (rates := rates) (t := tp) (by omega) rs (0, 10000000) hmd ⟨by simp only; omega, by simp only; omega⟩
  have hwi := window_in (d := driftOf drift) (loc := sh) rs (0, 10000000)
  rw [hsh] at hshb
  rw [hsh, hw] at hwh
  rw [hw] at hwi
  simp only at hwh hwi
  obtain ⟨sa, hsa⟩ : ∃ s, outcome rl cl l fi = s := ⟨_, rfl⟩
  obtain ⟨sb, hsb⟩ : ∃ s, outcome rl cl l la = s := ⟨_, rfl⟩
  obtain ⟨bp, hbp⟩ : ∃ k, pick bw ((la - fi) + 1) = k := ⟨_, rfl⟩
  have bbp := pick_lt bw ((la - fi) + 1) (by omega)
  rw [hbp] at bbp
  obtain ⟨sd, hsd⟩ : ∃ s, outcome rl cl l (fi + bp) = s := ⟨_, rfl⟩
  obtain ⟨sk, hsk⟩ : ∃ s, outcome rl cl l tp = s := ⟨_, rfl⟩
  have hcon : sa = sb → sd = sa ∧ sk = sa := fun h => by
    have hab : outcome rl cl l fi = outcome rl cl l la := by rw [hsa, hsb]; exact h
    exact ⟨by rw [← hsd, ← hsa]; exact outcome_const hv (by omega) (by omega) hab, by rw [← hsk, ← hsa]; exact outcome_const hv (by omega) (by omega) hab⟩
  refine wc_of_dr (by kernel_rfl) (dr_of_wd (by kernel_rfl) fun w12 hxz => ?_)
  replace hst : St No w0 [blk w8.heap.size [.int .i64 (driftOf drift), cv] 59, own cv 98 3 (rs.map Rdg.cells), blk w4.heap.size [.int .i64 cl.number, .int .i64 cl.frm, .int .i64 cl.to, .int .i64 cl.holder, .int .i64 cl.asked, .bool cl.backed] 31, blk w3.heap.size [.int .i64 rl.answer, .int .i64 rl.cooling, .int .i64 rl.settle, .int .i64 rl.reverse] 29, own v1 45 3 (l.map Evt.cells)] w12 := hst.grow hxz
  refine wd_sub (k := 0) 6 [0, 5] hfr (by kernel_rfl) (by kernel_rfl) (by kernel_rfl) (by rfl) ?_
  replace hfr : Fr 136 [(1, _), (2, _), (3, _), (6, _), (14, _), (16, _), (17, _), (18, _), (19, _), (45, _), (46, _), (5, _)] [] a := hfr.pick [1, 2, 3, 6, 14, 16, 17, 18, 19, 45, 46, 5]
  refine wc_phases' 6 [[], [], [], [], [], [1, 2, 3, 4]] (fun i => match i with | 0 => pv (.agg #[.int .i64 (driftOf drift), cv]) | 1 => pv (.int .i64 drift) | 2 => pv (.int .i64 start) | 3 => pv (rv) | 4 => pv (.int .i64 tp) | 5 => pv (.int .i64 sh) | _ => fun _ _ => False) hfr hst (by kernel_rfl) (by kernel_rfl) ?_ ?_
  · intro i hi
    match i, hi with
    | 0, _ =>
      intro w hst
      exact OpV.g (v_load_all (hst.get (k := 0) rfl) rfl (Try.isAgg59 _) (Try.sizeOf59 _))
    | 1, _ =>
      intro w hst
      exact OpV.g (v_move rfl)
    | 2, _ =>
      intro w hst
      exact OpV.g (v_move rfl)
    | 3, _ =>
      intro w hst
      exact OpV.g (v_move rfl)
    | 4, _ =>
      intro w hst
      exact OpV.g (v_move rfl)
    | 5, _ =>
      rintro _ _ ⟨rfl, rfl⟩ _ _ ⟨rfl, rfl⟩ _ _ ⟨rfl, rfl⟩ _ _ ⟨rfl, rfl⟩
      intro w hst
      exact g_callp Try.call24 rfl (shown2 hsh (shown_ok drift start rv rates tp _ (hst.arg hrv) hrates gd gs (by omega) (by omega)))
  clear hfr hst
  rintro _ _ ⟨rfl, rfl⟩ _ _ ⟨rfl, rfl⟩ _ _ ⟨rfl, rfl⟩ _ _ ⟨rfl, rfl⟩ _ _ ⟨rfl, rfl⟩ _ _ ⟨rfl, rfl⟩ a w13 hfr hst
  replace hfr : Fr 136 [(48, _), (49, _), (50, _), (51, _), (52, _), (53, _), (1, _), (2, _), (3, _), (6, _), (14, _), (16, _), (17, _), (18, _), (19, _), (45, _), (46, _), (5, _)] [] a := hfr
  replace hst : St No w0 [_, _, _, _, _] w13 := hst
  refine wl_nil ?_
  refine wd_lin (k := 6) 8 [7] (by kernel_rfl) (by kernel_rfl) (by kernel_rfl) ?_
  refine wl_callp hfr hst (by decide) Try.call23 rfl (at_ok sh fi la (driftOf drift) cv rs _ (hst.ownAt (i := 1) rfl) hdr.1 hdr.2 hln hok (by omega) (by omega) hw (by omega)) ?_
  clear hfr hst
  intro a w14 hfr hst
  refine wl_v hfr (by decide) (v_move rfl) ?_
  clear hfr
  intro a hfr
  refine wl_nil ?_
  refine wd_sub (k := 8) 13 [10, 12] hfr (by kernel_rfl) (by kernel_rfl) (by kernel_rfl) (by rfl) ?_
  replace hfr : Fr 136 [(1, _), (2, _), (3, _), (6, _), (14, _), (16, _), (17, _), (18, _), (19, _), (45, _), (46, _), (5, _), (48, _), (49, _), (50, _), (51, _), (52, _), (53, _), (54, _), (47, _)] [] a := hfr.pick [1, 2, 3, 6, 14, 16, 17, 18, 19, 45, 46, 5, 48, 49, 50, 51, 52, 53, 54, 47]
  refine wc_phases' 5 [[], [], [], [0], [1]] (fun i => match i with | 0 => pv (.int .i64 fi) | 1 => pv (.int .i64 la) | 2 => pv (.int .i64 0) | 3 => pv (.int .i64 fi) | 4 => pv (.int .i64 la) | _ => fun _ _ => False) hfr hst (by kernel_rfl) (by kernel_rfl) ?_ ?_
  · intro i hi
    match i, hi with
    | 0, _ =>
      intro w hst
      exact OpV.g (v_extract rfl rfl)
    | 1, _ =>
      intro w hst
      exact OpV.g (v_extract rfl rfl)
    | 2, _ =>
      intro w hst
      exact OpV.g (v_extract rfl rfl)
    | 3, _ =>
      rintro _ _ ⟨rfl, rfl⟩
      intro w hst
      exact OpV.g (v_assign rfl)
    | 4, _ =>
      rintro _ _ ⟨rfl, rfl⟩
      intro w hst
      exact OpV.g (v_assign rfl)
  clear hfr hst
  rintro _ _ ⟨rfl, rfl⟩ _ _ ⟨rfl, rfl⟩ _ _ ⟨rfl, rfl⟩ _ _ ⟨rfl, rfl⟩ _ _ ⟨rfl, rfl⟩ a w15 hfr hst
  replace hfr : Fr 136 [(55, _), (56, _), (57, _), (20, _), (21, _), (1, _), (2, _), (3, _), (6, _), (14, _), (16, _), (17, _), (18, _), (19, _), (45, _), (46, _), (5, _), (48, _), (49, _), (50, _), (51, _), (52, _), (53, _), (54, _), (47, _)] [] a := hfr
  replace hst : St No w0 [_, _, _, _, _] w15 := hst
  refine wl_nil ?_
  refine wd_lin (k := 13) 14 [13] (by kernel_rfl) (by kernel_rfl) (by kernel_rfl) ?_
  refine wl_v hfr (by decide) (v_assign rfl) ?_
  clear hfr
  intro a hfr
  refine wl_nil ?_
  refine wd_end (by kernel_rfl) ?_
  refine hK8 _ _ ?_
  replace hfr : Fr 136 [(6, _), (14, _), (16, _), (17, _), (18, _), (5, _), (20, _), (21, _), (22, _)] [] a := hfr.pick [6, 14, 16, 17, 18, 5, 20, 21, 22]
  replace hst : St No w0 [_, _, _, _] w15 := hst.mask [false, true, true, true, true]
  refine wc_seq_k fun K9 hK9 => ?_
  refine wc_seq_region fun K10 hK10 => ?_
  refine wl_v hfr (by decide) (v_move rfl) ?_
  clear hfr
  intro a hfr
  refine wl_v hfr (by decide) ((v_ne rfl rfl).asb (b' := false) rfl) ?_
  clear hfr
  intro a hfr
  refine wl_v hfr (by decide) (v_move rfl) ?_
  clear hfr
  intro a hfr
  refine wl_vy hfr (by decide) rfl (by decide) rfl (v_move rfl) ?_
  clear hfr
  intro a hfr
  refine wl_vy hfr (by decide) rfl (by decide) rfl (v_move rfl) ?_
  clear hfr
  intro a hfr
  refine wl_vy hfr (by decide) rfl (by decide) rfl ((v_gt rfl rfl).asb (b' := false) (by simp; omega)) ?_
  clear hfr
  intro a hfr
  refine wl_v hfr (by decide) (v_pick_f rfl rfl) ?_
  clear hfr
  intro a hfr
  refine wl_v hfr (by decide) (v_move rfl) ?_
  clear hfr
  intro a hfr
  refine wl_vy hfr (by decide) rfl (by decide) rfl (v_move rfl) ?_
  clear hfr
  intro a hfr
  refine wl_vy hfr (by decide) rfl (by decide) rfl (v_move rfl) ?_
  clear hfr
  intro a hfr
  refine wl_vy hfr (by decide) rfl (by decide) rfl ((v_gt rfl rfl).asb (b' := false) (by simp; omega)) ?_
  clear hfr
  intro a hfr
  refine wl_v hfr (by decide) (v_pick_f rfl rfl) ?_
  clear hfr
  intro a hfr
  refine wl_nil (hK10 _ _ ?_)
  replace hfr : Fr 136 [(6, _), (14, _), (16, _), (17, _), (18, _), (5, _), (20, _), (21, _), (69, _)] [] a := hfr.pick [6, 14, 16, 17, 18, 5, 20, 21, 69]
  replace hst : St No w0 [_, _, _] w15 := hst.mask [false, true, true, true]
  refine wc_cond_f hfr rfl ?_
  refine wc_skip ?_
  refine hK9 _ _ ?_
  refine wc_seq_region fun K11 hK11 => ?_
  refine wl_v hfr (by decide) (v_load_all (hst.get (k := 1) rfl) rfl (Try.isAgg29 _) (Try.sizeOf29 _)) ?_
  clear hfr
  intro a hfr
  refine wl_v hfr (by decide) (v_load_all (hst.get (k := 0) rfl) rfl (Try.isAgg31 _) (Try.sizeOf31 _)) ?_
  clear hfr
  intro a hfr
  refine wl_v hfr (by decide) (v_move rfl) ?_
  clear hfr
  intro a hfr
  refine wl_v hfr (by decide) (v_move rfl) ?_
  clear hfr
  intro a hfr
  refine wl_callp hfr hst (by decide) Try.call14 rfl (outcome2 (s := sa) hsa (outcome_ok rl cl v1 l fi _ (hst.ownAt (i := 2) rfl) hv (by simp [isIn]; omega))) ?_
  clear hfr hst
  intro a w16 hfr hst
  refine wl_v hfr (by decide) (v_move rfl) ?_
  clear hfr
  intro a hfr
  refine wl_v hfr (by decide) (v_extract rfl rfl) ?_
  clear hfr
  intro a hfr
  refine wl_v hfr (by decide) (v_extract rfl rfl) ?_
  clear hfr
  intro a hfr
  refine wl_alloc hfr hst (by decide) (Try.zeroValue39 _) (cs := [.int .i64 0, .int .i64 0, .int .i64 0]) rfl ?_
  clear hfr hst
  intro a w17 hfr hst
  refine wl_store 0 hfr hst rfl rfl rfl (Try.sizeOf39 _) rfl (Nat.le_of_ble_eq_true rfl) (ds := [.int .i64 sa.state, .int .i64 sa.since, .int .i64 sa.next]) rfl rfl ?_
  clear hfr hst
  intro a w18 hfr hst
  refine wl_v hfr (by decide) (v_assign rfl) ?_
  clear hfr
  intro a hfr
  refine wl_nil (hK11 _ _ ?_)
  replace hfr : Fr 136 [(6, _), (14, _), (16, _), (17, _), (18, _), (5, _), (20, _), (21, _), (23, _), (24, _)] [] a := hfr.pick [6, 14, 16, 17, 18, 5, 20, 21, 23, 24]
  refine wc_seq_region fun K12 hK12 => ?_
  refine wl_v hfr (by decide) (v_load_all (hst.get (k := 2) rfl) rfl (Try.isAgg29 _) (Try.sizeOf29 _)) ?_
  clear hfr
  intro a hfr
  refine wl_v hfr (by decide) (v_load_all (hst.get (k := 1) rfl) rfl (Try.isAgg31 _) (Try.sizeOf31 _)) ?_
  clear hfr
  intro a hfr
  refine wl_v hfr (by decide) (v_move rfl) ?_
  clear hfr
  intro a hfr
  refine wl_v hfr (by decide) (v_move rfl) ?_
  clear hfr
  intro a hfr
  refine wl_callp hfr hst (by decide) Try.call14 rfl (outcome2 (s := sb) hsb (outcome_ok rl cl v1 l la _ (hst.ownAt (i := 3) rfl) hv (by simp [isIn]; omega))) ?_
  clear hfr hst
  intro a w19 hfr hst
  refine wl_v hfr (by decide) (v_move rfl) ?_
  clear hfr
  intro a hfr
  refine wl_v hfr (by decide) (v_extract rfl rfl) ?_
  clear hfr
  intro a hfr
  refine wl_v hfr (by decide) (v_extract rfl rfl) ?_
  clear hfr
  intro a hfr
  refine wl_alloc hfr hst (by decide) (Try.zeroValue39 _) (cs := [.int .i64 0, .int .i64 0, .int .i64 0]) rfl ?_
  clear hfr hst
  intro a w20 hfr hst
  refine wl_store 0 hfr hst rfl rfl rfl (Try.sizeOf39 _) rfl (Nat.le_of_ble_eq_true rfl) (ds := [.int .i64 sb.state, .int .i64 sb.since, .int .i64 sb.next]) rfl rfl ?_
  clear hfr hst
  intro a w21 hfr hst
  refine wl_v hfr (by decide) (v_assign rfl) ?_
  clear hfr
  intro a hfr
  refine wl_nil (hK12 _ _ ?_)
  replace hfr : Fr 136 [(6, _), (14, _), (16, _), (17, _), (18, _), (5, _), (20, _), (21, _), (23, _), (24, _), (25, _), (26, _)] [] a := hfr.pick [6, 14, 16, 17, 18, 5, 20, 21, 23, 24, 25, 26]
  refine wc_seq_k fun K13 hK13 => ?_
  refine wc_seq_region fun K14 hK14 => ?_
  refine wl_v hfr (by decide) (v_move rfl) ?_
  clear hfr
  intro a hfr
  refine wl_v hfr (by decide) ((v_ne rfl rfl).asb (b' := false) rfl) ?_
  clear hfr
  intro a hfr
  refine wl_v hfr (by decide) (v_move rfl) ?_
  clear hfr
  intro a hfr
  refine wl_vy hfr (by decide) rfl (by decide) rfl (v_move rfl) ?_
  clear hfr
  intro a hfr
  refine wl_vy hfr (by decide) rfl (by decide) rfl ((v_ne rfl rfl).asb (b' := false) rfl) ?_
  clear hfr
  intro a hfr
  refine wl_v hfr (by decide) (v_pick_f rfl rfl) ?_
  clear hfr
  intro a hfr
  refine wl_nil (hK14 _ _ ?_)
  replace hfr : Fr 136 [(6, _), (14, _), (16, _), (17, _), (18, _), (5, _), (20, _), (21, _), (23, _), (25, _), (91, _)] [] a := hfr.pick [6, 14, 16, 17, 18, 5, 20, 21, 23, 25, 91]
  refine wc_cond_f hfr rfl ?_
  refine wc_skip ?_
  refine hK13 _ _ ?_
  refine wc_seq_k fun K15 hK15 => ?_
  refine wc_of_dr (by kernel_rfl) (dr_of_wd (by kernel_rfl) fun w22 hxz => ?_)
  replace hst : St No w0 [blk w19.heap.size [.int .i64 sb.state, .int .i64 sb.since, .int .i64 sb.next] 39, blk w16.heap.size [.int .i64 sa.state, .int .i64 sa.since, .int .i64 sa.next] 39, blk w4.heap.size [.int .i64 cl.number, .int .i64 cl.frm, .int .i64 cl.to, .int .i64 cl.holder, .int .i64 cl.asked, .bool cl.backed] 31, blk w3.heap.size [.int .i64 rl.answer, .int .i64 rl.cooling, .int .i64 rl.settle, .int .i64 rl.reverse] 29, own v1 45 3 (l.map Evt.cells)] w22 := hst.grow hxz
  refine wd_sub (k := 0) 17 [14, 16] hfr (by kernel_rfl) (by kernel_rfl) (by kernel_rfl) (by rfl) ?_
  replace hfr : Fr 136 [(6, _), (14, _), (16, _), (17, _), (18, _), (5, _), (20, _), (21, _), (23, _), (25, _), (91, _)] [] a := hfr.pick [6, 14, 16, 17, 18, 5, 20, 21, 23, 25, 91]
  refine wc_phases_new 15 16 39 [.int .i64 0, .int .i64 0, .int .i64 0] [.int .i64 sd.state, .int .i64 sd.since, .int .i64 sd.next] 17 [[], [], [], [], [], [], [], [5, 6], [7], [4, 8], [3, 9], [0, 1, 2, 10], [11], [12], [12], [], [13, 15]] (fun i => match i with | 0 => pv (.agg #[.int .i64 rl.answer, .int .i64 rl.cooling, .int .i64 rl.settle, .int .i64 rl.reverse]) | 1 => pv (.agg #[.int .i64 cl.number, .int .i64 cl.frm, .int .i64 cl.to, .int .i64 cl.holder, .int .i64 cl.asked, .bool cl.backed]) | 2 => pv (v1) | 3 => pv (.int .i64 fi) | 4 => pv (.int .i64 bw) | 5 => pv (.int .i64 la) | 6 => pv (.int .i64 fi) | 7 => pv (.int .i64 (la - fi)) | 8 => pv (.int .i64 ((la - fi) + 1)) | 9 => pv (.int .i64 bp) | 10 => pv (.int .i64 (fi + bp)) | 11 => pv (.tuple #[.agg #[.int .i64 sd.state, .int .i64 sd.since, .int .i64 sd.next], .int .i64 0]) | 12 => pv (.tuple #[.agg #[.int .i64 sd.state, .int .i64 sd.since, .int .i64 sd.next], .int .i64 0]) | 13 => pv (.agg #[.int .i64 sd.state, .int .i64 sd.since, .int .i64 sd.next]) | 14 => pv (.int .i64 0) | 15 => fun v E => ∃ b, v = ptr b ∧ E = [] | 16 => fun v E => v = undef ∧ E = [] | _ => fun _ _ => False) hfr (H := [blk w19.heap.size [.int .i64 sb.state, .int .i64 sb.since, .int .i64 sb.next] 39, blk w16.heap.size [.int .i64 sa.state, .int .i64 sa.since, .int .i64 sa.next] 39, blk w4.heap.size [.int .i64 cl.number, .int .i64 cl.frm, .int .i64 cl.to, .int .i64 cl.holder, .int .i64 cl.asked, .bool cl.backed] 31, blk w3.heap.size [.int .i64 rl.answer, .int .i64 rl.cooling, .int .i64 rl.settle, .int .i64 rl.reverse] 29, own v1 45 3 (l.map Evt.cells)]) hst (by kernel_rfl) (by kernel_rfl) (by kernel_rfl) (by kernel_rfl) (by decide) (by decide) (by decide) (by decide) (by decide) ?_ (fun v E h => h) ⟨rfl, rfl⟩ (fun v E => Iff.rfl) ?_ ?_ ?_ ?_
  · intro i v E h
    match i, h with
    | 0, _ => exact by decide
    | 1, _ => exact by decide
    | 2, _ => exact by decide
    | 3, _ => exact by decide
    | 4, _ => exact by decide
    | 5, _ => exact by decide
    | 6, _ => exact by decide
    | 7, _ => exact by decide
    | 8, _ => exact by decide
    | 9, _ => exact by decide
    | 10, _ => exact by decide
    | 11, _ => exact by decide
    | 12, _ => exact by decide
    | 13, _ => exact by decide
    | 14, _ => exact by decide
    | 15, _ => exact by decide
    | 16, _ => exact by decide
    | i + 17, h => exact h.elim
  · intro i hi hia hij e
    match i, hi, hia, hij with
    | 0, _, _, _ =>
      intro w hst
      exact OpV.g (v_load_all (hst.get (k := 4) rfl) rfl (Try.isAgg29 _) (Try.sizeOf29 _))
    | 1, _, _, _ =>
      intro w hst
      exact OpV.g (v_load_all (hst.get (k := 3) rfl) rfl (Try.isAgg31 _) (Try.sizeOf31 _))
    | 2, _, _, _ =>
      intro w hst
      exact OpV.g (v_move rfl)
    | 3, _, _, _ =>
      intro w hst
      exact OpV.g (v_move rfl)
    | 4, _, _, _ =>
      intro w hst
      exact OpV.g (v_move rfl)
    | 5, _, _, _ =>
      intro w hst
      exact OpV.g (v_move rfl)
    | 6, _, _, _ =>
      intro w hst
      exact OpV.g (v_move rfl)
    | 7, _, _, _ =>
      rintro _ _ ⟨rfl, rfl⟩ _ _ ⟨rfl, rfl⟩
      intro w hst
      exact OpV.g (v_sub rfl rfl ⟨by omega, by omega⟩)
    | 8, _, _, _ =>
      rintro _ _ ⟨rfl, rfl⟩
      intro w hst
      exact OpV.g (v_add rfl rfl ⟨by omega, by omega⟩)
    | 9, _, _, _ =>
      rintro _ _ ⟨rfl, rfl⟩ _ _ ⟨rfl, rfl⟩
      intro w hst
      exact g_callp Try.call15 rfl (pick2 hbp (pick16_ok _ _ _ (by omega) (by omega) (by omega) (by omega)))
    | 10, _, _, _ =>
      rintro _ _ ⟨rfl, rfl⟩ _ _ ⟨rfl, rfl⟩
      intro w hst
      exact OpV.g (v_add rfl rfl ⟨by omega, by omega⟩)
    | 11, _, _, _ =>
      rintro _ _ ⟨rfl, rfl⟩ _ _ ⟨rfl, rfl⟩ _ _ ⟨rfl, rfl⟩ _ _ ⟨rfl, rfl⟩
      intro w hst
      exact g_callp Try.call14 rfl (outcome2 (s := sd) hsd (outcome_ok rl cl v1 l (fi + bp) _ (hst.ownAt (i := 5) rfl) hv (by simp [isIn]; omega)))
    | 12, _, _, _ =>
      rintro _ _ ⟨rfl, rfl⟩
      intro w hst
      exact OpV.g (v_move rfl)
    | 13, _, _, _ =>
      rintro _ _ ⟨rfl, rfl⟩
      intro w hst
      exact OpV.g (v_extract rfl rfl)
    | 14, _, _, _ =>
      rintro _ _ ⟨rfl, rfl⟩
      intro w hst
      exact OpV.g (v_extract rfl rfl)
    | 15, _, h, _ => exact absurd rfl h
    | 16, _, _, h => exact absurd rfl h
    | i + 17, h, _, _ => exact absurd h (by omega)
  · exact fun Lv w => r_alloc (Try.zeroValue39 _)
  · rintro _ _ ⟨rfl, rfl⟩ _ _ ⟨b4, rfl, rfl⟩
    intro b hb w h
    have hb : some (ptr b4) = some (ptr b) := hb
    cases hb
    exact r_storeU rfl rfl h (Try.sizeOf39 _) rfl (Nat.le_of_ble_eq_true rfl) rfl
  clear hfr hst
  rintro bq _ _ ⟨⟨rfl, rfl⟩, -⟩ _ _ ⟨⟨rfl, rfl⟩, -⟩ _ _ ⟨⟨rfl, rfl⟩, -⟩ _ _ ⟨⟨rfl, rfl⟩, -⟩ _ _ ⟨⟨rfl, rfl⟩, -⟩ _ _ ⟨⟨rfl, rfl⟩, -⟩ _ _ ⟨⟨rfl, rfl⟩, -⟩ _ _ ⟨⟨rfl, rfl⟩, -⟩ _ _ ⟨⟨rfl, rfl⟩, -⟩ _ _ ⟨⟨rfl, rfl⟩, -⟩ _ _ ⟨⟨rfl, rfl⟩, -⟩ _ _ ⟨⟨rfl, rfl⟩, -⟩ _ _ ⟨⟨rfl, rfl⟩, -⟩ _ _ ⟨⟨rfl, rfl⟩, -⟩ _ _ ⟨⟨rfl, rfl⟩, -⟩ _ _ ⟨⟨b4, rfl, rfl⟩, hva⟩ a w23 hfr hst
  obtain rfl : b4 = bq := ptr_inj (hva rfl)
  replace hfr : Fr 136 [(93, _), (94, _), (95, _), (96, _), (97, _), (98, _), (99, _), (100, _), (101, _), (102, _), (103, _), (104, _), (92, _), (105, _), (106, _), (27, _), (6, _), (14, _), (16, _), (17, _), (18, _), (5, _), (20, _), (21, _), (23, _), (25, _), (91, _)] [] a := hfr
  replace hst : St No w0 [blk b4 [.int .i64 sd.state, .int .i64 sd.since, .int .i64 sd.next] 39, blk w19.heap.size [.int .i64 sb.state, .int .i64 sb.since, .int .i64 sb.next] 39, blk w16.heap.size [.int .i64 sa.state, .int .i64 sa.since, .int .i64 sa.next] 39, blk w4.heap.size [.int .i64 cl.number, .int .i64 cl.frm, .int .i64 cl.to, .int .i64 cl.holder, .int .i64 cl.asked, .bool cl.backed] 31, blk w3.heap.size [.int .i64 rl.answer, .int .i64 rl.cooling, .int .i64 rl.settle, .int .i64 rl.reverse] 29, own v1 45 3 (l.map Evt.cells)] w23 := hst
  refine wl_nil ?_
  refine wd_lin (k := 17) 18 [17] (by kernel_rfl) (by kernel_rfl) (by kernel_rfl) ?_
  refine wl_v hfr (by decide) (v_assign rfl) ?_
  clear hfr
  intro a hfr
  refine wl_nil ?_
  refine wd_end (by kernel_rfl) ?_
  refine hK15 _ _ ?_
  replace hfr : Fr 136 [(14, _), (16, _), (17, _), (18, _), (5, _), (23, _), (25, _), (27, _), (28, _)] [] a := hfr.pick [14, 16, 17, 18, 5, 23, 25, 27, 28]
  refine wc_seq_region fun K16 hK16 => ?_
  refine wl_v hfr (by decide) (v_load_all (hst.get (k := 4) rfl) rfl (Try.isAgg29 _) (Try.sizeOf29 _)) ?_
  clear hfr
  intro a hfr
  refine wl_v hfr (by decide) (v_load_all (hst.get (k := 3) rfl) rfl (Try.isAgg31 _) (Try.sizeOf31 _)) ?_
  clear hfr
  intro a hfr
  refine wl_v hfr (by decide) (v_move rfl) ?_
  clear hfr
  intro a hfr
  refine wl_v hfr (by decide) (v_move rfl) ?_
  clear hfr
  intro a hfr
  refine wl_callp hfr hst (by decide) Try.call14 rfl (outcome2 (s := sk) hsk (outcome_ok rl cl v1 l tp _ (hst.ownAt (i := 5) rfl) hv (by simp [isIn]; omega))) ?_
  clear hfr hst
  intro a w24 hfr hst
  refine wl_v hfr (by decide) (v_move rfl) ?_
  clear hfr
  intro a hfr
  refine wl_v hfr (by decide) (v_extract rfl rfl) ?_
  clear hfr
  intro a hfr
  refine wl_v hfr (by decide) (v_extract rfl rfl) ?_
  clear hfr
  intro a hfr
  refine wl_alloc hfr hst (by decide) (Try.zeroValue39 _) (cs := [.int .i64 0, .int .i64 0, .int .i64 0]) rfl ?_
  clear hfr hst
  intro a w25 hfr hst
  refine wl_store 0 hfr hst rfl rfl rfl (Try.sizeOf39 _) rfl (Nat.le_of_ble_eq_true rfl) (ds := [.int .i64 sk.state, .int .i64 sk.since, .int .i64 sk.next]) rfl rfl ?_
  clear hfr hst
  intro a w26 hfr hst
  refine wl_v hfr (by decide) (v_assign rfl) ?_
  clear hfr
  intro a hfr
  refine wl_nil (hK16 _ _ ?_)
  replace hfr : Fr 136 [(14, _), (23, _), (25, _), (27, _), (28, _), (29, _), (30, _)] [] a := hfr.pick [14, 23, 25, 27, 28, 29, 30]
  replace hst : St No w0 [_, _, _, _] w26 := hst.mask [true, true, true, true, false, false, false]
  refine wc_seq_region fun K17 hK17 => ?_
  refine wl_v hfr (by decide) (v_move rfl) ?_
  clear hfr
  intro a hfr
  refine wl_v hfr (by decide) ((v_eq rfl rfl).asb (b' := true) rfl) ?_
  clear hfr
  intro a hfr
  refine wl_v hfr (by decide) (v_move rfl) ?_
  clear hfr
  intro a hfr
  refine wl_vy hfr (by decide) rfl (by decide) rfl (v_move rfl) ?_
  clear hfr
  intro a hfr
  refine wl_vy hfr (by decide) rfl (by decide) rfl ((v_eq rfl rfl).asb (b' := true) rfl) ?_
  clear hfr
  intro a hfr
  refine wl_v hfr (by decide) (v_pick_t rfl rfl) ?_
  clear hfr
  intro a hfr
  refine wl_v hfr (by decide) (v_move rfl) ?_
  clear hfr
  intro a hfr
  refine wl_vy hfr (by decide) rfl (by decide) rfl (v_load_all (hst.get (k := 3) rfl) rfl (Try.isAgg39 _) (Try.sizeOf39 _)) ?_
  clear hfr
  intro a hfr
  refine wl_vy hfr (by decide) rfl (by decide) rfl (v_load_all (hst.get (k := 2) rfl) rfl (Try.isAgg39 _) (Try.sizeOf39 _)) ?_
  clear hfr
  intro a hfr
  refine wl_vy hfr (by decide) rfl (by decide) rfl (v_ne_agg rfl rfl (by kernel_rfl) (eqStt sa.state sa.since sa.next sb.state sb.since sb.next _)) ?_
  clear hfr
  intro a hfr
  refine wl_vy hfr (by decide) rfl (by decide) rfl (v_move rfl) ?_
  clear hfr
  intro a hfr
  rcases Bool.eq_false_or_eq_true (!(decide (sa.state = sb.state) && decide (sa.since = sb.since) && decide (sa.next = sb.next))) with hb5 | hb5
  · rw [hb5] at hfr
    try simp only [Bool.not_eq_true', Bool.not_eq_false', decide_eq_true_eq, decide_eq_false_iff_not] at hb5
    refine wl_vn hfr (by decide) rfl (by decide) rfl rfl ?_
    clear hfr
    intro a hfr
    refine wl_vn hfr (by decide) rfl (by decide) rfl rfl ?_
    clear hfr
    intro a hfr
    refine wl_vn hfr (by decide) rfl (by decide) rfl rfl ?_
    clear hfr
    intro a hfr
    refine wl_vn hfr (by decide) rfl (by decide) rfl rfl ?_
    clear hfr
    intro a hfr
    refine wl_vu hfr (by decide) rfl (by decide) rfl ?_
    clear hfr
    intro a hfr
    refine wl_vu hfr (by decide) rfl (by decide) rfl ?_
    clear hfr
    intro a hfr
    refine wl_vu hfr (by decide) rfl (by decide) rfl ?_
    clear hfr
    intro a hfr
    refine wl_vn hfr (by decide) rfl (by decide) rfl rfl ?_
    clear hfr
    intro a hfr
    refine wl_vy hfr (by decide) rfl (by decide) rfl (v_pick_t rfl rfl) ?_
    clear hfr
    intro a hfr
    refine wl_v hfr (by decide) (v_pick_t rfl rfl) ?_
    clear hfr
    intro a hfr
    refine wl_v hfr (by decide) (v_assign rfl) ?_
    clear hfr
    intro a hfr
    refine wl_nil (hK17 _ _ ?_)
    replace hfr : Fr 136 [(14, _)] [] a := hfr.pick [14]
    replace hst : St No w0 [] w26 := hst.mask [false, false, false, false]
    refine wc_ret ?_
    refine fin_ret hfr Try.results9 (resAre_tmp rfl resAre_nil) ?_
    exact ⟨by simp [retv], hst.ext⟩
  rw [hb5] at hfr
  try simp only [Bool.not_eq_true', Bool.not_eq_false', decide_eq_true_eq, decide_eq_false_iff_not] at hb5
  have hab : sa = sb := by cases sa; cases sb; simp_all
  refine wl_vy hfr (by decide) rfl (by decide) rfl (v_load_all (hst.get (k := 1) rfl) rfl (Try.isAgg39 _) (Try.sizeOf39 _)) ?_
  clear hfr
  intro a hfr
  refine wl_vy hfr (by decide) rfl (by decide) rfl (v_load_all (hst.get (k := 3) rfl) rfl (Try.isAgg39 _) (Try.sizeOf39 _)) ?_
  clear hfr
  intro a hfr
  refine wl_vy hfr (by decide) rfl (by decide) rfl ((v_eq_agg rfl rfl (by kernel_rfl) (eqStt sd.state sd.since sd.next sa.state sa.since sa.next _)).asb (b' := true) (by obtain ⟨h1, h2⟩ := hcon hab; subst h1; simp)) ?_
  clear hfr
  intro a hfr
  refine wl_vy hfr (by decide) rfl (by decide) rfl (v_move rfl) ?_
  clear hfr
  intro a hfr
  refine wl_vy hfr (by decide) rfl (by decide) rfl (v_load_all (hst.get (k := 0) rfl) rfl (Try.isAgg39 _) (Try.sizeOf39 _)) ?_
  clear hfr
  intro a hfr
  refine wl_vy hfr (by decide) rfl (by decide) rfl (v_load_all (hst.get (k := 3) rfl) rfl (Try.isAgg39 _) (Try.sizeOf39 _)) ?_
  clear hfr
  intro a hfr
  refine wl_vy hfr (by decide) rfl (by decide) rfl ((v_eq_agg rfl rfl (by kernel_rfl) (eqStt sk.state sk.since sk.next sa.state sa.since sa.next _)).asb (b' := true) (by obtain ⟨h1, h2⟩ := hcon hab; subst h2; simp)) ?_
  clear hfr
  intro a hfr
  refine wl_vy hfr (by decide) rfl (by decide) rfl (v_pick_t rfl rfl) ?_
  clear hfr
  intro a hfr
  refine wl_vy hfr (by decide) rfl (by decide) rfl (v_pick_f rfl rfl) ?_
  clear hfr
  intro a hfr
  refine wl_v hfr (by decide) (v_pick_t rfl rfl) ?_
  clear hfr
  intro a hfr
  refine wl_v hfr (by decide) (v_assign rfl) ?_
  clear hfr
  intro a hfr
  refine wl_nil (hK17 _ _ ?_)
  replace hfr : Fr 136 [(14, _)] [] a := hfr.pick [14]
  replace hst : St No w0 [] w26 := hst.mask [false, false, false, false]
  refine wc_ret ?_
  refine fin_ret hfr Try.results9 (resAre_tmp rfl resAre_nil) ?_
  exact ⟨by simp [retv], hst.ext⟩
end Go.Proofs.Ytdamipejlfipcaa
