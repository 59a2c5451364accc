/- Texts joined: DigI, DigJ, DigK, DigL, DigM, DigN, Rev, DigO. -/
import Derived.Test.YtmcoolbjgeibcaaDoorJE
import Derived.Test.YtmcoolbjgeibcaaDoorJP
import Derived.Test.YtmcoolbjgeibcaaDoorJB
namespace Go.Proofs.YtmcoolbjgeibcaaDoor
open Go.RowKit Go.PW
set_option linter.unusedVariables false
set_option linter.unusedSimpArgs false
set_option maxRecDepth 4000

def fewH (xs : List By) (m : Nat) : List By := (xs.take m).map fun s => s.take 60
theorem few_len (xs : List By) (k : Nat) : (fewH xs k).length = min k xs.length := by simp [fewH]
theorem few_succ {xs : List By} {k : Nat} (hk : k < xs.length) : fewH xs (k + 1) = fewH xs k ++ [(xs.getD k []).take (min (xs.getD k []).length 60)] := by
  unfold fewH
  rw [List.take_succ_eq_append_getElem hk, List.map_append]
  have : xs.getD k [] = xs[k] := by simp [List.getD_eq_getElem?_getD, List.getElem?_eq_getElem hk]
  rw [this]
  simp [List.take_eq_take_iff, Nat.min_comm]

/-- dialtone/dialtonelaw02.few -/
theorem few_ok (lv : Value) (xs : List By) (mx : Nat) (w0 : World) (hlv : SlAt w0 lv 1 (xs.map fun s => [sv s])) (hm : mx ≤ 1000) :
    Ret Tryd.prog 13 #[lv, .int .i64 (mx : Int)] w0 (MemR w0 (fun v : Value => v) (fun v => [own v 9 1 ((fewH xs mx).map fun s => [sv s])]) (fun _ => True)) := by
  have hnb := hlv.le
  rw [List.length_map] at hnb
  refine ret_of Tryd.func13 rfl Tryd.ntmps13 (Nat.le_of_ble_eq_true rfl) fun a hfr => ?_
  replace hfr : Fr 33 [(0, _), (1, _)] [] a := hfr
  replace hst : St No w0 [] w0 := St.init w0
  refine wc_seq_region fun K1 hK1 => ?_
  refine wl_v hfr (by decide) (v_assign rfl) ?_
  clear hfr
  intro a hfr
  refine wl_nil (hK1 _ _ ?_)
  refine wc_seq_region fun K2 hK2 => ?_
  refine wl_v hfr (by decide) (v_assign rfl) ?_
  clear hfr
  intro a hfr
  refine wl_nil (hK2 _ _ ?_)
  refine wc_seq_k fun K3 hK3 => ?_
  refine wc_seq_region fun K4 hK4 => ?_
  refine wl_v hfr (by decide) (v_assign rfl) ?_
  clear hfr
  intro a hfr
  refine wl_nil (hK4 _ _ ?_)
  refine wc_block ?_
  replace hst : St No w0 (own (.slice none 0 0) 9 1 ((fewH xs 0).map fun s => [sv s]) :: []) w0 := hst.nil_own
  refine wc_loop (fun m a w => ∃ (k : Nat) (v : Value), m = xs.length - k ∧ (k ≤ xs.length) ∧ (k ≤ mx) ∧ Fr 33 [(0, lv), (1, .int .i64 (mx : Int)), (4, .slice none 0 0), (6, .int .i64 (k : Int)), (5, v)] [] a ∧ St No w0 [own v 9 1 ((fewH xs k).map fun s => [sv s])] w) _ ⟨0, .slice none 0 0, rfl, Nat.zero_le _, Nat.zero_le _, hfr.pick [0, 1, 4, 6, 5], hst.select [0] (by decide)⟩ ?_
  rintro _ a w1 ⟨k, v, rfl, hk, hkm, hfr, hst⟩
  refine wc_seq_k fun K5 hK5 => ?_
  refine wc_seq_region fun K6 hK6 => ?_
  refine wl_v hfr (by decide) (v_move rfl) ?_
  clear hfr
  intro a hfr
  refine wl_v hfr (by decide) (v_move rfl) ?_
  clear hfr
  intro a hfr
  refine wl_v hfr (by decide) ((v_len_sl (sT := 22) (hst.arg hlv) rfl rfl (Tryd.runUnderlying22 _)).asi (m' := (xs.length : Int)) (by simp)) ?_
  clear hfr
  intro a hfr
  refine wl_v hfr (by decide) (v_lt rfl rfl) ?_
  clear hfr
  intro a hfr
  refine wl_v hfr (by decide) (v_move rfl) ?_
  clear hfr
  intro a hfr
  rcases Bool.eq_false_or_eq_true (decide ((k : Int) < (xs.length : Int))) with hb1 | hb1
  · rw [hb1] at hfr
    try simp only [Bool.not_eq_true', Bool.not_eq_false', decide_eq_true_eq, decide_eq_false_iff_not] at hb1
    refine wl_vy hfr (by decide) rfl (by decide) rfl (v_move rfl) ?_
    clear hfr
    intro a hfr
    refine wl_vy hfr (by decide) rfl (by decide) rfl (v_move rfl) ?_
    clear hfr
    intro a hfr
    refine wl_vy hfr (by decide) rfl (by decide) rfl (v_lt rfl rfl) ?_
    clear hfr
    intro a hfr
    refine wl_v hfr (by decide) (v_pick_t rfl rfl) ?_
    clear hfr
    intro a hfr
    refine wl_nil (hK6 _ _ ?_)
    replace hfr : Fr 33 [(0, _), (1, _), (4, _), (6, _), (5, _), (15, _)] [] a := hfr.pick [0, 1, 4, 6, 5, 15]
    refine wc_cond hfr rfl (fun hc2 => ?_) (fun hc2 => ?_)
    · rw [hc2] at hfr
      try simp only [Bool.not_eq_true', Bool.not_eq_false', decide_eq_true_eq, decide_eq_false_iff_not] at hc2
      refine wc_skip ?_
      refine hK5 _ _ ?_
      refine wc_seq_k fun K7 hK7 => ?_
      refine wc_block ?_
      refine wc_of_dr (by kernel_rfl) (dr_of_wd (by kernel_rfl) fun w2 hxz => ?_)
      replace hst : St No w0 [own v 9 1 ((fewH xs k).map fun s => [sv s])] w2 := hst.grow hxz
      refine wd_sub (k := 0) 13 [0, 12] hfr (by kernel_rfl) (by kernel_rfl) (by kernel_rfl) (by rfl) ?_
      replace hfr : Fr 33 [(0, _), (1, _), (4, _), (6, _), (5, _), (15, _)] [] a := hfr.pick [0, 1, 4, 6, 5, 15]
      refine wc_phases_q [12] (fun i => match i with | 12 => pm (fun b : Nat => .slice (some ⟨b, 0, none⟩) 1 1) (fun b => [own (.slice (some ⟨b, 0, none⟩) 1 1) 9 1 [[sv ((xs.getD k []).take (min (xs.getD k []).length 60))]]]) (fun _ => True) | _ => fun _ _ => False) 13 [[], [], [], [1, 2], [3], [], [], [5, 6], [7], [8], [9], [4, 10], [11]] [v, lv, .int .i64 (k : Int), slAddr lv (k * 1), sv (xs.getD k []), lv, .int .i64 (k : Int), slAddr lv (k * 1), sv (xs.getD k []), .int .i64 ((xs.getD k []).length : Int), .int .i64 (min ((xs.getD k []).length : Int) 60), sv ((xs.getD k []).take (min (xs.getD k []).length 60)), undef] hfr hst (by kernel_rfl) (by kernel_rfl) (by kernel_rfl) ?_ ?_ ?_
      · intro i hi hiq
        match i, hi, hiq with
        | 0, _, _ =>
          intro w hst
          exact OpV.g (v_move rfl)
        | 1, _, _ =>
          intro w hst
          exact OpV.g (v_move rfl)
        | 2, _, _ =>
          intro w hst
          exact OpV.g (v_move rfl)
        | 3, _, _ =>
          intro w hst
          exact OpV.g ((v_indexAddr_sl (i := (k : Int)) (sT := 22) (hst.arg hlv) rfl rfl (Tryd.runUnderlying22 _) (Tryd.sizeOf9 _) (by omega) (by rw [List.length_map]; omega)).as (v' := slAddr lv (k * 1)) rfl)
        | 4, _, _ =>
          intro w hst
          exact OpV.g (v_load_sl1 (u := sv (xs.getD k [])) (i := k) (j := 0) (hst.arg hlv) (by rw [List.length_map]; omega) rfl (Tryd.isAgg9 _) (by simp [List.getD_eq_getElem?_getD, List.getElem?_eq_getElem (show k < xs.length by omega)]))
        | 5, _, _ =>
          intro w hst
          exact OpV.g (v_move rfl)
        | 6, _, _ =>
          intro w hst
          exact OpV.g (v_move rfl)
        | 7, _, _ =>
          intro w hst
          exact OpV.g ((v_indexAddr_sl (i := (k : Int)) (sT := 22) (hst.arg hlv) rfl rfl (Tryd.runUnderlying22 _) (Tryd.sizeOf9 _) (by omega) (by rw [List.length_map]; omega)).as (v' := slAddr lv (k * 1)) rfl)
        | 8, _, _ =>
          intro w hst
          exact OpV.g (v_load_sl1 (u := sv (xs.getD k [])) (i := k) (j := 0) (hst.arg hlv) (by rw [List.length_map]; omega) rfl (Tryd.isAgg9 _) (by simp [List.getD_eq_getElem?_getD, List.getElem?_eq_getElem (show k < xs.length by omega)]))
        | 9, _, _ =>
          intro w hst
          exact OpV.g (v_len_str rfl rfl (Tryd.runUnderlying9 _))
        | 10, _, _ =>
          intro w hst
          exact OpV.g (v_min2 rfl rfl)
        | 11, _, _ =>
          intro w hst
          exact OpV.g ((v_slice_str (l := 0) (h := (min (xs.getD k []).length 60)) rfl rfl rfl Tryd.underlying9 (.inl ⟨rfl, rfl⟩) (.inr (by rw [show (min ((xs.getD k []).length : Int) 60 : Int) = (((min (xs.getD k []).length 60) : Nat) : Int) from by omega] <;> rfl)) (by omega) (by first | omega | exact Nat.min_le_left _ _)).as (v' := sv ((xs.getD k []).take (min (xs.getD k []).length 60))) rfl)
        | 12, _, h => exact absurd (by simp) h
        | i + 13, h, _ => exact absurd h (by omega)
      · intro i hi
        simp only [List.mem_cons, List.not_mem_nil, or_false] at hi
        subst hi
        · intro w hst
          exact g_buildSlice (E := 9) (sz := 1) rfl [[sv ((xs.getD k []).take (min (xs.getD k []).length 60))]] (fun _ => by kernel_rfl) (by simp) rfl (by decide)
      clear hfr hst
      rintro _ _ ⟨b3, rfl, -, rfl⟩ a w3 hfr hst
      replace hfr : Fr 33 [(18, v), (19, lv), (20, .int .i64 (k : Int)), (21, slAddr lv (k * 1)), (22, sv (xs.getD k [])), (23, lv), (24, .int .i64 (k : Int)), (25, slAddr lv (k * 1)), (26, sv (xs.getD k [])), (27, .int .i64 ((xs.getD k []).length : Int)), (28, .int .i64 (min ((xs.getD k []).length : Int) 60)), (29, sv ((xs.getD k []).take (min (xs.getD k []).length 60))), (30, _), (0, _), (1, _), (4, _), (6, _), (5, _), (15, _)] [] a := hfr
      replace hst : St No w0 [_, _] w3 := hst
      refine wl_nil ?_
      refine wd_lin (k := 13) 15 [14] (by kernel_rfl) (by kernel_rfl) (by kernel_rfl) ?_
      refine wl_append (i := 1) (sT := 22) (inf := Tryd.t9) (z := .string (⟨#[]⟩)) (b := 0) (off := 0) (m := 0) (c := 0) rfl rfl rfl (hst.ownAt (i := 0) rfl) (by simp) Tryd.underlying22 rfl rfl rfl rfl (by decide) (by simp [Value.oneCell', yv, wv, sv]) (by have hby : Tryd.t9.bytes = 16 := rfl; rw [List.length_map, few_len]; simp only [big, hby, List.length_cons, List.length_nil]; omega) (by have hby : Tryd.t9.bytes = 16 := rfl; rw [List.length_map, few_len]; simp only [big, hby, List.length_cons, List.length_nil]; omega) (by decide) hfr hst fun a w4 s4 hfr hst _ => ?_
      refine wl_v hfr (by decide) (v_assign rfl) ?_
      clear hfr
      intro a hfr
      refine wl_nil ?_
      refine wd_end (by kernel_rfl) ?_
      refine hK7 _ _ ?_
      replace hfr : Fr 33 [(0, _), (1, _), (4, _), (6, _), (5, _)] [] a := hfr.pick [0, 1, 4, 6, 5]
      replace hst : St No w0 [_] w4 := hst.mask [false, true]
      refine wc_region ?_
      refine wl_v hfr (by decide) (v_move rfl) ?_
      clear hfr
      intro a hfr
      refine wl_v hfr (by decide) (v_add rfl rfl ⟨by omega, by omega⟩) ?_
      clear hfr
      intro a hfr
      refine wl_v hfr (by decide) (v_assign rfl) ?_
      clear hfr
      intro a hfr
      refine wl_nil ?_
      rw [show ((fewH xs k).map fun s => [sv s]) ++ ([[sv ((xs.getD k []).take (min (xs.getD k []).length 60))]]) = ((fewH xs (k + 1)).map fun s => [sv s]) from by rw [few_succ (by omega)]; simp] at hst
      refine ⟨_, ?_, k + 1, s4, rfl, (by omega), (by omega), hfr.pick [0, 1, 4, 6, 5], hst.select [0] (by decide)⟩
      omega
    rw [hc2] at hfr
    try simp only [Bool.not_eq_true', Bool.not_eq_false', decide_eq_true_eq, decide_eq_false_iff_not] at hc2
    refine wc_exit ?_
    refine hK3 _ _ ?_
    refine wc_seq_region fun K8 hK8 => ?_
    refine wl_v hfr (by decide) (v_move rfl) ?_
    clear hfr
    intro a hfr
    refine wl_v hfr (by decide) (v_assign rfl) ?_
    clear hfr
    intro a hfr
    refine wl_nil (hK8 _ _ ?_)
    replace hfr : Fr 33 [(4, _)] [] a := hfr.pick [4]
    refine wc_ret ?_
    refine fin_ret hfr Tryd.results13 (resAre_tmp rfl resAre_nil) ?_
    have hfe : fewH xs mx = fewH xs k := by unfold fewH; congr 1; rw [List.take_eq_take_iff]; omega
    exact ⟨v, rfl, trivial, hst.ext, St.out (E := [own v 9 1 ((fewH xs mx).map fun s => [sv s])]) (H := []) (by rw [hfe]; exact hst)⟩
  rw [hb1] at hfr
  try simp only [Bool.not_eq_true', Bool.not_eq_false', decide_eq_true_eq, decide_eq_false_iff_not] at hb1
  refine wl_vn hfr (by decide) rfl (by decide) rfl rfl ?_
  clear hfr
  intro a hfr
  refine wl_vn hfr (by decide) rfl (by decide) rfl rfl ?_
  clear hfr
  intro a hfr
  refine wl_vn hfr (by decide) rfl (by decide) rfl rfl ?_
  clear hfr
  intro a hfr
  refine wl_v hfr (by decide) (v_pick_f rfl rfl) ?_
  clear hfr
  intro a hfr
  refine wl_nil (hK6 _ _ ?_)
  replace hfr : Fr 33 [(0, _), (1, _), (4, _), (6, _), (5, _), (15, _)] [] a := hfr.pick [0, 1, 4, 6, 5, 15]
  refine wc_cond_f hfr rfl ?_
  refine wc_exit ?_
  refine hK3 _ _ ?_
  refine wc_seq_region fun K9 hK9 => ?_
  refine wl_v hfr (by decide) (v_move rfl) ?_
  clear hfr
  intro a hfr
  refine wl_v hfr (by decide) (v_assign rfl) ?_
  clear hfr
  intro a hfr
  refine wl_nil (hK9 _ _ ?_)
  replace hfr : Fr 33 [(4, _)] [] a := hfr.pick [4]
  refine wc_ret ?_
  refine fin_ret hfr Tryd.results13 (resAre_tmp rfl resAre_nil) ?_
  have hfe : fewH xs mx = fewH xs k := by unfold fewH; congr 1; rw [List.take_eq_take_iff]; omega
  exact ⟨v, rfl, trivial, hst.ext, St.out (E := [own v 9 1 ((fewH xs mx).map fun s => [sv s])]) (H := []) (by rw [hfe]; exact hst)⟩
end Go.Proofs.YtmcoolbjgeibcaaDoor
namespace Go.Proofs.YtmcoolbjgeibcaaDoor
open Go.RowKit Go.PW
set_option linter.unusedVariables false
set_option linter.unusedSimpArgs false
set_option maxRecDepth 4000

theorem same_endB {xs ys : List By} {k : Nat} (hl : xs.length = ys.length) (hk : xs.length ≤ k) (h : ∀ j, j < k → xs.getD j [] = ys.getD j []) : xs = ys := by
  refine List.ext_getElem hl fun j h1 h2 => ?_
  have := h j (by omega)
  simpa [List.getD_eq_getElem?_getD, h1, h2] using this

/-- dialtone/dialtoneref02.Same -/
theorem sames_ok (av bv : Value) (xs ys : List By) (w0 : World) (hav : SlAt w0 av 1 (xs.map fun s => [sv s])) (hbv : SlAt w0 bv 1 (ys.map fun s => [sv s])) :
    Ret Tryd.prog 18 #[av, bv] w0 fun v w => v = .bool (decide (xs = ys)) ∧ Ext No w0 w := by
  have hnb := hav.le
  rw [List.length_map] at hnb
  refine ret_of Tryd.func18 rfl Tryd.ntmps18 (Nat.le_of_ble_eq_true rfl) fun a hfr => ?_
  replace hfr : Fr 26 [(0, _), (1, _)] [] a := hfr
  replace hst : St No w0 [] w0 := St.init w0
  refine wc_seq_region fun K1 hK1 => ?_
  refine wl_v hfr (by decide) (v_assign rfl) ?_
  clear hfr
  intro a hfr
  refine wl_nil (hK1 _ _ ?_)
  refine wc_seq_k fun K2 hK2 => ?_
  refine wc_seq_region fun K3 hK3 => ?_
  refine wl_v hfr (by decide) (v_move rfl) ?_
  clear hfr
  intro a hfr
  refine wl_v hfr (by decide) ((v_len_sl (sT := 22) (hst.arg hav) rfl rfl (Tryd.runUnderlying22 _)).asi (m' := (xs.length : Int)) (by simp)) ?_
  clear hfr
  intro a hfr
  refine wl_v hfr (by decide) (v_move rfl) ?_
  clear hfr
  intro a hfr
  refine wl_v hfr (by decide) ((v_len_sl (sT := 22) (hst.arg hbv) rfl rfl (Tryd.runUnderlying22 _)).asi (m' := (ys.length : Int)) (by simp)) ?_
  clear hfr
  intro a hfr
  refine wl_v hfr (by decide) (v_ne rfl rfl) ?_
  clear hfr
  intro a hfr
  refine wl_nil (hK3 _ _ ?_)
  refine wc_cond hfr rfl (fun hc1 => ?_) (fun hc1 => ?_)
  · rw [hc1] at hfr
    try simp only [Bool.not_eq_true', Bool.not_eq_false', decide_eq_true_eq, decide_eq_false_iff_not] at hc1
    refine wc_seq_region fun K4 hK4 => ?_
    refine wl_v hfr (by decide) (v_assign rfl) ?_
    clear hfr
    intro a hfr
    refine wl_nil (hK4 _ _ ?_)
    refine wc_ret ?_
    refine fin_ret hfr Tryd.results18 (resAre_tmp rfl resAre_nil) ?_
    exact ⟨by simp only [retv]; congr 1; exact (decide_eq_false (fun h => by subst h; simp_all)).symm, hst.ext⟩
  rw [hc1] at hfr
  try simp only [Bool.not_eq_true', Bool.not_eq_false', decide_eq_true_eq, decide_eq_false_iff_not] at hc1
  refine wc_skip ?_
  refine hK2 _ _ ?_
  refine wc_seq_k fun K5 hK5 => ?_
  refine wc_seq_region fun K6 hK6 => ?_
  refine wl_v hfr (by decide) (v_assign rfl) ?_
  clear hfr
  intro a hfr
  refine wl_nil (hK6 _ _ ?_)
  refine wc_block ?_
  refine wc_loop (fun m a w => ∃ (k : Nat), m = xs.length - k ∧ (k ≤ xs.length) ∧ (xs.length = ys.length) ∧ (∀ j, j < k → xs.getD j [] = ys.getD j []) ∧ Fr 26 [(0, av), (1, bv), (5, .int .i64 (k : Int))] [] a ∧ St No w0 [] w) _ ⟨0, rfl, Nat.zero_le _, (by omega), (by intro j hj; omega), hfr.pick [0, 1, 5], hst.select [] (by decide)⟩ ?_
  rintro _ a w1 ⟨k, rfl, hk, hlen, hsame, hfr, hst⟩
  refine wc_seq_k fun K7 hK7 => ?_
  refine wc_seq_region fun K8 hK8 => ?_
  refine wl_v hfr (by decide) (v_move rfl) ?_
  clear hfr
  intro a hfr
  refine wl_v hfr (by decide) (v_move rfl) ?_
  clear hfr
  intro a hfr
  refine wl_v hfr (by decide) ((v_len_sl (sT := 22) (hst.arg hav) rfl rfl (Tryd.runUnderlying22 _)).asi (m' := (xs.length : Int)) (by simp)) ?_
  clear hfr
  intro a hfr
  refine wl_v hfr (by decide) (v_lt rfl rfl) ?_
  clear hfr
  intro a hfr
  refine wl_nil (hK8 _ _ ?_)
  refine wc_cond hfr rfl (fun hc2 => ?_) (fun hc2 => ?_)
  · rw [hc2] at hfr
    try simp only [Bool.not_eq_true', Bool.not_eq_false', decide_eq_true_eq, decide_eq_false_iff_not] at hc2
    refine wc_skip ?_
    refine hK7 _ _ ?_
    refine wc_seq_k fun K9 hK9 => ?_
    refine wc_block ?_
    refine wc_seq_k fun K10 hK10 => ?_
    refine wc_of_dr (by kernel_rfl) (dr_of_wd (by kernel_rfl) fun w2 hxz => ?_)
    replace hst : St No w0 [] w2 := hst.grow hxz
    refine wd_sub (k := 0) 8 [3, 7] hfr (by kernel_rfl) (by kernel_rfl) (by kernel_rfl) (by rfl) ?_
    replace hfr : Fr 26 [(0, _), (1, _), (5, _), (11, _), (12, _), (13, _), (14, _)] [] a := hfr.pick [0, 1, 5, 11, 12, 13, 14]
    refine wc_phases_q [] (fun i => match i with | _ => fun _ _ => False) 8 [[], [], [0, 1], [2], [], [], [4, 5], [6]] [av, .int .i64 (k : Int), slAddr av (k * 1), sv (xs.getD k []), bv, .int .i64 (k : Int), slAddr bv (k * 1), sv (ys.getD k [])] hfr hst (by kernel_rfl) (by kernel_rfl) (by kernel_rfl) ?_ ?_ ?_
    · intro i hi hiq
      match i, hi, hiq with
      | 0, _, _ =>
        intro w hst
        exact OpV.g (v_move rfl)
      | 1, _, _ =>
        intro w hst
        exact OpV.g (v_move rfl)
      | 2, _, _ =>
        intro w hst
        exact OpV.g ((v_indexAddr_sl (i := (k : Int)) (sT := 22) (hst.arg hav) rfl rfl (Tryd.runUnderlying22 _) (Tryd.sizeOf9 _) (by omega) (by rw [List.length_map]; omega)).as (v' := slAddr av (k * 1)) rfl)
      | 3, _, _ =>
        intro w hst
        exact OpV.g (v_load_sl1 (u := sv (xs.getD k [])) (i := k) (j := 0) (hst.arg hav) (by rw [List.length_map]; omega) rfl (Tryd.isAgg9 _) (by simp [List.getD_eq_getElem?_getD, List.getElem?_eq_getElem (show k < xs.length by omega)]))
      | 4, _, _ =>
        intro w hst
        exact OpV.g (v_move rfl)
      | 5, _, _ =>
        intro w hst
        exact OpV.g (v_move rfl)
      | 6, _, _ =>
        intro w hst
        exact OpV.g ((v_indexAddr_sl (i := (k : Int)) (sT := 22) (hst.arg hbv) rfl rfl (Tryd.runUnderlying22 _) (Tryd.sizeOf9 _) (by omega) (by rw [List.length_map]; omega)).as (v' := slAddr bv (k * 1)) rfl)
      | 7, _, _ =>
        intro w hst
        exact OpV.g (v_load_sl1 (u := sv (ys.getD k [])) (i := k) (j := 0) (hst.arg hbv) (by rw [List.length_map]; omega) rfl (Tryd.isAgg9 _) (by simp [List.getD_eq_getElem?_getD, List.getElem?_eq_getElem (show k < ys.length by omega)]))
    · intro i hi
      exact absurd hi (by simp)
    clear hfr hst
    intro  a w3 hfr hst
    replace hfr : Fr 26 [(17, av), (18, .int .i64 (k : Int)), (19, slAddr av (k * 1)), (20, sv (xs.getD k [])), (21, bv), (22, .int .i64 (k : Int)), (23, slAddr bv (k * 1)), (24, sv (ys.getD k [])), (0, _), (1, _), (5, _), (11, _), (12, _), (13, _), (14, _)] [] a := hfr
    refine wl_nil ?_
    refine wd_lin (k := 8) 9 [8] (by kernel_rfl) (by kernel_rfl) (by kernel_rfl) ?_
    refine wl_v hfr (by decide) (v_sne rfl rfl) ?_
    clear hfr
    intro a hfr
    refine wl_nil ?_
    refine wd_end (by kernel_rfl) ?_
    refine hK10 _ _ ?_
    replace hfr : Fr 26 [(0, _), (1, _), (5, _), (25, _)] [] a := hfr.pick [0, 1, 5, 25]
    refine wc_cond hfr rfl (fun hc3 => ?_) (fun hc3 => ?_)
    · rw [hc3] at hfr
      try simp only [Bool.not_eq_true', Bool.not_eq_false', decide_eq_true_eq, decide_eq_false_iff_not] at hc3
      refine wc_seq_region fun K11 hK11 => ?_
      refine wl_v hfr (by decide) (v_assign rfl) ?_
      clear hfr
      intro a hfr
      refine wl_nil (hK11 _ _ ?_)
      refine wc_ret ?_
      refine fin_ret hfr Tryd.results18 (resAre_tmp rfl resAre_nil) ?_
      exact ⟨by simp only [retv]; congr 1; exact (decide_eq_false (fun h => by subst h; simp_all)).symm, hst.ext⟩
    rw [hc3] at hfr
    try simp only [Bool.not_eq_true', Bool.not_eq_false', decide_eq_true_eq, decide_eq_false_iff_not] at hc3
    refine wc_skip ?_
    refine hK9 _ _ ?_
    refine wc_region ?_
    refine wl_v hfr (by decide) (v_move rfl) ?_
    clear hfr
    intro a hfr
    refine wl_v hfr (by decide) (v_add rfl rfl ⟨by omega, by omega⟩) ?_
    clear hfr
    intro a hfr
    refine wl_v hfr (by decide) (v_assign rfl) ?_
    clear hfr
    intro a hfr
    refine wl_nil ?_
    refine ⟨_, ?_, k + 1, rfl, (by omega), hlen, (by intro j hj; by_cases h : j = k; (subst h; simp_all); exact hsame j (by omega)), hfr.pick [0, 1, 5], hst.select [] (by decide)⟩
    omega
  rw [hc2] at hfr
  try simp only [Bool.not_eq_true', Bool.not_eq_false', decide_eq_true_eq, decide_eq_false_iff_not] at hc2
  refine wc_exit ?_
  refine hK5 _ _ ?_
  refine wc_seq_region fun K12 hK12 => ?_
  refine wl_v hfr (by decide) (v_assign rfl) ?_
  clear hfr
  intro a hfr
  refine wl_nil (hK12 _ _ ?_)
  replace hfr : Fr 26 [(4, _)] [] a := hfr.pick [4]
  refine wc_ret ?_
  refine fin_ret hfr Tryd.results18 (resAre_tmp rfl resAre_nil) ?_
  exact ⟨by simp only [retv]; congr 1; exact (decide_eq_true (same_endB hlen (by omega) hsame)).symm, hst.ext⟩
end Go.Proofs.YtmcoolbjgeibcaaDoor
namespace Go.Proofs.YtmcoolbjgeibcaaDoor
open Go.RowKit Go.PW
set_option linter.unusedVariables false
set_option linter.unusedSimpArgs false
set_option maxRecDepth 4000

theorem all_of {xs : List By} {k : Nat} (hk : xs.length ≤ k) (h : ∀ j, j < k → (xs.getD j []).length = 32 ∨ xs.length ≤ j) : (xs.all fun s => decide (s.length = 32)) = true := by
  rw [List.all_eq_true]
  intro s hs
  obtain ⟨j, hj, rfl⟩ := List.getElem_of_mem hs
  have := h j (by omega)
  rw [List.getD_eq_getElem?_getD, List.getElem?_eq_getElem hj] at this
  simp at this ⊢
  omega
theorem all_not {xs : List By} {k : Nat} (hk : k < xs.length) (h : ¬ ((xs.getD k []).length : Int) = 32) : (xs.all fun s => decide (s.length = 32)) = false := by
  rw [List.all_eq_false]
  refine ⟨xs[k], List.getElem_mem hk, ?_⟩
  rw [List.getD_eq_getElem?_getD, List.getElem?_eq_getElem hk] at h
  simp at h ⊢
  omega

/-- dialtone/dialtoneref02.Digests -/
theorem digests_ok (av : Value) (xs : List By) (w0 : World) (hav : SlAt w0 av 1 (xs.map fun s => [sv s])) :
    Ret Tryd.prog 49 #[av] w0 fun v w => v = .bool (xs.all fun s => decide (s.length = 32)) ∧ Ext No w0 w := by
  have hnb := hav.le
  rw [List.length_map] at hnb
  refine ret_of Tryd.func49 rfl Tryd.ntmps49 (Nat.le_of_ble_eq_true rfl) fun a hfr => ?_
  replace hfr : Fr 16 [(0, _)] [] a := hfr
  replace hst : St No w0 [] w0 := St.init w0
  refine wc_seq_region fun K1 hK1 => ?_
  refine wl_v hfr (by decide) (v_assign rfl) ?_
  clear hfr
  intro a hfr
  refine wl_nil (hK1 _ _ ?_)
  refine wc_seq_k fun K2 hK2 => ?_
  refine wc_seq_region fun K3 hK3 => ?_
  refine wl_v hfr (by decide) (v_assign rfl) ?_
  clear hfr
  intro a hfr
  refine wl_nil (hK3 _ _ ?_)
  refine wc_block ?_
  refine wc_loop (fun m a w => ∃ (k : Nat), m = xs.length - k ∧ (k ≤ xs.length) ∧ (∀ j, j < k → (xs.getD j []).length = 32) ∧ Fr 16 [(0, av), (3, .int .i64 (k : Int))] [] a ∧ St No w0 [] w) _ ⟨0, rfl, Nat.zero_le _, (by intro j hj; omega), hfr.pick [0, 3], hst.select [] (by decide)⟩ ?_
  rintro _ a w1 ⟨k, rfl, hk, hall, hfr, hst⟩
  refine wc_seq_k fun K4 hK4 => ?_
  refine wc_seq_region fun K5 hK5 => ?_
  refine wl_v hfr (by decide) (v_move rfl) ?_
  clear hfr
  intro a hfr
  refine wl_v hfr (by decide) (v_move rfl) ?_
  clear hfr
  intro a hfr
  refine wl_v hfr (by decide) ((v_len_sl (sT := 22) (hst.arg hav) rfl rfl (Tryd.runUnderlying22 _)).asi (m' := (xs.length : Int)) (by simp)) ?_
  clear hfr
  intro a hfr
  refine wl_v hfr (by decide) (v_lt rfl rfl) ?_
  clear hfr
  intro a hfr
  refine wl_nil (hK5 _ _ ?_)
  refine wc_cond hfr rfl (fun hc1 => ?_) (fun hc1 => ?_)
  · rw [hc1] at hfr
    try simp only [Bool.not_eq_true', Bool.not_eq_false', decide_eq_true_eq, decide_eq_false_iff_not] at hc1
    refine wc_skip ?_
    refine hK4 _ _ ?_
    refine wc_seq_k fun K6 hK6 => ?_
    refine wc_block ?_
    refine wc_seq_region fun K7 hK7 => ?_
    refine wl_v hfr (by decide) (v_move rfl) ?_
    clear hfr
    intro a hfr
    refine wl_v hfr (by decide) (v_move rfl) ?_
    clear hfr
    intro a hfr
    refine wl_v hfr (by decide) ((v_indexAddr_sl (i := (k : Int)) (sT := 22) (hst.arg hav) rfl rfl (Tryd.runUnderlying22 _) (Tryd.sizeOf9 _) (by omega) (by rw [List.length_map]; omega)).as (v' := slAddr av (k * 1)) rfl) ?_
    clear hfr
    intro a hfr
    refine wl_v hfr (by decide) (v_load_sl1 (u := sv (xs.getD k [])) (i := k) (j := 0) (hst.arg hav) (by rw [List.length_map]; omega) rfl (Tryd.isAgg9 _) (by simp [List.getD_eq_getElem?_getD, List.getElem?_eq_getElem (show k < xs.length by omega)])) ?_
    clear hfr
    intro a hfr
    refine wl_v hfr (by decide) (v_len_str rfl rfl (Tryd.runUnderlying9 _)) ?_
    clear hfr
    intro a hfr
    refine wl_v hfr (by decide) (v_ne rfl rfl) ?_
    clear hfr
    intro a hfr
    refine wl_nil (hK7 _ _ ?_)
    replace hfr : Fr 16 [(0, _), (3, _), (15, _)] [] a := hfr.pick [0, 3, 15]
    refine wc_cond hfr rfl (fun hc2 => ?_) (fun hc2 => ?_)
    · rw [hc2] at hfr
      try simp only [Bool.not_eq_true', Bool.not_eq_false', decide_eq_true_eq, decide_eq_false_iff_not] at hc2
      refine wc_seq_region fun K8 hK8 => ?_
      refine wl_v hfr (by decide) (v_assign rfl) ?_
      clear hfr
      intro a hfr
      refine wl_nil (hK8 _ _ ?_)
      refine wc_ret ?_
      refine fin_ret hfr Tryd.results49 (resAre_tmp rfl resAre_nil) ?_
      exact ⟨by simp only [retv]; rw [all_not (k := k) (by omega) (by omega)], hst.ext⟩
    rw [hc2] at hfr
    try simp only [Bool.not_eq_true', Bool.not_eq_false', decide_eq_true_eq, decide_eq_false_iff_not] at hc2
    refine wc_skip ?_
    refine hK6 _ _ ?_
    refine wc_region ?_
    refine wl_v hfr (by decide) (v_move rfl) ?_
    clear hfr
    intro a hfr
    refine wl_v hfr (by decide) (v_add rfl rfl ⟨by omega, by omega⟩) ?_
    clear hfr
    intro a hfr
    refine wl_v hfr (by decide) (v_assign rfl) ?_
    clear hfr
    intro a hfr
    refine wl_nil ?_
    refine ⟨_, ?_, k + 1, rfl, (by omega), (by intro j hj; by_cases h : j = k; (subst h; omega); exact hall j (by omega)), hfr.pick [0, 3], hst.select [] (by decide)⟩
    omega
  rw [hc1] at hfr
  try simp only [Bool.not_eq_true', Bool.not_eq_false', decide_eq_true_eq, decide_eq_false_iff_not] at hc1
  refine wc_exit ?_
  refine hK2 _ _ ?_
  refine wc_seq_region fun K9 hK9 => ?_
  refine wl_v hfr (by decide) (v_assign rfl) ?_
  clear hfr
  intro a hfr
  refine wl_nil (hK9 _ _ ?_)
  replace hfr : Fr 16 [(2, _)] [] a := hfr.pick [2]
  refine wc_ret ?_
  refine fin_ret hfr Tryd.results49 (resAre_tmp rfl resAre_nil) ?_
  exact ⟨by simp only [retv]; rw [all_of (k := k) (by omega) (fun j hj => .inl (hall j hj))], hst.ext⟩
end Go.Proofs.YtmcoolbjgeibcaaDoor
namespace Go.Proofs.YtmcoolbjgeibcaaDoor
open Go.RowKit Go.PW
set_option linter.unusedVariables false
set_option linter.unusedSimpArgs false
set_option maxRecDepth 4000

theorem coll_yes {S : By → By} {xs ys : List By} {k : Nat} (h1 : k < xs.length) (h2 : k < ys.length) (hn : ¬ xs.getD k [] = ys.getD k []) (he : S (xs.getD k []) = S (ys.getD k [])) : ((List.range (min xs.length ys.length)).any fun j => decide (xs.getD j [] ≠ ys.getD j []) && decide (S (xs.getD j []) = S (ys.getD j []))) = true := by
  rw [List.any_eq_true]
  exact ⟨k, List.mem_range.2 (by omega), by simp only [ne_eq, Bool.and_eq_true, decide_eq_true_eq]; exact ⟨hn, he⟩⟩
theorem coll_no {S : By → By} {xs ys : List By} {k : Nat} (h1 : min xs.length ys.length ≤ k) (h : ∀ j, j < k → ¬ (xs.getD j [] ≠ ys.getD j [] ∧ S (xs.getD j []) = S (ys.getD j []))) : ((List.range (min xs.length ys.length)).any fun j => decide (xs.getD j [] ≠ ys.getD j []) && decide (S (xs.getD j []) = S (ys.getD j []))) = false := by
  rw [List.any_eq_false]
  intro j hj
  have := h j (by have := List.mem_range.1 hj; omega)
  simp only [ne_eq, Bool.and_eq_true, decide_eq_true_eq]
  exact this

set_option maxHeartbeats 4000000 in
/-- dialtone/dialtonelaw02.collide -/
theorem collide_ok (av bv : Value) (xs ys : List By) (w0 : World) (hav : SlAt w0 av 1 (xs.map fun s => [sv s])) (hbv : SlAt w0 bv 1 (ys.map fun s => [sv s])) (hxb : ∀ k, k < xs.length → (xs.getD k []).length ≤ 100000000) (hyb : ∀ k, k < ys.length → (ys.getD k []).length ≤ 100000000) (hk0 : (blk 0 (kOf.map wv) 88).ok w0) :
    Ret Tryd.prog 27 #[av, bv] w0 fun v w => v = .bool ((List.range (min xs.length ys.length)).any fun j => decide (xs.getD j [] ≠ ys.getD j []) && decide (sha (xs.getD j []) = sha (ys.getD j []))) ∧ Ext No w0 w := by
  have hnb := hav.le
  rw [List.length_map] at hnb
  have hnb2 := hbv.le
  rw [List.length_map] at hnb2
  refine ret_of Tryd.func27 rfl Tryd.ntmps27 (Nat.le_of_ble_eq_true rfl) fun a hfr => ?_
  replace hfr : Fr 40 [(0, _), (1, _)] [] a := hfr
  replace hst : St No w0 [] w0 := St.init w0
  refine wc_seq_region fun K1 hK1 => ?_
  refine wl_v hfr (by decide) (v_assign rfl) ?_
  clear hfr
  intro a hfr
  refine wl_nil (hK1 _ _ ?_)
  refine wc_seq_k fun K2 hK2 => ?_
  refine wc_seq_region fun K3 hK3 => ?_
  refine wl_v hfr (by decide) (v_assign rfl) ?_
  clear hfr
  intro a hfr
  refine wl_nil (hK3 _ _ ?_)
  refine wc_block ?_
  refine wc_loop (fun m a w => ∃ (k : Nat), m = xs.length - k ∧ (k ≤ xs.length) ∧ (∀ j, j < k → ¬ (xs.getD j [] ≠ ys.getD j [] ∧ sha (xs.getD j []) = sha (ys.getD j []))) ∧ Fr 40 [(0, av), (1, bv), (5, .int .i64 (k : Int))] [] a ∧ St No w0 [] w) _ ⟨0, rfl, Nat.zero_le _, (by intro j hj; omega), hfr.pick [0, 1, 5], hst.select [] (by decide)⟩ ?_
  rintro _ a w1 ⟨k, rfl, hk, hno, hfr, hst⟩
  refine wc_seq_k fun K4 hK4 => ?_
  refine wc_seq_region fun K5 hK5 => ?_
  refine wl_v hfr (by decide) (v_move rfl) ?_
  clear hfr
  intro a hfr
  refine wl_v hfr (by decide) (v_move rfl) ?_
  clear hfr
  intro a hfr
  refine wl_v hfr (by decide) ((v_len_sl (sT := 22) (hst.arg hav) rfl rfl (Tryd.runUnderlying22 _)).asi (m' := (xs.length : Int)) (by simp)) ?_
  clear hfr
  intro a hfr
  refine wl_v hfr (by decide) (v_lt rfl rfl) ?_
  clear hfr
  intro a hfr
  refine wl_v hfr (by decide) (v_move rfl) ?_
  clear hfr
  intro a hfr
  rcases Bool.eq_false_or_eq_true (decide ((k : Int) < (xs.length : Int))) with hb1 | hb1
  · rw [hb1] at hfr
    try simp only [Bool.not_eq_true', Bool.not_eq_false', decide_eq_true_eq, decide_eq_false_iff_not] at hb1
    refine wl_vy hfr (by decide) rfl (by decide) rfl (v_move rfl) ?_
    clear hfr
    intro a hfr
    refine wl_vy hfr (by decide) rfl (by decide) rfl (v_move rfl) ?_
    clear hfr
    intro a hfr
    refine wl_vy hfr (by decide) rfl (by decide) rfl ((v_len_sl (sT := 22) (hst.arg hbv) rfl rfl (Tryd.runUnderlying22 _)).asi (m' := (ys.length : Int)) (by simp)) ?_
    clear hfr
    intro a hfr
    refine wl_vy hfr (by decide) rfl (by decide) rfl (v_lt rfl rfl) ?_
    clear hfr
    intro a hfr
    refine wl_v hfr (by decide) (v_pick_t rfl rfl) ?_
    clear hfr
    intro a hfr
    refine wl_nil (hK5 _ _ ?_)
    replace hfr : Fr 40 [(0, _), (1, _), (5, _), (15, _)] [] a := hfr.pick [0, 1, 5, 15]
    refine wc_cond hfr rfl (fun hc2 => ?_) (fun hc2 => ?_)
    · rw [hc2] at hfr
      try simp only [Bool.not_eq_true', Bool.not_eq_false', decide_eq_true_eq, decide_eq_false_iff_not] at hc2
      refine wc_skip ?_
      refine hK4 _ _ ?_
      refine wc_seq_k fun K6 hK6 => ?_
      refine wc_block ?_
      refine wc_seq_k fun K7 hK7 => ?_
      refine wc_of_dr (by kernel_rfl) (dr_of_wd (by kernel_rfl) fun w2 hxz => ?_)
      replace hst : St No w0 [] w2 := hst.grow hxz
      refine wd_sub (k := 0) 8 [3, 7] hfr (by kernel_rfl) (by kernel_rfl) (by kernel_rfl) (by rfl) ?_
      replace hfr : Fr 40 [(0, _), (1, _), (5, _), (15, _)] [] a := hfr.pick [0, 1, 5, 15]
      refine wc_phases_q [] (fun i => match i with | _ => fun _ _ => False) 8 [[], [], [0, 1], [2], [], [], [4, 5], [6]] [av, .int .i64 (k : Int), slAddr av (k * 1), sv (xs.getD k []), bv, .int .i64 (k : Int), slAddr bv (k * 1), sv (ys.getD k [])] hfr hst (by kernel_rfl) (by kernel_rfl) (by kernel_rfl) ?_ ?_ ?_
      · intro i hi hiq
        match i, hi, hiq with
        | 0, _, _ =>
          intro w hst
          exact OpV.g (v_move rfl)
        | 1, _, _ =>
          intro w hst
          exact OpV.g (v_move rfl)
        | 2, _, _ =>
          intro w hst
          exact OpV.g ((v_indexAddr_sl (i := (k : Int)) (sT := 22) (hst.arg hav) rfl rfl (Tryd.runUnderlying22 _) (Tryd.sizeOf9 _) (by omega) (by rw [List.length_map]; omega)).as (v' := slAddr av (k * 1)) rfl)
        | 3, _, _ =>
          intro w hst
          exact OpV.g (v_load_sl1 (u := sv (xs.getD k [])) (i := k) (j := 0) (hst.arg hav) (by rw [List.length_map]; omega) rfl (Tryd.isAgg9 _) (by simp [List.getD_eq_getElem?_getD, List.getElem?_eq_getElem (show k < xs.length by omega)]))
        | 4, _, _ =>
          intro w hst
          exact OpV.g (v_move rfl)
        | 5, _, _ =>
          intro w hst
          exact OpV.g (v_move rfl)
        | 6, _, _ =>
          intro w hst
          exact OpV.g ((v_indexAddr_sl (i := (k : Int)) (sT := 22) (hst.arg hbv) rfl rfl (Tryd.runUnderlying22 _) (Tryd.sizeOf9 _) (by omega) (by rw [List.length_map]; omega)).as (v' := slAddr bv (k * 1)) rfl)
        | 7, _, _ =>
          intro w hst
          exact OpV.g (v_load_sl1 (u := sv (ys.getD k [])) (i := k) (j := 0) (hst.arg hbv) (by rw [List.length_map]; omega) rfl (Tryd.isAgg9 _) (by simp [List.getD_eq_getElem?_getD, List.getElem?_eq_getElem (show k < ys.length by omega)]))
      · intro i hi
        exact absurd hi (by simp)
      clear hfr hst
      intro  a w3 hfr hst
      replace hfr : Fr 40 [(18, av), (19, .int .i64 (k : Int)), (20, slAddr av (k * 1)), (21, sv (xs.getD k [])), (22, bv), (23, .int .i64 (k : Int)), (24, slAddr bv (k * 1)), (25, sv (ys.getD k [])), (0, _), (1, _), (5, _), (15, _)] [] a := hfr
      refine wl_nil ?_
      refine wd_lin (k := 8) 10 [9] (by kernel_rfl) (by kernel_rfl) (by kernel_rfl) ?_
      refine wl_v hfr (by decide) (v_sne rfl rfl) ?_
      clear hfr
      intro a hfr
      refine wl_v hfr (by decide) (v_move rfl) ?_
      clear hfr
      intro a hfr
      refine wl_nil ?_
      rcases Bool.eq_false_or_eq_true (!decide (xs.getD k [] = ys.getD k [])) with hb3 | hb3
      · rw [hb3] at hfr
        try simp only [Bool.not_eq_true', Bool.not_eq_false', decide_eq_true_eq, decide_eq_false_iff_not] at hb3
        refine wd_sub (k := 10) 19 [14, 18] hfr (by kernel_rfl) (by kernel_rfl) (by kernel_rfl) (by rfl) ?_
        replace hfr : Fr 40 [(0, _), (1, _), (5, _), (15, _), (18, _), (19, _), (20, _), (21, _), (22, _), (23, _), (24, _), (25, _), (26, _), (27, _)] [] a := hfr.pick [0, 1, 5, 15, 18, 19, 20, 21, 22, 23, 24, 25, 26, 27]
        refine wc_phases_q [] (fun i => match i with | _ => fun _ _ => False) 9 [[], [], [0, 1], [2], [3], [], [], [5, 6], [7]] [av, .int .i64 (k : Int), slAddr av (k * 1), sv (xs.getD k []), sv (sha (xs.getD k [])), bv, .int .i64 (k : Int), slAddr bv (k * 1), sv (ys.getD k [])] hfr hst (by kernel_rfl) (by kernel_rfl) (by kernel_rfl) ?_ ?_ ?_
        · intro i hi hiq
          match i, hi, hiq with
          | 0, _, _ =>
            intro w hst
            exact OpV.g (v_move rfl)
          | 1, _, _ =>
            intro w hst
            exact OpV.g (v_move rfl)
          | 2, _, _ =>
            intro w hst
            exact OpV.g ((v_indexAddr_sl (i := (k : Int)) (sT := 22) (hst.arg hav) rfl rfl (Tryd.runUnderlying22 _) (Tryd.sizeOf9 _) (by omega) (by rw [List.length_map]; omega)).as (v' := slAddr av (k * 1)) rfl)
          | 3, _, _ =>
            intro w hst
            exact OpV.g (v_load_sl1 (u := sv (xs.getD k [])) (i := k) (j := 0) (hst.arg hav) (by rw [List.length_map]; omega) rfl (Tryd.isAgg9 _) (by simp [List.getD_eq_getElem?_getD, List.getElem?_eq_getElem (show k < xs.length by omega)]))
          | 4, _, _ =>
            intro w hst
            exact g_callp Tryd.call30 rfl (sum_ok (xs.getD k []) _ (hst.keepb hk0) (hxb k (by omega)))
          | 5, _, _ =>
            intro w hst
            exact OpV.g (v_move rfl)
          | 6, _, _ =>
            intro w hst
            exact OpV.g (v_move rfl)
          | 7, _, _ =>
            intro w hst
            exact OpV.g ((v_indexAddr_sl (i := (k : Int)) (sT := 22) (hst.arg hbv) rfl rfl (Tryd.runUnderlying22 _) (Tryd.sizeOf9 _) (by omega) (by rw [List.length_map]; omega)).as (v' := slAddr bv (k * 1)) rfl)
          | 8, _, _ =>
            intro w hst
            exact OpV.g (v_load_sl1 (u := sv (ys.getD k [])) (i := k) (j := 0) (hst.arg hbv) (by rw [List.length_map]; omega) rfl (Tryd.isAgg9 _) (by simp [List.getD_eq_getElem?_getD, List.getElem?_eq_getElem (show k < ys.length by omega)]))
        · intro i hi
          exact absurd hi (by simp)
        clear hfr hst
        intro  a w4 hfr hst
        replace hfr : Fr 40 [(28, av), (29, .int .i64 (k : Int)), (30, slAddr av (k * 1)), (31, sv (xs.getD k [])), (32, sv (sha (xs.getD k []))), (33, bv), (34, .int .i64 (k : Int)), (35, slAddr bv (k * 1)), (36, sv (ys.getD k [])), (0, _), (1, _), (5, _), (15, _), (18, _), (19, _), (20, _), (21, _), (22, _), (23, _), (24, _), (25, _), (26, _), (27, _)] [] a := hfr
        refine wl_nil ?_
        refine wd_lin (k := 19) 22 [21] (by kernel_rfl) (by kernel_rfl) (by kernel_rfl) ?_
        refine wl_callpy hfr hst (by decide) rfl (by decide) rfl Tryd.call30 rfl (sum_ok (ys.getD k []) _ (hst.keepb hk0) (hyb k (by omega))) ?_
        clear hfr hst
        intro a w5 hfr hst
        refine wl_vy hfr (by decide) rfl (by decide) rfl (v_seq rfl rfl) ?_
        clear hfr
        intro a hfr
        refine wl_v hfr (by decide) (v_pick_t rfl rfl) ?_
        clear hfr
        intro a hfr
        refine wl_nil ?_
        refine wd_end (by kernel_rfl) ?_
        refine hK7 _ _ ?_
        replace hfr : Fr 40 [(0, _), (1, _), (5, _), (39, _)] [] a := hfr.pick [0, 1, 5, 39]
        refine wc_cond hfr rfl (fun hc4 => ?_) (fun hc4 => ?_)
        · rw [hc4] at hfr
          try simp only [Bool.not_eq_true', Bool.not_eq_false', decide_eq_true_eq, decide_eq_false_iff_not] at hc4
          refine wc_seq_region fun K8 hK8 => ?_
          refine wl_v hfr (by decide) (v_assign rfl) ?_
          clear hfr
          intro a hfr
          refine wl_nil (hK8 _ _ ?_)
          refine wc_ret ?_
          refine fin_ret hfr Tryd.results27 (resAre_tmp rfl resAre_nil) ?_
          exact ⟨by simp only [retv]; rw [coll_yes (k := k) (by omega) (by omega) (by assumption) (by assumption)], hst.ext⟩
        rw [hc4] at hfr
        try simp only [Bool.not_eq_true', Bool.not_eq_false', decide_eq_true_eq, decide_eq_false_iff_not] at hc4
        refine wc_skip ?_
        refine hK6 _ _ ?_
        refine wc_region ?_
        refine wl_v hfr (by decide) (v_move rfl) ?_
        clear hfr
        intro a hfr
        refine wl_v hfr (by decide) (v_add rfl rfl ⟨by omega, by omega⟩) ?_
        clear hfr
        intro a hfr
        refine wl_v hfr (by decide) (v_assign rfl) ?_
        clear hfr
        intro a hfr
        refine wl_nil ?_
        refine ⟨_, ?_, k + 1, rfl, (by omega), (by intro j hj; by_cases h : j = k; (subst h; rintro ⟨h1, h2⟩; first | exact h1 (by assumption) | exact absurd h2 (by assumption)); exact hno j (by omega)), hfr.pick [0, 1, 5], hst.select [] (by decide)⟩
        omega
      rw [hb3] at hfr
      try simp only [Bool.not_eq_true', Bool.not_eq_false', decide_eq_true_eq, decide_eq_false_iff_not] at hb3
      replace hfr : Fr 40 [(0, av), (1, bv), (5, .int .i64 (k : Int)), (15, .bool true), (18, av), (19, .int .i64 (k : Int)), (20, slAddr av (k * 1)), (21, sv (xs.getD k [])), (22, bv), (23, .int .i64 (k : Int)), (24, slAddr bv (k * 1)), (25, sv (ys.getD k [])), (26, .bool false), (27, .bool false)] [] a := hfr.pick [0, 1, 5, 15, 18, 19, 20, 21, 22, 23, 24, 25, 26, 27]
      refine wd_skip (k := 10) 19 [14, 18] hfr (by kernel_rfl) (by kernel_rfl) (by kernel_rfl) (by rfl) ?_
      clear hfr
      intro a hfr
      replace hfr : Fr 40 [(28, undef), (29, undef), (30, undef), (31, undef), (32, undef), (33, undef), (34, undef), (35, undef), (36, undef), (0, av), (1, bv), (5, .int .i64 (k : Int)), (15, .bool true), (18, av), (19, .int .i64 (k : Int)), (20, slAddr av (k * 1)), (21, sv (xs.getD k [])), (22, bv), (23, .int .i64 (k : Int)), (24, slAddr bv (k * 1)), (25, sv (ys.getD k [])), (26, .bool false), (27, .bool false)] [] a := hfr
      refine wd_lin (k := 19) 22 [21] (by kernel_rfl) (by kernel_rfl) (by kernel_rfl) ?_
      refine wl_vn hfr (by decide) rfl (by decide) rfl rfl ?_
      clear hfr
      intro a hfr
      refine wl_vn hfr (by decide) rfl (by decide) rfl rfl ?_
      clear hfr
      intro a hfr
      refine wl_v hfr (by decide) (v_pick_f rfl rfl) ?_
      clear hfr
      intro a hfr
      refine wl_nil ?_
      refine wd_end (by kernel_rfl) ?_
      refine hK7 _ _ ?_
      replace hfr : Fr 40 [(0, _), (1, _), (5, _), (39, _)] [] a := hfr.pick [0, 1, 5, 39]
      refine wc_cond_f hfr rfl ?_
      refine wc_skip ?_
      refine hK6 _ _ ?_
      refine wc_region ?_
      refine wl_v hfr (by decide) (v_move rfl) ?_
      clear hfr
      intro a hfr
      refine wl_v hfr (by decide) (v_add rfl rfl ⟨by omega, by omega⟩) ?_
      clear hfr
      intro a hfr
      refine wl_v hfr (by decide) (v_assign rfl) ?_
      clear hfr
      intro a hfr
      refine wl_nil ?_
      refine ⟨_, ?_, k + 1, rfl, (by omega), (by intro j hj; by_cases h : j = k; (subst h; rintro ⟨h1, h2⟩; first | exact h1 (by assumption) | exact absurd h2 (by assumption)); exact hno j (by omega)), hfr.pick [0, 1, 5], hst.select [] (by decide)⟩
      omega
    rw [hc2] at hfr
    try simp only [Bool.not_eq_true', Bool.not_eq_false', decide_eq_true_eq, decide_eq_false_iff_not] at hc2
    refine wc_exit ?_
    refine hK2 _ _ ?_
    refine wc_seq_region fun K9 hK9 => ?_
    refine wl_v hfr (by decide) (v_assign rfl) ?_
    clear hfr
    intro a hfr
    refine wl_nil (hK9 _ _ ?_)
    refine wc_ret ?_
    refine fin_ret hfr Tryd.results27 (resAre_tmp rfl resAre_nil) ?_
    exact ⟨by simp only [retv]; rw [coll_no (k := k) (by omega) hno], hst.ext⟩
  rw [hb1] at hfr
  try simp only [Bool.not_eq_true', Bool.not_eq_false', decide_eq_true_eq, decide_eq_false_iff_not] at hb1
  refine wl_vn hfr (by decide) rfl (by decide) rfl rfl ?_
  clear hfr
  intro a hfr
  refine wl_vn hfr (by decide) rfl (by decide) rfl rfl ?_
  clear hfr
  intro a hfr
  refine wl_vn hfr (by decide) rfl (by decide) rfl rfl ?_
  clear hfr
  intro a hfr
  refine wl_vn hfr (by decide) rfl (by decide) rfl rfl ?_
  clear hfr
  intro a hfr
  refine wl_v hfr (by decide) (v_pick_f rfl rfl) ?_
  clear hfr
  intro a hfr
  refine wl_nil (hK5 _ _ ?_)
  replace hfr : Fr 40 [(0, _), (1, _), (5, _), (15, _)] [] a := hfr.pick [0, 1, 5, 15]
  refine wc_cond_f hfr rfl ?_
  refine wc_exit ?_
  refine hK2 _ _ ?_
  refine wc_seq_region fun K10 hK10 => ?_
  refine wl_v hfr (by decide) (v_assign rfl) ?_
  clear hfr
  intro a hfr
  refine wl_nil (hK10 _ _ ?_)
  refine wc_ret ?_
  refine fin_ret hfr Tryd.results27 (resAre_tmp rfl resAre_nil) ?_
  exact ⟨by simp only [retv]; rw [coll_no (k := k) (by omega) hno], hst.ext⟩
end Go.Proofs.YtmcoolbjgeibcaaDoor
namespace Go.Proofs.YtmcoolbjgeibcaaDoor
open Go.RowKit Go.PW
set_option linter.unusedVariables false
set_option linter.unusedSimpArgs false
set_option maxRecDepth 4000

/-- dialtone/dialtoneref02.rotated -/
theorem rotated_ok (x : Wd) (n : Nat) (w0 : World) (hn : 0 < n) (hn2 : n < 32) :
    Ret Tryd.prog 69 #[wv x, .int .i64 (n : Int)] w0 fun v w => v = wv ((x >>> n) ||| (x <<< (32 - n))) ∧ Ext No w0 w := by
  refine ret_of Tryd.func69 rfl Tryd.ntmps69 (Nat.le_of_ble_eq_true rfl) fun a hfr => ?_
  replace hfr : Fr 13 [(0, _), (1, _)] [] a := hfr
  replace hst : St No w0 [] w0 := St.init w0
  refine wc_seq_region fun K1 hK1 => ?_
  refine wl_v hfr (by decide) (v_assign rfl) ?_
  clear hfr
  intro a hfr
  refine wl_nil (hK1 _ _ ?_)
  refine wc_seq_k fun K2 hK2 => ?_
  refine wc_of_dr (by kernel_rfl) (dr_of_wd (by kernel_rfl) fun w1 hxz => ?_)
  replace hst : St No w0 [] w1 := hst.grow hxz
  refine wd_sub (k := 0) 7 [2, 6] hfr (by kernel_rfl) (by kernel_rfl) (by kernel_rfl) (by rfl) ?_
  replace hfr : Fr 13 [(0, _), (1, _), (4, _)] [] a := hfr.pick [0, 1, 4]
  refine wc_phases_q [] (fun i => match i with | _ => fun _ _ => False) 7 [[], [], [0, 1], [], [], [4], [3, 5]] [wv x, .int .i64 (n : Int), wv (x >>> n), wv x, .int .i64 (n : Int), .int .i64 ((32 - n : Nat) : Int), wv (x <<< (32 - n))] hfr hst (by kernel_rfl) (by kernel_rfl) (by kernel_rfl) ?_ ?_ ?_
  · intro i hi hiq
    match i, hi, hiq with
    | 0, _, _ =>
      intro w hst
      exact OpV.g (v_move rfl)
    | 1, _, _ =>
      intro w hst
      exact OpV.g (v_move rfl)
    | 2, _, _ =>
      intro w hst
      exact OpV.g (v_wshr (n := n) rfl rfl)
    | 3, _, _ =>
      intro w hst
      exact OpV.g (v_move rfl)
    | 4, _, _ =>
      intro w hst
      exact OpV.g (v_move rfl)
    | 5, _, _ =>
      intro w hst
      exact OpV.g ((v_sub rfl rfl ⟨by omega, by omega⟩).asi (m' := ((32 - n : Nat) : Int)) (by omega))
    | 6, _, _ =>
      intro w hst
      exact OpV.g (v_wshl (n := (32 - n)) rfl rfl)
  · intro i hi
    exact absurd hi (by simp)
  clear hfr hst
  intro  a w2 hfr hst
  replace hfr : Fr 13 [(5, wv x), (6, .int .i64 (n : Int)), (7, wv (x >>> n)), (8, wv x), (9, .int .i64 (n : Int)), (10, .int .i64 ((32 - n : Nat) : Int)), (11, wv (x <<< (32 - n))), (0, _), (1, _), (4, _)] [] a := hfr
  refine wl_nil ?_
  refine wd_lin (k := 7) 9 [8] (by kernel_rfl) (by kernel_rfl) (by kernel_rfl) ?_
  refine wl_v hfr (by decide) (v_wor rfl rfl) ?_
  clear hfr
  intro a hfr
  refine wl_v hfr (by decide) (v_assign rfl) ?_
  clear hfr
  intro a hfr
  refine wl_nil ?_
  refine wd_end (by kernel_rfl) ?_
  refine hK2 _ _ ?_
  replace hfr : Fr 13 [(4, _)] [] a := hfr.pick [4]
  refine wc_ret ?_
  refine fin_ret hfr Tryd.results69 (resAre_tmp rfl resAre_nil) ?_
  exact ⟨by rfl, hst.ext⟩
end Go.Proofs.YtmcoolbjgeibcaaDoor
namespace Go.Proofs.YtmcoolbjgeibcaaDoor
open Go.RowKit Go.PW
set_option linter.unusedVariables false
set_option linter.unusedSimpArgs false
set_option maxRecDepth 4000

theorem el_at {α : Type} {f : α → List Value} {l : List α} {i : Nat} (d : α) {h : i < (l.map f).length} : (l.map f)[i] = f (l.getD i d) := by
  have h' : i < l.length := by simpa using h
  rw [List.getElem_map, List.getD_eq_getElem?_getD, List.getElem?_eq_getElem h']; rfl
theorem rev_top {st : List (By × Nat)} (h : 2 ≤ st.length) : ∃ r2 s2 r1 s1 t, st = (r2, s2) :: (r1, s1) :: t ∧ st.reverse.getD (st.length - 2) ([], 0) = (r1, s1) ∧ st.reverse.getD (st.length - 1) ([], 0) = (r2, s2) ∧ st.reverse.take (st.length - 2) = t.reverse := by
  match st, h with
  | (r2, s2) :: (r1, s1) :: t, _ =>
    refine ⟨r2, s2, r1, s1, t, rfl, ?_, ?_, ?_⟩ <;> simp [List.getD_eq_getElem?_getD, List.getElem?_append]
theorem strict_of {st : List (By × Nat)} (hW : incrW st) (h2 : 2 ≤ st.length) (h : ¬ ((st.reverse.getD (st.length - 2) ([], 0)).2 : Int) = ((st.reverse.getD (st.length - 1) ([], 0)).2 : Int)) : incr st := by
  obtain ⟨r2, s2, r1, s1, t, e, e1, e2, _⟩ := rev_top h2
  rw [e1, e2] at h
  refine hW.strict fun x y t' e' he => h ?_
  rw [e] at e'
  injection e' with h3 h4
  injection h4 with h5 h6
  subst h3 h5
  exact congrArg Int.ofNat he.symm
theorem Stk.le : ∀ {st : List (By × Nat)} {l : List By}, Stk sha st l → st.length ≤ l.length ∧ ∀ x ∈ st, x.1.length = 32 ∧ x.2 ≤ l.length
  | [], l, h => ⟨Nat.zero_le _, fun x hx => by cases hx⟩
  | x :: st, l, h => by
    obtain ⟨l1, c, rfl, hc, ⟨a, ha⟩, hr, hst⟩ := h
    have hp : 0 < c.length := by rw [hc, ha]; exact Nat.pow_pos (by decide)
    obtain ⟨i1, i2⟩ := Stk.le hst
    refine ⟨by simp; omega, fun y hy => ?_⟩
    rcases List.mem_cons.1 hy with rfl | hy
    · exact ⟨by rw [hr]; exact root_len sha_len c, by rw [List.length_append]; omega⟩
    · have := i2 y hy
      exact ⟨this.1, by rw [List.length_append]; omega⟩
theorem getD_mem {α : Type} {l : List α} {i : Nat} {d : α} (h : i < l.length) : l.getD i d ∈ l := by
  rw [List.getD_eq_getElem?_getD, List.getElem?_eq_getElem h]; exact List.getElem_mem h
theorem take_snoc {α : Type} {l : List α} {k : Nat} (d : α) (h : k < l.length) : l.take (k + 1) = l.take k ++ [l.getD k d] := by
  rw [List.take_succ_eq_append_getElem h, List.getD_eq_getElem?_getD, List.getElem?_eq_getElem h]; rfl
theorem stk_last {st : List (By × Nat)} {l : List By} (h : Stk sha st l) (hi : incr st) (h0 : 0 < st.length) : (backs ((st.drop 1).reverse.map Prod.fst).length ((st.drop 1).reverse.map Prod.fst).length).foldl (fun o k => nodeH sha (((st.drop 1).reverse.map Prod.fst).getD k []) o) (st.reverse.getD (st.length - 1) ([], 0)).1 = rootH sha l := by
  match st, h0 with
  | x :: st, _ =>
    rw [backs_fold (fun o r => nodeH sha r o) [] _ _ _ (Nat.le_refl _)]
    have e : (x :: st).reverse.getD ((x :: st).length - 1) ([], 0) = x := by simp [List.getD_eq_getElem?_getD, List.getElem?_append]
    rw [e, Nat.sub_self, List.drop_zero, List.drop_one, List.tail_cons, ← List.map_reverse, List.reverse_reverse, List.foldl_map]
    exact stack_root sha h hi
theorem roots_take (st : List (By × Nat)) : (st.reverse.map fun x : By × Nat => [sv x.1]).take (st.length - 1) = (((st.drop 1).reverse.map Prod.fst).map fun s => [sv s]) := by
  cases st with
  | nil => rfl
  | cons x st => simp [List.take_append, Function.comp_def]

set_option maxHeartbeats 4000000 in
/-- dialtone/digest.Root -/
theorem root_ok (lv : Value) (ls : List By) (w0 : World) (hlv : SlAt w0 lv 1 (ls.map fun s => [sv s])) (hxn : ls.length ≤ 1000) (hxl : ∀ k, k < ls.length → (ls.getD k []).length ≤ 40000000) (hk0 : (blk 0 (kOf.map wv) 88).ok w0) :
    Ret Tryd.prog 19 #[lv] w0 fun v w => v = sv (rootH sha ls) ∧ Ext No w0 w := by
  have hnb := hlv.le
  rw [List.length_map] at hnb
  refine ret_of Tryd.func19 rfl Tryd.ntmps19 (Nat.le_of_ble_eq_true rfl) fun a hfr => ?_
  replace hfr : Fr 96 [(0, _)] [] a := hfr
  replace hst : St (· = 0) w0 [blk 0 (kOf.map wv) 88] w0 := St.one hk0
  refine wc_seq_region fun K1 hK1 => ?_
  refine wl_v hfr (by decide) (v_assign rfl) ?_
  clear hfr
  intro a hfr
  refine wl_nil (hK1 _ _ ?_)
  refine wc_seq_region fun K2 hK2 => ?_
  refine wl_v hfr (by decide) (v_assign rfl) ?_
  clear hfr
  intro a hfr
  refine wl_nil (hK2 _ _ ?_)
  refine wc_seq_region fun K3 hK3 => ?_
  refine wl_v hfr (by decide) (v_assign rfl) ?_
  clear hfr
  intro a hfr
  refine wl_nil (hK3 _ _ ?_)
  refine wc_seq_k fun K4 hK4 => ?_
  refine wc_seq_region fun K5 hK5 => ?_
  refine wl_v hfr (by decide) (v_move rfl) ?_
  clear hfr
  intro a hfr
  refine wl_v hfr (by decide) ((v_len_sl (sT := 22) (hlv.grow (hst.ext.const hk0 (hst.get (k := 0) rfl))) rfl rfl (Tryd.runUnderlying22 _)).asi (m' := (ls.length : Int)) (by simp)) ?_
  clear hfr
  intro a hfr
  refine wl_v hfr (by decide) (v_move rfl) ?_
  clear hfr
  intro a hfr
  refine wl_nil (hK5 _ _ ?_)
  refine wc_block ?_
  replace hst : St (· = 0) w0 [own (.slice none 0 0) 9 1 (([] : List (By × Nat)).reverse.map fun x : By × Nat => [sv x.1]), own (.slice none 0 0) 3 1 (([] : List (By × Nat)).reverse.map fun x : By × Nat => [Value.int .i64 (x.2 : Int)]), blk 0 (kOf.map wv) 88] w0 := hst.nil_own.nil_own
  refine wc_loop (fun m a w => ∃ (k : Nat) (st : List (By × Nat)) (v : Value) (u : Value), m = ls.length - k ∧ (k ≤ ls.length) ∧ (Stk sha st (ls.take k)) ∧ (incr st) ∧ Fr 96 [(2, .string (⟨#[]⟩)), (11, lv), (12, .int .i64 (ls.length : Int)), (13, .int .i64 (k : Int)), (3, v), (4, u)] [] a ∧ St (· = 0) w0 [own v 9 1 (st.reverse.map fun x : By × Nat => [sv x.1]), own u 3 1 (st.reverse.map fun x : By × Nat => [Value.int .i64 (x.2 : Int)]), blk 0 (kOf.map wv) 88] w) _ ⟨0, [], .slice none 0 0, .slice none 0 0, rfl, Nat.zero_le _, rfl, trivial, hfr.pick [2, 11, 12, 13, 3, 4], hst.select [0, 1, 2] (by decide)⟩ ?_
  rintro _ a w1 ⟨k, st, v, u, rfl, hk, hS, hI, hfr, hst⟩
  refine wc_seq_region fun K6 hK6 => ?_
  refine wl_v hfr (by decide) (v_lt rfl rfl) ?_
  clear hfr
  intro a hfr
  refine wl_nil (hK6 _ _ ?_)
  refine wc_seq_k fun K7 hK7 => ?_
  refine wc_cond hfr rfl (fun hc1 => ?_) (fun hc1 => ?_)
  · rw [hc1] at hfr
    try simp only [Bool.not_eq_true', Bool.not_eq_false', decide_eq_true_eq, decide_eq_false_iff_not] at hc1
    refine wc_skip ?_
    refine hK7 _ _ ?_
    refine wc_seq_k fun K8 hK8 => ?_
    refine wc_block ?_
    refine wc_seq_region fun K9 hK9 => ?_
    refine wl_v hfr (by decide) ((v_indexAddr_sl (i := (k : Int)) (sT := 22) (hlv.grow (hst.ext.const hk0 (hst.get (k := 2) rfl))) rfl rfl (Tryd.runUnderlying22 _) (Tryd.sizeOf9 _) (by omega) (by first | (rw [List.length_map]; omega) | (rw [List.length_map, List.length_reverse]; omega))).as (v' := slAddr lv (k * 1)) rfl) ?_
    clear hfr
    intro a hfr
    refine wl_v hfr (by decide) (v_load_sl1 (u := sv (ls.getD k [])) (i := k) (j := 0) (hlv.grow (hst.ext.const hk0 (hst.get (k := 2) rfl))) (by first | (rw [List.length_map]; omega) | (rw [List.length_map, List.length_reverse]; omega)) rfl (Tryd.isAgg9 _) (by simp [List.getD_eq_getElem?_getD, List.getElem?_eq_getElem (show k < ls.length by omega)])) ?_
    clear hfr
    intro a hfr
    refine wl_v hfr (by decide) (v_assign rfl) ?_
    clear hfr
    intro a hfr
    refine wl_nil (hK9 _ _ ?_)
    refine wc_seq_region fun K10 hK10 => ?_
    refine wl_v hfr (by decide) (v_move rfl) ?_
    clear hfr
    intro a hfr
    refine wl_v hfr (by decide) (v_move rfl) ?_
    clear hfr
    intro a hfr
    refine wl_callp hfr hst (by decide) Tryd.call29 rfl (leaf_ok (ls.getD k []) _ (hxl k (by omega)) (hst.get (k := 2) rfl)) ?_
    clear hfr hst
    intro a w2 hfr hst
    refine wl_buildSlice (E := 9) (sz := 1) rfl [[sv (leafH sha (ls.getD k []))]] (by kernel_rfl) (by simp) rfl (by decide) (by decide) hfr hst ?_
    clear hfr hst
    intro a w3 hfr hst
    refine wl_append (i := 1) (sT := 22) (inf := Tryd.t9) (z := .string (⟨#[]⟩)) (b := 0) (off := 0) (m := 0) (c := 0) rfl rfl rfl (hst.ownAt (i := 0) rfl) (by simp) Tryd.underlying22 rfl rfl rfl rfl (by decide) (by simp [Value.oneCell', yv, wv, sv]) (by have hby : Tryd.t9.bytes = 16 := rfl; have hby3 : Tryd.t3.bytes = 8 := rfl; have hle0 := hS.le.1; rw [List.length_take] at hle0; simp only [big, hby, hby3, List.length_append, List.length_take, List.length_map, List.length_reverse, List.length_cons, List.length_nil]; omega) (by have hby : Tryd.t9.bytes = 16 := rfl; have hby3 : Tryd.t3.bytes = 8 := rfl; have hle0 := hS.le.1; rw [List.length_take] at hle0; simp only [big, hby, hby3, List.length_append, List.length_take, List.length_map, List.length_reverse, List.length_cons, List.length_nil]; omega) (by decide) hfr hst fun a w4 s2 hfr hst _ => ?_
    refine wl_v hfr (by decide) (v_move rfl) ?_
    clear hfr
    intro a hfr
    refine wl_buildSlice (E := 3) (sz := 1) rfl [[.int .i64 1]] (by kernel_rfl) (by simp) rfl (by decide) (by decide) hfr hst ?_
    clear hfr hst
    intro a w5 hfr hst
    refine wl_append (i := 3) (sT := 49) (inf := Tryd.t3) (z := .int .i64 0) (b := 0) (off := 0) (m := 0) (c := 0) rfl rfl rfl (hst.ownAt (i := 0) rfl) (by simp) Tryd.underlying49 rfl rfl rfl rfl (by decide) (by simp [Value.oneCell', yv, wv, sv]) (by have hby : Tryd.t9.bytes = 16 := rfl; have hby3 : Tryd.t3.bytes = 8 := rfl; have hle0 := hS.le.1; rw [List.length_take] at hle0; simp only [big, hby, hby3, List.length_append, List.length_take, List.length_map, List.length_reverse, List.length_cons, List.length_nil]; omega) (by have hby : Tryd.t9.bytes = 16 := rfl; have hby3 : Tryd.t3.bytes = 8 := rfl; have hle0 := hS.le.1; rw [List.length_take] at hle0; simp only [big, hby, hby3, List.length_append, List.length_take, List.length_map, List.length_reverse, List.length_cons, List.length_nil]; omega) (by decide) hfr hst fun a w6 s3 hfr hst _ => ?_
    refine wl_v hfr (by decide) (v_assign rfl) ?_
    clear hfr
    intro a hfr
    refine wl_v hfr (by decide) (v_assign rfl) ?_
    clear hfr
    intro a hfr
    refine wl_nil (hK10 _ _ ?_)
    replace hfr : Fr 96 [(2, _), (11, _), (12, _), (13, _), (3, _), (4, _)] [] a := hfr.pick [2, 11, 12, 13, 3, 4]
    replace hst : St (· = 0) w0 [_, _, _] w6 := hst.mask [false, false, true, true, true]
    refine wc_seq_region fun K11 hK11 => ?_
    refine wl_v hfr (by decide) (v_move rfl) ?_
    clear hfr
    intro a hfr
    refine wl_v hfr (by decide) ((v_len_sl (sT := 49) (hst.ownAt (i := 1) rfl) rfl rfl (Tryd.runUnderlying49 _)).asi (m' := ((st.length + 1 : Nat) : Int)) (by simp)) ?_
    clear hfr
    intro a hfr
    refine wl_v hfr (by decide) (v_assign rfl) ?_
    clear hfr
    intro a hfr
    refine wl_nil (hK11 _ _ ?_)
    refine wc_block ?_
    rw [show (st.reverse.map fun x : By × Nat => [sv x.1]) ++ ([[sv (leafH sha (ls.getD k []))]]) = (((leafH sha (ls.getD k []), 1) :: st).reverse.map fun x : By × Nat => [sv x.1]) from by simp] at hst
    rw [show (st.reverse.map fun x : By × Nat => [Value.int .i64 (x.2 : Int)]) ++ ([[.int .i64 1]]) = (((leafH sha (ls.getD k []), 1) :: st).reverse.map fun x : By × Nat => [Value.int .i64 (x.2 : Int)]) from by simp] at hst
    obtain ⟨hS1, hW1⟩ := Stk.push sha hS hI (ls.getD k [])
    rw [← take_snoc [] (by omega)] at hS1
    refine wc_loop (fun m a w => ∃ (st1 : List (By × Nat)) (v1 : Value) (u1 : Value), m = st1.length ∧ (Stk sha st1 (ls.take (k + 1))) ∧ (incrW st1) ∧ Fr 96 [(2, .string (⟨#[]⟩)), (11, lv), (12, .int .i64 (ls.length : Int)), (13, .int .i64 (k : Int)), (7, .int .i64 (st1.length : Int)), (3, v1), (4, u1)] [] a ∧ St (· = 0) w0 [own v1 9 1 (st1.reverse.map fun x : By × Nat => [sv x.1]), own u1 3 1 (st1.reverse.map fun x : By × Nat => [Value.int .i64 (x.2 : Int)]), blk 0 (kOf.map wv) 88] w) _ ⟨((leafH sha (ls.getD k []), 1) :: st), s2, s3, rfl, hS1, hW1, hfr.pick [2, 11, 12, 13, 7, 3, 4], hst.select [0, 1, 2] (by decide)⟩ ?_
    rintro _ a w7 ⟨st1, v1, u1, rfl, hS1, hW1, hfr, hst⟩
    have hle1 := hS1.le
    have hln1 : st1.length ≤ ls.length := Nat.le_trans hle1.1 (by rw [List.length_take]; omega)
    refine wc_seq_k fun K12 hK12 => ?_
    refine wc_seq_k fun K13 hK13 => ?_
    refine wc_of_dr (by kernel_rfl) (dr_of_wd (by kernel_rfl) fun w8 hxz => ?_)
    replace hst : St (· = 0) w0 [own v1 9 1 (st1.reverse.map fun x : By × Nat => [sv x.1]), own u1 3 1 (st1.reverse.map fun x : By × Nat => [Value.int .i64 (x.2 : Int)]), blk 0 (kOf.map wv) 88] w8 := hst.grow hxz
    refine wd_lin (k := 0) 3 [2] (by kernel_rfl) (by kernel_rfl) (by kernel_rfl) ?_
    refine wl_v hfr (by decide) (v_move rfl) ?_
    clear hfr
    intro a hfr
    refine wl_v hfr (by decide) (v_gt rfl rfl) ?_
    clear hfr
    intro a hfr
    refine wl_v hfr (by decide) (v_move rfl) ?_
    clear hfr
    intro a hfr
    refine wl_nil ?_
    rcases Bool.eq_false_or_eq_true (decide (1 < (st1.length : Int))) with hb4 | hb4
    · rw [hb4] at hfr
      try simp only [Bool.not_eq_true', Bool.not_eq_false', decide_eq_true_eq, decide_eq_false_iff_not] at hb4
      obtain ⟨r2, s2, r1, s1, t, hst0, e1, e2, e3⟩ := rev_top (st := st1) (by omega)
      have hb1 := hle1.2 (st1.reverse.getD (st1.length - 2) ([], 0)) (List.mem_reverse.1 (getD_mem (by rw [List.length_reverse]; omega)))
      have hb2 := hle1.2 (st1.reverse.getD (st1.length - 1) ([], 0)) (List.mem_reverse.1 (getD_mem (by rw [List.length_reverse]; omega)))
      rw [List.length_take] at hb1 hb2
      refine wd_sub (k := 3) 13 [7, 12] hfr (by kernel_rfl) (by kernel_rfl) (by kernel_rfl) (by rfl) ?_
      replace hfr : Fr 96 [(2, _), (11, _), (12, _), (13, _), (7, _), (3, _), (4, _), (27, _), (28, _), (29, _)] [] a := hfr.pick [2, 11, 12, 13, 7, 3, 4, 27, 28, 29]
      refine wc_phases_q [] (fun i => match i with | _ => fun _ _ => False) 10 [[], [], [1], [0, 2], [3], [], [], [6], [5, 7], [8]] [u1, .int .i64 (st1.length : Int), .int .i64 ((st1.length : Int) - 2), slAddr u1 ((st1.length - 2) * 1), .int .i64 ((st1.reverse.getD (st1.length - 2) ([], 0)).2 : Int), u1, .int .i64 (st1.length : Int), .int .i64 ((st1.length : Int) - 1), slAddr u1 ((st1.length - 1) * 1), .int .i64 ((st1.reverse.getD (st1.length - 1) ([], 0)).2 : Int)] hfr hst (by kernel_rfl) (by kernel_rfl) (by kernel_rfl) ?_ ?_ ?_
      · intro i hi hiq
        match i, hi, hiq with
        | 0, _, _ =>
          intro w hst
          exact OpV.g (v_move rfl)
        | 1, _, _ =>
          intro w hst
          exact OpV.g (v_move rfl)
        | 2, _, _ =>
          intro w hst
          exact OpV.g (v_sub rfl rfl ⟨by omega, by omega⟩)
        | 3, _, _ =>
          intro w hst
          exact OpV.g ((v_indexAddr_sl (i := (st1.length : Int) - 2) (sT := 49) (hst.ownAt (i := 1) rfl) rfl rfl (Tryd.runUnderlying49 _) (Tryd.sizeOf3 _) (by omega) (by first | (rw [List.length_map]; omega) | (rw [List.length_map, List.length_reverse]; omega))).as (v' := slAddr u1 ((st1.length - 2) * 1)) (by rw [show ((st1.length : Int) - 2).toNat = (st1.length - 2) from by omega]))
        | 4, _, _ =>
          intro w hst
          exact OpV.g (v_load_sl1 (u := .int .i64 ((st1.reverse.getD (st1.length - 2) ([], 0)).2 : Int)) (i := (st1.length - 2)) (j := 0) (hst.ownAt (i := 1) rfl) (by first | (rw [List.length_map]; omega) | (rw [List.length_map, List.length_reverse]; omega)) rfl (Tryd.isAgg3 _) (by rw [el_at ([], 0)]; rfl))
        | 5, _, _ =>
          intro w hst
          exact OpV.g (v_move rfl)
        | 6, _, _ =>
          intro w hst
          exact OpV.g (v_move rfl)
        | 7, _, _ =>
          intro w hst
          exact OpV.g (v_sub rfl rfl ⟨by omega, by omega⟩)
        | 8, _, _ =>
          intro w hst
          exact OpV.g ((v_indexAddr_sl (i := (st1.length : Int) - 1) (sT := 49) (hst.ownAt (i := 1) rfl) rfl rfl (Tryd.runUnderlying49 _) (Tryd.sizeOf3 _) (by omega) (by first | (rw [List.length_map]; omega) | (rw [List.length_map, List.length_reverse]; omega))).as (v' := slAddr u1 ((st1.length - 1) * 1)) (by rw [show ((st1.length : Int) - 1).toNat = (st1.length - 1) from by omega]))
        | 9, _, _ =>
          intro w hst
          exact OpV.g (v_load_sl1 (u := .int .i64 ((st1.reverse.getD (st1.length - 1) ([], 0)).2 : Int)) (i := (st1.length - 1)) (j := 0) (hst.ownAt (i := 1) rfl) (by first | (rw [List.length_map]; omega) | (rw [List.length_map, List.length_reverse]; omega)) rfl (Tryd.isAgg3 _) (by rw [el_at ([], 0)]; rfl))
      · intro i hi
        exact absurd hi (by simp)
      clear hfr hst
      intro  a w9 hfr hst
      replace hfr : Fr 96 [(30, u1), (31, .int .i64 (st1.length : Int)), (32, .int .i64 ((st1.length : Int) - 2)), (33, slAddr u1 ((st1.length - 2) * 1)), (34, .int .i64 ((st1.reverse.getD (st1.length - 2) ([], 0)).2 : Int)), (35, u1), (36, .int .i64 (st1.length : Int)), (37, .int .i64 ((st1.length : Int) - 1)), (38, slAddr u1 ((st1.length - 1) * 1)), (39, .int .i64 ((st1.reverse.getD (st1.length - 1) ([], 0)).2 : Int)), (2, _), (11, _), (12, _), (13, _), (7, _), (3, _), (4, _), (27, _), (28, _), (29, _)] [] a := hfr
      refine wl_nil ?_
      refine wd_lin (k := 13) 15 [14] (by kernel_rfl) (by kernel_rfl) (by kernel_rfl) ?_
      refine wl_vy hfr (by decide) rfl (by decide) rfl (v_eq rfl rfl) ?_
      clear hfr
      intro a hfr
      refine wl_v hfr (by decide) (v_pick_t rfl rfl) ?_
      clear hfr
      intro a hfr
      refine wl_nil ?_
      refine wd_end (by kernel_rfl) ?_
      refine hK13 _ _ ?_
      replace hfr : Fr 96 [(2, _), (11, _), (12, _), (13, _), (7, _), (3, _), (4, _), (41, _)] [] a := hfr.pick [2, 11, 12, 13, 7, 3, 4, 41]
      refine wc_cond hfr rfl (fun hc5 => ?_) (fun hc5 => ?_)
      · rw [hc5] at hfr
        try simp only [Bool.not_eq_true', Bool.not_eq_false', decide_eq_true_eq, decide_eq_false_iff_not] at hc5
        obtain rfl : s1 = s2 := by rw [e1, e2] at hc5; simp only at hc5; omega
        refine wc_skip ?_
        refine hK12 _ _ ?_
        refine wc_seq_k fun K14 hK14 => ?_
        refine wc_block ?_
        refine wc_seq_k fun K15 hK15 => ?_
        refine wc_of_dr (by kernel_rfl) (dr_of_wd (by kernel_rfl) fun w10 hxz => ?_)
        replace hst : St (· = 0) w0 [own v1 9 1 (st1.reverse.map fun x : By × Nat => [sv x.1]), own u1 3 1 (st1.reverse.map fun x : By × Nat => [Value.int .i64 (x.2 : Int)]), blk 0 (kOf.map wv) 88] w10 := hst.grow hxz
        refine wd_sub (k := 0) 16 [3, 15] hfr (by kernel_rfl) (by kernel_rfl) (by kernel_rfl) (by rfl) ?_
        replace hfr : Fr 96 [(2, _), (11, _), (12, _), (13, _), (7, _), (3, _), (4, _), (41, _)] [] a := hfr.pick [2, 11, 12, 13, 7, 3, 4, 41]
        refine wc_phases_q [15] (fun i => match i with | 15 => pm (fun b : Nat => .slice (some ⟨b, 0, none⟩) 1 1) (fun b => [own (.slice (some ⟨b, 0, none⟩) 1 1) 9 1 [[sv (nodeH sha ((st1.reverse.getD (st1.length - 2) ([], 0)).1) ((st1.reverse.getD (st1.length - 1) ([], 0)).1))]]]) (fun _ => True) | _ => fun _ _ => False) 16 [[], [], [1], [0, 2], [], [], [5], [4, 6], [7], [], [], [10], [9, 11], [12], [8, 13], [14]] [v1, .int .i64 (st1.length : Int), .int .i64 ((st1.length : Int) - 2), (cut v1 1 0 (st1.length - 2) (slCap v1)), v1, .int .i64 (st1.length : Int), .int .i64 ((st1.length : Int) - 2), slAddr v1 ((st1.length - 2) * 1), sv ((st1.reverse.getD (st1.length - 2) ([], 0)).1), v1, .int .i64 (st1.length : Int), .int .i64 ((st1.length : Int) - 1), slAddr v1 ((st1.length - 1) * 1), sv ((st1.reverse.getD (st1.length - 1) ([], 0)).1), sv (nodeH sha ((st1.reverse.getD (st1.length - 2) ([], 0)).1) ((st1.reverse.getD (st1.length - 1) ([], 0)).1)), undef] hfr hst (by kernel_rfl) (by kernel_rfl) (by kernel_rfl) ?_ ?_ ?_
        · intro i hi hiq
          match i, hi, hiq with
          | 0, _, _ =>
            intro w hst
            exact OpV.g (v_move rfl)
          | 1, _, _ =>
            intro w hst
            exact OpV.g (v_move rfl)
          | 2, _, _ =>
            intro w hst
            exact OpV.g (v_sub rfl rfl ⟨by omega, by omega⟩)
          | 3, _, _ =>
            intro w hst
            exact OpV.g (v_slice_at (l := 0) (h := (st1.length - 2)) (hst.ownAt (i := 0) rfl) rfl rfl rfl Tryd.underlying22 (by kernel_rfl) (.inl ⟨rfl, rfl⟩) (.inr (by rw [show ((st1.length : Int) - 2 : Int) = (((st1.length - 2) : Nat) : Int) from by omega] <;> rfl)) (Nat.zero_le _) (by first | (rw [List.length_map]; omega) | (simp <;> omega)))
          | 4, _, _ =>
            intro w hst
            exact OpV.g (v_move rfl)
          | 5, _, _ =>
            intro w hst
            exact OpV.g (v_move rfl)
          | 6, _, _ =>
            intro w hst
            exact OpV.g (v_sub rfl rfl ⟨by omega, by omega⟩)
          | 7, _, _ =>
            intro w hst
            exact OpV.g ((v_indexAddr_sl (i := (st1.length : Int) - 2) (sT := 22) (hst.ownAt (i := 0) rfl) rfl rfl (Tryd.runUnderlying22 _) (Tryd.sizeOf9 _) (by omega) (by first | (rw [List.length_map]; omega) | (rw [List.length_map, List.length_reverse]; omega))).as (v' := slAddr v1 ((st1.length - 2) * 1)) (by rw [show ((st1.length : Int) - 2).toNat = (st1.length - 2) from by omega]))
          | 8, _, _ =>
            intro w hst
            exact OpV.g (v_load_sl1 (u := sv ((st1.reverse.getD (st1.length - 2) ([], 0)).1)) (i := (st1.length - 2)) (j := 0) (hst.ownAt (i := 0) rfl) (by first | (rw [List.length_map]; omega) | (rw [List.length_map, List.length_reverse]; omega)) rfl (Tryd.isAgg9 _) (by rw [el_at ([], 0)]; rfl))
          | 9, _, _ =>
            intro w hst
            exact OpV.g (v_move rfl)
          | 10, _, _ =>
            intro w hst
            exact OpV.g (v_move rfl)
          | 11, _, _ =>
            intro w hst
            exact OpV.g (v_sub rfl rfl ⟨by omega, by omega⟩)
          | 12, _, _ =>
            intro w hst
            exact OpV.g ((v_indexAddr_sl (i := (st1.length : Int) - 1) (sT := 22) (hst.ownAt (i := 0) rfl) rfl rfl (Tryd.runUnderlying22 _) (Tryd.sizeOf9 _) (by omega) (by first | (rw [List.length_map]; omega) | (rw [List.length_map, List.length_reverse]; omega))).as (v' := slAddr v1 ((st1.length - 1) * 1)) (by rw [show ((st1.length : Int) - 1).toNat = (st1.length - 1) from by omega]))
          | 13, _, _ =>
            intro w hst
            exact OpV.g (v_load_sl1 (u := sv ((st1.reverse.getD (st1.length - 1) ([], 0)).1)) (i := (st1.length - 1)) (j := 0) (hst.ownAt (i := 0) rfl) (by first | (rw [List.length_map]; omega) | (rw [List.length_map, List.length_reverse]; omega)) rfl (Tryd.isAgg9 _) (by rw [el_at ([], 0)]; rfl))
          | 14, _, _ =>
            intro w hst
            exact g_callp Tryd.call32 rfl (node_ok ((st1.reverse.getD (st1.length - 2) ([], 0)).1) ((st1.reverse.getD (st1.length - 1) ([], 0)).1) _ (by first | omega | (have := hy32 xs (by have h := hnx; unfold NxB at h; omega); omega)) (by first | omega | exact Nat.le_trans (Nat.le_of_eq hf32) (by decide)) (hst.get (k := 2) rfl))
          | 15, _, h => exact absurd (by simp) h
          | i + 16, h, _ => exact absurd h (by omega)
        · intro i hi
          simp only [List.mem_cons, List.not_mem_nil, or_false] at hi
          subst hi
          · intro w hst
            exact g_buildSlice (E := 9) (sz := 1) rfl [[sv (nodeH sha ((st1.reverse.getD (st1.length - 2) ([], 0)).1) ((st1.reverse.getD (st1.length - 1) ([], 0)).1))]] (fun _ => by kernel_rfl) (by simp) rfl (by decide)
        clear hfr hst
        rintro _ _ ⟨b6, rfl, -, rfl⟩ a w11 hfr hst
        replace hfr : Fr 96 [(44, v1), (45, .int .i64 (st1.length : Int)), (46, .int .i64 ((st1.length : Int) - 2)), (47, (cut v1 1 0 (st1.length - 2) (slCap v1))), (48, v1), (49, .int .i64 (st1.length : Int)), (50, .int .i64 ((st1.length : Int) - 2)), (51, slAddr v1 ((st1.length - 2) * 1)), (52, sv ((st1.reverse.getD (st1.length - 2) ([], 0)).1)), (53, v1), (54, .int .i64 (st1.length : Int)), (55, .int .i64 ((st1.length : Int) - 1)), (56, slAddr v1 ((st1.length - 1) * 1)), (57, sv ((st1.reverse.getD (st1.length - 1) ([], 0)).1)), (58, sv (nodeH sha ((st1.reverse.getD (st1.length - 2) ([], 0)).1) ((st1.reverse.getD (st1.length - 1) ([], 0)).1))), (59, _), (2, _), (11, _), (12, _), (13, _), (7, _), (3, _), (4, _), (41, _)] [] a := hfr
        replace hst : St (· = 0) w0 [_, _, _, _] w11 := hst
        refine wl_nil ?_
        refine wd_lin (k := 16) 18 [17] (by kernel_rfl) (by kernel_rfl) (by kernel_rfl) ?_
        replace hst : St (· = 0) w0 [own (.slice (some ⟨b6, 0, none⟩) 1 1) 9 1 ([[sv (nodeH sha ((st1.reverse.getD (st1.length - 2) ([], 0)).1) ((st1.reverse.getD (st1.length - 1) ([], 0)).1))]]), own (cut v1 1 0 (st1.length - 2) (slCap v1)) 9 1 ((st1.reverse.map fun x : By × Nat => [sv x.1]).take (st1.length - 2)), own u1 3 1 (st1.reverse.map fun x : By × Nat => [Value.int .i64 (x.2 : Int)]), blk 0 (kOf.map wv) 88] w11 := hst.take (i := 1) (k := (st1.length - 2)) rfl (by simp <;> omega)
        refine wl_append (i := 1) (sT := 22) (inf := Tryd.t9) (z := .string (⟨#[]⟩)) (b := 0) (off := 0) (m := 0) (c := 0) rfl rfl rfl (hst.ownAt (i := 0) rfl) (by simp) Tryd.underlying22 rfl rfl rfl rfl (by decide) (by simp [Value.oneCell', yv, wv, sv]) (by have hby : Tryd.t9.bytes = 16 := rfl; have hby3 : Tryd.t3.bytes = 8 := rfl; have hle0 := hS.le.1; rw [List.length_take] at hle0; simp only [big, hby, hby3, List.length_append, List.length_take, List.length_map, List.length_reverse, List.length_cons, List.length_nil]; omega) (by have hby : Tryd.t9.bytes = 16 := rfl; have hby3 : Tryd.t3.bytes = 8 := rfl; have hle0 := hS.le.1; rw [List.length_take] at hle0; simp only [big, hby, hby3, List.length_append, List.length_take, List.length_map, List.length_reverse, List.length_cons, List.length_nil]; omega) (by decide) hfr hst fun a w12 s7 hfr hst _ => ?_
        refine wl_v hfr (by decide) (v_assign rfl) ?_
        clear hfr
        intro a hfr
        refine wl_nil ?_
        refine wd_end (by kernel_rfl) ?_
        refine hK15 _ _ ?_
        replace hfr : Fr 96 [(2, _), (11, _), (12, _), (13, _), (7, _), (4, _), (3, _)] [] a := hfr.pick [2, 11, 12, 13, 7, 4, 3]
        replace hst : St (· = 0) w0 [_, _, _] w12 := hst.mask [false, true, true, true]
        refine wc_of_dr (by kernel_rfl) (dr_of_wd (by kernel_rfl) fun w13 hxz => ?_)
        replace hst : St (· = 0) w0 [own s7 9 1 (((st1.reverse.map fun x : By × Nat => [sv x.1]).take (st1.length - 2)) ++ ([[sv (nodeH sha ((st1.reverse.getD (st1.length - 2) ([], 0)).1) ((st1.reverse.getD (st1.length - 1) ([], 0)).1))]])), own u1 3 1 (st1.reverse.map fun x : By × Nat => [Value.int .i64 (x.2 : Int)]), blk 0 (kOf.map wv) 88] w13 := hst.grow hxz
        refine wd_sub (k := 0) 11 [3, 10] hfr (by kernel_rfl) (by kernel_rfl) (by kernel_rfl) (by rfl) ?_
        replace hfr : Fr 96 [(2, _), (11, _), (12, _), (13, _), (7, _), (4, _), (3, _)] [] a := hfr.pick [2, 11, 12, 13, 7, 4, 3]
        refine wc_phases_q [10] (fun i => match i with | 10 => pm (fun b : Nat => .slice (some ⟨b, 0, none⟩) 1 1) (fun b => [own (.slice (some ⟨b, 0, none⟩) 1 1) 3 1 [[.int .i64 (2 * ((st1.reverse.getD (st1.length - 1) ([], 0)).2 : Int))]]]) (fun _ => True) | _ => fun _ _ => False) 11 [[], [], [1], [0, 2], [], [], [5], [4, 6], [7], [8], [9]] [u1, .int .i64 (st1.length : Int), .int .i64 ((st1.length : Int) - 2), (cut u1 1 0 (st1.length - 2) (slCap u1)), u1, .int .i64 (st1.length : Int), .int .i64 ((st1.length : Int) - 1), slAddr u1 ((st1.length - 1) * 1), .int .i64 ((st1.reverse.getD (st1.length - 1) ([], 0)).2 : Int), .int .i64 (2 * ((st1.reverse.getD (st1.length - 1) ([], 0)).2 : Int)), undef] hfr hst (by kernel_rfl) (by kernel_rfl) (by kernel_rfl) ?_ ?_ ?_
        · intro i hi hiq
          match i, hi, hiq with
          | 0, _, _ =>
            intro w hst
            exact OpV.g (v_move rfl)
          | 1, _, _ =>
            intro w hst
            exact OpV.g (v_move rfl)
          | 2, _, _ =>
            intro w hst
            exact OpV.g (v_sub rfl rfl ⟨by omega, by omega⟩)
          | 3, _, _ =>
            intro w hst
            exact OpV.g (v_slice_at (l := 0) (h := (st1.length - 2)) (hst.ownAt (i := 1) rfl) rfl rfl rfl Tryd.underlying49 (by kernel_rfl) (.inl ⟨rfl, rfl⟩) (.inr (by rw [show ((st1.length : Int) - 2 : Int) = (((st1.length - 2) : Nat) : Int) from by omega] <;> rfl)) (Nat.zero_le _) (by first | (rw [List.length_map]; omega) | (simp <;> omega)))
          | 4, _, _ =>
            intro w hst
            exact OpV.g (v_move rfl)
          | 5, _, _ =>
            intro w hst
            exact OpV.g (v_move rfl)
          | 6, _, _ =>
            intro w hst
            exact OpV.g (v_sub rfl rfl ⟨by omega, by omega⟩)
          | 7, _, _ =>
            intro w hst
            exact OpV.g ((v_indexAddr_sl (i := (st1.length : Int) - 1) (sT := 49) (hst.ownAt (i := 1) rfl) rfl rfl (Tryd.runUnderlying49 _) (Tryd.sizeOf3 _) (by omega) (by first | (rw [List.length_map]; omega) | (rw [List.length_map, List.length_reverse]; omega))).as (v' := slAddr u1 ((st1.length - 1) * 1)) (by rw [show ((st1.length : Int) - 1).toNat = (st1.length - 1) from by omega]))
          | 8, _, _ =>
            intro w hst
            exact OpV.g (v_load_sl1 (u := .int .i64 ((st1.reverse.getD (st1.length - 1) ([], 0)).2 : Int)) (i := (st1.length - 1)) (j := 0) (hst.ownAt (i := 1) rfl) (by first | (rw [List.length_map]; omega) | (rw [List.length_map, List.length_reverse]; omega)) rfl (Tryd.isAgg3 _) (by rw [el_at ([], 0)]; rfl))
          | 9, _, _ =>
            intro w hst
            exact OpV.g (v_mul rfl rfl ⟨by omega, by omega⟩)
          | 10, _, h => exact absurd (by simp) h
        · intro i hi
          simp only [List.mem_cons, List.not_mem_nil, or_false] at hi
          subst hi
          · intro w hst
            exact g_buildSlice (E := 3) (sz := 1) rfl [[.int .i64 (2 * ((st1.reverse.getD (st1.length - 1) ([], 0)).2 : Int))]] (fun _ => by kernel_rfl) (by simp) rfl (by decide)
        clear hfr hst
        rintro _ _ ⟨b8, rfl, -, rfl⟩ a w14 hfr hst
        replace hfr : Fr 96 [(61, u1), (62, .int .i64 (st1.length : Int)), (63, .int .i64 ((st1.length : Int) - 2)), (64, (cut u1 1 0 (st1.length - 2) (slCap u1))), (65, u1), (66, .int .i64 (st1.length : Int)), (67, .int .i64 ((st1.length : Int) - 1)), (68, slAddr u1 ((st1.length - 1) * 1)), (69, .int .i64 ((st1.reverse.getD (st1.length - 1) ([], 0)).2 : Int)), (70, .int .i64 (2 * ((st1.reverse.getD (st1.length - 1) ([], 0)).2 : Int))), (71, _), (2, _), (11, _), (12, _), (13, _), (7, _), (4, _), (3, _)] [] a := hfr
        replace hst : St (· = 0) w0 [_, _, _, _] w14 := hst
        refine wl_nil ?_
        refine wd_lin (k := 11) 13 [12] (by kernel_rfl) (by kernel_rfl) (by kernel_rfl) ?_
        replace hst : St (· = 0) w0 [own (.slice (some ⟨b8, 0, none⟩) 1 1) 3 1 ([[.int .i64 (2 * ((st1.reverse.getD (st1.length - 1) ([], 0)).2 : Int))]]), own s7 9 1 (((st1.reverse.map fun x : By × Nat => [sv x.1]).take (st1.length - 2)) ++ ([[sv (nodeH sha ((st1.reverse.getD (st1.length - 2) ([], 0)).1) ((st1.reverse.getD (st1.length - 1) ([], 0)).1))]])), own (cut u1 1 0 (st1.length - 2) (slCap u1)) 3 1 ((st1.reverse.map fun x : By × Nat => [Value.int .i64 (x.2 : Int)]).take (st1.length - 2)), blk 0 (kOf.map wv) 88] w14 := hst.take (i := 2) (k := (st1.length - 2)) rfl (by simp <;> omega)
        refine wl_append (i := 2) (sT := 49) (inf := Tryd.t3) (z := .int .i64 0) (b := 0) (off := 0) (m := 0) (c := 0) rfl rfl rfl (hst.ownAt (i := 0) rfl) (by simp) Tryd.underlying49 rfl rfl rfl rfl (by decide) (by simp [Value.oneCell', yv, wv, sv]) (by have hby : Tryd.t9.bytes = 16 := rfl; have hby3 : Tryd.t3.bytes = 8 := rfl; have hle0 := hS.le.1; rw [List.length_take] at hle0; simp only [big, hby, hby3, List.length_append, List.length_take, List.length_map, List.length_reverse, List.length_cons, List.length_nil]; omega) (by have hby : Tryd.t9.bytes = 16 := rfl; have hby3 : Tryd.t3.bytes = 8 := rfl; have hle0 := hS.le.1; rw [List.length_take] at hle0; simp only [big, hby, hby3, List.length_append, List.length_take, List.length_map, List.length_reverse, List.length_cons, List.length_nil]; omega) (by decide) hfr hst fun a w15 s9 hfr hst _ => ?_
        refine wl_v hfr (by decide) (v_assign rfl) ?_
        clear hfr
        intro a hfr
        refine wl_nil ?_
        refine wd_end (by kernel_rfl) ?_
        refine hK14 _ _ ?_
        replace hfr : Fr 96 [(2, _), (11, _), (12, _), (13, _), (7, _), (3, _), (4, _)] [] a := hfr.pick [2, 11, 12, 13, 7, 3, 4]
        replace hst : St (· = 0) w0 [_, _, _] w15 := hst.mask [false, true, true, true]
        refine wc_region ?_
        refine wl_v hfr (by decide) (v_move rfl) ?_
        clear hfr
        intro a hfr
        refine wl_v hfr (by decide) (v_sub rfl rfl ⟨by omega, by omega⟩) ?_
        clear hfr
        intro a hfr
        refine wl_v hfr (by decide) (v_assign rfl) ?_
        clear hfr
        intro a hfr
        refine wl_nil ?_
        rw [show ((st1.reverse.map fun x : By × Nat => [sv x.1]).take (st1.length - 2)) ++ ([[sv (nodeH sha ((st1.reverse.getD (st1.length - 2) ([], 0)).1) ((st1.reverse.getD (st1.length - 1) ([], 0)).1))]]) = (((nodeH sha r1 r2, 2 * s1) :: t).reverse.map fun x : By × Nat => [sv x.1]) from by rw [← List.map_take, e3, e1, e2]; simp] at hst
        rw [show ((st1.reverse.map fun x : By × Nat => [Value.int .i64 (x.2 : Int)]).take (st1.length - 2)) ++ ([[.int .i64 (2 * ((st1.reverse.getD (st1.length - 1) ([], 0)).2 : Int))]]) = (((nodeH sha r1 r2, 2 * s1) :: t).reverse.map fun x : By × Nat => [Value.int .i64 (x.2 : Int)]) from by rw [← List.map_take, e3, e2]; simp] at hst
        rw [show (st1.length : Int) - 1 = (((nodeH sha r1 r2, 2 * s1) :: t).length : Int) from by rw [hst0]; simp only [List.length_cons]; omega] at hfr
        have hm1 : ((nodeH sha r1 r2, 2 * s1) :: t).length = t.length + 1 := rfl
        have hm2 : st1.length = t.length + 2 := by rw [hst0]; rfl
        rw [hst0] at hS1 hW1
        obtain ⟨hS2, hW2⟩ := Stk.merge sha hS1 hW1
        refine ⟨_, ?_, ((nodeH sha r1 r2, 2 * s1) :: t), s7, s9, rfl, hS2, hW2, hfr.pick [2, 11, 12, 13, 7, 3, 4], hst.select [0, 1, 2] (by decide)⟩
        omega
      rw [hc5] at hfr
      try simp only [Bool.not_eq_true', Bool.not_eq_false', decide_eq_true_eq, decide_eq_false_iff_not] at hc5
      have hI1 : incr st1 := strict_of hW1 (by omega) hc5
      refine wc_exit ?_
      refine hK8 _ _ ?_
      refine wc_region ?_
      refine wl_v hfr (by decide) (v_add rfl rfl ⟨by omega, by omega⟩) ?_
      clear hfr
      intro a hfr
      refine wl_v hfr (by decide) (v_move rfl) ?_
      clear hfr
      intro a hfr
      refine wl_nil ?_
      refine ⟨_, ?_, k + 1, st1, v1, u1, rfl, (by omega), hS1, hI1, hfr.pick [2, 11, 12, 13, 3, 4], hst.select [0, 1, 2] (by decide)⟩
      omega
    rw [hb4] at hfr
    try simp only [Bool.not_eq_true', Bool.not_eq_false', decide_eq_true_eq, decide_eq_false_iff_not] at hb4
    have hI1 : incr st1 := hW1.strict fun x y t e => absurd hb4 (by rw [e]; simp; omega)
    replace hfr : Fr 96 [(2, .string (⟨#[]⟩)), (11, lv), (12, .int .i64 (ls.length : Int)), (13, .int .i64 (k : Int)), (7, .int .i64 (st1.length : Int)), (3, v1), (4, u1), (27, .int .i64 (st1.length : Int)), (28, .bool false), (29, .bool false)] [] a := hfr.pick [2, 11, 12, 13, 7, 3, 4, 27, 28, 29]
    refine wd_skip (k := 3) 13 [7, 12] hfr (by kernel_rfl) (by kernel_rfl) (by kernel_rfl) (by rfl) ?_
    clear hfr
    intro a hfr
    replace hfr : Fr 96 [(30, undef), (31, undef), (32, undef), (33, undef), (34, undef), (35, undef), (36, undef), (37, undef), (38, undef), (39, undef), (2, .string (⟨#[]⟩)), (11, lv), (12, .int .i64 (ls.length : Int)), (13, .int .i64 (k : Int)), (7, .int .i64 (st1.length : Int)), (3, v1), (4, u1), (27, .int .i64 (st1.length : Int)), (28, .bool false), (29, .bool false)] [] a := hfr
    refine wd_lin (k := 13) 15 [14] (by kernel_rfl) (by kernel_rfl) (by kernel_rfl) ?_
    refine wl_vn hfr (by decide) rfl (by decide) rfl rfl ?_
    clear hfr
    intro a hfr
    refine wl_v hfr (by decide) (v_pick_f rfl rfl) ?_
    clear hfr
    intro a hfr
    refine wl_nil ?_
    refine wd_end (by kernel_rfl) ?_
    refine hK13 _ _ ?_
    replace hfr : Fr 96 [(2, _), (11, _), (12, _), (13, _), (7, _), (3, _), (4, _), (41, _)] [] a := hfr.pick [2, 11, 12, 13, 7, 3, 4, 41]
    refine wc_cond_f hfr rfl ?_
    refine wc_exit ?_
    refine hK8 _ _ ?_
    refine wc_region ?_
    refine wl_v hfr (by decide) (v_add rfl rfl ⟨by omega, by omega⟩) ?_
    clear hfr
    intro a hfr
    refine wl_v hfr (by decide) (v_move rfl) ?_
    clear hfr
    intro a hfr
    refine wl_nil ?_
    refine ⟨_, ?_, k + 1, st1, v1, u1, rfl, (by omega), hS1, hI1, hfr.pick [2, 11, 12, 13, 3, 4], hst.select [0, 1, 2] (by decide)⟩
    omega
  rw [hc1] at hfr
  try simp only [Bool.not_eq_true', Bool.not_eq_false', decide_eq_true_eq, decide_eq_false_iff_not] at hc1
  obtain rfl : k = ls.length := by omega
  rw [List.take_length] at hS
  have hle := hS.le
  refine wc_exit ?_
  refine hK4 _ _ ?_
  refine wc_seq_k fun K16 hK16 => ?_
  refine wc_seq_region fun K17 hK17 => ?_
  refine wl_v hfr (by decide) (v_move rfl) ?_
  clear hfr
  intro a hfr
  refine wl_v hfr (by decide) ((v_len_sl (sT := 22) (hst.ownAt (i := 0) rfl) rfl rfl (Tryd.runUnderlying22 _)).asi (m' := (st.length : Int)) (by simp)) ?_
  clear hfr
  intro a hfr
  refine wl_v hfr (by decide) (v_eq rfl rfl) ?_
  clear hfr
  intro a hfr
  refine wl_nil (hK17 _ _ ?_)
  replace hfr : Fr 96 [(2, _), (3, _), (76, _)] [] a := hfr.pick [2, 3, 76]
  refine wc_cond hfr rfl (fun hc10 => ?_) (fun hc10 => ?_)
  · rw [hc10] at hfr
    try simp only [Bool.not_eq_true', Bool.not_eq_false', decide_eq_true_eq, decide_eq_false_iff_not] at hc10
    refine wc_seq_region fun K18 hK18 => ?_
    refine wl_callp hfr hst (by decide) Tryd.call30 rfl (sum_ok [] _ (hst.get (k := 2) rfl) (by simp)) ?_
    clear hfr hst
    intro a w16 hfr hst
    refine wl_v hfr (by decide) (v_assign rfl) ?_
    clear hfr
    intro a hfr
    refine wl_nil (hK18 _ _ ?_)
    refine wc_ret ?_
    refine fin_ret hfr Tryd.results19 (resAre_tmp rfl resAre_nil) ?_
    obtain rfl : st = [] := List.eq_nil_of_length_eq_zero (by omega)
    obtain rfl : ls = [] := hS
    exact ⟨rfl, hst.ext.const hk0 (hst.get (k := 2) rfl)⟩
  rw [hc10] at hfr
  try simp only [Bool.not_eq_true', Bool.not_eq_false', decide_eq_true_eq, decide_eq_false_iff_not] at hc10
  have hlast := hle.2 (st.reverse.getD (st.length - 1) ([], 0)) (List.mem_reverse.1 (getD_mem (by rw [List.length_reverse]; omega)))
  refine wc_skip ?_
  refine hK16 _ _ ?_
  refine wc_seq_region fun K19 hK19 => ?_
  refine wl_v hfr (by decide) (v_move rfl) ?_
  clear hfr
  intro a hfr
  refine wl_v hfr (by decide) (v_move rfl) ?_
  clear hfr
  intro a hfr
  refine wl_v hfr (by decide) ((v_len_sl (sT := 22) (hst.ownAt (i := 0) rfl) rfl rfl (Tryd.runUnderlying22 _)).asi (m' := (st.length : Int)) (by simp)) ?_
  clear hfr
  intro a hfr
  refine wl_v hfr (by decide) (v_sub rfl rfl ⟨by omega, by omega⟩) ?_
  clear hfr
  intro a hfr
  refine wl_v hfr (by decide) ((v_indexAddr_sl (i := (st.length : Int) - 1) (sT := 22) (hst.ownAt (i := 0) rfl) rfl rfl (Tryd.runUnderlying22 _) (Tryd.sizeOf9 _) (by omega) (by first | (rw [List.length_map]; omega) | (rw [List.length_map, List.length_reverse]; omega))).as (v' := slAddr v ((st.length - 1) * 1)) (by rw [show ((st.length : Int) - 1).toNat = (st.length - 1) from by omega])) ?_
  clear hfr
  intro a hfr
  refine wl_v hfr (by decide) (v_load_sl1 (u := sv ((st.reverse.getD (st.length - 1) ([], 0)).1)) (i := (st.length - 1)) (j := 0) (hst.ownAt (i := 0) rfl) (by first | (rw [List.length_map]; omega) | (rw [List.length_map, List.length_reverse]; omega)) rfl (Tryd.isAgg9 _) (by rw [el_at ([], 0)]; rfl)) ?_
  clear hfr
  intro a hfr
  refine wl_alloc hfr hst (by decide) (Tryd.zeroValue9 _) (cs := [.string (⟨#[]⟩)]) rfl ?_
  clear hfr hst
  intro a w17 hfr hst
  refine wl_store 0 hfr hst rfl rfl rfl (Tryd.sizeOf9 _) rfl (Nat.le_of_ble_eq_true rfl) (ds := [sv ((st.reverse.getD (st.length - 1) ([], 0)).1)]) rfl rfl ?_
  clear hfr hst
  intro a w18 hfr hst
  refine wl_nil (hK19 _ _ ?_)
  replace hfr : Fr 96 [(2, _), (3, _), (8, _)] [] a := hfr.pick [2, 3, 8]
  refine wc_seq_k fun K20 hK20 => ?_
  refine wc_seq_region fun K21 hK21 => ?_
  refine wl_v hfr (by decide) (v_move rfl) ?_
  clear hfr
  intro a hfr
  refine wl_v hfr (by decide) (v_move rfl) ?_
  clear hfr
  intro a hfr
  refine wl_v hfr (by decide) ((v_len_sl (sT := 22) (hst.ownAt (i := 1) rfl) rfl rfl (Tryd.runUnderlying22 _)).asi (m' := (st.length : Int)) (by simp)) ?_
  clear hfr
  intro a hfr
  refine wl_v hfr (by decide) (v_sub rfl rfl ⟨by omega, by omega⟩) ?_
  clear hfr
  intro a hfr
  refine wl_v hfr (by decide) (v_slice_at (l := 0) (h := (st.length - 1)) (hst.ownAt (i := 1) rfl) rfl rfl rfl Tryd.underlying22 (by kernel_rfl) (.inl ⟨rfl, rfl⟩) (.inr (by rw [show ((st.length : Int) - 1 : Int) = (((st.length - 1) : Nat) : Int) from by omega] <;> rfl)) (Nat.zero_le _) (by first | (rw [List.length_map]; omega) | (simp <;> omega))) ?_
  clear hfr
  intro a hfr
  refine wl_callm hfr hst (by decide) Tryd.call44 rfl (back_ok (cut v 1 0 (st.length - 1) (slCap v)) _ _ ((hst.ownAt (i := 1) rfl).cut0 (h := (st.length - 1)) (by first | omega | (rw [List.length_reverse]; omega) | simp | (simp; omega)))) ?_
  clear hfr hst
  intro a w19 x11 hp hfr hst
  revert x11 hp hfr hst; rintro z1 hp hfr hst
  clear hp
  replace hst : St (· = 0) w0 [blk z1 [(cut v 1 0 (st.length - 1) (slCap v))] 22, blk w1.heap.size [sv ((st.reverse.getD (st.length - 1) ([], 0)).1)] 9, own v 9 1 (st.reverse.map fun x : By × Nat => [sv x.1]), own u 3 1 (st.reverse.map fun x : By × Nat => [Value.int .i64 (x.2 : Int)]), blk 0 (kOf.map wv) 88] w19 := hst
  refine wl_nil (hK21 _ _ ?_)
  replace hfr : Fr 96 [(2, _), (8, _), (89, _)] [] a := hfr.pick [2, 8, 89]
  refine wc_block ?_
  replace hst : St (· = 0) w0 [blk z1 [(cut v 1 0 (st.length - 1) (slCap v))] 22, blk w1.heap.size [sv ((st.reverse.getD (st.length - 1) ([], 0)).1)] 9, own (cut v 1 0 (st.length - 1) (slCap v)) 9 1 (((st.drop 1).reverse.map Prod.fst).map fun s => [sv s]), own u 3 1 (st.reverse.map fun x : By × Nat => [Value.int .i64 (x.2 : Int)]), blk 0 (kOf.map wv) 88] w19 := by
    have h9 := hst.take (i := 2) (k := st.length - 1) rfl (by simp)
    rw [roots_take] at h9
    exact h9
  have hyl : ((st.drop 1).reverse.map Prod.fst).length ≤ 1000 := by simp; omega
  have hy32 : ∀ k, k < ((st.drop 1).reverse.map Prod.fst).length → (((st.drop 1).reverse.map Prod.fst).getD k []).length = 32 := fun k hk => by
    obtain ⟨z, hz, e⟩ := List.mem_map.1 (getD_mem (d := []) hk)
    rw [← e]; exact (hle.2 z (List.mem_of_mem_drop (List.mem_reverse.1 hz))).1
  replace hst : St (· = 0) w0 [blk z1 [(cut v 1 0 (st.length - 1) (slCap v))] 22, blk w1.heap.size [sv (([] : List Nat).foldl (fun o k => nodeH sha (((st.drop 1).reverse.map Prod.fst).getD k []) o) ((st.reverse.getD (st.length - 1) ([], 0)).1))] 9, own (cut v 1 0 (st.length - 1) (slCap v)) 9 1 (((st.drop 1).reverse.map Prod.fst).map fun s => [sv s]), own u 3 1 (st.reverse.map fun x : By × Nat => [Value.int .i64 (x.2 : Int)]), blk 0 (kOf.map wv) 88] w19 := hst
  replace hst : St (· = 0) w0 [blk 0 (kOf.map wv) 88, blk w1.heap.size [sv (([] : List Nat).foldl (fun o k => nodeH sha (((st.drop 1).reverse.map Prod.fst).getD k []) o) ((st.reverse.getD (st.length - 1) ([], 0)).1))] 9, blk z1 [(cut v 1 0 (st.length - 1) (slCap v))] 22, own (cut v 1 0 (st.length - 1) (slCap v)) 9 1 (((st.drop 1).reverse.map Prod.fst).map fun s => [sv s])] w19 := hst.select [4, 1, 0, 2] (by decide)
  replace hfr : Fr 96 [(2, .string (⟨#[]⟩)), (8, .pointer (some ⟨w1.heap.size, 0, none⟩)), (89, .func (.func 60) #[] #[.pointer (some ⟨z1, 0, none⟩)])] [] a := hfr.pick [2, 8, 89]
  refine wc_range (M := (· = 0)) (w0 := w0) (encs := (encB ((st.drop 1).reverse.map Prod.fst))) (Hi := [blk z1 [(cut v 1 0 (st.length - 1) (slCap v))] 22, own (cut v 1 0 (st.length - 1) (slCap v)) 9 1 (((st.drop 1).reverse.map Prod.fst).map fun s => [sv s])]) (Hc := [blk 0 (kOf.map wv) 88, blk w1.heap.size [sv (([] : List Nat).foldl (fun o k => nodeH sha (((st.drop 1).reverse.map Prod.fst).getD k []) o) ((st.reverse.getD (st.length - 1) ([], 0)).1))] 9]) (fun pre H => ((pre.foldl (fun o k => nodeH sha (((st.drop 1).reverse.map Prod.fst).getD k []) o) ((st.reverse.getD (st.length - 1) ([], 0)).1)).length = 32) ∧ H = [blk 0 (kOf.map wv) 88, blk w1.heap.size [sv (pre.foldl (fun o k => nodeH sha (((st.drop 1).reverse.map Prod.fst).getD k []) o) ((st.reverse.getD (st.length - 1) ([], 0)).1))] 9]) (fun _ _ _ => False) (fun pre xs H a => Fr 96 [(2, .string (⟨#[]⟩)), (8, .pointer (some ⟨w1.heap.size, 0, none⟩)), (89, .func (.func 60) #[] #[.pointer (some ⟨z1, 0, none⟩)]), (10, sv (((st.drop 1).reverse.map Prod.fst).getD xs []))] [] a ∧ ((pre.foldl (fun o k => nodeH sha (((st.drop 1).reverse.map Prod.fst).getD k []) o) ((st.reverse.getD (st.length - 1) ([], 0)).1)).length = 32) ∧ H = [blk 0 (kOf.map wv) 88, blk w1.heap.size [sv (pre.foldl (fun o k => nodeH sha (((st.drop 1).reverse.map Prod.fst).getD k []) o) ((st.reverse.getD (st.length - 1) ([], 0)).1))] 9]) rfl Tryd.call60 hfr hst (back_iter (cut v 1 0 (st.length - 1) (slCap v)) ((st.drop 1).reverse.map Prod.fst) z1 (by omega)) (by decide) (fun _ => rfl) ⟨hlast.1, rfl⟩ ?_ ?_ ?_ ?_
  · clear hfr hst
    rintro lp pre xs _ a w20 hnx ⟨hf32, rfl⟩ hfr hst
    generalize (join [blk 0 (kOf.map wv) 88, blk w1.heap.size [sv (pre.foldl (fun o k => nodeH sha (((st.drop 1).reverse.map Prod.fst).getD k []) o) ((st.reverse.getD (st.length - 1) ([], 0)).1))] 9]).foot = M1 at hst ⊢
    replace hfr : Fr 96 [(91, sv (((st.drop 1).reverse.map Prod.fst).getD xs [])), (90, .int .i64 (xs : Int)), (2, .string (⟨#[]⟩)), (8, .pointer (some ⟨w1.heap.size, 0, none⟩)), (89, .func (.func 60) #[] #[.pointer (some ⟨z1, 0, none⟩)])] [] a := hfr
    refine wc_region ?_
    refine wl_v hfr (by decide) (v_assign rfl) ?_
    clear hfr
    intro a hfr
    refine wl_nil ?_
    exact ⟨_, ⟨hfr.pick [2, 8, 89, 10], hf32, rfl⟩, hst⟩
  · rintro lp pre xs _ a w21 hnx ⟨hfr, hf32, rfl⟩ hrec hnl hst
    clear hrec hnl
    generalize (join [blk 0 (kOf.map wv) 88, blk w1.heap.size [sv (pre.foldl (fun o k => nodeH sha (((st.drop 1).reverse.map Prod.fst).getD k []) o) ((st.reverse.getD (st.length - 1) ([], 0)).1))] 9]).foot = M1 at hst ⊢
    refine wc_block ?_
    refine wc_region ?_
    refine wl_v hfr (by decide) (v_move rfl) ?_
    clear hfr
    intro a hfr
    refine wl_v hfr (by decide) (v_load_blk1 (hst.get (k := 1) rfl) rfl (Tryd.isAgg9 _) rfl) ?_
    clear hfr
    intro a hfr
    refine wl_callp hfr hst (by decide) Tryd.call32 rfl (node_ok (((st.drop 1).reverse.map Prod.fst).getD xs []) (pre.foldl (fun o k => nodeH sha (((st.drop 1).reverse.map Prod.fst).getD k []) o) ((st.reverse.getD (st.length - 1) ([], 0)).1)) _ (by first | omega | (have := hy32 xs (by have h := hnx; unfold NxB at h; omega); omega)) (by first | omega | exact Nat.le_trans (Nat.le_of_eq hf32) (by decide)) (hst.get (k := 0) rfl)) ?_
    clear hfr hst
    intro a w22 hfr hst
    refine wl_store 1 hfr hst rfl rfl rfl (Tryd.sizeOf9 _) rfl (Nat.le_of_ble_eq_true rfl) (ds := [sv (nodeH sha (((st.drop 1).reverse.map Prod.fst).getD xs []) (pre.foldl (fun o k => nodeH sha (((st.drop 1).reverse.map Prod.fst).getD k []) o) ((st.reverse.getD (st.length - 1) ([], 0)).1)))]) rfl rfl ?_
    clear hfr hst
    intro a w23 hfr hst
    refine wl_nil ?_
    rw [show nodeH sha (((st.drop 1).reverse.map Prod.fst).getD xs []) (pre.foldl (fun o k => nodeH sha (((st.drop 1).reverse.map Prod.fst).getD k []) o) ((st.reverse.getD (st.length - 1) ([], 0)).1)) = (pre ++ [xs]).foldl (fun o k => nodeH sha (((st.drop 1).reverse.map Prod.fst).getD k []) o) ((st.reverse.getD (st.length - 1) ([], 0)).1) from by rw [List.foldl_append]; rfl] at hst
    exact ⟨_, ⟨(by rw [List.foldl_append]; exact node_len sha_len _ _), rfl⟩, hst.select [0, 1] (by decide)⟩
  · rintro D pre _ _ a w24 ⟨rfl, rfl⟩ ⟨hf32, rfl⟩ hst hfr
    replace hfr : Fr 96 [(2, .string (⟨#[]⟩)), (8, .pointer (some ⟨w1.heap.size, 0, none⟩)), (89, .func (.func 60) #[] #[.pointer (some ⟨z1, 0, none⟩)])] [{ target := .collected D, args := #[] }] a := hfr
    replace hst : St (· = 0) w0 [obj D (.deferred (some [])), blk 0 (kOf.map wv) 88, blk w1.heap.size [sv ((backs ((st.drop 1).reverse.map Prod.fst).length ((st.drop 1).reverse.map Prod.fst).length).foldl (fun o k => nodeH sha (((st.drop 1).reverse.map Prod.fst).getD k []) o) ((st.reverse.getD (st.length - 1) ([], 0)).1))] 9, blk z1 [(cut v 1 0 (st.length - 1) (slCap v))] 22, own (cut v 1 0 (st.length - 1) (slCap v)) 9 1 (((st.drop 1).reverse.map Prod.fst).map fun s => [sv s])] w24 := hst
    refine hK20 _ _ ?_
    refine wc_seq_region fun K22 hK22 => ?_
    refine wl_v hfr (by decide) (v_load_blk1 (hst.get (k := 2) rfl) rfl (Tryd.isAgg9 _) rfl) ?_
    clear hfr
    intro a hfr
    refine wl_v hfr (by decide) (v_assign rfl) ?_
    clear hfr
    intro a hfr
    refine wl_nil (hK22 _ _ ?_)
    refine wc_ret ?_
    have hD := hst.get (k := 0) rfl
    replace hst := hst.unmark (i := 0) (o' := .deferred none) rfl
    replace hst : St (· = 0) w0 [blk 0 (kOf.map wv) 88, blk w1.heap.size [sv ((backs ((st.drop 1).reverse.map Prod.fst).length ((st.drop 1).reverse.map Prod.fst).length).foldl (fun o k => nodeH sha (((st.drop 1).reverse.map Prod.fst).getD k []) o) ((st.reverse.getD (st.length - 1) ([], 0)).1))] 9, blk z1 [(cut v 1 0 (st.length - 1) (slCap v))] 22, own (cut v 1 0 (st.length - 1) (slCap v)) 9 1 (((st.drop 1).reverse.map Prod.fst).map fun s => [sv s])] _ := hst
    refine fin_ret1 hfr hD Tryd.results19 (resAre_tmp rfl resAre_nil) ?_
    exact ⟨by simp only [retv]; rw [stk_last hS hI (by omega)], hst.ext.const hk0 (hst.get (k := 0) rfl)⟩
  · rintro D c pre _ _ a w25 _ h
    exact h.elim
end Go.Proofs.YtmcoolbjgeibcaaDoor
/- slices.Reverse of an own slice of strings (off the shelf's contract). -/
namespace Go.Proofs.YtmcoolbjgeibcaaDoor
open Go.RowKit Go.PW Go.Sort
set_option linter.unusedVariables false
set_option linter.unusedSimpArgs false
theorem flat_sv (xs : List (List UInt8)) : (xs.map fun s => [sv s]).flatten = xs.map sv := by
  induction xs with
  | nil => rfl
  | cons x xs ih => rw [List.map_cons, List.flatten_cons, ih]; rfl
theorem encStr_sv (s : List UInt8) : encStr s = sv s := rfl
theorem put_take (cur : Array Value) (n : Nat) (ys : List (List UInt8)) (hn : n ≤ cur.size) (hy : ys.length = n) : (putCells encStr 0 ys.toArray cur).toList.take n = ys.map sv := by
  subst hy
  refine List.ext_getElem? fun i => ?_
  by_cases hi : i < ys.length
  · have hc : i < cur.size := by omega
    rw [List.getElem?_take_of_lt hi, List.getElem?_map, List.getElem?_eq_getElem hi]
    simp [putCells, hc, hi, encStr_sv]
  · rw [List.getElem?_eq_none (by rw [List.length_take]; omega), List.getElem?_eq_none (by rw [List.length_map]; omega)]
theorem reverse_ok (v : Value) (xs : List (List UInt8)) (E : TypeId) (w : World) (h : (own v E 1 (xs.map fun s => [sv s])).ok w) :
    Ret Tryd.prog 41 #[v] w fun u w' => u = .tuple #[] ∧ Ext (own v E 1 (xs.map fun s => [sv s])).foot w w' ∧ (own v E 1 (xs.reverse.map fun s => [sv s])).ok w' := by
  obtain ⟨h1, h2, h3, h4⟩ := h
  rcases h4 with ⟨rfl, h0⟩ | ⟨g, cap, cur, fz, rfl, hg, hfz, hnc, hcm, hcs, htk⟩
  · obtain rfl : xs = [] := by simpa using h0
    refine (Tryd.slices_Reverse_string_empty none 0 w).mono fun e w' ⟨he, hw⟩ => ⟨_, he, rfl, by rw [hw]; exact Ext.refl _ _, ?_⟩
    rw [hw]; exact own_nil w E 1
  · rw [List.length_map] at *
    rw [flat_sv] at htk
    have hsz : xs.length ≤ cur.size := by omega
    have hcell : ∀ j, j < xs.length → cur[j]? = some (sv (xs.getD j [])) := by
      intro j hj
      have : (cur.toList.take (xs.length * 1))[j]? = (xs.map sv)[j]? := by rw [htk]
      rw [List.getElem?_take_of_lt (by omega), List.getElem?_map, List.getElem?_eq_getElem hj] at this
      simpa [List.getD_eq_getElem?_getD, hj] using this
    have hH : Holds encStr w g 0 xs.toArray := by
      intro j hj
      have hj' : j < xs.length := by simpa using hj
      refine ⟨?_, ?_⟩
      · rw [Nat.zero_add]
        simp only [World.cell?, hg]
        have := hcell j hj'
        simp [hj', encStr_sv, List.getD_eq_getElem?_getD] at this ⊢
        exact this
      · obtain ⟨lo, hi'⟩ := fz
        simp only [World.frozen?, hg, Bool.and_eq_false_iff, decide_eq_false_iff_not]
        unfold rowFz at hfz
        simp only at hfz
        omega
    refine (Tryd.slices_Reverse_string g 0 cap xs w hH (by simp only [big] at h2; omega)).mono fun e w' ⟨he, n, hw⟩ => ⟨_, he, rfl, ?_, ?_⟩
    · rw [hw]
      refine ⟨rfl, rfl, rfl, by simp, fun k hk hn => ?_⟩
      have hne : g ≠ k := fun e => hn (by show Value.ownBlock _ = some k; rw [← e]; rfl)
      simp [putRow, mapBlock, Array.getElem?_modify, hne]
    · rw [hw]
      refine ⟨fun e he => by obtain ⟨s, _, rfl⟩ := List.mem_map.1 he; rfl, by simpa using h2, by rw [flat_sv]; simp, .inr ⟨g, cap, putCells encStr 0 xs.reverse.toArray cur, fz, by simp, ?_, hfz, by simpa using hnc, hcm, by simpa [putCells] using hcs, ?_⟩⟩
      · simp [putRow, mapBlock, Array.getElem?_modify, hg, onCells]
      · rw [flat_sv, List.length_map, List.length_reverse, Nat.mul_one]
        exact put_take cur xs.length xs.reverse hsz (by simp)
end Go.Proofs.YtmcoolbjgeibcaaDoor
namespace Go.PW
open Go.RowKit
section
variable {P : Program} {r : Option Nat} {ops : Array Oper} {K : Act → World → Prop} {rest : List Oper} {a : Act} {w w0 : World} {M : Nat → Prop} {H : List Ent}
variable {N : Nat} {L : List (Nat × Value)} {df : List Deferred} {d : Nat} {ty : TypeId} {pos : String} {af : Array Edge} {v : Value}
/-- A call that changes what an entry owns. -/
theorem wl_calle {f : FuncId} {xs : List Operand} {vs : List Value} {ats : Array TypeId} {e e' : Ent} {H' : List Ent} (i : Nat) (hfr : Fr N L df a) (hst : St M w0 H w) (hd : d < N) (hen : ∀ args w, (callFunc f args).run P w = .ok (.enter f args) w) (hx : evs L xs = some vs)
    (hi : H[i]? = some e) (hf : ∀ b, e'.foot b → e.foot b) (hc : Ret P f vs.toArray w fun v' w' => v' = v ∧ Ext e.foot w w' ∧ e'.ok w') (hH : H.set i e' = H')
    (k : ∀ a w', Fr N ((d, v) :: L) df a → St M w0 H' w' → WL P r ops K rest a w') :
    WL P r ops K (⟨some d, .call { callee := .value (.func f), args := xs.toArray, argTypes := ats }, ty, pos, af, none⟩ :: rest) a w :=
  wl_r (r_call hen hx hc) rfl (decide_eq_true hd) hfr fun a v' w' ⟨hv, hw, ho⟩ h => by
    subst hv; subst hH
    exact k _ _ h (hst.exchange hi hw ho fun b' hb' => ⟨Nat.lt_of_lt_of_le (hst.lt hi (hf _ hb')) hw.size, .inl (hf _ hb')⟩)
end
end Go.PW
namespace Go.Proofs.YtmcoolbjgeibcaaDoor
open Go.RowKit Go.PW
set_option linter.unusedVariables false
set_option linter.unusedSimpArgs false
set_option maxRecDepth 4000

/-- dialtone/digest.Proof -/
theorem proof_err (lv : Value) (ls : List By) (i : Int) (w0 : World) (hlv : SlAt w0 lv 1 (ls.map fun s => [sv s])) (hi : i < 0 ∨ (ls.length : Int) ≤ i) :
    Ret Tryd.prog 14 #[lv, .int .i64 i] w0 fun v w => v = .tuple #[.slice none 0 0, .int .i64 2] ∧ Ext No w0 w := by
  refine ret_of Tryd.func14 rfl Tryd.ntmps14 (Nat.le_of_ble_eq_true rfl) fun a hfr => ?_
  replace hfr : Fr 47 [(0, _), (1, _)] [] a := hfr
  replace hst : St No w0 [] w0 := St.init w0
  refine wc_seq_region fun K1 hK1 => ?_
  refine wl_v hfr (by decide) (v_assign rfl) ?_
  clear hfr
  intro a hfr
  refine wl_v hfr (by decide) (v_assign rfl) ?_
  clear hfr
  intro a hfr
  refine wl_nil (hK1 _ _ ?_)
  refine wc_scope ?_
  refine wc_seq_k fun K2 hK2 => ?_
  refine wc_seq_region fun K3 hK3 => ?_
  refine wl_v hfr (by decide) (v_move rfl) ?_
  clear hfr
  intro a hfr
  refine wl_v hfr (by decide) (v_lt rfl rfl) ?_
  clear hfr
  intro a hfr
  refine wl_v hfr (by decide) (v_move rfl) ?_
  clear hfr
  intro a hfr
  rcases Bool.eq_false_or_eq_true (decide (i < 0)) with hb1 | hb1
  · rw [hb1] at hfr
    try simp only [Bool.not_eq_true', Bool.not_eq_false', decide_eq_true_eq, decide_eq_false_iff_not] at hb1
    refine wl_vn hfr (by decide) rfl (by decide) rfl rfl ?_
    clear hfr
    intro a hfr
    refine wl_vn hfr (by decide) rfl (by decide) rfl rfl ?_
    clear hfr
    intro a hfr
    refine wl_vn hfr (by decide) rfl (by decide) rfl rfl ?_
    clear hfr
    intro a hfr
    refine wl_vn hfr (by decide) rfl (by decide) rfl rfl ?_
    clear hfr
    intro a hfr
    refine wl_v hfr (by decide) (v_pick_t rfl rfl) ?_
    clear hfr
    intro a hfr
    refine wl_nil (hK3 _ _ ?_)
    replace hfr : Fr 47 [(0, _), (1, _), (4, _), (5, _), (17, _)] [] a := hfr.pick [0, 1, 4, 5, 17]
    refine wc_cond_t hfr rfl ?_
    refine wc_seq_region fun K4 hK4 => ?_
    refine wl_v hfr (by decide) (v_assign rfl) ?_
    clear hfr
    intro a hfr
    refine wl_v hfr (by decide) (v_assign rfl) ?_
    clear hfr
    intro a hfr
    refine wl_nil (hK4 _ _ ?_)
    refine wc_ret ?_
    refine fin_ret hfr Tryd.results14 (resAre_tmp rfl (resAre_tmp rfl resAre_nil)) ?_
    exact ⟨by rfl, hst.ext⟩
  rw [hb1] at hfr
  try simp only [Bool.not_eq_true', Bool.not_eq_false', decide_eq_true_eq, decide_eq_false_iff_not] at hb1
  refine wl_vy hfr (by decide) rfl (by decide) rfl (v_move rfl) ?_
  clear hfr
  intro a hfr
  refine wl_vy hfr (by decide) rfl (by decide) rfl (v_move rfl) ?_
  clear hfr
  intro a hfr
  refine wl_vy hfr (by decide) rfl (by decide) rfl ((v_len_sl (sT := 22) (hst.arg hlv) rfl rfl (Tryd.runUnderlying22 _)).asi (m' := (ls.length : Int)) (by simp)) ?_
  clear hfr
  intro a hfr
  refine wl_vy hfr (by decide) rfl (by decide) rfl (v_ge rfl rfl) ?_
  clear hfr
  intro a hfr
  refine wl_v hfr (by decide) (v_pick_f rfl rfl) ?_
  clear hfr
  intro a hfr
  refine wl_nil (hK3 _ _ ?_)
  replace hfr : Fr 47 [(0, _), (1, _), (4, _), (5, _), (17, _)] [] a := hfr.pick [0, 1, 4, 5, 17]
  refine wc_cond hfr rfl (fun hc2 => ?_) (fun hc2 => ?_)
  · rw [hc2] at hfr
    try simp only [Bool.not_eq_true', Bool.not_eq_false', decide_eq_true_eq, decide_eq_false_iff_not] at hc2
    refine wc_seq_region fun K5 hK5 => ?_
    refine wl_v hfr (by decide) (v_assign rfl) ?_
    clear hfr
    intro a hfr
    refine wl_v hfr (by decide) (v_assign rfl) ?_
    clear hfr
    intro a hfr
    refine wl_nil (hK5 _ _ ?_)
    refine wc_ret ?_
    refine fin_ret hfr Tryd.results14 (resAre_tmp rfl (resAre_tmp rfl resAre_nil)) ?_
    exact ⟨by rfl, hst.ext⟩
  rw [hc2] at hfr
  try simp only [Bool.not_eq_true', Bool.not_eq_false', decide_eq_true_eq, decide_eq_false_iff_not] at hc2
  omega

set_option maxHeartbeats 4000000 in
/-- dialtone/digest.Proof -/
theorem proof_ok (lv : Value) (ls : List By) (i : Nat) (w0 : World) (hlv : SlAt w0 lv 1 (ls.map fun s => [sv s])) (hi : i < ls.length) (hln : ls.length ≤ 1000) (hls : ∀ s ∈ ls, s.length ≤ 40000000) (hk0 : (blk 0 (kOf.map wv) 88).ok w0) :
    Ret Tryd.prog 14 #[lv, .int .i64 (i : Int)] w0 (MemR w0 (fun v : Value => .tuple #[v, .int .i64 0]) (fun v => [own v 9 1 ((proofH sha ls i).map fun s => [sv s])]) (fun _ => True)) := by
  refine ret_of Tryd.func14 rfl Tryd.ntmps14 (Nat.le_of_ble_eq_true rfl) fun a hfr => ?_
  replace hfr : Fr 47 [(0, _), (1, _)] [] a := hfr
  replace hst : St No w0 [] w0 := St.init w0
  refine wc_seq_region fun K1 hK1 => ?_
  refine wl_v hfr (by decide) (v_assign rfl) ?_
  clear hfr
  intro a hfr
  refine wl_v hfr (by decide) (v_assign rfl) ?_
  clear hfr
  intro a hfr
  refine wl_nil (hK1 _ _ ?_)
  refine wc_scope ?_
  refine wc_seq_k fun K2 hK2 => ?_
  refine wc_seq_region fun K3 hK3 => ?_
  refine wl_v hfr (by decide) (v_move rfl) ?_
  clear hfr
  intro a hfr
  refine wl_v hfr (by decide) (v_lt rfl rfl) ?_
  clear hfr
  intro a hfr
  refine wl_v hfr (by decide) (v_move rfl) ?_
  clear hfr
  intro a hfr
  rcases Bool.eq_false_or_eq_true (decide ((i : Int) < 0)) with hb1 | hb1
  · rw [hb1] at hfr
    try simp only [Bool.not_eq_true', Bool.not_eq_false', decide_eq_true_eq, decide_eq_false_iff_not] at hb1
    omega
  rw [hb1] at hfr
  try simp only [Bool.not_eq_true', Bool.not_eq_false', decide_eq_true_eq, decide_eq_false_iff_not] at hb1
  refine wl_vy hfr (by decide) rfl (by decide) rfl (v_move rfl) ?_
  clear hfr
  intro a hfr
  refine wl_vy hfr (by decide) rfl (by decide) rfl (v_move rfl) ?_
  clear hfr
  intro a hfr
  refine wl_vy hfr (by decide) rfl (by decide) rfl ((v_len_sl (sT := 22) (hst.arg hlv) rfl rfl (Tryd.runUnderlying22 _)).asi (m' := (ls.length : Int)) (by simp)) ?_
  clear hfr
  intro a hfr
  refine wl_vy hfr (by decide) rfl (by decide) rfl (v_ge rfl rfl) ?_
  clear hfr
  intro a hfr
  refine wl_v hfr (by decide) (v_pick_f rfl rfl) ?_
  clear hfr
  intro a hfr
  refine wl_nil (hK3 _ _ ?_)
  replace hfr : Fr 47 [(0, _), (1, _), (4, _), (5, _), (17, _)] [] a := hfr.pick [0, 1, 4, 5, 17]
  refine wc_cond hfr rfl (fun hc2 => ?_) (fun hc2 => ?_)
  · rw [hc2] at hfr
    try simp only [Bool.not_eq_true', Bool.not_eq_false', decide_eq_true_eq, decide_eq_false_iff_not] at hc2
    omega
  rw [hc2] at hfr
  try simp only [Bool.not_eq_true', Bool.not_eq_false', decide_eq_true_eq, decide_eq_false_iff_not] at hc2
  refine wc_skip ?_
  refine hK2 _ _ ?_
  refine wc_seq_region fun K4 hK4 => ?_
  refine wl_v hfr (by decide) (v_assign rfl) ?_
  clear hfr
  intro a hfr
  refine wl_nil (hK4 _ _ ?_)
  refine wc_seq_k fun K5 hK5 => ?_
  refine wc_label ?_
  refine hK5 _ _ ?_
  refine wc_seq_k fun K6 hK6 => ?_
  refine wc_block ?_
  replace hst : St No w0 [own (.slice none 0 0) 9 1 (([] : List By).map fun s => [sv s])] w0 := hst.nil_own
  refine wc_loop (fun m a w => ∃ (v : Value) (cl : List By) (ci : Nat) (ou : List By) (o : Value), m = cl.length ∧ (SlAt w0 v 1 (cl.map fun s => [sv s])) ∧ (ci < cl.length) ∧ (cl.length ≤ 1000) ∧ (cl.length + ou.length ≤ 2000) ∧ (∀ s ∈ cl, s.length ≤ 40000000) ∧ (proofH sha ls i = proofH sha cl ci ++ ou.reverse) ∧ Fr 47 [(4, .slice none 0 0), (5, .int .i64 0), (0, v), (1, .int .i64 (ci : Int)), (6, o)] [] a ∧ St No w0 [own o 9 1 (ou.map fun s => [sv s])] w) _ ⟨lv, ls, i, [], .slice none 0 0, rfl, hlv, hi, hln, (by simp; omega), hls, (by simp), hfr.pick [4, 5, 0, 1, 6], hst.select [0] (by decide)⟩ ?_
  rintro _ a w1 ⟨v, cl, ci, ou, o, rfl, hv, hc1, hc2, hc3, hcl, hpr, hfr, hst⟩
  refine wc_block ?_
  refine wc_seq_k fun K7 hK7 => ?_
  refine wc_seq_region fun K8 hK8 => ?_
  refine wl_v hfr (by decide) (v_move rfl) ?_
  clear hfr
  intro a hfr
  refine wl_v hfr (by decide) ((v_len_sl (sT := 22) (hst.arg hv) rfl rfl (Tryd.runUnderlying22 _)).asi (m' := (cl.length : Int)) (by simp)) ?_
  clear hfr
  intro a hfr
  refine wl_v hfr (by decide) (v_eq rfl rfl) ?_
  clear hfr
  intro a hfr
  refine wl_nil (hK8 _ _ ?_)
  refine wc_cond hfr rfl (fun hc3 => ?_) (fun hc3 => ?_)
  · rw [hc3] at hfr
    try simp only [Bool.not_eq_true', Bool.not_eq_false', decide_eq_true_eq, decide_eq_false_iff_not] at hc3
    refine wc_exit ?_
    refine hK6 _ _ ?_
    refine wc_seq_region fun K9 hK9 => ?_
    refine wl_v hfr (by decide) (v_move rfl) ?_
    clear hfr
    intro a hfr
    refine wl_calle (e' := own o 9 1 (ou.reverse.map fun s => [sv s])) 0 hfr hst (by decide) Tryd.call41 rfl rfl (fun _ h => h) (reverse_ok _ _ _ _ (hst.get (k := 0) rfl)) rfl ?_
    clear hfr hst
    intro a w2 hfr hst
    refine wl_nil (hK9 _ _ ?_)
    replace hfr : Fr 47 [(4, _), (5, _), (6, _)] [] a := hfr.pick [4, 5, 6]
    refine wc_seq_region fun K10 hK10 => ?_
    refine wl_v hfr (by decide) (v_move rfl) ?_
    clear hfr
    intro a hfr
    refine wl_v hfr (by decide) (v_assign rfl) ?_
    clear hfr
    intro a hfr
    refine wl_v hfr (by decide) (v_assign rfl) ?_
    clear hfr
    intro a hfr
    refine wl_nil (hK10 _ _ ?_)
    refine wc_ret ?_
    refine fin_ret hfr Tryd.results14 (resAre_tmp rfl (resAre_tmp rfl resAre_nil)) ?_
    rw [proofH_one sha (l := cl) (by omega), List.nil_append] at hpr
    refine ⟨o, rfl, trivial, hst.ext, St.out (E := [own o 9 1 ((proofH sha ls i).map fun s => [sv s])]) (H := []) ?_⟩
    rw [hpr]; exact hst
  rw [hc3] at hfr
  try simp only [Bool.not_eq_true', Bool.not_eq_false', decide_eq_true_eq, decide_eq_false_iff_not] at hc3
  have hlt := lft_lt (n := cl.length) (by omega)
  have hlp := lft_pos cl.length
  refine wc_skip ?_
  refine hK7 _ _ ?_
  refine wc_seq_region fun K11 hK11 => ?_
  refine wl_v hfr (by decide) (v_move rfl) ?_
  clear hfr
  intro a hfr
  refine wl_v hfr (by decide) ((v_len_sl (sT := 22) (hst.arg hv) rfl rfl (Tryd.runUnderlying22 _)).asi (m' := (cl.length : Int)) (by simp)) ?_
  clear hfr
  intro a hfr
  refine wl_callp hfr hst (by decide) Tryd.call40 rfl (left_ok cl.length _ (by omega) (by omega)) ?_
  clear hfr hst
  intro a w3 hfr hst
  refine wl_v hfr (by decide) (v_assign rfl) ?_
  clear hfr
  intro a hfr
  refine wl_nil (hK11 _ _ ?_)
  replace hfr : Fr 47 [(4, _), (5, _), (0, _), (1, _), (6, _), (7, _)] [] a := hfr.pick [4, 5, 0, 1, 6, 7]
  refine wc_seq_k fun K12 hK12 => ?_
  refine wc_of_dr (by kernel_rfl) (dr_of_wd (by kernel_rfl) fun w4 hxz => ?_)
  replace hst : St No w0 [own o 9 1 (ou.map fun s => [sv s])] w4 := hst.grow hxz
  refine wd_sub (k := 0) 7 [5, 6] hfr (by kernel_rfl) (by kernel_rfl) (by kernel_rfl) (by rfl) ?_
  replace hfr : Fr 47 [(4, _), (5, _), (0, _), (1, _), (6, _), (7, _)] [] a := hfr.pick [4, 5, 0, 1, 6, 7]
  refine wc_phases_q [] (fun i => match i with | _ => fun _ _ => False) 7 [[], [], [0, 1], [], [], [3, 4], [2]] [v, .int .i64 (lft cl.length : Int), (cut v 1 0 (lft cl.length) (slCap v)), v, .int .i64 (lft cl.length : Int), (cut v 1 (lft cl.length) cl.length (slCap v)), (cut v 1 0 (lft cl.length) (slCap v))] hfr hst (by kernel_rfl) (by kernel_rfl) (by kernel_rfl) ?_ ?_ ?_
  · intro i hi hiq
    match i, hi, hiq with
    | 0, _, _ =>
      intro w hst
      exact OpV.g (v_move rfl)
    | 1, _, _ =>
      intro w hst
      exact OpV.g (v_move rfl)
    | 2, _, _ =>
      intro w hst
      exact OpV.g (v_slice_at (l := 0) (h := (lft cl.length)) (hst.arg hv) rfl rfl rfl Tryd.underlying22 (by kernel_rfl) (.inl ⟨rfl, rfl⟩) (.inr (by rw [show ((lft cl.length : Int) : Int) = (((lft cl.length) : Nat) : Int) from by omega] <;> rfl)) (Nat.zero_le _) (by first | (rw [List.length_map]; omega) | (simp <;> omega)))
    | 3, _, _ =>
      intro w hst
      exact OpV.g (v_move rfl)
    | 4, _, _ =>
      intro w hst
      exact OpV.g (v_move rfl)
    | 5, _, _ =>
      intro w hst
      exact OpV.g (v_slice_at (l := (lft cl.length)) (h := cl.length) (hst.arg hv) rfl rfl rfl Tryd.underlying22 (by kernel_rfl) (.inr (by rw [show ((lft cl.length : Int) : Int) = (((lft cl.length) : Nat) : Int) from by omega] <;> rfl)) (.inl ⟨rfl, by simp⟩) (by omega) (by simp))
    | 6, _, _ =>
      intro w hst
      exact OpV.g (v_assign rfl)
  · intro i hi
    exact absurd hi (by simp)
  clear hfr hst
  intro  a w5 hfr hst
  replace hfr : Fr 47 [(24, v), (25, .int .i64 (lft cl.length : Int)), (26, (cut v 1 0 (lft cl.length) (slCap v))), (27, v), (28, .int .i64 (lft cl.length : Int)), (29, (cut v 1 (lft cl.length) cl.length (slCap v))), (8, (cut v 1 0 (lft cl.length) (slCap v))), (4, _), (5, _), (0, _), (1, _), (6, _), (7, _)] [] a := hfr
  refine wl_nil ?_
  refine wd_lin (k := 7) 8 [7] (by kernel_rfl) (by kernel_rfl) (by kernel_rfl) ?_
  refine wl_v hfr (by decide) (v_assign rfl) ?_
  clear hfr
  intro a hfr
  refine wl_nil ?_
  refine wd_end (by kernel_rfl) ?_
  refine hK12 _ _ ?_
  replace hfr : Fr 47 [(4, _), (5, _), (1, _), (6, _), (7, _), (8, _), (9, _)] [] a := hfr.pick [4, 5, 1, 6, 7, 8, 9]
  refine wc_seq_k fun K13 hK13 => ?_
  refine wc_seq_region fun K14 hK14 => ?_
  refine wl_v hfr (by decide) (v_move rfl) ?_
  clear hfr
  intro a hfr
  refine wl_v hfr (by decide) (v_move rfl) ?_
  clear hfr
  intro a hfr
  refine wl_v hfr (by decide) (v_ge rfl rfl) ?_
  clear hfr
  intro a hfr
  refine wl_nil (hK14 _ _ ?_)
  refine wc_cond hfr rfl (fun hc4 => ?_) (fun hc4 => ?_)
  · rw [hc4] at hfr
    try simp only [Bool.not_eq_true', Bool.not_eq_false', decide_eq_true_eq, decide_eq_false_iff_not] at hc4
    refine wc_region ?_
    refine wl_v hfr (by decide) (v_move rfl) ?_
    clear hfr
    intro a hfr
    refine wl_v hfr (by decide) (v_move rfl) ?_
    clear hfr
    intro a hfr
    refine wl_v hfr (by decide) (v_move rfl) ?_
    clear hfr
    intro a hfr
    refine wl_v hfr (by decide) (v_move rfl) ?_
    clear hfr
    intro a hfr
    refine wl_v hfr (by decide) ((v_sub rfl rfl ⟨by omega, by omega⟩).asi (m' := ((ci - lft cl.length : Nat) : Int)) (by omega)) ?_
    clear hfr
    intro a hfr
    refine wl_v hfr (by decide) (v_assign rfl) ?_
    clear hfr
    intro a hfr
    refine wl_v hfr (by decide) (v_assign rfl) ?_
    clear hfr
    intro a hfr
    refine wl_v hfr (by decide) (v_assign rfl) ?_
    clear hfr
    intro a hfr
    refine wl_nil ?_
    refine hK13 _ _ ?_
    replace hfr : Fr 47 [(4, _), (5, _), (6, _), (8, _), (9, _), (1, _)] [] a := hfr.pick [4, 5, 6, 8, 9, 1]
    refine wc_seq_region fun K15 hK15 => ?_
    refine wl_v hfr (by decide) (v_move rfl) ?_
    clear hfr
    intro a hfr
    refine wl_v hfr (by decide) (v_move rfl) ?_
    clear hfr
    intro a hfr
    refine wl_callp hfr hst (by decide) Tryd.call19 rfl (root_ok (cut v 1 0 (lft cl.length) (slCap v)) (cl.take (lft cl.length)) _ ((hst.arg hv).cut0 (h := (lft cl.length)) (by first | omega | (rw [List.length_reverse]; omega) | simp | (simp; omega))) (by first | omega | (simp only [List.length_take, List.length_drop]; omega)) (by intro k hk; have h := getD_mem (d := []) hk; first | exact hcl _ h | exact hcl _ (List.mem_of_mem_take h) | exact hcl _ (List.mem_of_mem_drop h)) (hst.keepb hk0)) ?_
    clear hfr hst
    intro a w6 hfr hst
    refine wl_buildSlice (E := 9) (sz := 1) rfl [[sv (rootH sha (cl.take (lft cl.length)))]] (by kernel_rfl) (by simp) rfl (by decide) (by decide) hfr hst ?_
    clear hfr hst
    intro a w7 hfr hst
    refine wl_append (i := 1) (sT := 22) (inf := Tryd.t9) (z := .string (⟨#[]⟩)) (b := 0) (off := 0) (m := 0) (c := 0) rfl rfl rfl (hst.ownAt (i := 0) rfl) (by simp) Tryd.underlying22 rfl rfl rfl rfl (by decide) (by simp [Value.oneCell', yv, wv, sv]) (by have hby : Tryd.t9.bytes = 16 := rfl; simp only [big, hby, List.length_append, List.length_map, List.length_cons, List.length_nil]; omega) (by have hby : Tryd.t9.bytes = 16 := rfl; simp only [big, hby, List.length_append, List.length_map, List.length_cons, List.length_nil]; omega) (by decide) hfr hst fun a w8 s5 hfr hst _ => ?_
    refine wl_v hfr (by decide) (v_assign rfl) ?_
    clear hfr
    intro a hfr
    refine wl_nil (hK15 _ _ ?_)
    replace hfr : Fr 47 [(4, _), (5, _), (8, _), (1, _), (6, _)] [] a := hfr.pick [4, 5, 8, 1, 6]
    replace hst : St No w0 [_] w8 := hst.mask [false, true]
    refine wc_region ?_
    refine wl_v hfr (by decide) (v_move rfl) ?_
    clear hfr
    intro a hfr
    refine wl_v hfr (by decide) (v_assign rfl) ?_
    clear hfr
    intro a hfr
    refine wl_nil ?_
    rw [show (ou.map fun s => [sv s]) ++ ([[sv (rootH sha (cl.take (lft cl.length)))]]) = ((ou ++ [rootH sha (cl.take (lft cl.length))]).map fun s => [sv s]) from by simp] at hst
    have hm1 : (cl.drop (lft cl.length)).length < cl.length := by simp only [List.length_take, List.length_drop]; omega
    refine ⟨_, ?_, (cut v 1 (lft cl.length) cl.length (slCap v)), (cl.drop (lft cl.length)), (ci - lft cl.length), (ou ++ [rootH sha (cl.take (lft cl.length))]), s5, rfl, hv.cutd (l := lft cl.length) (by omega), (by simp only [List.length_take, List.length_drop]; omega), (by simp only [List.length_take, List.length_drop]; omega), (by simp only [List.length_append, List.length_take, List.length_drop, List.length_cons, List.length_nil]; omega), (fun s h => hcl s (List.mem_of_mem_drop h)), (by rw [hpr, proofH_two sha (by omega), if_neg (by omega)]; simp), hfr.pick [4, 5, 0, 1, 6], hst.select [0] (by decide)⟩
    omega
  rw [hc4] at hfr
  try simp only [Bool.not_eq_true', Bool.not_eq_false', decide_eq_true_eq, decide_eq_false_iff_not] at hc4
  refine wc_skip ?_
  refine hK13 _ _ ?_
  refine wc_seq_region fun K16 hK16 => ?_
  refine wl_v hfr (by decide) (v_move rfl) ?_
  clear hfr
  intro a hfr
  refine wl_v hfr (by decide) (v_move rfl) ?_
  clear hfr
  intro a hfr
  refine wl_callp hfr hst (by decide) Tryd.call19 rfl (root_ok (cut v 1 (lft cl.length) cl.length (slCap v)) (cl.drop (lft cl.length)) _ ((hst.arg hv).cutd (l := (lft cl.length)) (by first | omega | (rw [List.length_reverse]; omega) | simp | (simp; omega))) (by first | omega | (simp only [List.length_take, List.length_drop]; omega)) (by intro k hk; have h := getD_mem (d := []) hk; first | exact hcl _ h | exact hcl _ (List.mem_of_mem_take h) | exact hcl _ (List.mem_of_mem_drop h)) (hst.keepb hk0)) ?_
  clear hfr hst
  intro a w9 hfr hst
  refine wl_buildSlice (E := 9) (sz := 1) rfl [[sv (rootH sha (cl.drop (lft cl.length)))]] (by kernel_rfl) (by simp) rfl (by decide) (by decide) hfr hst ?_
  clear hfr hst
  intro a w10 hfr hst
  refine wl_append (i := 1) (sT := 22) (inf := Tryd.t9) (z := .string (⟨#[]⟩)) (b := 0) (off := 0) (m := 0) (c := 0) rfl rfl rfl (hst.ownAt (i := 0) rfl) (by simp) Tryd.underlying22 rfl rfl rfl rfl (by decide) (by simp [Value.oneCell', yv, wv, sv]) (by have hby : Tryd.t9.bytes = 16 := rfl; simp only [big, hby, List.length_append, List.length_map, List.length_cons, List.length_nil]; omega) (by have hby : Tryd.t9.bytes = 16 := rfl; simp only [big, hby, List.length_append, List.length_map, List.length_cons, List.length_nil]; omega) (by decide) hfr hst fun a w11 s6 hfr hst _ => ?_
  refine wl_v hfr (by decide) (v_assign rfl) ?_
  clear hfr
  intro a hfr
  refine wl_nil (hK16 _ _ ?_)
  replace hfr : Fr 47 [(4, _), (5, _), (1, _), (8, _), (6, _)] [] a := hfr.pick [4, 5, 1, 8, 6]
  replace hst : St No w0 [_] w11 := hst.mask [false, true]
  refine wc_region ?_
  refine wl_v hfr (by decide) (v_move rfl) ?_
  clear hfr
  intro a hfr
  refine wl_v hfr (by decide) (v_assign rfl) ?_
  clear hfr
  intro a hfr
  refine wl_nil ?_
  rw [show (ou.map fun s => [sv s]) ++ ([[sv (rootH sha (cl.drop (lft cl.length)))]]) = ((ou ++ [rootH sha (cl.drop (lft cl.length))]).map fun s => [sv s]) from by simp] at hst
  have hm1 : (cl.take (lft cl.length)).length < cl.length := by simp only [List.length_take, List.length_drop]; omega
  refine ⟨_, ?_, (cut v 1 0 (lft cl.length) (slCap v)), (cl.take (lft cl.length)), ci, (ou ++ [rootH sha (cl.drop (lft cl.length))]), s6, rfl, hv.cut0 (h := lft cl.length) (by omega), (by simp only [List.length_take, List.length_drop]; omega), (by simp only [List.length_take, List.length_drop]; omega), (by simp only [List.length_append, List.length_take, List.length_drop, List.length_cons, List.length_nil]; omega), (fun s h => hcl s (List.mem_of_mem_take h)), (by rw [hpr, proofH_two sha (by omega), if_pos (by omega)]; simp), hfr.pick [4, 5, 0, 1, 6], hst.select [0] (by decide)⟩
  omega

/-- dialtone/digest.Extension -/
theorem ext_err (lv : Value) (ls : List By) (i : Int) (w0 : World) (hlv : SlAt w0 lv 1 (ls.map fun s => [sv s])) (hi : i < 0 ∨ (ls.length : Int) < i) :
    Ret Tryd.prog 16 #[lv, .int .i64 i] w0 fun v w => v = .tuple #[.slice none 0 0, .int .i64 2] ∧ Ext No w0 w := by
  refine ret_of Tryd.func16 rfl Tryd.ntmps16 (Nat.le_of_ble_eq_true rfl) fun a hfr => ?_
  replace hfr : Fr 60 [(0, _), (1, _)] [] a := hfr
  replace hst : St No w0 [] w0 := St.init w0
  refine wc_seq_region fun K1 hK1 => ?_
  refine wl_v hfr (by decide) (v_assign rfl) ?_
  clear hfr
  intro a hfr
  refine wl_v hfr (by decide) (v_assign rfl) ?_
  clear hfr
  intro a hfr
  refine wl_nil (hK1 _ _ ?_)
  refine wc_seq_k fun K2 hK2 => ?_
  refine wc_block ?_
  refine wc_seq_region fun K3 hK3 => ?_
  refine wl_v hfr (by decide) (v_move rfl) ?_
  clear hfr
  intro a hfr
  refine wl_v hfr (by decide) (v_lt rfl rfl) ?_
  clear hfr
  intro a hfr
  refine wl_v hfr (by decide) (v_move rfl) ?_
  clear hfr
  intro a hfr
  rcases Bool.eq_false_or_eq_true (decide (i < 0)) with hb1 | hb1
  · rw [hb1] at hfr
    try simp only [Bool.not_eq_true', Bool.not_eq_false', decide_eq_true_eq, decide_eq_false_iff_not] at hb1
    refine wl_vn hfr (by decide) rfl (by decide) rfl rfl ?_
    clear hfr
    intro a hfr
    refine wl_vn hfr (by decide) rfl (by decide) rfl rfl ?_
    clear hfr
    intro a hfr
    refine wl_vn hfr (by decide) rfl (by decide) rfl rfl ?_
    clear hfr
    intro a hfr
    refine wl_vn hfr (by decide) rfl (by decide) rfl rfl ?_
    clear hfr
    intro a hfr
    refine wl_v hfr (by decide) (v_pick_t rfl rfl) ?_
    clear hfr
    intro a hfr
    refine wl_v hfr (by decide) (v_assign rfl) ?_
    clear hfr
    intro a hfr
    refine wl_nil (hK3 _ _ ?_)
    replace hfr : Fr 60 [(0, _), (1, _), (4, _), (5, _), (11, _)] [] a := hfr.pick [0, 1, 4, 5, 11]
    refine wc_cond_t hfr rfl ?_
    refine wc_seq_region fun K4 hK4 => ?_
    refine wl_v hfr (by decide) (v_assign rfl) ?_
    clear hfr
    intro a hfr
    refine wl_v hfr (by decide) (v_assign rfl) ?_
    clear hfr
    intro a hfr
    refine wl_nil (hK4 _ _ ?_)
    refine wc_ret ?_
    refine fin_ret hfr Tryd.results16 (resAre_tmp rfl (resAre_tmp rfl resAre_nil)) ?_
    exact ⟨by rfl, hst.ext⟩
  rw [hb1] at hfr
  try simp only [Bool.not_eq_true', Bool.not_eq_false', decide_eq_true_eq, decide_eq_false_iff_not] at hb1
  refine wl_vy hfr (by decide) rfl (by decide) rfl (v_move rfl) ?_
  clear hfr
  intro a hfr
  refine wl_vy hfr (by decide) rfl (by decide) rfl (v_move rfl) ?_
  clear hfr
  intro a hfr
  refine wl_vy hfr (by decide) rfl (by decide) rfl ((v_len_sl (sT := 22) (hst.arg hlv) rfl rfl (Tryd.runUnderlying22 _)).asi (m' := (ls.length : Int)) (by simp)) ?_
  clear hfr
  intro a hfr
  refine wl_vy hfr (by decide) rfl (by decide) rfl (v_gt rfl rfl) ?_
  clear hfr
  intro a hfr
  refine wl_v hfr (by decide) (v_pick_f rfl rfl) ?_
  clear hfr
  intro a hfr
  refine wl_v hfr (by decide) (v_assign rfl) ?_
  clear hfr
  intro a hfr
  refine wl_nil (hK3 _ _ ?_)
  replace hfr : Fr 60 [(0, _), (1, _), (4, _), (5, _), (11, _)] [] a := hfr.pick [0, 1, 4, 5, 11]
  refine wc_cond hfr rfl (fun hc2 => ?_) (fun hc2 => ?_)
  · rw [hc2] at hfr
    try simp only [Bool.not_eq_true', Bool.not_eq_false', decide_eq_true_eq, decide_eq_false_iff_not] at hc2
    refine wc_seq_region fun K5 hK5 => ?_
    refine wl_v hfr (by decide) (v_assign rfl) ?_
    clear hfr
    intro a hfr
    refine wl_v hfr (by decide) (v_assign rfl) ?_
    clear hfr
    intro a hfr
    refine wl_nil (hK5 _ _ ?_)
    refine wc_ret ?_
    refine fin_ret hfr Tryd.results16 (resAre_tmp rfl (resAre_tmp rfl resAre_nil)) ?_
    exact ⟨by rfl, hst.ext⟩
  rw [hc2] at hfr
  try simp only [Bool.not_eq_true', Bool.not_eq_false', decide_eq_true_eq, decide_eq_false_iff_not] at hc2
  omega

/-- dialtone/digest.Extension -/
theorem ext_zero (lv : Value) (ls : List By) (w0 : World) (hlv : SlAt w0 lv 1 (ls.map fun s => [sv s])) :
    Ret Tryd.prog 16 #[lv, .int .i64 0] w0 fun v w => v = .tuple #[.slice none 0 0, .int .i64 0] ∧ Ext No w0 w := by
  refine ret_of Tryd.func16 rfl Tryd.ntmps16 (Nat.le_of_ble_eq_true rfl) fun a hfr => ?_
  replace hfr : Fr 60 [(0, _), (1, _)] [] a := hfr
  replace hst : St No w0 [] w0 := St.init w0
  refine wc_seq_region fun K1 hK1 => ?_
  refine wl_v hfr (by decide) (v_assign rfl) ?_
  clear hfr
  intro a hfr
  refine wl_v hfr (by decide) (v_assign rfl) ?_
  clear hfr
  intro a hfr
  refine wl_nil (hK1 _ _ ?_)
  refine wc_seq_k fun K2 hK2 => ?_
  refine wc_block ?_
  refine wc_seq_region fun K3 hK3 => ?_
  refine wl_v hfr (by decide) (v_move rfl) ?_
  clear hfr
  intro a hfr
  refine wl_v hfr (by decide) ((v_lt rfl rfl).asb (b' := false) rfl) ?_
  clear hfr
  intro a hfr
  refine wl_v hfr (by decide) (v_move rfl) ?_
  clear hfr
  intro a hfr
  refine wl_vy hfr (by decide) rfl (by decide) rfl (v_move rfl) ?_
  clear hfr
  intro a hfr
  refine wl_vy hfr (by decide) rfl (by decide) rfl (v_move rfl) ?_
  clear hfr
  intro a hfr
  refine wl_vy hfr (by decide) rfl (by decide) rfl ((v_len_sl (sT := 22) (hst.arg hlv) rfl rfl (Tryd.runUnderlying22 _)).asi (m' := (ls.length : Int)) (by simp)) ?_
  clear hfr
  intro a hfr
  refine wl_vy hfr (by decide) rfl (by decide) rfl (v_gt rfl rfl) ?_
  clear hfr
  intro a hfr
  refine wl_v hfr (by decide) (v_pick_f rfl rfl) ?_
  clear hfr
  intro a hfr
  refine wl_v hfr (by decide) (v_assign rfl) ?_
  clear hfr
  intro a hfr
  refine wl_nil (hK3 _ _ ?_)
  replace hfr : Fr 60 [(0, _), (1, _), (4, _), (5, _), (11, _)] [] a := hfr.pick [0, 1, 4, 5, 11]
  refine wc_cond hfr rfl (fun hc1 => ?_) (fun hc1 => ?_)
  · rw [hc1] at hfr
    try simp only [Bool.not_eq_true', Bool.not_eq_false', decide_eq_true_eq, decide_eq_false_iff_not] at hc1
    omega
  rw [hc1] at hfr
  try simp only [Bool.not_eq_true', Bool.not_eq_false', decide_eq_true_eq, decide_eq_false_iff_not] at hc1
  refine wc_seq_region fun K4 hK4 => ?_
  refine wl_v hfr (by decide) (v_move rfl) ?_
  clear hfr
  intro a hfr
  refine wl_v hfr (by decide) ((v_eq rfl rfl).asb (b' := true) rfl) ?_
  clear hfr
  intro a hfr
  refine wl_v hfr (by decide) (v_assign rfl) ?_
  clear hfr
  intro a hfr
  refine wl_nil (hK4 _ _ ?_)
  refine wc_cond_t hfr rfl ?_
  refine wc_seq_region fun K5 hK5 => ?_
  refine wl_v hfr (by decide) (v_assign rfl) ?_
  clear hfr
  intro a hfr
  refine wl_v hfr (by decide) (v_assign rfl) ?_
  clear hfr
  intro a hfr
  refine wl_nil (hK5 _ _ ?_)
  refine wc_ret ?_
  refine fin_ret hfr Tryd.results16 (resAre_tmp rfl (resAre_tmp rfl resAre_nil)) ?_
  exact ⟨by rfl, hst.ext⟩

set_option maxHeartbeats 4000000 in
/-- dialtone/digest.Extension -/
theorem ext_ok (lv : Value) (ls : List By) (i : Nat) (w0 : World) (hlv : SlAt w0 lv 1 (ls.map fun s => [sv s])) (hi0 : 1 ≤ i) (hi : i ≤ ls.length) (hln : ls.length ≤ 1000) (hls : ∀ s ∈ ls, s.length ≤ 40000000) (hk0 : (blk 0 (kOf.map wv) 88).ok w0) :
    Ret Tryd.prog 16 #[lv, .int .i64 (i : Int)] w0 (MemR w0 (fun v : Value => .tuple #[v, .int .i64 0]) (fun v => [own v 9 1 ((partH sha ls i true).map fun s => [sv s])]) (fun _ => True)) := by
  refine ret_of Tryd.func16 rfl Tryd.ntmps16 (Nat.le_of_ble_eq_true rfl) fun a hfr => ?_
  replace hfr : Fr 60 [(0, _), (1, _)] [] a := hfr
  replace hst : St No w0 [] w0 := St.init w0
  refine wc_seq_region fun K1 hK1 => ?_
  refine wl_v hfr (by decide) (v_assign rfl) ?_
  clear hfr
  intro a hfr
  refine wl_v hfr (by decide) (v_assign rfl) ?_
  clear hfr
  intro a hfr
  refine wl_nil (hK1 _ _ ?_)
  refine wc_seq_k fun K2 hK2 => ?_
  refine wc_block ?_
  refine wc_seq_region fun K3 hK3 => ?_
  refine wl_v hfr (by decide) (v_move rfl) ?_
  clear hfr
  intro a hfr
  refine wl_v hfr (by decide) (v_lt rfl rfl) ?_
  clear hfr
  intro a hfr
  refine wl_v hfr (by decide) (v_move rfl) ?_
  clear hfr
  intro a hfr
  rcases Bool.eq_false_or_eq_true (decide ((i : Int) < 0)) with hb1 | hb1
  · rw [hb1] at hfr
    try simp only [Bool.not_eq_true', Bool.not_eq_false', decide_eq_true_eq, decide_eq_false_iff_not] at hb1
    omega
  rw [hb1] at hfr
  try simp only [Bool.not_eq_true', Bool.not_eq_false', decide_eq_true_eq, decide_eq_false_iff_not] at hb1
  refine wl_vy hfr (by decide) rfl (by decide) rfl (v_move rfl) ?_
  clear hfr
  intro a hfr
  refine wl_vy hfr (by decide) rfl (by decide) rfl (v_move rfl) ?_
  clear hfr
  intro a hfr
  refine wl_vy hfr (by decide) rfl (by decide) rfl ((v_len_sl (sT := 22) (hst.arg hlv) rfl rfl (Tryd.runUnderlying22 _)).asi (m' := (ls.length : Int)) (by simp)) ?_
  clear hfr
  intro a hfr
  refine wl_vy hfr (by decide) rfl (by decide) rfl (v_gt rfl rfl) ?_
  clear hfr
  intro a hfr
  refine wl_v hfr (by decide) (v_pick_f rfl rfl) ?_
  clear hfr
  intro a hfr
  refine wl_v hfr (by decide) (v_assign rfl) ?_
  clear hfr
  intro a hfr
  refine wl_nil (hK3 _ _ ?_)
  replace hfr : Fr 60 [(0, _), (1, _), (4, _), (5, _), (11, _)] [] a := hfr.pick [0, 1, 4, 5, 11]
  refine wc_cond hfr rfl (fun hc2 => ?_) (fun hc2 => ?_)
  · rw [hc2] at hfr
    try simp only [Bool.not_eq_true', Bool.not_eq_false', decide_eq_true_eq, decide_eq_false_iff_not] at hc2
    omega
  rw [hc2] at hfr
  try simp only [Bool.not_eq_true', Bool.not_eq_false', decide_eq_true_eq, decide_eq_false_iff_not] at hc2
  refine wc_seq_region fun K4 hK4 => ?_
  refine wl_v hfr (by decide) (v_move rfl) ?_
  clear hfr
  intro a hfr
  refine wl_v hfr (by decide) (v_eq rfl rfl) ?_
  clear hfr
  intro a hfr
  refine wl_v hfr (by decide) (v_assign rfl) ?_
  clear hfr
  intro a hfr
  refine wl_nil (hK4 _ _ ?_)
  refine wc_cond hfr rfl (fun hc3 => ?_) (fun hc3 => ?_)
  · rw [hc3] at hfr
    try simp only [Bool.not_eq_true', Bool.not_eq_false', decide_eq_true_eq, decide_eq_false_iff_not] at hc3
    omega
  rw [hc3] at hfr
  try simp only [Bool.not_eq_true', Bool.not_eq_false', decide_eq_true_eq, decide_eq_false_iff_not] at hc3
  refine wc_skip ?_
  refine hK2 _ _ ?_
  refine wc_seq_region fun K5 hK5 => ?_
  refine wl_v hfr (by decide) (v_assign rfl) ?_
  clear hfr
  intro a hfr
  refine wl_nil (hK5 _ _ ?_)
  refine wc_seq_region fun K6 hK6 => ?_
  refine wl_v hfr (by decide) (v_assign rfl) ?_
  clear hfr
  intro a hfr
  refine wl_nil (hK6 _ _ ?_)
  refine wc_seq_k fun K7 hK7 => ?_
  refine wc_block ?_
  replace hst : St No w0 [own (.slice none 0 0) 9 1 (([] : List By).map fun s => [sv s])] w0 := hst.nil_own
  refine wc_loop (fun m a w => ∃ (v : Value) (cl : List By) (ci : Nat) (wh : Bool) (ou : List By) (o : Value), m = cl.length ∧ (SlAt w0 v 1 (cl.map fun s => [sv s])) ∧ (1 ≤ ci) ∧ (ci ≤ cl.length) ∧ (cl.length ≤ 1000) ∧ (cl.length + ou.length ≤ 2000) ∧ (∀ s ∈ cl, s.length ≤ 40000000) ∧ (partH sha ls i true = partH sha cl ci wh ++ ou.reverse) ∧ Fr 60 [(4, .slice none 0 0), (5, .int .i64 0), (0, v), (1, .int .i64 (ci : Int)), (6, o), (7, .bool wh)] [] a ∧ St No w0 [own o 9 1 (ou.map fun s => [sv s])] w) _ ⟨lv, ls, i, true, [], .slice none 0 0, rfl, hlv, hi0, hi, hln, (by simp; omega), hls, (by simp), hfr.pick [4, 5, 0, 1, 6, 7], hst.select [0] (by decide)⟩ ?_
  rintro _ a w1 ⟨v, cl, ci, wh, ou, o, rfl, hv, hc0, hc1, hc2, hc3, hcl, hpr, hfr, hst⟩
  refine wc_seq_k fun K8 hK8 => ?_
  refine wc_seq_region fun K9 hK9 => ?_
  refine wl_v hfr (by decide) (v_move rfl) ?_
  clear hfr
  intro a hfr
  refine wl_v hfr (by decide) (v_move rfl) ?_
  clear hfr
  intro a hfr
  refine wl_v hfr (by decide) ((v_len_sl (sT := 22) (hst.arg hv) rfl rfl (Tryd.runUnderlying22 _)).asi (m' := (cl.length : Int)) (by simp)) ?_
  clear hfr
  intro a hfr
  refine wl_v hfr (by decide) (v_lt rfl rfl) ?_
  clear hfr
  intro a hfr
  refine wl_nil (hK9 _ _ ?_)
  refine wc_cond hfr rfl (fun hc4 => ?_) (fun hc4 => ?_)
  · rw [hc4] at hfr
    try simp only [Bool.not_eq_true', Bool.not_eq_false', decide_eq_true_eq, decide_eq_false_iff_not] at hc4
    have hlt := lft_lt (n := cl.length) (by omega)
    have hlp := lft_pos cl.length
    refine wc_skip ?_
    refine hK8 _ _ ?_
    refine wc_block ?_
    refine wc_seq_region fun K10 hK10 => ?_
    refine wl_v hfr (by decide) (v_move rfl) ?_
    clear hfr
    intro a hfr
    refine wl_v hfr (by decide) ((v_len_sl (sT := 22) (hst.arg hv) rfl rfl (Tryd.runUnderlying22 _)).asi (m' := (cl.length : Int)) (by simp)) ?_
    clear hfr
    intro a hfr
    refine wl_callp hfr hst (by decide) Tryd.call40 rfl (left_ok cl.length _ (by omega) (by omega)) ?_
    clear hfr hst
    intro a w2 hfr hst
    refine wl_v hfr (by decide) (v_assign rfl) ?_
    clear hfr
    intro a hfr
    refine wl_nil (hK10 _ _ ?_)
    replace hfr : Fr 60 [(4, _), (5, _), (0, _), (1, _), (6, _), (7, _), (8, _)] [] a := hfr.pick [4, 5, 0, 1, 6, 7, 8]
    refine wc_seq_k fun K11 hK11 => ?_
    refine wc_of_dr (by kernel_rfl) (dr_of_wd (by kernel_rfl) fun w3 hxz => ?_)
    replace hst : St No w0 [own o 9 1 (ou.map fun s => [sv s])] w3 := hst.grow hxz
    refine wd_sub (k := 0) 7 [5, 6] hfr (by kernel_rfl) (by kernel_rfl) (by kernel_rfl) (by rfl) ?_
    replace hfr : Fr 60 [(4, _), (5, _), (0, _), (1, _), (6, _), (7, _), (8, _)] [] a := hfr.pick [4, 5, 0, 1, 6, 7, 8]
    refine wc_phases_q [] (fun i => match i with | _ => fun _ _ => False) 7 [[], [], [0, 1], [], [], [3, 4], [2]] [v, .int .i64 (lft cl.length : Int), (cut v 1 0 (lft cl.length) (slCap v)), v, .int .i64 (lft cl.length : Int), (cut v 1 (lft cl.length) cl.length (slCap v)), (cut v 1 0 (lft cl.length) (slCap v))] hfr hst (by kernel_rfl) (by kernel_rfl) (by kernel_rfl) ?_ ?_ ?_
    · intro i hi hiq
      match i, hi, hiq with
      | 0, _, _ =>
        intro w hst
        exact OpV.g (v_move rfl)
      | 1, _, _ =>
        intro w hst
        exact OpV.g (v_move rfl)
      | 2, _, _ =>
        intro w hst
        exact OpV.g (v_slice_at (l := 0) (h := (lft cl.length)) (hst.arg hv) rfl rfl rfl Tryd.underlying22 (by kernel_rfl) (.inl ⟨rfl, rfl⟩) (.inr (by rw [show ((lft cl.length : Int) : Int) = (((lft cl.length) : Nat) : Int) from by omega] <;> rfl)) (Nat.zero_le _) (by first | (rw [List.length_map]; omega) | (simp <;> omega)))
      | 3, _, _ =>
        intro w hst
        exact OpV.g (v_move rfl)
      | 4, _, _ =>
        intro w hst
        exact OpV.g (v_move rfl)
      | 5, _, _ =>
        intro w hst
        exact OpV.g (v_slice_at (l := (lft cl.length)) (h := cl.length) (hst.arg hv) rfl rfl rfl Tryd.underlying22 (by kernel_rfl) (.inr (by rw [show ((lft cl.length : Int) : Int) = (((lft cl.length) : Nat) : Int) from by omega] <;> rfl)) (.inl ⟨rfl, by simp⟩) (by omega) (by simp))
      | 6, _, _ =>
        intro w hst
        exact OpV.g (v_assign rfl)
    · intro i hi
      exact absurd hi (by simp)
    clear hfr hst
    intro  a w4 hfr hst
    replace hfr : Fr 60 [(30, v), (31, .int .i64 (lft cl.length : Int)), (32, (cut v 1 0 (lft cl.length) (slCap v))), (33, v), (34, .int .i64 (lft cl.length : Int)), (35, (cut v 1 (lft cl.length) cl.length (slCap v))), (9, (cut v 1 0 (lft cl.length) (slCap v))), (4, _), (5, _), (0, _), (1, _), (6, _), (7, _), (8, _)] [] a := hfr
    refine wl_nil ?_
    refine wd_lin (k := 7) 8 [7] (by kernel_rfl) (by kernel_rfl) (by kernel_rfl) ?_
    refine wl_v hfr (by decide) (v_assign rfl) ?_
    clear hfr
    intro a hfr
    refine wl_nil ?_
    refine wd_end (by kernel_rfl) ?_
    refine hK11 _ _ ?_
    replace hfr : Fr 60 [(4, _), (5, _), (1, _), (6, _), (7, _), (8, _), (9, _), (10, _)] [] a := hfr.pick [4, 5, 1, 6, 7, 8, 9, 10]
    refine wc_seq_k fun K12 hK12 => ?_
    refine wc_seq_region fun K13 hK13 => ?_
    refine wl_v hfr (by decide) (v_move rfl) ?_
    clear hfr
    intro a hfr
    refine wl_v hfr (by decide) (v_move rfl) ?_
    clear hfr
    intro a hfr
    refine wl_v hfr (by decide) (v_gt rfl rfl) ?_
    clear hfr
    intro a hfr
    refine wl_nil (hK13 _ _ ?_)
    refine wc_cond hfr rfl (fun hc5 => ?_) (fun hc5 => ?_)
    · rw [hc5] at hfr
      try simp only [Bool.not_eq_true', Bool.not_eq_false', decide_eq_true_eq, decide_eq_false_iff_not] at hc5
      refine wc_region ?_
      refine wl_v hfr (by decide) (v_move rfl) ?_
      clear hfr
      intro a hfr
      refine wl_v hfr (by decide) (v_move rfl) ?_
      clear hfr
      intro a hfr
      refine wl_v hfr (by decide) (v_move rfl) ?_
      clear hfr
      intro a hfr
      refine wl_v hfr (by decide) (v_move rfl) ?_
      clear hfr
      intro a hfr
      refine wl_v hfr (by decide) ((v_sub rfl rfl ⟨by omega, by omega⟩).asi (m' := ((ci - lft cl.length : Nat) : Int)) (by omega)) ?_
      clear hfr
      intro a hfr
      refine wl_v hfr (by decide) (v_assign rfl) ?_
      clear hfr
      intro a hfr
      refine wl_v hfr (by decide) (v_assign rfl) ?_
      clear hfr
      intro a hfr
      refine wl_v hfr (by decide) (v_assign rfl) ?_
      clear hfr
      intro a hfr
      refine wl_v hfr (by decide) (v_assign rfl) ?_
      clear hfr
      intro a hfr
      refine wl_nil ?_
      refine hK12 _ _ ?_
      replace hfr : Fr 60 [(4, _), (5, _), (6, _), (9, _), (10, _), (1, _), (7, _)] [] a := hfr.pick [4, 5, 6, 9, 10, 1, 7]
      refine wc_seq_region fun K14 hK14 => ?_
      refine wl_v hfr (by decide) (v_move rfl) ?_
      clear hfr
      intro a hfr
      refine wl_v hfr (by decide) (v_move rfl) ?_
      clear hfr
      intro a hfr
      refine wl_callp hfr hst (by decide) Tryd.call19 rfl (root_ok (cut v 1 0 (lft cl.length) (slCap v)) (cl.take (lft cl.length)) _ ((hst.arg hv).cut0 (h := (lft cl.length)) (by first | omega | (rw [List.length_reverse]; omega) | simp | (simp; omega))) (by first | omega | (simp only [List.length_take, List.length_drop]; omega)) (by intro k hk; have h := getD_mem (d := []) hk; first | exact hcl _ h | exact hcl _ (List.mem_of_mem_take h) | exact hcl _ (List.mem_of_mem_drop h)) (hst.keepb hk0)) ?_
      clear hfr hst
      intro a w5 hfr hst
      refine wl_buildSlice (E := 9) (sz := 1) rfl [[sv (rootH sha (cl.take (lft cl.length)))]] (by kernel_rfl) (by simp) rfl (by decide) (by decide) hfr hst ?_
      clear hfr hst
      intro a w6 hfr hst
      refine wl_append (i := 1) (sT := 22) (inf := Tryd.t9) (z := .string (⟨#[]⟩)) (b := 0) (off := 0) (m := 0) (c := 0) rfl rfl rfl (hst.ownAt (i := 0) rfl) (by simp) Tryd.underlying22 rfl rfl rfl rfl (by decide) (by simp [Value.oneCell', yv, wv, sv]) (by have hby : Tryd.t9.bytes = 16 := rfl; simp only [big, hby, List.length_append, List.length_map, List.length_cons, List.length_nil]; omega) (by have hby : Tryd.t9.bytes = 16 := rfl; simp only [big, hby, List.length_append, List.length_map, List.length_cons, List.length_nil]; omega) (by decide) hfr hst fun a w7 s6 hfr hst _ => ?_
      refine wl_v hfr (by decide) (v_assign rfl) ?_
      clear hfr
      intro a hfr
      refine wl_nil (hK14 _ _ ?_)
      replace hfr : Fr 60 [(4, _), (5, _), (9, _), (1, _), (7, _), (6, _)] [] a := hfr.pick [4, 5, 9, 1, 7, 6]
      replace hst : St No w0 [_] w7 := hst.mask [false, true]
      refine wc_region ?_
      refine wl_v hfr (by decide) (v_move rfl) ?_
      clear hfr
      intro a hfr
      refine wl_v hfr (by decide) (v_assign rfl) ?_
      clear hfr
      intro a hfr
      refine wl_nil ?_
      rw [show (ou.map fun s => [sv s]) ++ ([[sv (rootH sha (cl.take (lft cl.length)))]]) = ((ou ++ [rootH sha (cl.take (lft cl.length))]).map fun s => [sv s]) from by simp] at hst
      have hm1 : (cl.drop (lft cl.length)).length < cl.length := by simp only [List.length_take, List.length_drop]; omega
      refine ⟨_, ?_, (cut v 1 (lft cl.length) cl.length (slCap v)), (cl.drop (lft cl.length)), (ci - lft cl.length), false, (ou ++ [rootH sha (cl.take (lft cl.length))]), s6, rfl, hv.cutd (l := lft cl.length) (by omega), (by omega), (by simp only [List.length_take, List.length_drop]; omega), (by simp only [List.length_take, List.length_drop]; omega), (by simp only [List.length_append, List.length_take, List.length_drop, List.length_cons, List.length_nil]; omega), (fun s h => hcl s (List.mem_of_mem_drop h)), (by rw [hpr, partH_go sha (by omega) (by omega), if_neg (by omega)]; simp), hfr.pick [4, 5, 0, 1, 6, 7], hst.select [0] (by decide)⟩
      omega
    rw [hc5] at hfr
    try simp only [Bool.not_eq_true', Bool.not_eq_false', decide_eq_true_eq, decide_eq_false_iff_not] at hc5
    refine wc_skip ?_
    refine hK12 _ _ ?_
    refine wc_seq_region fun K15 hK15 => ?_
    refine wl_v hfr (by decide) (v_move rfl) ?_
    clear hfr
    intro a hfr
    refine wl_v hfr (by decide) (v_move rfl) ?_
    clear hfr
    intro a hfr
    refine wl_callp hfr hst (by decide) Tryd.call19 rfl (root_ok (cut v 1 (lft cl.length) cl.length (slCap v)) (cl.drop (lft cl.length)) _ ((hst.arg hv).cutd (l := (lft cl.length)) (by first | omega | (rw [List.length_reverse]; omega) | simp | (simp; omega))) (by first | omega | (simp only [List.length_take, List.length_drop]; omega)) (by intro k hk; have h := getD_mem (d := []) hk; first | exact hcl _ h | exact hcl _ (List.mem_of_mem_take h) | exact hcl _ (List.mem_of_mem_drop h)) (hst.keepb hk0)) ?_
    clear hfr hst
    intro a w8 hfr hst
    refine wl_buildSlice (E := 9) (sz := 1) rfl [[sv (rootH sha (cl.drop (lft cl.length)))]] (by kernel_rfl) (by simp) rfl (by decide) (by decide) hfr hst ?_
    clear hfr hst
    intro a w9 hfr hst
    refine wl_append (i := 1) (sT := 22) (inf := Tryd.t9) (z := .string (⟨#[]⟩)) (b := 0) (off := 0) (m := 0) (c := 0) rfl rfl rfl (hst.ownAt (i := 0) rfl) (by simp) Tryd.underlying22 rfl rfl rfl rfl (by decide) (by simp [Value.oneCell', yv, wv, sv]) (by have hby : Tryd.t9.bytes = 16 := rfl; simp only [big, hby, List.length_append, List.length_map, List.length_cons, List.length_nil]; omega) (by have hby : Tryd.t9.bytes = 16 := rfl; simp only [big, hby, List.length_append, List.length_map, List.length_cons, List.length_nil]; omega) (by decide) hfr hst fun a w10 s7 hfr hst _ => ?_
    refine wl_v hfr (by decide) (v_assign rfl) ?_
    clear hfr
    intro a hfr
    refine wl_nil (hK15 _ _ ?_)
    replace hfr : Fr 60 [(4, _), (5, _), (1, _), (7, _), (9, _), (6, _)] [] a := hfr.pick [4, 5, 1, 7, 9, 6]
    replace hst : St No w0 [_] w10 := hst.mask [false, true]
    refine wc_region ?_
    refine wl_v hfr (by decide) (v_move rfl) ?_
    clear hfr
    intro a hfr
    refine wl_v hfr (by decide) (v_assign rfl) ?_
    clear hfr
    intro a hfr
    refine wl_nil ?_
    rw [show (ou.map fun s => [sv s]) ++ ([[sv (rootH sha (cl.drop (lft cl.length)))]]) = ((ou ++ [rootH sha (cl.drop (lft cl.length))]).map fun s => [sv s]) from by simp] at hst
    have hm1 : (cl.take (lft cl.length)).length < cl.length := by simp only [List.length_take, List.length_drop]; omega
    refine ⟨_, ?_, (cut v 1 0 (lft cl.length) (slCap v)), (cl.take (lft cl.length)), ci, wh, (ou ++ [rootH sha (cl.drop (lft cl.length))]), s7, rfl, hv.cut0 (h := lft cl.length) (by omega), (by omega), (by simp only [List.length_take, List.length_drop]; omega), (by simp only [List.length_take, List.length_drop]; omega), (by simp only [List.length_append, List.length_take, List.length_drop, List.length_cons, List.length_nil]; omega), (fun s h => hcl s (List.mem_of_mem_take h)), (by rw [hpr, partH_go sha (by omega) (by omega), if_pos (by omega)]; simp), hfr.pick [4, 5, 0, 1, 6, 7], hst.select [0] (by decide)⟩
    omega
  rw [hc4] at hfr
  try simp only [Bool.not_eq_true', Bool.not_eq_false', decide_eq_true_eq, decide_eq_false_iff_not] at hc4
  obtain rfl : ci = cl.length := by omega
  rw [partH_end] at hpr
  refine wc_exit ?_
  refine hK7 _ _ ?_
  refine wc_seq_k fun K16 hK16 => ?_
  refine wc_seq_region fun K17 hK17 => ?_
  refine wl_v hfr (by decide) (v_move rfl) ?_
  clear hfr
  intro a hfr
  refine wl_v hfr (by decide) (v_not rfl) ?_
  clear hfr
  intro a hfr
  refine wl_nil (hK17 _ _ ?_)
  replace hfr : Fr 60 [(4, _), (5, _), (0, _), (6, _), (51, _)] [] a := hfr.pick [4, 5, 0, 6, 51]
  refine wc_cond hfr rfl (fun hc8 => ?_) (fun hc8 => ?_)
  · rw [hc8] at hfr
    try simp only [Bool.not_eq_true', Bool.not_eq_false', decide_eq_true_eq, decide_eq_false_iff_not] at hc8
    refine wc_region ?_
    refine wl_v hfr (by decide) (v_move rfl) ?_
    clear hfr
    intro a hfr
    refine wl_v hfr (by decide) (v_move rfl) ?_
    clear hfr
    intro a hfr
    refine wl_callp hfr hst (by decide) Tryd.call19 rfl (root_ok v cl _ (hst.arg hv) (by first | omega | (simp only [List.length_take, List.length_drop]; omega)) (by intro k hk; have h := getD_mem (d := []) hk; first | exact hcl _ h | exact hcl _ (List.mem_of_mem_take h) | exact hcl _ (List.mem_of_mem_drop h)) (hst.keepb hk0)) ?_
    clear hfr hst
    intro a w11 hfr hst
    refine wl_buildSlice (E := 9) (sz := 1) rfl [[sv (rootH sha cl)]] (by kernel_rfl) (by simp) rfl (by decide) (by decide) hfr hst ?_
    clear hfr hst
    intro a w12 hfr hst
    refine wl_append (i := 1) (sT := 22) (inf := Tryd.t9) (z := .string (⟨#[]⟩)) (b := 0) (off := 0) (m := 0) (c := 0) rfl rfl rfl (hst.ownAt (i := 0) rfl) (by simp) Tryd.underlying22 rfl rfl rfl rfl (by decide) (by simp [Value.oneCell', yv, wv, sv]) (by have hby : Tryd.t9.bytes = 16 := rfl; simp only [big, hby, List.length_append, List.length_map, List.length_cons, List.length_nil]; omega) (by have hby : Tryd.t9.bytes = 16 := rfl; simp only [big, hby, List.length_append, List.length_map, List.length_cons, List.length_nil]; omega) (by decide) hfr hst fun a w13 s9 hfr hst _ => ?_
    refine wl_v hfr (by decide) (v_assign rfl) ?_
    clear hfr
    intro a hfr
    refine wl_nil ?_
    refine hK16 _ _ ?_
    replace hfr : Fr 60 [(4, _), (5, _), (6, _)] [] a := hfr.pick [4, 5, 6]
    replace hst : St No w0 [_] w13 := hst.mask [false, true]
    refine wc_seq_region fun K18 hK18 => ?_
    refine wl_v hfr (by decide) (v_move rfl) ?_
    clear hfr
    intro a hfr
    rw [show (ou.map fun s => [sv s]) ++ ([[sv (rootH sha cl)]]) = ((ou ++ [rootH sha cl]).map fun s => [sv s]) from by simp] at hst
    refine wl_calle (e' := own s9 9 1 ((ou ++ [rootH sha cl]).reverse.map fun s => [sv s])) 0 hfr hst (by decide) Tryd.call41 rfl rfl (fun _ h => h) (reverse_ok _ _ _ _ (hst.get (k := 0) rfl)) rfl ?_
    clear hfr hst
    intro a w14 hfr hst
    refine wl_nil (hK18 _ _ ?_)
    refine wc_seq_region fun K19 hK19 => ?_
    refine wl_v hfr (by decide) (v_move rfl) ?_
    clear hfr
    intro a hfr
    refine wl_v hfr (by decide) (v_assign rfl) ?_
    clear hfr
    intro a hfr
    refine wl_v hfr (by decide) (v_assign rfl) ?_
    clear hfr
    intro a hfr
    refine wl_nil (hK19 _ _ ?_)
    refine wc_ret ?_
    refine fin_ret hfr Tryd.results16 (resAre_tmp rfl (resAre_tmp rfl resAre_nil)) ?_
    have hwh : wh = false := by assumption
    rw [hwh] at hpr
    simp only [if_true, if_false, Bool.false_eq_true, List.nil_append] at hpr
    refine ⟨s9, rfl, trivial, hst.ext, St.out (E := [own s9 9 1 ((partH sha ls i true).map fun s => [sv s])]) (H := []) ?_⟩
    rw [hpr]; rw [List.reverse_append] at hst; exact hst
  rw [hc8] at hfr
  try simp only [Bool.not_eq_true', Bool.not_eq_false', decide_eq_true_eq, decide_eq_false_iff_not] at hc8
  refine wc_skip ?_
  refine hK16 _ _ ?_
  refine wc_seq_region fun K20 hK20 => ?_
  refine wl_v hfr (by decide) (v_move rfl) ?_
  clear hfr
  intro a hfr
  refine wl_calle (e' := own o 9 1 (ou.reverse.map fun s => [sv s])) 0 hfr hst (by decide) Tryd.call41 rfl rfl (fun _ h => h) (reverse_ok _ _ _ _ (hst.get (k := 0) rfl)) rfl ?_
  clear hfr hst
  intro a w15 hfr hst
  refine wl_nil (hK20 _ _ ?_)
  refine wc_seq_region fun K21 hK21 => ?_
  refine wl_v hfr (by decide) (v_move rfl) ?_
  clear hfr
  intro a hfr
  refine wl_v hfr (by decide) (v_assign rfl) ?_
  clear hfr
  intro a hfr
  refine wl_v hfr (by decide) (v_assign rfl) ?_
  clear hfr
  intro a hfr
  refine wl_nil (hK21 _ _ ?_)
  replace hfr : Fr 60 [(4, _), (5, _)] [] a := hfr.pick [4, 5]
  refine wc_ret ?_
  refine fin_ret hfr Tryd.results16 (resAre_tmp rfl (resAre_tmp rfl resAre_nil)) ?_
  have hwh : wh = true := by assumption
  rw [hwh] at hpr
  simp only [if_true, if_false, Bool.false_eq_true, List.nil_append] at hpr
  refine ⟨o, rfl, trivial, hst.ext, St.out (E := [own o 9 1 ((partH sha ls i true).map fun s => [sv s])]) (H := []) ?_⟩
  rw [hpr]; exact hst
end Go.Proofs.YtmcoolbjgeibcaaDoor
