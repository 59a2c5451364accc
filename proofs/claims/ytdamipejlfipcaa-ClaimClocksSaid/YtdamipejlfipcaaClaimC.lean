import Derived.Test.YtdamipejlfipcaaClaimB
namespace Go.Proofs.Ytdamipejlfipcaa
open Go.RowKit Go.PW
set_option linter.unusedVariables false
set_option linter.unusedSimpArgs false
set_option maxRecDepth 4000

def duesKV : List (Value × Value) := [(.int .i64 1, .agg #[.func (.func 87) #[] #[], .int .i64 3]), (.int .i64 2, .agg #[.func (.func 88) #[] #[], .int .i64 3]), (.int .i64 3, .agg #[.func (.func 89) #[] #[], .int .i64 4]), (.int .i64 4, .agg #[.func (.func 90) #[] #[], .int .i64 5])]

/-- dialtone/claim.dues -/
theorem dues_ok (w0 : World) :
    Ret Try.prog 58 #[] w0 (MemR w0 (fun b : Nat => .map (some b)) (fun b => [mapE b duesKV]) (fun _ => True)) := by
  refine ret_of Try.func58 rfl Try.ntmps58 (Nat.le_of_ble_eq_true rfl) fun a hfr => ?_
  have hfr : Fr 7 [] [] a := hfr
  have hst : St No w0 [] w0 := St.init w0
  refine wc_seq_region fun K1 hK1 => ?_
  refine wl_v hfr (by decide) (v_assign rfl) fun a hfr => ?_
  refine wl_nil (hK1 _ _ ?_)
  refine wc_seq_region fun K2 hK2 => ?_
  refine wl_makeMap hfr hst (by decide) fun a w1 hfr hst => ?_
  refine wl_v hfr (by decide) (v_build (v := .agg #[.func (.func 87) #[] #[], .int .i64 3]) rfl (by kernel_rfl)) fun a hfr => ?_
  refine wl_insert (Kt := 3) (Et := 123) (es := #[]) (clock := 0) 0 hfr hst rfl rfl rfl rfl Try.underlying92 (by kernel_rfl) (by kernel_rfl) (H' := [obj w0.heap.size (.map #[{ key := .int .i64 1, val := .agg #[.func (.func 87) #[] #[], .int .i64 3], born := 0 }] 1)]) rfl fun a w2 hfr hst => ?_
  refine wl_v hfr (by decide) (v_build (v := .agg #[.func (.func 88) #[] #[], .int .i64 3]) rfl (by kernel_rfl)) fun a hfr => ?_
  refine wl_insert (Kt := 3) (Et := 123) (es := #[{ key := .int .i64 1, val := .agg #[.func (.func 87) #[] #[], .int .i64 3], born := 0 }]) (clock := 1) 0 hfr hst rfl rfl rfl rfl Try.underlying92 (by kernel_rfl) (by kernel_rfl) (H' := [obj w0.heap.size (.map #[{ key := .int .i64 1, val := .agg #[.func (.func 87) #[] #[], .int .i64 3], born := 0 }, { key := .int .i64 2, val := .agg #[.func (.func 88) #[] #[], .int .i64 3], born := 1 }] 2)]) rfl fun a w3 hfr hst => ?_
  refine wl_v hfr (by decide) (v_build (v := .agg #[.func (.func 89) #[] #[], .int .i64 4]) rfl (by kernel_rfl)) fun a hfr => ?_
  refine wl_insert (Kt := 3) (Et := 123) (es := #[{ key := .int .i64 1, val := .agg #[.func (.func 87) #[] #[], .int .i64 3], born := 0 }, { key := .int .i64 2, val := .agg #[.func (.func 88) #[] #[], .int .i64 3], born := 1 }]) (clock := 2) 0 hfr hst rfl rfl rfl rfl Try.underlying92 (by kernel_rfl) (by kernel_rfl) (H' := [obj w0.heap.size (.map #[{ key := .int .i64 1, val := .agg #[.func (.func 87) #[] #[], .int .i64 3], born := 0 }, { key := .int .i64 2, val := .agg #[.func (.func 88) #[] #[], .int .i64 3], born := 1 }, { key := .int .i64 3, val := .agg #[.func (.func 89) #[] #[], .int .i64 4], born := 2 }] 3)]) rfl fun a w4 hfr hst => ?_
  refine wl_v hfr (by decide) (v_build (v := .agg #[.func (.func 90) #[] #[], .int .i64 5]) rfl (by kernel_rfl)) fun a hfr => ?_
  refine wl_insert (Kt := 3) (Et := 123) (es := #[{ key := .int .i64 1, val := .agg #[.func (.func 87) #[] #[], .int .i64 3], born := 0 }, { key := .int .i64 2, val := .agg #[.func (.func 88) #[] #[], .int .i64 3], born := 1 }, { key := .int .i64 3, val := .agg #[.func (.func 89) #[] #[], .int .i64 4], born := 2 }]) (clock := 3) 0 hfr hst rfl rfl rfl rfl Try.underlying92 (by kernel_rfl) (by kernel_rfl) (H' := [obj w0.heap.size (.map #[{ key := .int .i64 1, val := .agg #[.func (.func 87) #[] #[], .int .i64 3], born := 0 }, { key := .int .i64 2, val := .agg #[.func (.func 88) #[] #[], .int .i64 3], born := 1 }, { key := .int .i64 3, val := .agg #[.func (.func 89) #[] #[], .int .i64 4], born := 2 }, { key := .int .i64 4, val := .agg #[.func (.func 90) #[] #[], .int .i64 5], born := 3 }] 4)]) rfl fun a w5 hfr hst => ?_
  refine wl_v hfr (by decide) (v_move rfl) fun a hfr => ?_
  refine wl_v hfr (by decide) (v_assign rfl) fun a hfr => ?_
  refine wl_nil (hK2 _ _ ?_)
  have hfr : Fr 7 [(0, _)] [] a := hfr.pick [0]
  refine wc_ret ?_
  refine fin_ret hfr Try.results58 (resAre_tmp rfl resAre_nil) ?_
  have hst : St No w0 [mapE _ duesKV] w5 := hst.toMap 0 rfl rfl rfl
  exact ⟨_, rfl, trivial, hst.ext, St.out (E := [mapE _ duesKV]) (H := []) hst⟩

def effKV : Nat → Value × Value
  | 2 => (.agg #[.int .i64 1, .int .i64 1], .int .i64 3)
  | 4 => (.agg #[.int .i64 2, .int .i64 1], .int .i64 2)
  | 6 => (.agg #[.int .i64 3, .int .i64 2], .int .i64 3)
  | 8 => (.agg #[.int .i64 4, .int .i64 2], .int .i64 6)
  | 10 => (.agg #[.int .i64 5, .int .i64 1], .int .i64 7)
  | 12 => (.agg #[.int .i64 5, .int .i64 2], .int .i64 7)
  | 14 => (.agg #[.int .i64 5, .int .i64 3], .int .i64 7)
  | 16 => (.agg #[.int .i64 6, .int .i64 4], .int .i64 8)
  | _ => (undef, undef)
def effAll : List (Value × Value) := [2, 4, 6, 8, 10, 12, 14, 16].map effKV
def noEnt : Ent := ⟨fun _ => False, fun _ => True, fun _ _ _ h => h⟩
/-- What is known of the map when the operations D have been done. -/
def effG (D : List Nat) (V : Nat → Value) (e : Ent) : Prop :=
  (∀ i ∈ D, i < 17) ∧ ((0 ∉ D ∧ (∀ i ∈ D, i % 2 = 1) ∧ e = noEnt) ∨ (0 ∈ D ∧ ∃ b, V 0 = .map (some b) ∧ e = mapE b ((D.filter fun i => decide (i % 2 = 0) && decide (i ≠ 0)).map effKV)))
theorem eqCause (a b c d : Int) (w : World) : (Op.equal 148 (.agg #[.int .i64 a, .int .i64 b]) (.agg #[.int .i64 c, .int .i64 d])).run Try.prog w = .ok (decide (a = c) && decide (b = d)) w := by
  unfold Op.equal Op.maxDepth
  obtain ⟨dd, hd⟩ : ∃ dd, 10000 = dd + 1 + 1 := ⟨9998, rfl⟩
  rw [hd, run_equalIn_struct w (dd + 1) 148 _ _ (by kernel_rfl) (by kernel_rfl)]
  simp only [Program.fieldsOf, Try.underlying148, Op.eqFields]
  simp [part, Try.isAgg3, Op.equalIn, run_underlying Try.underlying3]
  by_cases h1 : a = c <;> by_cases h2 : b = d <;> simp [h1, h2]
theorem effKV_key {i : Nat} (h : i < 17) (h2 : i % 2 = 0) (h0 : i ≠ 0) : ∃ x y, (effKV i).1 = .agg #[.int .i64 x, .int .i64 y] := by
  match i, h with
  | 0, _ => exact absurd rfl h0
  | 1, _ => simp at h2
  | 2, _ => exact ⟨_, _, rfl⟩
  | 3, _ => simp at h2
  | 4, _ => exact ⟨_, _, rfl⟩
  | 5, _ => simp at h2
  | 6, _ => exact ⟨_, _, rfl⟩
  | 7, _ => simp at h2
  | 8, _ => exact ⟨_, _, rfl⟩
  | 9, _ => simp at h2
  | 10, _ => exact ⟨_, _, rfl⟩
  | 11, _ => simp at h2
  | 12, _ => exact ⟨_, _, rfl⟩
  | 13, _ => simp at h2
  | 14, _ => exact ⟨_, _, rfl⟩
  | 15, _ => simp at h2
  | 16, _ => exact ⟨_, _, rfl⟩
  | i + 17, h => exact absurd h (by omega)
theorem effKV_ne {i j : Nat} (hi : i < 17) (hj : j < 17) (hi2 : i % 2 = 0) (hj2 : j % 2 = 0) (hi0 : i ≠ 0) (hj0 : j ≠ 0) (hne : i ≠ j) (x y : Int) (h : (effKV i).1 = .agg #[.int .i64 x, .int .i64 y]) : isAgg2 x y (effKV j).1 = false := by
  have key : ((List.range 17).all fun i => (List.range 17).all fun j => decide (i % 2 = 1) || decide (j % 2 = 1) || decide (i = 0) || decide (j = 0) || decide (i = j) || !(match (effKV i).1 with | .agg ⟨[.int .i64 x, .int .i64 y]⟩ => isAgg2 x y (effKV j).1 | _ => true)) = true := by kernel_rfl
  have h1 := List.all_eq_true.1 (List.all_eq_true.1 key i (List.mem_range.2 hi)) j (List.mem_range.2 hj)
  rw [h] at h1
  simpa [hi0, hj0, hne, hi2, hj2] using h1

set_option maxHeartbeats 4000000 in
/-- dialtone/claim.effects -/
theorem effects_ok (w0 : World) :
    Ret Try.prog 59 #[] w0 (MemR w0 (fun b : Nat => .map (some b)) (fun b => [mapE b effAll]) (fun _ => True)) := by
  refine ret_of Try.func59 rfl Try.ntmps59 (Nat.le_of_ble_eq_true rfl) fun a hfr => ?_
  have hfr : Fr 11 [] [] a := hfr
  have hst : St No w0 [] w0 := St.init w0
  refine wc_seq_region fun K1 hK1 => ?_
  refine wl_v hfr (by decide) (v_assign rfl) fun a hfr => ?_
  refine wl_nil (hK1 _ _ ?_)
  refine wc_seq_k fun K2 hK2 => ?_
  refine wc_of_dr (by kernel_rfl) ?_
  refine wc_phases_mod (M := No) (w0 := w0) (e0 := noEnt) 17 [[], [], [0, 1], [], [0, 3], [], [0, 5], [], [0, 7], [], [0, 9], [], [0, 11], [], [0, 13], [], [0, 15]] [0, 2, 4, 6, 8, 10, 12, 14, 16] (by kernel_rfl) (by kernel_rfl) (fun i => match i with | 0 => fun v E => (∃ b, v = .map (some b)) ∧ E = [] | 1 => pv (.agg #[.int .i64 1, .int .i64 1]) | 2 => pv undef | 3 => pv (.agg #[.int .i64 2, .int .i64 1]) | 4 => pv undef | 5 => pv (.agg #[.int .i64 3, .int .i64 2]) | 6 => pv undef | 7 => pv (.agg #[.int .i64 4, .int .i64 2]) | 8 => pv undef | 9 => pv (.agg #[.int .i64 5, .int .i64 1]) | 10 => pv undef | 11 => pv (.agg #[.int .i64 5, .int .i64 2]) | 12 => pv undef | 13 => pv (.agg #[.int .i64 5, .int .i64 3]) | 14 => pv undef | 15 => pv (.agg #[.int .i64 6, .int .i64 4]) | 16 => pv undef | _ => fun _ _ => False) ?_ effG ?_ ?_ hfr (H := []) ?_ ?_ ?_ ?_
  · intro i v E hd hR
    match i with
    | 0 => exact absurd hd (by simp [opAt])
    | 1 => exact absurd hd (by simp [opAt])
    | 2 => exact hR.1.symm
    | 3 => exact absurd hd (by simp [opAt])
    | 4 => exact hR.1.symm
    | 5 => exact absurd hd (by simp [opAt])
    | 6 => exact hR.1.symm
    | 7 => exact absurd hd (by simp [opAt])
    | 8 => exact hR.1.symm
    | 9 => exact absurd hd (by simp [opAt])
    | 10 => exact hR.1.symm
    | 11 => exact absurd hd (by simp [opAt])
    | 12 => exact hR.1.symm
    | 13 => exact absurd hd (by simp [opAt])
    | 14 => exact hR.1.symm
    | 15 => exact absurd hd (by simp [opAt])
    | 16 => exact hR.1.symm
    | i + 17 => exact hR.elim
  · exact fun _ => ⟨by simp, .inl ⟨by simp, by simp, rfl⟩⟩
  · rintro i D V V' e hi hm hV ⟨hlt, hor⟩
    have hodd : i % 2 = 1 := by simp at hm; omega
    refine ⟨by simpa using ⟨hi, hlt⟩, ?_⟩
    rcases hor with ⟨h0, h1, rfl⟩ | ⟨h0, b, h1, rfl⟩
    · exact .inl ⟨by simp [h0]; omega, by simpa using ⟨hodd, h1⟩, rfl⟩
    · exact .inr ⟨by simp [h0], b, (hV 0 h0).trans h1, by rw [List.filter_cons_of_neg (by simp; omega)]⟩
  · exact ⟨hst.ext, by intro e he; rw [List.mem_singleton] at he; subst he; exact ⟨trivial, fun k hk => hk.elim⟩, List.pairwise_singleton _ _⟩
  · intro i hi hm V E w hR D e hp hG hni hst
    match i, hi with
    | 0, _ => exact absurd (by simp) hm
    | 1, _ => exact OpV.g (v_build (v := .agg #[.int .i64 1, .int .i64 1]) rfl (by kernel_rfl))
    | 2, _ => exact absurd (by simp) hm
    | 3, _ => exact OpV.g (v_build (v := .agg #[.int .i64 2, .int .i64 1]) rfl (by kernel_rfl))
    | 4, _ => exact absurd (by simp) hm
    | 5, _ => exact OpV.g (v_build (v := .agg #[.int .i64 3, .int .i64 2]) rfl (by kernel_rfl))
    | 6, _ => exact absurd (by simp) hm
    | 7, _ => exact OpV.g (v_build (v := .agg #[.int .i64 4, .int .i64 2]) rfl (by kernel_rfl))
    | 8, _ => exact absurd (by simp) hm
    | 9, _ => exact OpV.g (v_build (v := .agg #[.int .i64 5, .int .i64 1]) rfl (by kernel_rfl))
    | 10, _ => exact absurd (by simp) hm
    | 11, _ => exact OpV.g (v_build (v := .agg #[.int .i64 5, .int .i64 2]) rfl (by kernel_rfl))
    | 12, _ => exact absurd (by simp) hm
    | 13, _ => exact OpV.g (v_build (v := .agg #[.int .i64 5, .int .i64 3]) rfl (by kernel_rfl))
    | 14, _ => exact absurd (by simp) hm
    | 15, _ => exact OpV.g (v_build (v := .agg #[.int .i64 6, .int .i64 4]) rfl (by kernel_rfl))
    | 16, _ => exact absurd (by simp) hm
    | i + 17, h => exact absurd h (by omega)
  · intro i hi hm V E w hR D e hp hG hni hst
    match i, hi with
    | 0, _ =>
      obtain ⟨hlt, hor⟩ := hG
      rcases hor with ⟨h0, h1, rfl⟩ | ⟨h0, _⟩
      · refine r_makeMap.mono ?_
        rintro v w' ⟨rfl, rfl⟩
        refine ⟨mapE w.heap.size [], Ext.alloc _ _ _, mapE_nil w, fun b hb => by cases hb; exact ⟨by simp, .inr (Nat.le_refl _)⟩, ⟨⟨_, rfl⟩, rfl⟩, fun V' hV' hv => ⟨by simpa using hlt, .inr ⟨by simp, _, hv, ?_⟩⟩⟩
        rw [List.filter_cons_of_neg (by simp), List.filter_eq_nil_iff.2 (fun i hi => by have := h1 i hi; simp; omega)]; rfl
      · exact absurd h0 hni
    | 1, _ => exact absurd hm (by decide)
    | 2, _ =>
      obtain ⟨hlt, hor⟩ := hG
      have h0D : 0 ∈ D := hp 0 (by simp)
      rcases hor with ⟨h0, _⟩ | ⟨_, b, hV0, rfl⟩
      · exact absurd h0D h0
      · have hk : V 1 = .agg #[.int .i64 1, .int .i64 1] := (hR 1 (by simp)).1.symm
        have hmap := hst.get (k := 0) rfl
        have hmem : ∀ x ∈ (D.filter fun i => decide (i % 2 = 0) && decide (i ≠ 0)).map effKV, ∃ j, j ∈ D ∧ j < 17 ∧ j % 2 = 0 ∧ j ≠ 0 ∧ x = effKV j := by
          intro x hx
          obtain ⟨j, hj, rfl⟩ := List.mem_map.1 hx
          obtain ⟨hj1, hj2⟩ := List.mem_filter.1 hj
          simp at hj2
          exact ⟨j, hj1, hlt j hj1, hj2.1, hj2.2, rfl⟩
        obtain ⟨o, ho1, ho2⟩ := run_insert_ask (P := Try.prog) (w := w) (T := 93) (Kt := 148) (Et := 3) (k := .agg #[.int .i64 1, .int .i64 1]) (v := .int .i64 3) (q := isAgg2 1 1) hmap Try.underlying93
          (fun es i hes => ⟨_, Try.runUnderlying148 w, by cases es with | nil => exact absurd rfl hes | cons e es => rfl⟩) ⟨_, Try.runUnderlying148 w⟩ (fun b => by kernel_rfl)
          (fun x hx => by obtain ⟨j, _, h1, h2, h3, rfl⟩ := hmem x hx; obtain ⟨x1, x2, hx⟩ := effKV_key h1 h2 h3; rw [hx, eqCause]; rfl)
          (List.find?_eq_none.2 fun x hx => by obtain ⟨j, hjD, h1, h2, h3, rfl⟩ := hmem x hx; rw [effKV_ne (i := 2) (by decide) h1 (by decide) h2 (by decide) h3 (fun e => hni (e ▸ hjD)) _ _ rfl]; simp)
        have hb := hst.lt (k := 0) (b := b) rfl rfl
        refine (r_insert (u := .map (some b)) (k := .agg #[.int .i64 1, .int .i64 1]) (v := .int .i64 3) ?_ ?_ rfl ho1).mono ?_
        · show some (V 0) = _; rw [hV0]
        · show some (V 1) = _; rw [hk]
        · rintro v w' ⟨rfl, rfl⟩
          refine ⟨mapE b (effKV 2 :: (D.filter fun i => decide (i % 2 = 0) && decide (i ≠ 0)).map effKV), (Ext.putObj (M := (mapE b _).foot) rfl _ _), ho2, fun b' hb' => by cases hb'; exact ⟨by simpa using hb, .inl rfl⟩, ⟨rfl, rfl⟩, fun V' hV' _ => ⟨by simpa using hlt, .inr ⟨by simp [h0D], b, (hV' 0 h0D).trans hV0, ?_⟩⟩⟩
          rw [List.filter_cons_of_pos (by decide), List.map_cons]
    | 3, _ => exact absurd hm (by decide)
    | 4, _ =>
      obtain ⟨hlt, hor⟩ := hG
      have h0D : 0 ∈ D := hp 0 (by simp)
      rcases hor with ⟨h0, _⟩ | ⟨_, b, hV0, rfl⟩
      · exact absurd h0D h0
      · have hk : V 3 = .agg #[.int .i64 2, .int .i64 1] := (hR 3 (by simp)).1.symm
        have hmap := hst.get (k := 0) rfl
        have hmem : ∀ x ∈ (D.filter fun i => decide (i % 2 = 0) && decide (i ≠ 0)).map effKV, ∃ j, j ∈ D ∧ j < 17 ∧ j % 2 = 0 ∧ j ≠ 0 ∧ x = effKV j := by
          intro x hx
          obtain ⟨j, hj, rfl⟩ := List.mem_map.1 hx
          obtain ⟨hj1, hj2⟩ := List.mem_filter.1 hj
          simp at hj2
          exact ⟨j, hj1, hlt j hj1, hj2.1, hj2.2, rfl⟩
        obtain ⟨o, ho1, ho2⟩ := run_insert_ask (P := Try.prog) (w := w) (T := 93) (Kt := 148) (Et := 3) (k := .agg #[.int .i64 2, .int .i64 1]) (v := .int .i64 2) (q := isAgg2 2 1) hmap Try.underlying93
          (fun es i hes => ⟨_, Try.runUnderlying148 w, by cases es with | nil => exact absurd rfl hes | cons e es => rfl⟩) ⟨_, Try.runUnderlying148 w⟩ (fun b => by kernel_rfl)
          (fun x hx => by obtain ⟨j, _, h1, h2, h3, rfl⟩ := hmem x hx; obtain ⟨x1, x2, hx⟩ := effKV_key h1 h2 h3; rw [hx, eqCause]; rfl)
          (List.find?_eq_none.2 fun x hx => by obtain ⟨j, hjD, h1, h2, h3, rfl⟩ := hmem x hx; rw [effKV_ne (i := 4) (by decide) h1 (by decide) h2 (by decide) h3 (fun e => hni (e ▸ hjD)) _ _ rfl]; simp)
        have hb := hst.lt (k := 0) (b := b) rfl rfl
        refine (r_insert (u := .map (some b)) (k := .agg #[.int .i64 2, .int .i64 1]) (v := .int .i64 2) ?_ ?_ rfl ho1).mono ?_
        · show some (V 0) = _; rw [hV0]
        · show some (V 3) = _; rw [hk]
        · rintro v w' ⟨rfl, rfl⟩
          refine ⟨mapE b (effKV 4 :: (D.filter fun i => decide (i % 2 = 0) && decide (i ≠ 0)).map effKV), (Ext.putObj (M := (mapE b _).foot) rfl _ _), ho2, fun b' hb' => by cases hb'; exact ⟨by simpa using hb, .inl rfl⟩, ⟨rfl, rfl⟩, fun V' hV' _ => ⟨by simpa using hlt, .inr ⟨by simp [h0D], b, (hV' 0 h0D).trans hV0, ?_⟩⟩⟩
          rw [List.filter_cons_of_pos (by decide), List.map_cons]
    | 5, _ => exact absurd hm (by decide)
    | 6, _ =>
      obtain ⟨hlt, hor⟩ := hG
      have h0D : 0 ∈ D := hp 0 (by simp)
      rcases hor with ⟨h0, _⟩ | ⟨_, b, hV0, rfl⟩
      · exact absurd h0D h0
      · have hk : V 5 = .agg #[.int .i64 3, .int .i64 2] := (hR 5 (by simp)).1.symm
        have hmap := hst.get (k := 0) rfl
        have hmem : ∀ x ∈ (D.filter fun i => decide (i % 2 = 0) && decide (i ≠ 0)).map effKV, ∃ j, j ∈ D ∧ j < 17 ∧ j % 2 = 0 ∧ j ≠ 0 ∧ x = effKV j := by
          intro x hx
          obtain ⟨j, hj, rfl⟩ := List.mem_map.1 hx
          obtain ⟨hj1, hj2⟩ := List.mem_filter.1 hj
          simp at hj2
          exact ⟨j, hj1, hlt j hj1, hj2.1, hj2.2, rfl⟩
        obtain ⟨o, ho1, ho2⟩ := run_insert_ask (P := Try.prog) (w := w) (T := 93) (Kt := 148) (Et := 3) (k := .agg #[.int .i64 3, .int .i64 2]) (v := .int .i64 3) (q := isAgg2 3 2) hmap Try.underlying93
          (fun es i hes => ⟨_, Try.runUnderlying148 w, by cases es with | nil => exact absurd rfl hes | cons e es => rfl⟩) ⟨_, Try.runUnderlying148 w⟩ (fun b => by kernel_rfl)
          (fun x hx => by obtain ⟨j, _, h1, h2, h3, rfl⟩ := hmem x hx; obtain ⟨x1, x2, hx⟩ := effKV_key h1 h2 h3; rw [hx, eqCause]; rfl)
          (List.find?_eq_none.2 fun x hx => by obtain ⟨j, hjD, h1, h2, h3, rfl⟩ := hmem x hx; rw [effKV_ne (i := 6) (by decide) h1 (by decide) h2 (by decide) h3 (fun e => hni (e ▸ hjD)) _ _ rfl]; simp)
        have hb := hst.lt (k := 0) (b := b) rfl rfl
        refine (r_insert (u := .map (some b)) (k := .agg #[.int .i64 3, .int .i64 2]) (v := .int .i64 3) ?_ ?_ rfl ho1).mono ?_
        · show some (V 0) = _; rw [hV0]
        · show some (V 5) = _; rw [hk]
        · rintro v w' ⟨rfl, rfl⟩
          refine ⟨mapE b (effKV 6 :: (D.filter fun i => decide (i % 2 = 0) && decide (i ≠ 0)).map effKV), (Ext.putObj (M := (mapE b _).foot) rfl _ _), ho2, fun b' hb' => by cases hb'; exact ⟨by simpa using hb, .inl rfl⟩, ⟨rfl, rfl⟩, fun V' hV' _ => ⟨by simpa using hlt, .inr ⟨by simp [h0D], b, (hV' 0 h0D).trans hV0, ?_⟩⟩⟩
          rw [List.filter_cons_of_pos (by decide), List.map_cons]
    | 7, _ => exact absurd hm (by decide)
    | 8, _ =>
      obtain ⟨hlt, hor⟩ := hG
      have h0D : 0 ∈ D := hp 0 (by simp)
      rcases hor with ⟨h0, _⟩ | ⟨_, b, hV0, rfl⟩
      · exact absurd h0D h0
      · have hk : V 7 = .agg #[.int .i64 4, .int .i64 2] := (hR 7 (by simp)).1.symm
        have hmap := hst.get (k := 0) rfl
        have hmem : ∀ x ∈ (D.filter fun i => decide (i % 2 = 0) && decide (i ≠ 0)).map effKV, ∃ j, j ∈ D ∧ j < 17 ∧ j % 2 = 0 ∧ j ≠ 0 ∧ x = effKV j := by
          intro x hx
          obtain ⟨j, hj, rfl⟩ := List.mem_map.1 hx
          obtain ⟨hj1, hj2⟩ := List.mem_filter.1 hj
          simp at hj2
          exact ⟨j, hj1, hlt j hj1, hj2.1, hj2.2, rfl⟩
        obtain ⟨o, ho1, ho2⟩ := run_insert_ask (P := Try.prog) (w := w) (T := 93) (Kt := 148) (Et := 3) (k := .agg #[.int .i64 4, .int .i64 2]) (v := .int .i64 6) (q := isAgg2 4 2) hmap Try.underlying93
          (fun es i hes => ⟨_, Try.runUnderlying148 w, by cases es with | nil => exact absurd rfl hes | cons e es => rfl⟩) ⟨_, Try.runUnderlying148 w⟩ (fun b => by kernel_rfl)
          (fun x hx => by obtain ⟨j, _, h1, h2, h3, rfl⟩ := hmem x hx; obtain ⟨x1, x2, hx⟩ := effKV_key h1 h2 h3; rw [hx, eqCause]; rfl)
          (List.find?_eq_none.2 fun x hx => by obtain ⟨j, hjD, h1, h2, h3, rfl⟩ := hmem x hx; rw [effKV_ne (i := 8) (by decide) h1 (by decide) h2 (by decide) h3 (fun e => hni (e ▸ hjD)) _ _ rfl]; simp)
        have hb := hst.lt (k := 0) (b := b) rfl rfl
        refine (r_insert (u := .map (some b)) (k := .agg #[.int .i64 4, .int .i64 2]) (v := .int .i64 6) ?_ ?_ rfl ho1).mono ?_
        · show some (V 0) = _; rw [hV0]
        · show some (V 7) = _; rw [hk]
        · rintro v w' ⟨rfl, rfl⟩
          refine ⟨mapE b (effKV 8 :: (D.filter fun i => decide (i % 2 = 0) && decide (i ≠ 0)).map effKV), (Ext.putObj (M := (mapE b _).foot) rfl _ _), ho2, fun b' hb' => by cases hb'; exact ⟨by simpa using hb, .inl rfl⟩, ⟨rfl, rfl⟩, fun V' hV' _ => ⟨by simpa using hlt, .inr ⟨by simp [h0D], b, (hV' 0 h0D).trans hV0, ?_⟩⟩⟩
          rw [List.filter_cons_of_pos (by decide), List.map_cons]
    | 9, _ => exact absurd hm (by decide)
    | 10, _ =>
      obtain ⟨hlt, hor⟩ := hG
      have h0D : 0 ∈ D := hp 0 (by simp)
      rcases hor with ⟨h0, _⟩ | ⟨_, b, hV0, rfl⟩
      · exact absurd h0D h0
      · have hk : V 9 = .agg #[.int .i64 5, .int .i64 1] := (hR 9 (by simp)).1.symm
        have hmap := hst.get (k := 0) rfl
        have hmem : ∀ x ∈ (D.filter fun i => decide (i % 2 = 0) && decide (i ≠ 0)).map effKV, ∃ j, j ∈ D ∧ j < 17 ∧ j % 2 = 0 ∧ j ≠ 0 ∧ x = effKV j := by
          intro x hx
          obtain ⟨j, hj, rfl⟩ := List.mem_map.1 hx
          obtain ⟨hj1, hj2⟩ := List.mem_filter.1 hj
          simp at hj2
          exact ⟨j, hj1, hlt j hj1, hj2.1, hj2.2, rfl⟩
        obtain ⟨o, ho1, ho2⟩ := run_insert_ask (P := Try.prog) (w := w) (T := 93) (Kt := 148) (Et := 3) (k := .agg #[.int .i64 5, .int .i64 1]) (v := .int .i64 7) (q := isAgg2 5 1) hmap Try.underlying93
          (fun es i hes => ⟨_, Try.runUnderlying148 w, by cases es with | nil => exact absurd rfl hes | cons e es => rfl⟩) ⟨_, Try.runUnderlying148 w⟩ (fun b => by kernel_rfl)
          (fun x hx => by obtain ⟨j, _, h1, h2, h3, rfl⟩ := hmem x hx; obtain ⟨x1, x2, hx⟩ := effKV_key h1 h2 h3; rw [hx, eqCause]; rfl)
          (List.find?_eq_none.2 fun x hx => by obtain ⟨j, hjD, h1, h2, h3, rfl⟩ := hmem x hx; rw [effKV_ne (i := 10) (by decide) h1 (by decide) h2 (by decide) h3 (fun e => hni (e ▸ hjD)) _ _ rfl]; simp)
        have hb := hst.lt (k := 0) (b := b) rfl rfl
        refine (r_insert (u := .map (some b)) (k := .agg #[.int .i64 5, .int .i64 1]) (v := .int .i64 7) ?_ ?_ rfl ho1).mono ?_
        · show some (V 0) = _; rw [hV0]
        · show some (V 9) = _; rw [hk]
        · rintro v w' ⟨rfl, rfl⟩
          refine ⟨mapE b (effKV 10 :: (D.filter fun i => decide (i % 2 = 0) && decide (i ≠ 0)).map effKV), (Ext.putObj (M := (mapE b _).foot) rfl _ _), ho2, fun b' hb' => by cases hb'; exact ⟨by simpa using hb, .inl rfl⟩, ⟨rfl, rfl⟩, fun V' hV' _ => ⟨by simpa using hlt, .inr ⟨by simp [h0D], b, (hV' 0 h0D).trans hV0, ?_⟩⟩⟩
          rw [List.filter_cons_of_pos (by decide), List.map_cons]
    | 11, _ => exact absurd hm (by decide)
    | 12, _ =>
      obtain ⟨hlt, hor⟩ := hG
      have h0D : 0 ∈ D := hp 0 (by simp)
      rcases hor with ⟨h0, _⟩ | ⟨_, b, hV0, rfl⟩
      · exact absurd h0D h0
      · have hk : V 11 = .agg #[.int .i64 5, .int .i64 2] := (hR 11 (by simp)).1.symm
        have hmap := hst.get (k := 0) rfl
        have hmem : ∀ x ∈ (D.filter fun i => decide (i % 2 = 0) && decide (i ≠ 0)).map effKV, ∃ j, j ∈ D ∧ j < 17 ∧ j % 2 = 0 ∧ j ≠ 0 ∧ x = effKV j := by
          intro x hx
          obtain ⟨j, hj, rfl⟩ := List.mem_map.1 hx
          obtain ⟨hj1, hj2⟩ := List.mem_filter.1 hj
          simp at hj2
          exact ⟨j, hj1, hlt j hj1, hj2.1, hj2.2, rfl⟩
        obtain ⟨o, ho1, ho2⟩ := run_insert_ask (P := Try.prog) (w := w) (T := 93) (Kt := 148) (Et := 3) (k := .agg #[.int .i64 5, .int .i64 2]) (v := .int .i64 7) (q := isAgg2 5 2) hmap Try.underlying93
          (fun es i hes => ⟨_, Try.runUnderlying148 w, by cases es with | nil => exact absurd rfl hes | cons e es => rfl⟩) ⟨_, Try.runUnderlying148 w⟩ (fun b => by kernel_rfl)
          (fun x hx => by obtain ⟨j, _, h1, h2, h3, rfl⟩ := hmem x hx; obtain ⟨x1, x2, hx⟩ := effKV_key h1 h2 h3; rw [hx, eqCause]; rfl)
          (List.find?_eq_none.2 fun x hx => by obtain ⟨j, hjD, h1, h2, h3, rfl⟩ := hmem x hx; rw [effKV_ne (i := 12) (by decide) h1 (by decide) h2 (by decide) h3 (fun e => hni (e ▸ hjD)) _ _ rfl]; simp)
        have hb := hst.lt (k := 0) (b := b) rfl rfl
        refine (r_insert (u := .map (some b)) (k := .agg #[.int .i64 5, .int .i64 2]) (v := .int .i64 7) ?_ ?_ rfl ho1).mono ?_
        · show some (V 0) = _; rw [hV0]
        · show some (V 11) = _; rw [hk]
        · rintro v w' ⟨rfl, rfl⟩
          refine ⟨mapE b (effKV 12 :: (D.filter fun i => decide (i % 2 = 0) && decide (i ≠ 0)).map effKV), (Ext.putObj (M := (mapE b _).foot) rfl _ _), ho2, fun b' hb' => by cases hb'; exact ⟨by simpa using hb, .inl rfl⟩, ⟨rfl, rfl⟩, fun V' hV' _ => ⟨by simpa using hlt, .inr ⟨by simp [h0D], b, (hV' 0 h0D).trans hV0, ?_⟩⟩⟩
          rw [List.filter_cons_of_pos (by decide), List.map_cons]
    | 13, _ => exact absurd hm (by decide)
    | 14, _ =>
      obtain ⟨hlt, hor⟩ := hG
      have h0D : 0 ∈ D := hp 0 (by simp)
      rcases hor with ⟨h0, _⟩ | ⟨_, b, hV0, rfl⟩
      · exact absurd h0D h0
      · have hk : V 13 = .agg #[.int .i64 5, .int .i64 3] := (hR 13 (by simp)).1.symm
        have hmap := hst.get (k := 0) rfl
        have hmem : ∀ x ∈ (D.filter fun i => decide (i % 2 = 0) && decide (i ≠ 0)).map effKV, ∃ j, j ∈ D ∧ j < 17 ∧ j % 2 = 0 ∧ j ≠ 0 ∧ x = effKV j := by
          intro x hx
          obtain ⟨j, hj, rfl⟩ := List.mem_map.1 hx
          obtain ⟨hj1, hj2⟩ := List.mem_filter.1 hj
          simp at hj2
          exact ⟨j, hj1, hlt j hj1, hj2.1, hj2.2, rfl⟩
        obtain ⟨o, ho1, ho2⟩ := run_insert_ask (P := Try.prog) (w := w) (T := 93) (Kt := 148) (Et := 3) (k := .agg #[.int .i64 5, .int .i64 3]) (v := .int .i64 7) (q := isAgg2 5 3) hmap Try.underlying93
          (fun es i hes => ⟨_, Try.runUnderlying148 w, by cases es with | nil => exact absurd rfl hes | cons e es => rfl⟩) ⟨_, Try.runUnderlying148 w⟩ (fun b => by kernel_rfl)
          (fun x hx => by obtain ⟨j, _, h1, h2, h3, rfl⟩ := hmem x hx; obtain ⟨x1, x2, hx⟩ := effKV_key h1 h2 h3; rw [hx, eqCause]; rfl)
          (List.find?_eq_none.2 fun x hx => by obtain ⟨j, hjD, h1, h2, h3, rfl⟩ := hmem x hx; rw [effKV_ne (i := 14) (by decide) h1 (by decide) h2 (by decide) h3 (fun e => hni (e ▸ hjD)) _ _ rfl]; simp)
        have hb := hst.lt (k := 0) (b := b) rfl rfl
        refine (r_insert (u := .map (some b)) (k := .agg #[.int .i64 5, .int .i64 3]) (v := .int .i64 7) ?_ ?_ rfl ho1).mono ?_
        · show some (V 0) = _; rw [hV0]
        · show some (V 13) = _; rw [hk]
        · rintro v w' ⟨rfl, rfl⟩
          refine ⟨mapE b (effKV 14 :: (D.filter fun i => decide (i % 2 = 0) && decide (i ≠ 0)).map effKV), (Ext.putObj (M := (mapE b _).foot) rfl _ _), ho2, fun b' hb' => by cases hb'; exact ⟨by simpa using hb, .inl rfl⟩, ⟨rfl, rfl⟩, fun V' hV' _ => ⟨by simpa using hlt, .inr ⟨by simp [h0D], b, (hV' 0 h0D).trans hV0, ?_⟩⟩⟩
          rw [List.filter_cons_of_pos (by decide), List.map_cons]
    | 15, _ => exact absurd hm (by decide)
    | 16, _ =>
      obtain ⟨hlt, hor⟩ := hG
      have h0D : 0 ∈ D := hp 0 (by simp)
      rcases hor with ⟨h0, _⟩ | ⟨_, b, hV0, rfl⟩
      · exact absurd h0D h0
      · have hk : V 15 = .agg #[.int .i64 6, .int .i64 4] := (hR 15 (by simp)).1.symm
        have hmap := hst.get (k := 0) rfl
        have hmem : ∀ x ∈ (D.filter fun i => decide (i % 2 = 0) && decide (i ≠ 0)).map effKV, ∃ j, j ∈ D ∧ j < 17 ∧ j % 2 = 0 ∧ j ≠ 0 ∧ x = effKV j := by
          intro x hx
          obtain ⟨j, hj, rfl⟩ := List.mem_map.1 hx
          obtain ⟨hj1, hj2⟩ := List.mem_filter.1 hj
          simp at hj2
          exact ⟨j, hj1, hlt j hj1, hj2.1, hj2.2, rfl⟩
        obtain ⟨o, ho1, ho2⟩ := run_insert_ask (P := Try.prog) (w := w) (T := 93) (Kt := 148) (Et := 3) (k := .agg #[.int .i64 6, .int .i64 4]) (v := .int .i64 8) (q := isAgg2 6 4) hmap Try.underlying93
          (fun es i hes => ⟨_, Try.runUnderlying148 w, by cases es with | nil => exact absurd rfl hes | cons e es => rfl⟩) ⟨_, Try.runUnderlying148 w⟩ (fun b => by kernel_rfl)
          (fun x hx => by obtain ⟨j, _, h1, h2, h3, rfl⟩ := hmem x hx; obtain ⟨x1, x2, hx⟩ := effKV_key h1 h2 h3; rw [hx, eqCause]; rfl)
          (List.find?_eq_none.2 fun x hx => by obtain ⟨j, hjD, h1, h2, h3, rfl⟩ := hmem x hx; rw [effKV_ne (i := 16) (by decide) h1 (by decide) h2 (by decide) h3 (fun e => hni (e ▸ hjD)) _ _ rfl]; simp)
        have hb := hst.lt (k := 0) (b := b) rfl rfl
        refine (r_insert (u := .map (some b)) (k := .agg #[.int .i64 6, .int .i64 4]) (v := .int .i64 8) ?_ ?_ rfl ho1).mono ?_
        · show some (V 0) = _; rw [hV0]
        · show some (V 15) = _; rw [hk]
        · rintro v w' ⟨rfl, rfl⟩
          refine ⟨mapE b (effKV 16 :: (D.filter fun i => decide (i % 2 = 0) && decide (i ≠ 0)).map effKV), (Ext.putObj (M := (mapE b _).foot) rfl _ _), ho2, fun b' hb' => by cases hb'; exact ⟨by simpa using hb, .inl rfl⟩, ⟨rfl, rfl⟩, fun V' hV' _ => ⟨by simpa using hlt, .inr ⟨by simp [h0D], b, (hV' 0 h0D).trans hV0, ?_⟩⟩⟩
          rw [List.filter_cons_of_pos (by decide), List.map_cons]
    | i + 17, h => exact absurd h (by omega)
  rintro D V E e a w1 hD ⟨_, hor⟩ hR hfr hst
  rcases hor with ⟨h0, _⟩ | ⟨_, b, hV0, rfl⟩
  · exact absurd (hD.mem_iff.2 (by simp)) h0
  have hperm : ((D.filter fun i => decide (i % 2 = 0) && decide (i ≠ 0)).map effKV).Perm effAll := by
    have h1 := (hD.filter fun i => decide (i % 2 = 0) && decide (i ≠ 0)).map effKV
    exact h1
  have hfr : Fr 11 [(1, _)] [] a := hfr.pick [1]
  rw [hV0] at hfr
  have hst : St No w0 [mapE b _] w1 := hst.mask [true]
  have hst : St No w0 [mapE b effAll] w1 := hst.exchange (k := 0) (e := mapE b _) (e' := mapE b effAll) rfl (Ext.refl _ _) (by obtain ⟨es, cl, h1, h2⟩ := hst.get (k := 0) rfl; exact ⟨es, cl, h1, h2.trans hperm⟩) (fun k hk => ⟨hst.lt (k := 0) rfl hk, .inl hk⟩)
  refine wl_v hfr (by decide) (v_move rfl) fun a hfr => ?_
  refine wl_v hfr (by decide) (v_assign rfl) fun a hfr => ?_
  refine wl_nil ?_
  refine hK2 _ _ ?_
  refine wc_ret ?_
  refine fin_ret hfr Try.results59 (resAre_tmp rfl resAre_nil) ?_
  exact ⟨_, rfl, trivial, hst.ext, St.out (E := [mapE b effAll]) (H := []) hst⟩
end Go.Proofs.Ytdamipejlfipcaa
