/- Plain laws of clocks: the course of a clock, the spread, the window of a second; no program in sight. -/
import Derived.Test.YtdamipejlfipcaaClaimP
namespace Go.Proofs.Ytdamipejlfipcaa
set_option linter.unusedVariables false
set_option linter.unusedSimpArgs false
/-- A reading of a clock. -/
structure Rdg where
  loc : Int
  lo : Int
  hi : Int
def Rdg.cells (r : Rdg) : List Value := [.int .i64 r.loc, .int .i64 r.lo, .int .i64 r.hi]
/-! ### the course -/
def clamp (a : Int) : Int := max 0 (min a 100)
theorem clamp_le (a : Int) : 0 ≤ clamp a ∧ clamp a ≤ 100 := by unfold clamp; omega
def rate (d : Int) (rates : List Int) (k : Nat) : Int := pick (rates.getD k 0) (2 * d + 1) - d
theorem rate_le {d : Int} (hd : 0 ≤ d) (rates : List Int) (k : Nat) : -d ≤ rate d rates k ∧ rate d rates k ≤ d := by
  have h1 := Int.emod_nonneg (if rates.getD k 0 < 0 then -(rates.getD k 0 + 1) else rates.getD k 0) (show 2 * d + 1 ≠ 0 by omega)
  have h2 := Int.emod_lt_of_pos (if rates.getD k 0 < 0 then -(rates.getD k 0 + 1) else rates.getD k 0) (show 0 < 2 * d + 1 by omega)
  unfold rate pick
  omega
/-- What the rates of the first k hundreds of seconds add by second t. -/
def csum (d : Int) (rates : List Int) (t : Int) : Nat → Int
  | 0 => 0
  | k + 1 => csum d rates t k + rate d rates k * clamp (t - 100 * (k : Int))
theorem csum_stop (d : Int) (rates : List Int) (t : Int) {k : Nat} (h : t ≤ 100 * (k : Int)) : ∀ m, k ≤ m → csum d rates t m = csum d rates t k := by
  intro m hm
  induction m with
  | zero => obtain rfl : k = 0 := by omega
            rfl
  | succ m ih =>
    by_cases he : k = m + 1
    · subst he; rfl
    · have hc : clamp (t - 100 * (m : Int)) = 0 := by unfold clamp; omega
      rw [csum, hc, Int.mul_zero, Int.add_zero, ih (by omega)]
theorem mul_le_of {r d c : Int} (h1 : -d ≤ r) (h2 : r ≤ d) (hc : 0 ≤ c) : -(d * c) ≤ r * c ∧ r * c ≤ d * c := by
  have a := Int.mul_le_mul_of_nonneg_right h1 hc
  have b := Int.mul_le_mul_of_nonneg_right h2 hc
  rw [Int.neg_mul] at a
  exact ⟨a, b⟩
/-- The sums at two seconds differ by at most d in each second between. -/
theorem csum_diff {d : Int} (hd : 0 ≤ d) (rates : List Int) {s t : Int} (h0 : 0 ≤ s) (hst : s ≤ t) : ∀ k : Nat,
    -(d * (min t (100 * (k : Int)) - min s (100 * (k : Int)))) ≤ csum d rates t k - csum d rates s k ∧ csum d rates t k - csum d rates s k ≤ d * (min t (100 * (k : Int)) - min s (100 * (k : Int))) := by
  intro k
  induction k with
  | zero => have h1 : min t (100 * ((0 : Nat) : Int)) = 0 := by omega
            have h2 : min s (100 * ((0 : Nat) : Int)) = 0 := by omega
            rw [h1, h2]; simp [csum]
  | succ k ih =>
    obtain ⟨a, b⟩ := rate_le hd rates k
    have hc : 0 ≤ clamp (t - 100 * (k : Int)) - clamp (s - 100 * (k : Int)) := by unfold clamp; omega
    obtain ⟨u, v⟩ := mul_le_of a b hc
    have hm : min t (100 * ((k + 1 : Nat) : Int)) - min s (100 * ((k + 1 : Nat) : Int)) = (min t (100 * (k : Int)) - min s (100 * (k : Int))) + (clamp (t - 100 * (k : Int)) - clamp (s - 100 * (k : Int))) := by unfold clamp; push_cast; omega
    have hs : csum d rates t (k + 1) - csum d rates s (k + 1) = (csum d rates t k - csum d rates s k) + rate d rates k * (clamp (t - 100 * (k : Int)) - clamp (s - 100 * (k : Int))) := by
      rw [csum, csum, Int.mul_sub]; omega
    rw [hm, hs, Int.mul_add]
    omega
theorem csum_two {d : Int} (hd : 0 ≤ d) (rates : List Int) {s t : Int} (h0 : 0 ≤ s) (hst : s ≤ t) (k : Nat) :
    -(d * (t - s)) ≤ csum d rates t k - csum d rates s k ∧ csum d rates t k - csum d rates s k ≤ d * (t - s) := by
  obtain ⟨a, b⟩ := csum_diff hd rates h0 hst k
  have h := Int.mul_le_mul_of_nonneg_left (show min t (100 * (k : Int)) - min s (100 * (k : Int)) ≤ t - s by omega) hd
  omega
theorem csum_zero (d : Int) (rates : List Int) (k : Nat) : csum d rates 0 k = 0 := by
  have := csum_stop d rates 0 (k := 0) (by omega) k (by omega)
  rw [this]; rfl
/-- The bounds that the code needs. -/
theorem csum_le {d : Int} (hd : 0 ≤ d) (hd2 : d ≤ 100) (rates : List Int) {t : Int} (h0 : 0 ≤ t) (k : Nat) : -(100 * t) ≤ csum d rates t k ∧ csum d rates t k ≤ 100 * t := by
  obtain ⟨a, b⟩ := csum_two hd rates (s := 0) (t := t) (by omega) h0 k
  have h := Int.mul_le_mul_of_nonneg_right hd2 h0
  rw [csum_zero, Int.sub_zero, Int.sub_zero] at a b
  omega
/-- The drift of a course. -/
def driftOf (drift : Int) : Int := pick drift 101
theorem driftOf_le (drift : Int) : 0 ≤ driftOf drift ∧ driftOf drift ≤ 100 := by
  have h1 := Int.emod_nonneg (if drift < 0 then -(drift + 1) else drift) (show (101 : Int) ≠ 0 by omega)
  have h2 := Int.emod_lt_of_pos (if drift < 0 then -(drift + 1) else drift) (show (0 : Int) < 101 by omega)
  unfold driftOf pick; omega
/-- Shown. -/
def shown (drift start : Int) (rates : List Int) (t : Int) : Int := pick start 1000 + (csum (driftOf drift) rates t (min rates.length 20) + 1000 * t) / 1000
/-- The course fits: what a clock advances between two seconds. -/
theorem shown_two (drift start : Int) (rates : List Int) {s t : Int} (h0 : 0 ≤ s) (hst : s ≤ t) :
    (1000 - driftOf drift) * (t - s) - 1000 < 1000 * (shown drift start rates t - shown drift start rates s) ∧ 1000 * (shown drift start rates t - shown drift start rates s) < (1000 + driftOf drift) * (t - s) + 1000 := by
  obtain ⟨hd, hd2⟩ := driftOf_le drift
  obtain ⟨a, b⟩ := csum_two hd rates h0 hst (min rates.length 20)
  unfold shown
  rw [Int.sub_mul, Int.add_mul]
  omega
theorem shown_le (drift start : Int) (rates : List Int) {t : Int} (h0 : 0 ≤ t) (h1 : t ≤ 3000) : 0 ≤ shown drift start rates t ∧ shown drift start rates t ≤ 10000 := by
  obtain ⟨hd, hd2⟩ := driftOf_le drift
  obtain ⟨a, b⟩ := csum_le hd hd2 rates h0 (min rates.length 20)
  have h1 := Int.emod_nonneg (if start < 0 then -(start + 1) else start) (show (1000 : Int) ≠ 0 by omega)
  have h2 := Int.emod_lt_of_pos (if start < 0 then -(start + 1) else start) (show (0 : Int) < 1000 by omega)
  unfold shown
  unfold pick
  omega
/-! ### the spread -/
def least (d n : Int) : Int := if 0 < n then 1000 * (n - 1) / (1000 + d) + 1 else 0
def most (d n : Int) : Int := (1000 * (n + 1) - 1) / (1000 - d)
theorem least_le {d n x : Int} (hd : 0 ≤ d) (hn : 0 ≤ n) (hx : 0 ≤ x) (h : 1000 * n < (1000 + d) * x + 1000) : least d n ≤ x := by
  unfold least
  split
  · have := Int.ediv_lt_of_lt_mul (a := 1000 * (n - 1)) (b := x) (c := 1000 + d) (by omega) (by rw [Int.mul_comm x]; omega)
    omega
  · exact hx
theorem le_most {d n x : Int} (hd : d ≤ 100) (h : (1000 - d) * x - 1000 < 1000 * n) : x ≤ most d n := by
  unfold most
  refine Int.le_ediv_of_mul_le (by omega) ?_
  rw [Int.mul_comm]; omega
theorem least_nonneg {d n : Int} (hd : 0 ≤ d) : 0 ≤ least d n := by
  unfold least
  split
  · have := Int.ediv_nonneg (a := 1000 * (n - 1)) (b := 1000 + d) (by omega) (by omega); omega
  · omega
theorem least_bound {d n : Int} (hd : 0 ≤ d) (hn : n ≤ 10000000) (h0 : 0 ≤ n) : least d n ≤ 10000000 := by
  unfold least
  split
  · have := Int.ediv_lt_of_lt_mul (a := 1000 * (n - 1)) (b := n) (c := 1000 + d) (by omega) (by have := Int.mul_nonneg hd h0; rw [Int.mul_add, Int.mul_comm n d]; omega); omega
  · omega
theorem most_bound {d n : Int} (hd : 0 ≤ d) (hd2 : d ≤ 100) (hn : n ≤ 10000000) (h0 : 0 ≤ n) : 0 ≤ most d n ∧ most d n ≤ 20000000 := by
  unfold most
  refine ⟨Int.ediv_nonneg (by omega) (by omega), ?_⟩
  have := Int.ediv_lt_of_lt_mul (a := 1000 * (n + 1) - 1) (b := 20000001) (c := 1000 - d) (by omega) (by omega)
  omega
/-! ### clocks -/
/-- Are the readings of a clock in order and in bounds, behind a last local second? -/
def okRdg : Int → List Rdg → Prop
  | _, [] => True
  | last, r :: l => last < r.loc ∧ r.loc ≤ 10000000 ∧ 0 ≤ r.lo ∧ r.lo ≤ r.hi ∧ r.hi ≤ 10000000 ∧ okRdg r.loc l
def lastLoc (last : Int) (l : List Rdg) : Int := match l.getLast? with | some r => r.loc | none => last
theorem okRdg_snoc {r : Rdg} : ∀ {l : List Rdg} {last : Int}, okRdg last l → lastLoc last l < r.loc → r.loc ≤ 10000000 → 0 ≤ r.lo → r.lo ≤ r.hi → r.hi ≤ 10000000 → okRdg last (l ++ [r])
  | [], last, _, h, h1, h2, h3, h4 => ⟨h, h1, h2, h3, h4, trivial⟩
  | q :: l, last, ⟨a, b, c, d, e, f⟩, h, h1, h2, h3, h4 => by
    refine ⟨a, b, c, d, e, okRdg_snoc f ?_ h1 h2 h3 h4⟩
    cases l with
    | nil => exact h
    | cons z l => exact h
/-- The window of a local second, narrowed reading by reading. -/
def narrowed (d loc : Int) (r : Rdg) (w : Int × Int) : Int × Int :=
  if loc < r.loc then (max w.1 (r.lo + -(most d (r.loc - loc))), min w.2 (r.hi + -(least d (r.loc - loc))))
  else if loc = r.loc then (max w.1 (r.lo + -(most d 0)), min w.2 (r.hi + most d 0))
  else (max w.1 (r.lo + least d (loc - r.loc)), min w.2 (r.hi + most d (loc - r.loc)))
def windowF (d loc : Int) : Int × Int → List Rdg → Int × Int
  | w, [] => w
  | w, r :: l => windowF d loc (narrowed d loc r w) l
/-- A reading that was made off a course. -/
def madeOf (drift start : Int) (rates : List Int) (r : Rdg) : Prop := ∃ s, 0 ≤ s ∧ s < 3000 ∧ r.loc = shown drift start rates s ∧ r.lo ≤ s ∧ s ≤ r.hi
theorem narrowed_has {drift start : Int} {rates : List Int} {r : Rdg} {t : Int} (ht : 0 ≤ t) (hr : madeOf drift start rates r) {w : Int × Int} (hw : w.1 ≤ t ∧ t ≤ w.2) :
    (narrowed (driftOf drift) (shown drift start rates t) r w).1 ≤ t ∧ t ≤ (narrowed (driftOf drift) (shown drift start rates t) r w).2 := by
  obtain ⟨s, h0, h1, h2, h3, h4⟩ := hr
  obtain ⟨hd, hd2⟩ := driftOf_le drift
  have key : ∀ a b : Int, 0 ≤ a → a ≤ b → shown drift start rates a ≤ shown drift start rates b →
      least (driftOf drift) (shown drift start rates b - shown drift start rates a) ≤ b - a ∧ b - a ≤ most (driftOf drift) (shown drift start rates b - shown drift start rates a) := fun a b ha hab hle => by
    obtain ⟨p, q⟩ := shown_two drift start rates ha hab
    exact ⟨least_le hd (by omega) (by omega) q, le_most hd2 p⟩
  have mono : ∀ a b : Int, 0 ≤ a → a ≤ b → shown drift start rates a ≤ shown drift start rates b := fun a b ha hab => by
    obtain ⟨p, q⟩ := shown_two drift start rates ha hab
    have := Int.mul_nonneg (a := 1000 - driftOf drift) (b := b - a) (by omega) (by omega)
    omega
  unfold narrowed
  rw [h2]
  rcases Int.le_total s t with hst | hst
  · have m := mono s t h0 hst
    obtain ⟨p, q⟩ := key s t h0 hst m
    rw [if_neg (by omega)]
    split
    · rename_i he
      rw [he, Int.sub_self] at p q
      simp only
      omega
    · simp only
      omega
  · have m := mono t s ht hst
    obtain ⟨p, q⟩ := key t s ht hst m
    split
    · simp only
      omega
    · have he : shown drift start rates t = shown drift start rates s := by omega
      rw [if_pos he]
      rw [he, Int.sub_self] at q
      simp only
      omega
/-- THE CLOCK: the true second lies in the window. -/
theorem window_has {drift start : Int} {rates : List Int} {t : Int} (ht : 0 ≤ t) : ∀ (l : List Rdg) (w : Int × Int), (∀ r ∈ l, madeOf drift start rates r) → w.1 ≤ t ∧ t ≤ w.2 →
    (windowF (driftOf drift) (shown drift start rates t) w l).1 ≤ t ∧ t ≤ (windowF (driftOf drift) (shown drift start rates t) w l).2
  | [], w, _, hw => hw
  | r :: l, w, h, hw => window_has ht l _ (fun q hq => h q (by simp [hq])) (narrowed_has ht (h r (by simp)) hw)
theorem narrowed_in {d loc : Int} {r : Rdg} {w : Int × Int} : w.1 ≤ (narrowed d loc r w).1 ∧ (narrowed d loc r w).2 ≤ w.2 := by
  unfold narrowed
  split
  · simp only; omega
  · split <;> (simp only; omega)
theorem window_in {d loc : Int} : ∀ (l : List Rdg) (w : Int × Int), w.1 ≤ (windowF d loc w l).1 ∧ (windowF d loc w l).2 ≤ w.2
  | [], w => ⟨Int.le_refl _, Int.le_refl _⟩
  | r :: l, w => by
    have h1 := narrowed_in (d := d) (loc := loc) (r := r) (w := w)
    have h2 := window_in (d := d) (loc := loc) l (narrowed d loc r w)
    rw [windowF]; omega
/-- How many of the first i entries have a number below, or the same. -/
def cntLt (p : Nat → Int) (m : Nat) (t : Int) : Nat := ((List.range m).filter fun j => decide (p j < t)).length
def cntEq (p : Nat → Int) (i : Nat) (t : Int) : Nat := ((List.range i).filter fun j => decide (p j = t)).length
theorem cntEq_succ (p : Nat → Int) (i : Nat) (t : Int) : cntEq p (i + 1) t = cntEq p i t + (if p i = t then 1 else 0) := by
  unfold cntEq
  rw [List.range_succ, List.filter_append, List.length_append]
  split <;> simp [*]
theorem cntLt_zero {p : Nat → Int} (hp : ∀ j, 0 ≤ p j) (m : Nat) : cntLt p m 0 = 0 := by
  unfold cntLt
  rw [List.length_eq_zero_iff, List.filter_eq_nil_iff]
  intro j _; have := hp j; simp; omega
theorem cnt_next (p : Nat → Int) (m : Nat) (t : Int) : cntLt p m t + cntEq p m t = cntLt p m (t + 1) := by
  unfold cntLt cntEq
  induction m with
  | zero => rfl
  | succ m ih =>
    rw [List.range_succ, List.filter_append, List.filter_append, List.filter_append]
    simp only [List.length_append]
    have : ∀ (q : Bool), ([m].filter fun _ => q).length = if q then 1 else 0 := fun q => by cases q <;> rfl
    by_cases h1 : p m < t
    · have h2 : ¬ p m = t := by omega
      have h3 : p m < t + 1 := by omega
      simp [h1, h2, h3]; omega
    · by_cases h2 : p m = t
      · have h3 : t < t + 1 := by omega
        have h4 : ¬ t < t := by omega
        simp [h2, h3, h4]; omega
      · have h3 : ¬ p m < t + 1 := by omega
        simp [h1, h2, h3]; omega
theorem cntLt_le (p : Nat → Int) (m : Nat) (t : Int) : cntLt p m t ≤ m := by
  unfold cntLt
  exact Nat.le_trans (List.length_filter_le _ _) (by simp)
end Go.Proofs.Ytdamipejlfipcaa
