/- Plain definitions: the statuses of a claim; no program in sight. -/
import Derived.Test.YtdamipejlfipcaaClaimP
namespace Go.Proofs.Ytdamipejlfipcaa
set_option linter.unusedVariables false
/-- How many changes by itself may follow. -/
def rank (s : Int) : Nat := if s = 1 ∨ s = 2 then 3 else if s = 3 then 2 else if s = 4 then 1 else 0
/-- What happens by itself, until a time. -/
def aloneF : Nat → Rul → Int → Stt → List Stt
  | 0, _, _, _ => []
  | n + 1, r, u, now => if 0 ≤ now.next ∧ now.next ≤ u then begins r (dueNext now.state) now.next :: aloneF n r u (begins r (dueNext now.state) now.next) else []
theorem aloneF_pos {n : Nat} {r : Rul} {u : Int} {now : Stt} (h : 0 ≤ now.next) (h' : now.next ≤ u) : aloneF (n + 1) r u now = begins r (dueNext now.state) now.next :: aloneF n r u (begins r (dueNext now.state) now.next) := by rw [aloneF, if_pos ⟨h, h'⟩]
theorem aloneF_neg {n : Nat} {r : Rul} {u : Int} {now : Stt} (h : ¬ (0 ≤ now.next ∧ now.next ≤ u)) : aloneF n r u now = [] := by
  cases n with
  | zero => rfl
  | succ n => rw [aloneF, if_neg h]
def alone (r : Rul) (u : Int) (now : Stt) : List Stt := aloneF 4 r u now
def lastOf (now : Stt) (l : List Stt) : Stt := l.getLast?.getD now
/-- The statuses behind one, and which events are void. -/
def runE (r : Rul) (backed : Bool) : Nat → Stt → List Evt → List Stt × List Int
  | _, now, [] => (alone r 4611686018427387904 now, [])
  | i, now, x :: l =>
    let al := alone r x.at_ now
    let now1 := lastOf now al
    let a := after backed now1.state x
    if a.2 then
      let n := begins r a.1 x.at_
      let q := runE r backed (i + 1) n l
      (al ++ n :: q.1, q.2)
    else
      let q := runE r backed (i + 1) now1 l
      (al ++ q.1, (i : Int) :: q.2)
def first (r : Rul) (c : Clm) : Stt := begins r 1 c.asked
def statuses (r : Rul) (c : Clm) (l : List Evt) : List Stt := first r c :: (runE r c.backed 0 (first r c) l).1
def voids (r : Rul) (c : Clm) (l : List Evt) : List Int := (runE r c.backed 0 (first r c) l).2

/-- A status that a machine can be in. -/
def Sound (r : Rul) (now : Stt) : Prop := now = begins r now.state now.since ∧ 0 ≤ now.since ∧ now.since + 1000000 * (rank now.state : Int) ≤ 30000000
theorem lastOf_cons (now n : Stt) (l : List Stt) : lastOf now (n :: l) = lastOf n l := by
  unfold lastOf
  cases l with
  | nil => rfl
  | cons a l => rw [List.getLast?_cons_cons]; simp [List.getLast?_eq_some_getLast]
theorem lastOf_append (now : Stt) (l l' : List Stt) : lastOf now (l ++ l') = lastOf (lastOf now l) l' := by
  induction l generalizing now with
  | nil => rfl
  | cons a l ih => rw [List.cons_append, lastOf_cons, ih, lastOf_cons]
theorem Sound.next {r : Rul} {now : Stt} (hr : areValid r = true) (h : Sound r now) : (now.next = -1 ∧ rank now.state = 0) ∨ ((now.state = 1 ∨ now.state = 2 ∨ now.state = 3 ∨ now.state = 4) ∧ 1 ≤ rank now.state ∧ now.since < now.next ∧ now.next ≤ now.since + 1000000 ∧ 0 ≤ now.next ∧ now.next ≤ 30000000) := by
  obtain ⟨h1, h2, h3⟩ := h
  have hb := areValid_le hr
  have hn : now.next = (begins r now.state now.since).next := by rw [← h1]
  simp only [begins, dueSec] at hn
  by_cases e1 : now.state = 1
  · simp [e1, rank] at *; omega
  by_cases e2 : now.state = 2
  · simp [e2, rank] at *; omega
  by_cases e3 : now.state = 3
  · simp [e3, rank] at *; omega
  by_cases e4 : now.state = 4
  · simp [e4, rank] at *; omega
  · left; simp [e1, e2, e3, e4, rank] at *; exact hn
theorem Sound.step {r : Rul} {now : Stt} (hr : areValid r = true) (h : Sound r now) (h0 : 0 ≤ now.next) : Sound r (begins r (dueNext now.state) now.next) ∧ rank (dueNext now.state) + 1 ≤ rank now.state := by
  rcases h.next hr with ⟨h1, _⟩ | ⟨h1, h2, h3, h4, h5, h6⟩
  · omega
  · obtain ⟨g1, g2, g3⟩ := h
    have hk : rank (dueNext now.state) + 1 ≤ rank now.state := by rcases h1 with e | e | e | e <;> simp [e, dueNext, rank]
    refine ⟨⟨rfl, h5, ?_⟩, hk⟩
    simp only [begins]
    omega
theorem rank_le (s : Int) : rank s ≤ 3 := by unfold rank; split <;> (try split) <;> (try split) <;> omega
theorem Sound.begins {r : Rul} (s t : Int) (h0 : 0 ≤ t) (h1 : t ≤ 20000000) : Sound r (begins r s t) := by
  refine ⟨rfl, h0, ?_⟩
  have := rank_le s
  simp only [Go.Proofs.Ytdamipejlfipcaa.begins]
  omega
theorem aloneF_sound {r : Rul} {u : Int} (hr : areValid r = true) : ∀ (n : Nat) (now : Stt), Sound r now → Sound r (lastOf now (aloneF n r u now)) := by
  intro n
  induction n with
  | zero => intro now h; exact h
  | succ n ih =>
    intro now h
    unfold aloneF
    split
    · rename_i hc
      rw [lastOf_cons]; exact ih _ (h.step hr hc.1).1
    · exact h
theorem drop_getD (l : List Evt) (k : Nat) (h : k < l.length) : l.drop k = l.getD k ⟨0, 0, 0⟩ :: l.drop (k + 1) := by
  rw [List.drop_eq_getElem_cons h]; simp [List.getD_eq_getElem?_getD, h]
theorem runE_void {r : Rul} {b : Bool} {k : Nat} {now now1 : Stt} {l : List Evt} {ev : Evt} (hk : k < l.length) (he : l.getD k ⟨0, 0, 0⟩ = ev) (hn : lastOf now (alone r ev.at_ now) = now1) (ha : (after b now1.state ev).2 = false) :
    runE r b k now (l.drop k) = (alone r ev.at_ now ++ (runE r b (k + 1) now1 (l.drop (k + 1))).1, (k : Int) :: (runE r b (k + 1) now1 (l.drop (k + 1))).2) := by
  rw [drop_getD l k hk, he, runE]
  simp only [hn, ha]
  rfl
theorem runE_go {r : Rul} {b : Bool} {k : Nat} {now now1 : Stt} {l : List Evt} {ev : Evt} (hk : k < l.length) (he : l.getD k ⟨0, 0, 0⟩ = ev) (hn : lastOf now (alone r ev.at_ now) = now1) (ha : (after b now1.state ev).2 = true) :
    runE r b k now (l.drop k) = (alone r ev.at_ now ++ begins r (after b now1.state ev).1 ev.at_ :: (runE r b (k + 1) (begins r (after b now1.state ev).1 ev.at_) (l.drop (k + 1))).1, (runE r b (k + 1) (begins r (after b now1.state ev).1 ev.at_) (l.drop (k + 1))).2) := by
  rw [drop_getD l k hk, he, runE]
  simp only [hn, ha, if_true]
theorem anyBad_at : ∀ (l : List Evt) (last : Int), anyBad last l = false → ∀ k, k < l.length → last ≤ (l.getD k ⟨0, 0, 0⟩).at_ ∧ (l.getD k ⟨0, 0, 0⟩).at_ ≤ 20000000
  | [], _, _, k, hk => by simp at hk
  | e :: l, last, h, k, hk => by
    simp only [anyBad, Bool.or_eq_false_iff, badEvt, Bool.not_eq_false', isIn, Bool.and_eq_true, decide_eq_true_eq] at h
    cases k with
    | zero => simpa using h.1.1.2
    | succ k =>
      have := anyBad_at l e.at_ h.2 k (by simpa using hk)
      simp only [List.getD_cons_succ]
      omega
theorem valid_parts {r : Rul} {c : Clm} {l : List Evt} (h : valid r c l = true) : areValid r = true ∧ isClaim c = true ∧ l.length ≤ 20 ∧ anyBad c.asked l = false := by
  simp only [valid, Bool.and_eq_true, Bool.not_eq_true', decide_eq_true_eq] at h
  exact ⟨h.1.1.1, h.1.1.2, h.1.2, h.2⟩
theorem alone_length (r : Rul) (u : Int) (now : Stt) : (alone r u now).length ≤ 4 := by
  have : ∀ n now, (aloneF n r u now).length ≤ n := by
    intro n
    induction n with
    | zero => intro now; simp [aloneF]
    | succ n ih => intro now; rw [aloneF]; split; simp [ih]; simp
  exact this 4 now
/-- The status at a time. -/
def outcome (r : Rul) (c : Clm) (l : List Evt) (t : Int) : Stt := lastOf ⟨0, 0, c.asked⟩ ((statuses r c l).takeWhile fun s => decide (s.since ≤ t))
theorem takeWhile_self {p : Stt → Bool} : ∀ {l : List Stt}, (∀ s ∈ l, p s = true) → l.takeWhile p = l
  | [], _ => rfl
  | a :: l, h => by rw [List.takeWhile_cons, if_pos (h a (by simp)), takeWhile_self fun s hs => h s (by simp [hs])]
theorem takeWhile_stop {p : Stt → Bool} {x : Stt} {q : List Stt} : ∀ {l : List Stt}, (∀ s ∈ l, p s = true) → p x = false → (l ++ [x] ++ q).takeWhile p = l
  | [], _, hx => by simp [hx]
  | a :: l, h, hx => by
    rw [List.cons_append, List.cons_append, List.takeWhile_cons, if_pos (h a (by simp)), takeWhile_stop (fun s hs => h s (by simp [hs])) hx]
theorem outcome_done {r : Rul} {c : Clm} {l : List Evt} {t : Int} (h : ∀ s ∈ statuses r c l, s.since ≤ t) : outcome r c l t = lastOf ⟨0, 0, c.asked⟩ (statuses r c l) := by
  unfold outcome; rw [takeWhile_self fun s hs => decide_eq_true (h s hs)]
theorem outcome_stop {r : Rul} {c : Clm} {l : List Evt} {t : Int} {p q : List Stt} {x : Stt} (hs : statuses r c l = p ++ [x] ++ q) (h : ∀ s ∈ p, s.since ≤ t) (hx : t < x.since) : outcome r c l t = lastOf ⟨0, 0, c.asked⟩ p := by
  unfold outcome; rw [hs, takeWhile_stop (fun s hs => decide_eq_true (h s hs)) (decide_eq_false (by omega))]
def withAt (r : Rul) (c : Clm) (l : List Evt) (t : Int) : Int := if (outcome r c l t).state = 4 ∨ (outcome r c l t).state = 5 then c.to else c.frm
theorem lastOf_snoc (n s : Stt) (l : List Stt) : lastOf n (l ++ [s]) = s := by simp [lastOf]
/-- What an event makes of a state, the reference's words; -1 if it is void. -/
def becomes (backed : Bool) (s : Int) (e : Evt) : Int :=
  bif (decide (e.kind = 1) && decide (s = 1)) then 3
  else bif (((decide (e.kind = 2) && decide (s = 1)) && decide (e.reason = 1)) && !backed) then 6
  else bif ((decide (e.kind = 2) && decide (s = 1)) && !decide (e.reason = 1)) then 2
  else bif (decide (e.kind = 3) && decide (s = 2)) then 3
  else bif (decide (e.kind = 4) && decide (s = 2)) then 6
  else bif (decide (e.kind = 5) && ((decide (s = 1) || decide (s = 2)) || decide (s = 3))) then 7
  else bif ((decide (e.kind = 6) && decide (s = 4)) && (!decide (e.reason = 1) || !backed)) then 8 else -1
end Go.Proofs.Ytdamipejlfipcaa
