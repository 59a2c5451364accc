/- Plain laws: claims with at most two events; no program in sight. -/
import Derived.Test.YtdamipejlfipcaaClaimO
namespace Go.Proofs.Ytdamipejlfipcaa
set_option linter.unusedVariables false
set_option linter.unusedSimpArgs false
theorem begins1 (r : Rul) (s : Int) : begins r 1 s = ⟨1, s, s + r.answer⟩ := rfl
theorem begins2 (r : Rul) (s : Int) : begins r 2 s = ⟨2, s, s + r.settle⟩ := rfl
theorem begins3 (r : Rul) (s : Int) : begins r 3 s = ⟨3, s, s + r.cooling⟩ := rfl
theorem begins4 (r : Rul) (s : Int) : begins r 4 s = ⟨4, s, s + r.reverse⟩ := rfl
theorem begins5 (r : Rul) (s : Int) : begins r 5 s = ⟨5, s, -1⟩ := rfl
theorem begins8 (r : Rul) (s : Int) : begins r 8 s = ⟨8, s, -1⟩ := rfl
theorem due1 : dueNext 1 = 3 := rfl
theorem due2 : dueNext 2 = 3 := rfl
theorem due3 : dueNext 3 = 4 := rfl
theorem due4 : dueNext 4 = 5 := rfl
theorem aloneF_shut {n : Nat} {r : Rul} {u : Int} {s t : Int} : aloneF n r u ⟨s, t, -1⟩ = [] := aloneF_neg (by simp)
theorem aloneF_4 {n : Nat} {r : Rul} {u s : Int} (h0 : 0 ≤ s + r.reverse) (h : s + r.reverse ≤ u) : aloneF (n + 1) r u ⟨4, s, s + r.reverse⟩ = [⟨5, s + r.reverse, -1⟩] := by
  rw [aloneF_pos h0 h]; rw [due4, begins5, aloneF_shut]
theorem aloneF_3 {n : Nat} {r : Rul} {u s : Int} (hs : 0 ≤ s) (h1 : 0 ≤ r.cooling) (h2 : 0 ≤ r.reverse) (h : s + r.cooling + r.reverse ≤ u) : aloneF (n + 2) r u ⟨3, s, s + r.cooling⟩ = [⟨4, s + r.cooling, s + r.cooling + r.reverse⟩, ⟨5, s + r.cooling + r.reverse, -1⟩] := by
  rw [aloneF_pos (by simp only; omega) (by simp only; omega)]; rw [due3, begins4, aloneF_4 (by omega) h]
theorem aloneF_2 {n : Nat} {r : Rul} {u s : Int} (hs : 0 ≤ s) (h0 : 0 ≤ r.settle) (h1 : 0 ≤ r.cooling) (h2 : 0 ≤ r.reverse) (h : s + r.settle + r.cooling + r.reverse ≤ u) :
    aloneF (n + 3) r u ⟨2, s, s + r.settle⟩ = [⟨3, s + r.settle, s + r.settle + r.cooling⟩, ⟨4, s + r.settle + r.cooling, s + r.settle + r.cooling + r.reverse⟩, ⟨5, s + r.settle + r.cooling + r.reverse, -1⟩] := by
  rw [aloneF_pos (by simp only; omega) (by simp only; omega)]; rw [due2, begins3, aloneF_3 (by omega) h1 h2 h]
theorem aloneF_1 {n : Nat} {r : Rul} {u s : Int} (hs : 0 ≤ s) (h0 : 0 ≤ r.answer) (h1 : 0 ≤ r.cooling) (h2 : 0 ≤ r.reverse) (h : s + r.answer + r.cooling + r.reverse ≤ u) :
    aloneF (n + 3) r u ⟨1, s, s + r.answer⟩ = [⟨3, s + r.answer, s + r.answer + r.cooling⟩, ⟨4, s + r.answer + r.cooling, s + r.answer + r.cooling + r.reverse⟩, ⟨5, s + r.answer + r.cooling + r.reverse, -1⟩] := by
  rw [aloneF_pos (by simp only; omega) (by simp only; omega)]; rw [due1, begins3, aloneF_3 (by omega) h1 h2 h]
theorem alone_wait {r : Rul} {u s t n : Int} (h : u < n) : alone r u ⟨s, t, n⟩ = [] := aloneF_neg (by simp only; omega)
theorem lastOf_nil (now : Stt) : lastOf now [] = now := rfl
theorem lastOf_one (now s : Stt) : lastOf now [s] = s := rfl

theorem runE_yes {r : Rul} {b : Bool} {i : Nat} {now now1 : Stt} {l : List Evt} {x : Evt} (hn : lastOf now (alone r x.at_ now) = now1) (ha : (after b now1.state x).2 = true) :
    runE r b i now (x :: l) = (alone r x.at_ now ++ begins r (after b now1.state x).1 x.at_ :: (runE r b (i + 1) (begins r (after b now1.state x).1 x.at_) l).1, (runE r b (i + 1) (begins r (after b now1.state x).1 x.at_) l).2) := by
  rw [runE]; simp only [hn, ha, if_true]
theorem runE_no {r : Rul} {b : Bool} {i : Nat} {now now1 : Stt} {l : List Evt} {x : Evt} (hn : lastOf now (alone r x.at_ now) = now1) (ha : (after b now1.state x).2 = false) :
    runE r b i now (x :: l) = (alone r x.at_ now ++ (runE r b (i + 1) now1 l).1, (i : Int) :: (runE r b (i + 1) now1 l).2) := by
  rw [runE]; simp only [hn, ha]; rfl
theorem after_consent (b : Bool) (t : Int) : after b 1 ⟨1, t, 0⟩ = (3, true) := by simp [after, effect]
theorem after_object {b : Bool} {t q : Int} (hq : q ≠ 1) : after b 1 ⟨2, t, q⟩ = (2, true) := by simp [after, effect, hq]
theorem after_reverse {b : Bool} {t q : Int} (hq : q ≠ 1) : after b 4 ⟨6, t, q⟩ = (8, true) := by simp [after, effect, hq]
/-- No events. -/
theorem statuses_nil {r : Rul} {c : Clm} (hr : areValid r = true) (hc : isClaim c = true) :
    statuses r c [] = [⟨1, c.asked, c.asked + r.answer⟩, ⟨3, c.asked + r.answer, c.asked + r.answer + r.cooling⟩, ⟨4, c.asked + r.answer + r.cooling, c.asked + r.answer + r.cooling + r.reverse⟩, ⟨5, c.asked + r.answer + r.cooling + r.reverse, -1⟩] := by
  have h1 := areValid_le hr
  have h2 := isClaim_le hc
  simp only [statuses, runE, first, begins1, alone]
  rw [aloneF_1 (n := 1) (by omega) (by omega) (by omega) (by omega) (by omega)]
/-- The losing carrier consents, nothing else happens. -/
theorem statuses_consent {r : Rul} {c : Clm} {d : Int} (hr : areValid r = true) (hc : isClaim c = true) (h0 : 0 ≤ d) (hd : d < r.answer) :
    statuses r c [⟨1, c.asked + d, 0⟩] = [⟨1, c.asked, c.asked + r.answer⟩, ⟨3, c.asked + d, c.asked + d + r.cooling⟩, ⟨4, c.asked + d + r.cooling, c.asked + d + r.cooling + r.reverse⟩, ⟨5, c.asked + d + r.cooling + r.reverse, -1⟩] := by
  have h1 := areValid_le hr
  have h2 := isClaim_le hc
  rw [statuses, first, begins1, runE_yes (now1 := ⟨1, c.asked, c.asked + r.answer⟩) (by rw [alone_wait (by simp only; omega)]; rfl) (by rw [after_consent])]
  simp only [after_consent, begins3, runE, alone]
  rw [aloneF_3 (n := 2) (by omega) (by omega) (by omega) (by omega), aloneF_neg (by simp only; omega)]
  rfl
/-- An objection in the last second for answering. -/
theorem statuses_object {r : Rul} {c : Clm} {q : Int} (hr : areValid r = true) (hc : isClaim c = true) (hq : q ≠ 1) :
    statuses r c [⟨2, c.asked + r.answer - 1, q⟩] = [⟨1, c.asked, c.asked + r.answer⟩, ⟨2, c.asked + r.answer - 1, c.asked + r.answer - 1 + r.settle⟩, ⟨3, c.asked + r.answer - 1 + r.settle, c.asked + r.answer - 1 + r.settle + r.cooling⟩,
      ⟨4, c.asked + r.answer - 1 + r.settle + r.cooling, ends r c⟩, ⟨5, ends r c, -1⟩] := by
  have h1 := areValid_le hr
  have h2 := isClaim_le hc
  rw [statuses, first, begins1, runE_yes (now1 := ⟨1, c.asked, c.asked + r.answer⟩) (by rw [alone_wait (by simp only; omega)]; rfl) (by rw [after_object hq])]
  simp only [after_object hq, begins2, runE, alone]
  rw [aloneF_2 (n := 1) (by omega) (by omega) (by omega) (by omega) (by omega), aloneF_neg (by simp only; omega)]
  rfl
theorem takeW_pos {t : Int} {a : Stt} {l : List Stt} (h : a.since ≤ t) : (a :: l).takeWhile (fun s => decide (s.since ≤ t)) = a :: l.takeWhile (fun s => decide (s.since ≤ t)) := List.takeWhile_cons_of_pos (by simpa using h)
theorem takeW_neg {t : Int} {a : Stt} {l : List Stt} (h : t < a.since) : (a :: l).takeWhile (fun s => decide (s.since ≤ t)) = [] := List.takeWhile_cons_of_neg (by simpa using h)
section
variable {r : Rul} {c : Clm} {l : List Evt} {t : Int}
theorem out0 {s1 : Stt} {q : List Stt} (h : statuses r c l = s1 :: q) (h1 : t < s1.since) : outcome r c l t = ⟨0, 0, c.asked⟩ := by
  rw [outcome, h, takeW_neg h1]; rfl
theorem out1 {s1 s2 : Stt} {q : List Stt} (h : statuses r c l = s1 :: s2 :: q) (h1 : s1.since ≤ t) (h2 : t < s2.since) : outcome r c l t = s1 := by
  rw [outcome, h, takeW_pos h1, takeW_neg h2]; rfl
theorem out2 {s1 s2 s3 : Stt} {q : List Stt} (h : statuses r c l = s1 :: s2 :: s3 :: q) (h1 : s1.since ≤ t) (h2 : s2.since ≤ t) (h3 : t < s3.since) : outcome r c l t = s2 := by
  rw [outcome, h, takeW_pos h1, takeW_pos h2, takeW_neg h3]; rfl
theorem out3 {s1 s2 s3 s4 : Stt} {q : List Stt} (h : statuses r c l = s1 :: s2 :: s3 :: s4 :: q) (h1 : s1.since ≤ t) (h2 : s2.since ≤ t) (h3 : s3.since ≤ t) (h4 : t < s4.since) : outcome r c l t = s3 := by
  rw [outcome, h, takeW_pos h1, takeW_pos h2, takeW_pos h3, takeW_neg h4]; rfl
theorem out4e {s1 s2 s3 s4 : Stt} (h : statuses r c l = [s1, s2, s3, s4]) (h1 : s1.since ≤ t) (h2 : s2.since ≤ t) (h3 : s3.since ≤ t) (h4 : s4.since ≤ t) : outcome r c l t = s4 := by
  rw [outcome, h, takeW_pos h1, takeW_pos h2, takeW_pos h3, takeW_pos h4]; rfl
theorem out4 {s1 s2 s3 s4 s5 : Stt} {q : List Stt} (h : statuses r c l = s1 :: s2 :: s3 :: s4 :: s5 :: q) (h1 : s1.since ≤ t) (h2 : s2.since ≤ t) (h3 : s3.since ≤ t) (h4 : s4.since ≤ t) (h5 : t < s5.since) : outcome r c l t = s4 := by
  rw [outcome, h, takeW_pos h1, takeW_pos h2, takeW_pos h3, takeW_pos h4, takeW_neg h5]; rfl
theorem out5e {s1 s2 s3 s4 s5 : Stt} (h : statuses r c l = [s1, s2, s3, s4, s5]) (h1 : s1.since ≤ t) (h2 : s2.since ≤ t) (h3 : s3.since ≤ t) (h4 : s4.since ≤ t) (h5 : s5.since ≤ t) : outcome r c l t = s5 := by
  rw [outcome, h, takeW_pos h1, takeW_pos h2, takeW_pos h3, takeW_pos h4, takeW_pos h5]; rfl
end
theorem valid_nil {r : Rul} {c : Clm} (hr : areValid r = true) (hc : isClaim c = true) : valid r c [] = true := by simp [valid, hr, hc, anyBad]
theorem valid_one {r : Rul} {c : Clm} {e : Evt} (hr : areValid r = true) (hc : isClaim c = true) (he : badEvt c.asked e = false) : valid r c [e] = true := by simp [valid, hr, hc, anyBad, he]
theorem valid_two {r : Rul} {c : Clm} {e f : Evt} (hr : areValid r = true) (hc : isClaim c = true) (he : badEvt c.asked e = false) (hf : badEvt e.at_ f = false) : valid r c [e, f] = true := by simp [valid, hr, hc, anyBad, he, hf]

/-! ### all is over at Ends -/
/-- How long it may take from a state that began by a time. -/
def bnd (r : Rul) (c : Clm) (s : Int) : Int :=
  if s = 1 then c.asked else if s = 2 then c.asked + r.answer - 1 else if s = 3 then c.asked + r.answer - 1 + r.settle else if s = 4 then c.asked + r.answer - 1 + r.settle + r.cooling else ends r c
def Tame (r : Rul) (c : Clm) (now : Stt) : Prop := Sound r now ∧ now.since ≤ bnd r c now.state ∧ (1 ≤ now.state ∧ now.state ≤ 8)
theorem bnd_le {r : Rul} {c : Clm} (hr : areValid r = true) (s : Int) : bnd r c s ≤ ends r c := by
  have h1 := areValid_le hr
  unfold bnd ends; split <;> (try split) <;> (try split) <;> (try split) <;> omega
theorem Tame.step {r : Rul} {c : Clm} {now : Stt} (hr : areValid r = true) (h : Tame r c now) (h0 : 0 ≤ now.next) : Tame r c (begins r (dueNext now.state) now.next) := by
  have hb := areValid_le hr
  obtain ⟨hs, ht, hlo, hhi⟩ := h
  have hk := hs.step hr h0
  refine ⟨hk.1, ?_⟩
  have hn : now.next = (begins r now.state now.since).next := by rw [← hs.1]
  simp only [begins, dueSec, dueNext, bnd, ends] at *
  by_cases e1 : now.state = 1
  · simp [e1] at *; omega
  by_cases e2 : now.state = 2
  · simp [e2] at *; omega
  by_cases e3 : now.state = 3
  · simp [e3] at *; omega
  by_cases e4 : now.state = 4
  · simp [e4] at *; omega
  · simp [e1, e2, e3, e4] at hn; omega
theorem effect_some {k s n : Int} (h : effect k s = some n) : (k = 1 ∧ s = 1 ∧ n = 3) ∨ (k = 2 ∧ s = 1 ∧ n = 2) ∨ (k = 3 ∧ s = 2 ∧ n = 3) ∨ (k = 4 ∧ s = 2 ∧ n = 6) ∨ (k = 5 ∧ s = 1 ∧ n = 7) ∨ (k = 5 ∧ s = 2 ∧ n = 7) ∨ (k = 5 ∧ s = 3 ∧ n = 7) ∨ (k = 6 ∧ s = 4 ∧ n = 8) := by
  unfold effect at h
  repeat' split at h
  all_goals (first | (cases h; omega) | cases h)
/-- What an event that is not void makes of a state. -/
theorem after_yes {b : Bool} {s : Int} {e : Evt} (h : (after b s e).2 = true) : (s = 1 ∧ (after b s e).1 = 3 ∧ e.kind = 1) ∨ (s = 1 ∧ (after b s e).1 = 2 ∧ e.kind = 2 ∧ e.reason ≠ 1) ∨ (s = 2 ∧ (after b s e).1 = 3) ∨ ((s = 1 ∨ s = 2 ∨ s = 3 ∨ s = 4) ∧ 6 ≤ (after b s e).1 ∧ (after b s e).1 ≤ 8) := by
  unfold after at *
  split at h
  · rename_i hr
    simp only [Bool.and_eq_true] at h
    obtain ⟨n, hn⟩ := Option.isSome_iff_exists.1 h.1
    simp only [hr, if_true, hn, Option.getD_some]
    rcases effect_some hn with ⟨h1, h2, h3⟩ | ⟨h1, h2, h3⟩ | ⟨h1, h2, h3⟩ | ⟨h1, h2, h3⟩ | ⟨h1, h2, h3⟩ | ⟨h1, h2, h3⟩ | ⟨h1, h2, h3⟩ | ⟨h1, h2, h3⟩ <;> simp [h1, h2, h3]
  · rename_i hr
    obtain ⟨n, hn⟩ := Option.isSome_iff_exists.1 h
    simp only [hr, if_false, hn, Option.getD_some]
    rcases effect_some hn with ⟨h1, h2, h3⟩ | ⟨h1, h2, h3⟩ | ⟨h1, h2, h3⟩ | ⟨h1, h2, h3⟩ | ⟨h1, h2, h3⟩ | ⟨h1, h2, h3⟩ | ⟨h1, h2, h3⟩ | ⟨h1, h2, h3⟩ <;> simp [h1, h2, h3, hr]
theorem aloneF_all {r : Rul} {u : Int} {p : Stt → Prop} (hp : ∀ now, p now → 0 ≤ now.next → now.next ≤ u → p (begins r (dueNext now.state) now.next)) : ∀ (n : Nat) (now : Stt), p now → (∀ s ∈ aloneF n r u now, p s) ∧ p (lastOf now (aloneF n r u now)) := by
  intro n
  induction n with
  | zero => intro now h; exact ⟨by simp [aloneF], h⟩
  | succ n ih =>
    intro now h
    unfold aloneF
    split
    · rename_i hc
      have h1 := hp now h hc.1 hc.2
      obtain ⟨h2, h3⟩ := ih _ h1
      exact ⟨fun s hs => by rcases List.mem_cons.1 hs with rfl | hs; exact h1; exact h2 s hs, by rw [lastOf_cons]; exact h3⟩
    · exact ⟨by simp, h⟩
/-- Behind what happens by itself nothing is due by then. -/
theorem aloneF_done {r : Rul} {u : Int} (hr : areValid r = true) : ∀ (n : Nat) (now : Stt), rank now.state ≤ n → Sound r now → (lastOf now (aloneF n r u now)).next < 0 ∨ u < (lastOf now (aloneF n r u now)).next := by
  intro n
  induction n with
  | zero =>
    intro now h hs
    rw [aloneF, lastOf_nil]
    rcases hs.next hr with ⟨h1, _⟩ | ⟨_, h2, _⟩
    · exact .inl (by omega)
    · omega
  | succ n ih =>
    intro now h hs
    unfold aloneF
    split
    · rename_i hc
      have h1 := hs.step hr hc.1
      rw [lastOf_cons]
      exact ih _ (by simp only [begins]; omega) h1.1
    · rename_i hc
      rw [lastOf_nil]; omega
theorem alone_done {r : Rul} {u : Int} {now : Stt} (hr : areValid r = true) (hs : Sound r now) : (lastOf now (alone r u now)).next < 0 ∨ u < (lastOf now (alone r u now)).next := aloneF_done hr 4 now (Nat.le_trans (rank_le _) (by omega)) hs
theorem Sound.ge {r : Rul} {now : Stt} (hr : areValid r = true) (h : Sound r now) : 0 ≤ now.next → now.since < now.next := fun h0 => by
  rcases h.next hr with ⟨h1, _⟩ | ⟨_, _, h3, _⟩ <;> omega
/-- What holds of the first status, is kept by what happens by itself and by the events, holds of all. -/
theorem runE_all {r : Rul} {b : Bool} {p : Stt → Prop} (hr : areValid r = true) (hps : ∀ now, p now → Sound r now) (hp : ∀ now, p now → 0 ≤ now.next → p (begins r (dueNext now.state) now.next))
    (he : ∀ now x, p now → (now.next < 0 ∨ x.at_ < now.next) → 0 ≤ x.at_ → x.at_ ≤ 20000000 → (after b now.state x).2 = true → p (begins r (after b now.state x).1 x.at_)) :
    ∀ (l : List Evt) (last : Int) (i : Nat) (now : Stt), anyBad last l = false → 0 ≤ last → p now → (∀ s ∈ (runE r b i now l).1, p s) ∧ p (lastOf now (runE r b i now l).1) ∧ (lastOf now (runE r b i now l).1).next < 0
  | [], last, i, now, _, _, h => by
    rw [runE]
    obtain ⟨h1, h2⟩ := aloneF_all (u := 4611686018427387904) (fun now h h0 _ => hp now h h0) 4 now h
    refine ⟨h1, h2, ?_⟩
    rcases alone_done (u := 4611686018427387904) hr (hps _ h) with h3 | h3
    · exact h3
    · have h4 := hps _ h2
      rcases h4.next hr with ⟨h5, _⟩ | ⟨_, _, _, _, _, h6⟩
      · rw [alone] at h3; omega
      · have h7 : (4611686018427387904 : Int) < (lastOf now (aloneF 4 r 4611686018427387904 now)).next := h3
        have : (lastOf now (aloneF 4 r 4611686018427387904 now)).next ≤ 30000000 := h6
        omega
  | x :: l, last, i, now, hb, h0, h => by
    have hx := anyBad_at (x :: l) last hb 0 (by simp)
    simp only [List.getD_cons_zero] at hx
    simp only [anyBad, Bool.or_eq_false_iff] at hb
    rw [runE]
    obtain ⟨h1, h2⟩ := aloneF_all (u := x.at_) (fun now h h0 _ => hp now h h0) 4 now h
    have hd := alone_done (u := x.at_) hr (hps _ h)
    simp only
    split
    · rename_i ha
      have hn := he _ x h2 hd (by omega) hx.2 ha
      obtain ⟨g1, g2, g3⟩ := runE_all hr hps hp he l x.at_ (i + 1) _ hb.2 (by omega) hn
      refine ⟨fun s hs => ?_, ?_, ?_⟩
      · rcases List.mem_append.1 hs with hs | hs
        · exact h1 s hs
        · rcases List.mem_cons.1 hs with rfl | hs
          · exact hn
          · exact g1 s hs
      · rw [lastOf_append, lastOf_cons]; exact g2
      · rw [lastOf_append, lastOf_cons]; exact g3
    · obtain ⟨g1, g2, g3⟩ := runE_all hr hps hp he l x.at_ (i + 1) _ hb.2 (by omega) h2
      refine ⟨fun s hs => ?_, ?_, ?_⟩
      · rcases List.mem_append.1 hs with hs | hs
        · exact h1 s hs
        · exact g1 s hs
      · rw [lastOf_append]; exact g2
      · rw [lastOf_append]; exact g3
theorem first_tame {r : Rul} {c : Clm} (hc : isClaim c = true) : Tame r c (first r c) := by
  have h2 := isClaim_le hc
  exact ⟨Sound.begins 1 c.asked (by omega) (by omega), by simp [first, begins, bnd], by simp [first, begins]⟩
theorem statuses_tame {r : Rul} {c : Clm} {l : List Evt} (hv : valid r c l = true) : (∀ s ∈ statuses r c l, Tame r c s) ∧ Tame r c (lastOf ⟨0, 0, c.asked⟩ (statuses r c l)) ∧ (lastOf ⟨0, 0, c.asked⟩ (statuses r c l)).next < 0 := by
  obtain ⟨hr, hc, _, hb⟩ := valid_parts hv
  have h1 := areValid_le hr
  have h2 := isClaim_le hc
  obtain ⟨g1, g2, g3⟩ := runE_all (p := Tame r c) (b := c.backed) hr (fun _ h => h.1) (fun _ h h0 => h.step hr h0) (fun now x h hn h0 hm ha => by
    refine ⟨Sound.begins _ _ h0 hm, ?_, ?_⟩
    · obtain ⟨hs, ht, hlo, hhi⟩ := h
      have hnx : now.next = (begins r now.state now.since).next := by rw [← hs.1]
      have hs0 := hs.2.1
      simp only [begins, dueSec] at hnx
      rcases after_yes ha with ⟨e, e', _⟩ | ⟨e, e', _⟩ | ⟨e, e'⟩ | ⟨e, e', e''⟩
      · simp only [begins]; rw [e']; simp [e, bnd, ends] at ht hnx ⊢; omega
      · simp only [begins]; rw [e']; simp [e, bnd, ends] at ht hnx ⊢; omega
      · simp only [begins]; rw [e']; simp [e, bnd, ends] at ht hnx ⊢; omega
      · simp only [begins]
        have hb2 : bnd r c (after c.backed now.state x).1 = ends r c := by unfold bnd; rw [if_neg (by omega), if_neg (by omega), if_neg (by omega), if_neg (by omega)]
        rw [hb2]; unfold ends
        rcases e with e | e | e | e <;> simp [e, bnd, ends] at ht hnx <;> omega
    · simp only [begins]
      rcases after_yes ha with ⟨e, e', _⟩ | ⟨e, e', _⟩ | ⟨e, e'⟩ | ⟨e, e', e''⟩ <;> omega) l c.asked 0 (first r c) hb (by omega) (first_tame hc)
  refine ⟨fun s hs => ?_, ?_, ?_⟩
  · rw [statuses] at hs
    rcases List.mem_cons.1 hs with rfl | hs
    · exact first_tame hc
    · exact g1 s hs
  · rw [statuses, lastOf_cons]; exact g2
  · rw [statuses, lastOf_cons]; exact g3
/-- From Ends on a claim is closed. -/
theorem outcome_ends {r : Rul} {c : Clm} {l : List Evt} (hv : valid r c l = true) : ∃ s : Stt, s.next = -1 ∧ 5 ≤ s.state ∧ s.since ≤ ends r c ∧ ∀ t, ends r c ≤ t → outcome r c l t = s := by
  obtain ⟨hr, _⟩ := valid_parts hv
  obtain ⟨g1, g2, g3⟩ := statuses_tame hv
  refine ⟨_, ?_, ?_, Int.le_trans g2.2.1 (bnd_le hr _), fun t ht => outcome_done fun s hs => Int.le_trans (Int.le_trans (g1 s hs).2.1 (bnd_le hr _)) ht⟩
  · rcases g2.1.next hr with ⟨h, _⟩ | ⟨_, _, _, _, h, _⟩ <;> omega
  · rcases g2.1.next hr with ⟨_, h⟩ | ⟨_, _, _, _, h, _⟩
    · unfold rank at h
      have := g2.2.2
      split at h
      · cases h
      · split at h
        · cases h
        · split at h
          · cases h
          · omega
    · omega
end Go.Proofs.Ytdamipejlfipcaa
