/- Plain definitions: the reference's run, and what integers determine. -/
import Derived.Test.YtdamipejlfipcaaClaimM
namespace Go.Proofs.Ytdamipejlfipcaa
set_option linter.unusedVariables false
def runU (r : Rul) (b : Bool) (u : Int) : Nat → Stt → List Evt → List Stt × List Int
  | _, now, [] => (alone r u now, [])
  | i, now, x :: l =>
    let al := alone r (min x.at_ u) now
    let now1 := lastOf now al
    if u < x.at_ then (al, []) else
    let nx := becomes b now1.state x
    if nx < 0 then
      let q := runU r b u (i + 1) now1 l
      (al ++ q.1, (i : Int) :: q.2)
    else
      let n := begins r nx x.at_
      let q := runU r b u (i + 1) n l
      (al ++ n :: q.1, q.2)
def runS (r : Rul) (c : Clm) (l : List Evt) (u : Int) : List Stt := first r c :: (runU r c.backed u 0 (first r c) l).1
def runV (r : Rul) (c : Clm) (l : List Evt) (u : Int) : List Int := (runU r c.backed u 0 (first r c) l).2
theorem runU_end {r : Rul} {b : Bool} {u : Int} {k : Nat} {now : Stt} {l : List Evt} (hk : l.length ≤ k) : runU r b u k now (l.drop k) = (alone r u now, []) := by
  rw [List.drop_eq_nil_of_le hk, runU]
theorem runU_far {r : Rul} {b : Bool} {u : Int} {k : Nat} {now : Stt} {l : List Evt} {ev : Evt} (hk : k < l.length) (he : l.getD k ⟨0, 0, 0⟩ = ev) (h : u < ev.at_) : runU r b u k now (l.drop k) = (alone r (min ev.at_ u) now, []) := by
  rw [drop_getD l k hk, he, runU]; simp only [h, if_true]
theorem runU_void {r : Rul} {b : Bool} {u : Int} {k : Nat} {now now1 : Stt} {l : List Evt} {ev : Evt} (hk : k < l.length) (he : l.getD k ⟨0, 0, 0⟩ = ev) (h : ¬ u < ev.at_) (hn : lastOf now (alone r (min ev.at_ u) now) = now1) (ha : becomes b now1.state ev < 0) :
    runU r b u k now (l.drop k) = (alone r (min ev.at_ u) now ++ (runU r b u (k + 1) now1 (l.drop (k + 1))).1, (k : Int) :: (runU r b u (k + 1) now1 (l.drop (k + 1))).2) := by
  rw [drop_getD l k hk, he, runU]; simp only [h, hn, ha, if_true, if_false]
theorem runU_go {r : Rul} {b : Bool} {u : Int} {k : Nat} {now now1 : Stt} {l : List Evt} {ev : Evt} (hk : k < l.length) (he : l.getD k ⟨0, 0, 0⟩ = ev) (h : ¬ u < ev.at_) (hn : lastOf now (alone r (min ev.at_ u) now) = now1) (ha : ¬ becomes b now1.state ev < 0) :
    runU r b u k now (l.drop k) = (alone r (min ev.at_ u) now ++ begins r (becomes b now1.state ev) ev.at_ :: (runU r b u (k + 1) (begins r (becomes b now1.state ev) ev.at_) (l.drop (k + 1))).1, (runU r b u (k + 1) (begins r (becomes b now1.state ev) ev.at_) (l.drop (k + 1))).2) := by
  rw [drop_getD l k hk, he, runU]; simp only [h, hn, ha, if_false]
/-- The reference's outcome. -/
def outR (r : Rul) (c : Clm) (l : List Evt) (t : Int) : Stt := if t < c.asked then ⟨0, 0, c.asked⟩ else lastOf ⟨0, 0, 0⟩ (runS r c l t)
/-- What is known of the last status: it began by the time. -/
theorem aloneF_le {r : Rul} {u : Int} : ∀ (n : Nat) (now : Stt), now.since ≤ u → (lastOf now (aloneF n r u now)).since ≤ u := by
  intro n
  induction n with
  | zero => intro now h; exact h
  | succ n ih =>
    intro now h
    unfold aloneF
    split
    · rename_i hc; rw [lastOf_cons]; exact ih _ (by simp only [begins]; exact hc.2)
    · exact h
theorem runU_sound {r : Rul} {b : Bool} {u : Int} (hr : areValid r = true) : ∀ (l : List Evt) (i : Nat) (now : Stt) (last : Int), anyBad last l = false → 0 ≤ last → Sound r now → now.since ≤ u → Sound r (lastOf now (runU r b u i now l).1) ∧ (lastOf now (runU r b u i now l).1).since ≤ u
  | [], i, now, last, _, _, hs, hu => by rw [runU]; exact ⟨aloneF_sound hr 4 now hs, aloneF_le 4 now hu⟩
  | x :: l, i, now, last, hb, h0, hs, hu => by
    have hx := anyBad_at (x :: l) last hb 0 (by simp)
    simp only [List.getD_cons_zero] at hx
    simp only [anyBad, Bool.or_eq_false_iff] at hb
    rw [runU]
    have h1 := aloneF_sound (u := min x.at_ u) hr 4 now hs
    by_cases hf : u < x.at_
    · simp only [hf, if_true]
      exact ⟨h1, Int.le_trans (Int.le_trans (aloneF_le (u := u) (r := r) 4 now hu |> fun h => by rw [show min x.at_ u = u from by omega]; exact h) (Int.le_refl _)) (Int.le_refl _)⟩
    · simp only [hf, if_false]
      have h2 : (lastOf now (alone r (min x.at_ u) now)).since ≤ u := by
        by_cases hq : now.since ≤ min x.at_ u
        · have := aloneF_le (u := min x.at_ u) (r := r) 4 now hq
          exact Int.le_trans this (by omega)
        · have : aloneF 4 r (min x.at_ u) now = [] ∨ True := .inr trivial
          unfold alone
          rcases hs.next hr with ⟨hn, _⟩ | ⟨_, _, hlt, _⟩
          · rw [aloneF_neg (by omega)]; exact hu
          · rw [aloneF_neg (by omega)]; exact hu
      split
      · rw [lastOf_append]
        exact runU_sound hr l (i + 1) _ x.at_ hb.2 (by omega) h1 h2
      · rw [lastOf_append, lastOf_cons]
        exact runU_sound hr l (i + 1) _ x.at_ hb.2 (by omega) (Sound.begins _ _ (by omega) (by omega)) (by simp only [begins]; omega)
theorem outR_next {r : Rul} {c : Clm} {l : List Evt} {t : Int} (hv : valid r c l = true) (h0 : c.asked ≤ t) : (outR r c l t).next ≤ t + 1000000 ∧ -1 ≤ (outR r c l t).next ∧ Sound r (outR r c l t) := by
  obtain ⟨hr, hc, hlen, hbad⟩ := valid_parts hv
  have hcl := isClaim_le hc
  have hf : Sound r (first r c) := Sound.begins 1 c.asked (by omega) (by omega)
  have := runU_sound (b := c.backed) (u := t) hr l 0 (first r c) c.asked hbad (by omega) hf (by simp only [first, begins]; omega)
  unfold outR runS
  rw [if_neg (by omega), lastOf_cons]
  refine ⟨?_, ?_, this.1⟩ <;> rcases this.1.next hr with ⟨hn, _⟩ | ⟨_, _, h1, h2, h3, h4⟩ <;> omega
end Go.Proofs.Ytdamipejlfipcaa
