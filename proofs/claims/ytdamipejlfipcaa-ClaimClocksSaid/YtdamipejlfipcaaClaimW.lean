/- Plain laws of timelines: later events, void events, moves; no program in sight. -/
import Derived.Test.YtdamipejlfipcaaClaimQ
namespace Go.Proofs.Ytdamipejlfipcaa
set_option linter.unusedVariables false
set_option linter.unusedSimpArgs false
theorem lastOf_map {f : Stt → Stt} (now : Stt) (l : List Stt) : lastOf (f now) (l.map f) = f (lastOf now l) := by
  induction l generalizing now with
  | nil => rfl
  | cons a l ih => rw [List.map_cons, lastOf_cons, lastOf_cons, ih]
theorem lastOf_mem (now : Stt) (l : List Stt) : lastOf now l = now ∨ lastOf now l ∈ l := by
  induction l generalizing now with
  | nil => exact .inl rfl
  | cons a l ih =>
    rw [lastOf_cons]
    rcases ih a with h | h
    · rw [h]; exact .inr (by simp)
    · exact .inr (List.mem_cons_of_mem _ h)
theorem begins_next (r : Rul) (s t : Int) : (∃ d, dueSec r s = some d ∧ (begins r s t).next = t + d) ∨ (dueSec r s = none ∧ (begins r s t).next = -1) := by
  unfold begins
  cases dueSec r s with
  | none => exact .inr ⟨rfl, rfl⟩
  | some d => exact .inl ⟨d, rfl, rfl⟩
theorem dueSec_pos {r : Rul} (hr : areValid r = true) {s d : Int} (h : dueSec r s = some d) : 1 ≤ d ∧ d ≤ 1000000 := by
  have h1 := areValid_le hr
  unfold dueSec at h
  repeat' split at h
  all_goals (first | (cases h; omega) | cases h)

/-! ### later by as much -/
def shS (d : Int) (s : Stt) : Stt := ⟨s.state, s.since + d, if 0 ≤ s.next then s.next + d else s.next⟩
def shE (d : Int) (e : Evt) : Evt := ⟨e.kind, e.at_ + d, e.reason⟩
def shC (d : Int) (c : Clm) : Clm := ⟨c.number, c.frm, c.to, c.holder, c.asked + d, c.backed⟩
theorem begins_sh {r : Rul} {s t d : Int} (hr : areValid r = true) (ht : 0 ≤ t) : begins r s (t + d) = shS d (begins r s t) := by
  unfold begins shS
  cases h : dueSec r s with
  | none => simp
  | some n =>
    have := dueSec_pos hr h
    simp only
    rw [if_pos (by omega)]
    congr 1; omega
theorem aloneF_sh {r : Rul} {u u' d : Int} (hr : areValid r = true) (hd : 0 ≤ d) (hu : ∀ n : Int, 0 ≤ n → n ≤ 30000000 → (n ≤ u ↔ n + d ≤ u')) : ∀ (n : Nat) (now : Stt), Sound r now → aloneF n r u' (shS d now) = (aloneF n r u now).map (shS d) := by
  intro n
  induction n with
  | zero => intro now _; rfl
  | succ n ih =>
    intro now h
    by_cases h0 : 0 ≤ now.next
    · have hn : now.next ≤ 30000000 := by rcases h.next hr with ⟨h1, _⟩ | ⟨_, _, _, _, _, h2⟩ <;> omega
      have e : (shS d now).next = now.next + d := by simp [shS, h0]
      have hs := h.step hr h0
      by_cases hc : now.next ≤ u
      · rw [aloneF_pos (by rw [e]; omega) (by rw [e]; exact (hu _ h0 hn).1 hc), aloneF_pos h0 hc, e]
        have e2 : begins r (dueNext (shS d now).state) (now.next + d) = shS d (begins r (dueNext now.state) now.next) := by rw [← begins_sh hr h0]; rfl
        rw [e2, ih _ hs.1]; rfl
      · rw [aloneF_neg (by rw [e]; intro hh; exact hc ((hu _ h0 hn).2 hh.2)), aloneF_neg (by omega)]; rfl
    · have e : (shS d now).next = now.next := by simp [shS, h0]
      rw [aloneF_neg (by rw [e]; omega), aloneF_neg (by omega)]; rfl
theorem runE_sh {r : Rul} {b : Bool} {d : Int} (hr : areValid r = true) (hd : 0 ≤ d) (hd2 : d ≤ 1000000) : ∀ (l : List Evt) (i : Nat) (now : Stt) (last : Int), anyBad last l = false → 0 ≤ last → Sound r now →
    runE r b i (shS d now) (l.map (shE d)) = ((runE r b i now l).1.map (shS d), (runE r b i now l).2)
  | [], i, now, last, _, _, h => by
    simp only [List.map_nil, runE, alone]
    rw [aloneF_sh hr hd (u := 4611686018427387904) (fun n h0 h1 => by omega) 4 now h]
  | x :: l, i, now, last, hb, h0, h => by
    have hx := anyBad_at (x :: l) last hb 0 (by simp)
    simp only [List.getD_cons_zero] at hx
    simp only [anyBad, Bool.or_eq_false_iff] at hb
    have hal : alone r (shE d x).at_ (shS d now) = (alone r x.at_ now).map (shS d) := aloneF_sh hr hd (fun n h0 h1 => by simp only [shE]; omega) 4 now h
    have hl : lastOf (shS d now) (alone r (shE d x).at_ (shS d now)) = shS d (lastOf now (alone r x.at_ now)) := by rw [hal, lastOf_map]
    have hs1 : Sound r (lastOf now (alone r x.at_ now)) := aloneF_sound hr 4 now h
    have haft : after b (shS d (lastOf now (alone r x.at_ now))).state (shE d x) = after b (lastOf now (alone r x.at_ now)).state x := rfl
    rw [List.map_cons]
    cases ha : (after b (lastOf now (alone r x.at_ now)).state x).2 with
    | true =>
      rw [runE_yes hl (by rw [haft]; exact ha), runE_yes rfl ha, haft, hal]
      have e2 : begins r (after b (lastOf now (alone r x.at_ now)).state x).1 (shE d x).at_ = shS d (begins r (after b (lastOf now (alone r x.at_ now)).state x).1 x.at_) := begins_sh hr (by omega)
      rw [e2, runE_sh hr hd hd2 l (i + 1) _ x.at_ hb.2 (by omega) (Sound.begins _ _ (by omega) hx.2)]
      simp
    | false =>
      rw [runE_no hl (by rw [haft]; exact ha), runE_no rfl ha, hal, runE_sh hr hd hd2 l (i + 1) _ x.at_ hb.2 (by omega) hs1]
      simp
theorem statuses_sh {r : Rul} {c : Clm} {l : List Evt} {d : Int} (hv : valid r c l = true) (hd : 0 ≤ d) (hd2 : d ≤ 1000000) : statuses r (shC d c) (l.map (shE d)) = (statuses r c l).map (shS d) ∧ voids r (shC d c) (l.map (shE d)) = voids r c l := by
  obtain ⟨hr, hc, _, hb⟩ := valid_parts hv
  have h2 := isClaim_le hc
  have hf : first r (shC d c) = shS d (first r c) := begins_sh hr (by omega)
  have := runE_sh (b := c.backed) hr hd hd2 l 0 (first r c) c.asked hb (by omega) (Sound.begins 1 c.asked (by omega) (by omega))
  unfold statuses voids
  rw [hf]
  exact ⟨by rw [show (shC d c).backed = c.backed from rfl, this]; rfl, by rw [show (shC d c).backed = c.backed from rfl, this]⟩
theorem lastAt_cons (last : Int) (x : Evt) (l : List Evt) : lastAt last (x :: l) (l.length + 1) = lastAt x.at_ l l.length := by
  cases l with
  | nil => rfl
  | cons y l => simp [lastAt]
theorem anyBad_le : ∀ (l : List Evt) (last : Int), anyBad last l = false → last ≤ lastAt last l l.length ∧ ∀ e ∈ l, last ≤ e.at_ ∧ e.at_ ≤ lastAt last l l.length ∧ e.at_ ≤ 20000000 ∧ (1 ≤ e.kind ∧ e.kind ≤ 6)
  | [], last, _ => ⟨by simp [lastAt], by simp⟩
  | x :: l, last, hb => by
    have hx := anyBad_at (x :: l) last hb 0 (by simp)
    simp only [List.getD_cons_zero] at hx
    simp only [anyBad, Bool.or_eq_false_iff] at hb
    obtain ⟨h1, h2⟩ := anyBad_le l x.at_ hb.2
    have hk : 1 ≤ x.kind ∧ x.kind ≤ 6 := by
      have := hb.1
      simp only [badEvt, Bool.or_eq_false_iff, Bool.not_eq_false', isIn, Bool.and_eq_true, decide_eq_true_eq] at this
      exact this.1.1
    rw [List.length_cons, lastAt_cons]
    refine ⟨by omega, fun e he => ?_⟩
    rcases List.mem_cons.1 he with rfl | he
    · exact ⟨hx.1, h1, hx.2, hk⟩
    · have := h2 e he
      exact ⟨by omega, this.2⟩
theorem anyBad_sh {d : Int} : ∀ (l : List Evt) (last : Int), anyBad last l = false → (∀ e ∈ l, e.at_ + d ≤ 20000000) → anyBad (last + d) (l.map (shE d)) = false
  | [], _, _, _ => rfl
  | x :: l, last, hb, ha => by
    have hx := ha x (by simp)
    simp only [anyBad, Bool.or_eq_false_iff] at hb
    rw [List.map_cons, anyBad, Bool.or_eq_false_iff]
    refine ⟨?_, anyBad_sh l x.at_ hb.2 fun e he => ha e (by simp [he])⟩
    have h1 := hb.1
    simp only [badEvt, Bool.or_eq_false_iff, Bool.not_eq_false', isIn, Bool.and_eq_true, decide_eq_true_eq] at h1 ⊢
    exact ⟨⟨h1.1.1, by simp only [shE]; omega⟩, h1.2⟩
theorem mkL_at {r : Rul} {c : Clm} (hr : areValid r = true) (hc : isClaim c = true) (ha : c.asked < 1000) (xs : List Tri) : ∀ e ∈ mkL r c xs, c.asked ≤ e.at_ ∧ e.at_ ≤ 10001100 := by
  obtain ⟨hv, h1, h2⟩ := mkN_valid hr hc ha xs (min xs.length 10) (by omega)
  have hl := mkN_length r c xs (min xs.length 10)
  intro e he
  have h3 := (anyBad_le _ _ (valid_parts hv).2.2.2).2 e he
  rw [hl] at h3
  omega
theorem valid_sh {r : Rul} {c : Clm} {l : List Evt} {d : Int} (hv : valid r c l = true) (hd : 0 ≤ d) (hd2 : d ≤ 1000000) (ha : c.asked < 1000) (hl : ∀ e ∈ l, e.at_ ≤ 10001100) : valid r (shC d c) (l.map (shE d)) = true := by
  obtain ⟨hr, hc, h20, hb⟩ := valid_parts hv
  have h1 := anyBad_sh (d := d) l c.asked hb fun e he => by have := hl e he; omega
  simp only [valid, hr, Bool.true_and, Bool.and_eq_true, decide_eq_true_eq, List.length_map, Bool.not_eq_true']
  refine ⟨⟨?_, h20⟩, h1⟩
  have h2 := isClaim_le hc
  simp only [isClaim, isIn, Bool.and_eq_true, decide_eq_true_eq] at hc ⊢
  exact ⟨hc.1, by simp only [shC]; omega⟩

/-! ### how the statuses follow each other -/
def Link (L : List Evt) (s s' : Stt) : Prop := 0 ≤ s.next ∧ s.since ≤ s'.since ∧ s'.since ≤ s.next ∧ (s'.since = s.next ∨ ∃ e ∈ L, e.at_ = s'.since)
def Chn (L : List Evt) : Stt → List Stt → Prop
  | _, [] => True
  | s, s' :: q => Link L s s' ∧ Chn L s' q
def cnt : Stt → List Stt → Nat
  | _, [] => 0
  | s, s' :: q => (if s'.since = s.next then 1 else 0) + cnt s' q
theorem chn_append {L : List Evt} : ∀ (p : List Stt) (s : Stt) (q : List Stt), Chn L s (p ++ q) ↔ Chn L s p ∧ Chn L (lastOf s p) q
  | [], s, q => by simp [Chn, lastOf_nil]
  | a :: p, s, q => by rw [List.cons_append, Chn, Chn, chn_append p a q, lastOf_cons, and_assoc]
theorem cnt_append : ∀ (p : List Stt) (s : Stt) (q : List Stt), cnt s (p ++ q) = cnt s p + cnt (lastOf s p) q
  | [], s, q => by simp [cnt, lastOf_nil]
  | a :: p, s, q => by rw [List.cons_append, cnt, cnt, cnt_append p a q, lastOf_cons, Nat.add_assoc]
theorem chn_le {L : List Evt} : ∀ {q : List Stt} {s : Stt}, Chn L s q → ∀ s' ∈ q, s.since ≤ s'.since
  | [], _, _, _, h => by cases h
  | a :: q, s, h, s', hs => by
    have h1 := h.1.2.1
    rcases List.mem_cons.1 hs with rfl | hs
    · exact h1
    · have := chn_le h.2 s' hs; omega
theorem aloneF_chn {L : List Evt} {r : Rul} {u : Int} (hr : areValid r = true) : ∀ (n : Nat) (now : Stt), Sound r now → Chn L now (aloneF n r u now) ∧ cnt now (aloneF n r u now) = (aloneF n r u now).length := by
  intro n
  induction n with
  | zero => intro now _; exact ⟨trivial, rfl⟩
  | succ n ih =>
    intro now h
    by_cases hc : 0 ≤ now.next ∧ now.next ≤ u
    · rw [aloneF_pos hc.1 hc.2]
      have h1 := h.step hr hc.1
      have h2 := h.ge hr hc.1
      obtain ⟨h3, h4⟩ := ih _ h1.1
      refine ⟨⟨⟨hc.1, by simp only [begins]; omega, by simp only [begins]; omega, .inl rfl⟩, h3⟩, ?_⟩
      rw [cnt, h4, if_pos (by rfl), List.length_cons]; omega
    · rw [aloneF_neg hc]; exact ⟨trivial, rfl⟩
theorem runE_chn {L : List Evt} {r : Rul} {b : Bool} (hr : areValid r = true) : ∀ (l : List Evt) (i : Nat) (now : Stt) (last : Int), (∀ e ∈ l, e ∈ L) → anyBad last l = false → 0 ≤ last → now.since ≤ last → Sound r now →
    Chn L now (runE r b i now l).1 ∧ (runE r b i now l).1.length + (runE r b i now l).2.length = cnt now (runE r b i now l).1 + l.length
  | [], i, now, last, _, _, _, _, h => by
    obtain ⟨h1, h2⟩ := aloneF_chn (L := L) (u := 4611686018427387904) hr 4 now h
    rw [runE]
    exact ⟨h1, by simp only [alone] at *; rw [h2]; simp⟩
  | x :: l, i, now, last, hL, hb, h0, hle, h => by
    have hx := anyBad_at (x :: l) last hb 0 (by simp)
    simp only [List.getD_cons_zero] at hx
    simp only [anyBad, Bool.or_eq_false_iff] at hb
    obtain ⟨g1, g2⟩ := aloneF_chn (L := L) (u := x.at_) hr 4 now h
    have hs1 : Sound r (lastOf now (alone r x.at_ now)) := aloneF_sound hr 4 now h
    have hl1 : (lastOf now (alone r x.at_ now)).since ≤ x.at_ := aloneF_le 4 now (by omega)
    have hd := alone_done (u := x.at_) hr h
    change Chn L now (alone r x.at_ now) at g1
    change cnt now (alone r x.at_ now) = (alone r x.at_ now).length at g2
    generalize hn1 : lastOf now (alone r x.at_ now) = now1 at *
    cases ha : (after b now1.state x).2 with
    | true =>
      rw [runE_yes hn1 ha]
      obtain ⟨k1, k2⟩ := runE_chn hr l (i + 1) (begins r (after b now1.state x).1 x.at_) x.at_ (fun e he => hL e (by simp [he])) hb.2 (by omega) (by simp [begins]) (Sound.begins _ _ (by omega) hx.2)
      have hst : now1.state = 1 ∨ now1.state = 2 ∨ now1.state = 3 ∨ now1.state = 4 := by rcases after_yes ha with ⟨e, _⟩ | ⟨e, _⟩ | ⟨e, _⟩ | ⟨e, _⟩ <;> omega
      have hnx : 0 ≤ now1.next := by
        rcases hs1.next hr with ⟨h1, h2⟩ | ⟨_, _, _, _, h2, _⟩
        · unfold rank at h2; rcases hst with e | e | e | e <;> simp [e] at h2
        · exact h2
      have hlt : x.at_ < now1.next := by omega
      refine ⟨(chn_append _ _ _).2 ⟨g1, by rw [hn1]; exact ⟨⟨hnx, by simp only [begins]; omega, by simp only [begins]; omega, .inr ⟨x, hL x (by simp), rfl⟩⟩, k1⟩⟩, ?_⟩
      simp only
      rw [cnt_append, hn1, cnt, if_neg (by simp only [begins]; omega), g2]
      simp only [List.length_append, List.length_cons] at k2 ⊢
      omega
    | false =>
      rw [runE_no hn1 ha]
      obtain ⟨k1, k2⟩ := runE_chn hr l (i + 1) now1 x.at_ (fun e he => hL e (by simp [he])) hb.2 (by omega) hl1 hs1
      refine ⟨(chn_append _ _ _).2 ⟨g1, by rw [hn1]; exact k1⟩, ?_⟩
      simp only
      rw [cnt_append, hn1, g2]
      simp only [List.length_append, List.length_cons] at k2 ⊢
      omega
theorem statuses_chn {r : Rul} {c : Clm} {l : List Evt} (hv : valid r c l = true) : Chn l (first r c) (runE r c.backed 0 (first r c) l).1 ∧ (runE r c.backed 0 (first r c) l).1.length + (voids r c l).length = cnt (first r c) (runE r c.backed 0 (first r c) l).1 + l.length := by
  obtain ⟨hr, hc, _, hb⟩ := valid_parts hv
  have h2 := isClaim_le hc
  exact runE_chn hr l 0 (first r c) c.asked (fun e h => h) hb (by omega) (by simp [first, begins]) (Sound.begins 1 c.asked (by omega) (by omega))

theorem runE_len {r : Rul} {b : Bool} : ∀ (l : List Evt) (i : Nat) (now : Stt), (runE r b i now l).1.length ≤ 4 + 5 * l.length
  | [], i, now => by rw [runE]; have := alone_length r 4611686018427387904 now; simp only [List.length_nil]; omega
  | x :: l, i, now => by
    have h1 := alone_length r x.at_ now
    cases ha : (after b (lastOf now (alone r x.at_ now)).state x).2 with
    | true =>
      rw [runE_yes rfl ha]
      have := runE_len (r := r) (b := b) l (i + 1) (begins r (after b (lastOf now (alone r x.at_ now)).state x).1 x.at_)
      simp only [List.length_append, List.length_cons]; omega
    | false =>
      rw [runE_no rfl ha]
      have := runE_len (r := r) (b := b) l (i + 1) (lastOf now (alone r x.at_ now))
      simp only [List.length_append, List.length_cons]; omega
theorem voids_len {r : Rul} {b : Bool} : ∀ (l : List Evt) (i : Nat) (now : Stt), (runE r b i now l).2.length ≤ l.length
  | [], i, now => by rw [runE]; simp
  | x :: l, i, now => by
    cases ha : (after b (lastOf now (alone r x.at_ now)).state x).2 with
    | true =>
      rw [runE_yes rfl ha]
      have := voids_len (r := r) (b := b) l (i + 1) (begins r (after b (lastOf now (alone r x.at_ now)).state x).1 x.at_)
      simp only [List.length_cons]; omega
    | false =>
      rw [runE_no rfl ha]
      have := voids_len (r := r) (b := b) l (i + 1) (lastOf now (alone r x.at_ now))
      simp only [List.length_cons]; omega
theorem statuses_len {r : Rul} {c : Clm} {l : List Evt} (hv : valid r c l = true) : (statuses r c l).length ≤ 200 ∧ 1 ≤ (statuses r c l).length := by
  have h := (valid_parts hv).2.2.1
  have := runE_len (r := r) (b := c.backed) l 0 (first r c)
  simp only [statuses, List.length_cons]; omega
def alF (ss : List Stt) : Nat → Nat
  | 0 => 0
  | 1 => 0
  | i + 2 => alF ss (i + 1) + if (ss.getD (i + 1) ⟨0, 0, 0⟩).since = (ss.getD i ⟨0, 0, 0⟩).next then 1 else 0
theorem alF_cons (s a : Stt) (q : List Stt) : ∀ k, alF (s :: a :: q) (k + 2) = (if a.since = s.next then 1 else 0) + alF (a :: q) (k + 1)
  | 0 => by simp [alF]
  | k + 1 => by
    rw [alF, alF_cons s a q k, alF]
    simp only [List.getD_cons_succ]
    omega
theorem alF_cnt : ∀ (q : List Stt) (s : Stt), alF (s :: q) (q.length + 1) = cnt s q
  | [], s => rfl
  | a :: q, s => by rw [List.length_cons, alF_cons, alF_cnt q a, cnt]
theorem chn_get {L : List Evt} : ∀ {q : List Stt} {s : Stt}, Chn L s q → ∀ i, i < q.length → Link L ((s :: q).getD i ⟨0, 0, 0⟩) ((s :: q).getD (i + 1) ⟨0, 0, 0⟩)
  | [], _, _, i, hi => by simp at hi
  | a :: q, s, h, 0, _ => h.1
  | a :: q, s, h, i + 1, hi => by
    have := chn_get h.2 i (by simpa using hi)
    simpa using this
theorem foldl_tw {L : List Evt} {t : Int} : ∀ (q : List Stt) (s : Stt), Chn L s q → q.foldl (fun w s => if s.since ≤ t then s else w) s = lastOf s (q.takeWhile fun s => decide (s.since ≤ t))
  | [], s, _ => rfl
  | a :: q, s, h => by
    by_cases ha : a.since ≤ t
    · rw [takeW_pos ha, lastOf_cons, List.foldl_cons, if_pos ha, foldl_tw q a h.2]
    · rw [takeW_neg (by omega), lastOf_nil, List.foldl_cons, if_neg ha]
      have hall := chn_le h.2
      have : ∀ (q : List Stt), (∀ s' ∈ q, a.since ≤ s'.since) → q.foldl (fun w s => if s.since ≤ t then s else w) s = s := by
        intro q
        induction q with
        | nil => intro _; rfl
        | cons b q ih =>
          intro hb
          have := hb b (by simp)
          rw [List.foldl_cons, if_neg (by omega)]
          exact ih fun s' hs' => hb s' (by simp [hs'])
      exact this q hall
theorem timeline_facts {r : Rul} {c : Clm} {l : List Evt} {ss : List Stt} {vo : List Int} (hv : valid r c l = true) (hs : statuses r c l = ss) (hvo : voids r c l = vo) :
    ss.getD 0 ⟨0, 0, 0⟩ = ⟨1, c.asked, c.asked + r.answer⟩ ∧ (∀ i, 1 ≤ i → i < ss.length → Link l (ss.getD (i - 1) ⟨0, 0, 0⟩) (ss.getD i ⟨0, 0, 0⟩)) ∧ ss.length + vo.length = 1 + alF ss ss.length + l.length ∧
    ((ss.getD (ss.length - 1) ⟨0, 0, 0⟩).next = -1 ∧ 5 ≤ (ss.getD (ss.length - 1) ⟨0, 0, 0⟩).state) ∧ (1 ≤ ss.length ∧ ss.length ≤ 200) ∧
    (∀ t, c.asked ≤ t → outcome r c l t = ss.foldl (fun w s => if s.since ≤ t then s else w) (ss.getD 0 ⟨0, 0, 0⟩)) ∧ ∀ s ∈ ss, Tame r c s := by
  obtain ⟨g1, g2⟩ := statuses_chn hv
  obtain ⟨t1, t2, t3⟩ := statuses_tame hv
  have h3 := statuses_len hv
  obtain ⟨so, ho1, ho2, ho3, ho4⟩ := outcome_ends hv
  have hr := (valid_parts hv).1
  subst hs; subst hvo
  refine ⟨rfl, fun i h1 h2 => ?_, ?_, ?_, by omega, fun t ht => ?_, t1⟩
  · obtain ⟨j, rfl⟩ : ∃ j, i = j + 1 := ⟨i - 1, by omega⟩
    exact chn_get g1 j (by simpa [statuses] using h2)
  · have e : (statuses r c l).length = (runE r c.backed 0 (first r c) l).1.length + 1 := by simp [statuses]
    rw [e, statuses, alF_cnt]; omega
  · have e : (statuses r c l).getD ((statuses r c l).length - 1) ⟨0, 0, 0⟩ = lastOf ⟨0, 0, c.asked⟩ (statuses r c l) := by
      unfold lastOf
      rw [List.getLast?_eq_getElem?, List.getD_eq_getElem?_getD, List.getElem?_eq_getElem (by omega)]; rfl
    rw [e]
    have h5 := ho4 (ends r c) (Int.le_refl _)
    rw [outcome_done (fun s hs => Int.le_trans (t1 s hs).2.1 (bnd_le hr _))] at h5
    rw [h5]; exact ⟨ho1, ho2⟩
  · unfold outcome statuses
    rw [takeW_pos (by simp only [first, begins]; omega), lastOf_cons, List.getD_cons_zero, List.foldl_cons]
    have : (if (first r c).since ≤ t then first r c else first r c) = first r c := by split <;> rfl
    rw [this, foldl_tw _ _ g1]
/-! ### between two times -/
theorem tw_const {t1 t t2 : Int} (h1 : t1 ≤ t) (h2 : t ≤ t2) {L : List Evt} : ∀ (q : List Stt) (s d : Stt), Chn L s q → (∀ e ∈ q, t1 < e.since → e ≠ d) → lastOf d (q.takeWhile fun s => decide (s.since ≤ t1)) = lastOf d (q.takeWhile fun s => decide (s.since ≤ t2)) →
    lastOf d (q.takeWhile fun s => decide (s.since ≤ t)) = lastOf d (q.takeWhile fun s => decide (s.since ≤ t1))
  | [], _, _, _, _, _ => rfl
  | a :: q, s, d, hc, hd, he => by
    by_cases g1 : a.since ≤ t1
    · rw [takeW_pos g1, takeW_pos (by omega), lastOf_cons, lastOf_cons] at *
      exact tw_const h1 h2 q a a hc.2 (fun e _ hlt heq => by rw [heq] at hlt; omega) he
    · rw [takeW_neg (t := t1) (by omega)] at he ⊢
      by_cases g2 : a.since ≤ t2
      · rw [takeW_pos g2, lastOf_cons, lastOf_nil] at he
        refine absurd he.symm ?_
        rcases lastOf_mem a (q.takeWhile fun s => decide (s.since ≤ t2)) with h | h
        · rw [h]; exact hd a (by simp) (by omega)
        · have hm := (List.takeWhile_sublist _).subset h
          have := chn_le hc.2 _ hm
          exact hd _ (by simp [hm]) (by omega)
      · rw [takeW_neg (by omega)]
theorem outcome_const {r : Rul} {c : Clm} {l : List Evt} {t1 t t2 : Int} (hv : valid r c l = true) (h1 : t1 ≤ t) (h2 : t ≤ t2) (he : outcome r c l t1 = outcome r c l t2) : outcome r c l t = outcome r c l t1 := by
  have hch := (statuses_chn hv).1
  have ht := (statuses_tame hv).1
  obtain ⟨hr, hc, _, _⟩ := valid_parts hv
  unfold outcome at *
  have hsf : Sound r (first r c) := (ht (first r c) (by simp [statuses])).1
  refine tw_const (L := ⟨0, (first r c).since, 0⟩ :: l) h1 h2 (statuses r c l) ⟨0, 0, (first r c).since⟩ _ ⟨⟨by simp only; exact hsf.2.1, by simp only; exact hsf.2.1, by simp, .inl rfl⟩, ?_⟩ (fun e hm hlt heq => ?_) he
  · refine chn_mono hch
  · have := (ht e hm).2.2
    rw [heq] at this; simp at this
where
  chn_mono {L : List Evt} {x : Evt} : ∀ {q : List Stt} {s : Stt}, Chn L s q → Chn (x :: L) s q
    | [], _, _ => trivial
    | a :: q, s, h => ⟨⟨h.1.1, h.1.2.1, h.1.2.2.1, h.1.2.2.2.imp id fun ⟨e, h1, h2⟩ => ⟨e, List.mem_cons_of_mem _ h1, h2⟩⟩, chn_mono h.2⟩

/-! ### as the reference's run -/
theorem tw_none {p : Stt → Bool} : ∀ (a b : List Stt), (∀ s ∈ b, p s = false) → (a ++ b).takeWhile p = a.takeWhile p
  | [], b, h => by
    cases b with
    | nil => rfl
    | cons x b => rw [List.nil_append, List.takeWhile_cons_of_neg (by simp [h x])]; rfl
  | x :: a, b, h => by
    rw [List.cons_append, List.takeWhile_cons, List.takeWhile_cons, tw_none a b h]
theorem tw_all {p : Stt → Bool} : ∀ (a b : List Stt), (∀ s ∈ a, p s = true) → (a ++ b).takeWhile p = a ++ b.takeWhile p
  | [], b, _ => rfl
  | x :: a, b, h => by rw [List.cons_append, List.takeWhile_cons_of_pos (h x (by simp)), tw_all a b fun s hs => h s (by simp [hs])]; rfl
theorem aloneF_take {r : Rul} {u t : Int} (htu : t ≤ u) : ∀ (n : Nat) (now : Stt), (aloneF n r u now).takeWhile (fun s => decide (s.since ≤ t)) = aloneF n r t now := by
  intro n
  induction n with
  | zero => intro now; rfl
  | succ n ih =>
    intro now
    by_cases hc : 0 ≤ now.next ∧ now.next ≤ u
    · rw [aloneF_pos hc.1 hc.2]
      by_cases ht : now.next ≤ t
      · rw [takeW_pos (by simp only [begins]; exact ht), ih, aloneF_pos hc.1 ht]
      · rw [takeW_neg (by simp only [begins]; omega), aloneF_neg (by omega)]
    · rw [aloneF_neg hc, aloneF_neg (by omega)]; rfl
theorem aloneF_upto {r : Rul} {u : Int} : ∀ (n : Nat) (now : Stt), ∀ s ∈ aloneF n r u now, s.since ≤ u := by
  intro n
  induction n with
  | zero => intro now s h; cases h
  | succ n ih =>
    intro now s h
    by_cases hc : 0 ≤ now.next ∧ now.next ≤ u
    · rw [aloneF_pos hc.1 hc.2] at h
      rcases List.mem_cons.1 h with rfl | h
      · simp only [begins]; exact hc.2
      · exact ih _ s h
    · rw [aloneF_neg hc] at h; cases h
theorem aloneF_behind {r : Rul} {u t : Int} (hr : areValid r = true) : ∀ (n : Nat) (now : Stt), Sound r now → (now.next < 0 ∨ t < now.next) → (∀ s ∈ aloneF n r u now, t < s.since) ∧ ((lastOf now (aloneF n r u now)).next < 0 ∨ t < (lastOf now (aloneF n r u now)).next) := by
  intro n
  induction n with
  | zero => intro now _ h; exact ⟨by simp [aloneF], h⟩
  | succ n ih =>
    intro now h hn
    by_cases hc : 0 ≤ now.next ∧ now.next ≤ u
    · rw [aloneF_pos hc.1 hc.2]
      have h1 := h.step hr hc.1
      have h2 := h1.1.ge hr
      have h3 : (begins r (dueNext now.state) now.next).since = now.next := rfl
      obtain ⟨k1, k2⟩ := ih _ h1.1 (by
        rcases Int.lt_or_le (begins r (dueNext now.state) now.next).next 0 with h4 | h4
        · exact .inl h4
        · have := h2 h4; exact .inr (by omega))
      refine ⟨fun s hs => ?_, by rw [lastOf_cons]; exact k2⟩
      rcases List.mem_cons.1 hs with rfl | hs
      · omega
      · exact k1 s hs
    · rw [aloneF_neg hc]; exact ⟨by simp, hn⟩
theorem runE_behind {r : Rul} {b : Bool} {t : Int} (hr : areValid r = true) : ∀ (l : List Evt) (i : Nat) (now : Stt) (last : Int), anyBad last l = false → 0 ≤ last → t < last → Sound r now → (now.next < 0 ∨ t < now.next) → ∀ s ∈ (runE r b i now l).1, t < s.since
  | [], i, now, last, _, _, _, h, hn, s, hs => by
    rw [runE] at hs
    exact (aloneF_behind hr 4 now h hn).1 s hs
  | x :: l, i, now, last, hb, h0, hlt, h, hn, s, hs => by
    have hx := anyBad_at (x :: l) last hb 0 (by simp)
    simp only [List.getD_cons_zero] at hx
    simp only [anyBad, Bool.or_eq_false_iff] at hb
    obtain ⟨k1, k2⟩ := aloneF_behind (u := x.at_) hr 4 now h hn
    have hs1 : Sound r (lastOf now (alone r x.at_ now)) := aloneF_sound hr 4 now h
    cases ha : (after b (lastOf now (alone r x.at_ now)).state x).2 with
    | true =>
      rw [runE_yes rfl ha] at hs
      have hsb : Sound r (begins r (after b (lastOf now (alone r x.at_ now)).state x).1 x.at_) := Sound.begins _ _ (by omega) hx.2
      rcases List.mem_append.1 hs with hs | hs
      · exact k1 s hs
      · rcases List.mem_cons.1 hs with rfl | hs
        · simp only [begins]; omega
        · have h3 : (begins r (after b (lastOf now (alone r x.at_ now)).state x).1 x.at_).since = x.at_ := rfl
          exact runE_behind hr l (i + 1) _ x.at_ hb.2 (by omega) (by omega) hsb (by
            rcases Int.lt_or_le (begins r (after b (lastOf now (alone r x.at_ now)).state x).1 x.at_).next 0 with h4 | h4
            · exact .inl h4
            · have := hsb.ge hr h4; exact .inr (by omega)) s hs
    | false =>
      rw [runE_no rfl ha] at hs
      rcases List.mem_append.1 hs with hs | hs
      · exact k1 s hs
      · exact runE_behind hr l (i + 1) _ x.at_ hb.2 (by omega) (by omega) hs1 k2 s hs
/-- The two words for what an event makes of a state. -/
theorem becomes_after {b : Bool} {s last : Int} {e : Evt} (he : badEvt last e = false) : becomes b s e = if (after b s e).2 = true then (after b s e).1 else -1 := by
  simp only [badEvt, Bool.or_eq_false_iff, Bool.not_eq_false', isIn, Bool.and_eq_true, decide_eq_true_eq] at he
  obtain ⟨⟨hk, _⟩, hq⟩ := he
  have hk6 : e.kind = 1 ∨ e.kind = 2 ∨ e.kind = 3 ∨ e.kind = 4 ∨ e.kind = 5 ∨ e.kind = 6 := by omega
  have hs : s = 1 ∨ s = 2 ∨ s = 3 ∨ s = 4 ∨ (s ≠ 1 ∧ s ≠ 2 ∧ s ≠ 3 ∧ s ≠ 4) := by omega
  rcases hk6 with h | h | h | h | h | h <;> simp [h, isIn] at hq
  · have hq0 : e.reason = 0 := by omega
    rcases hs with g | g | g | g | ⟨g1, g2, g3, g4⟩ <;> simp [becomes, after, effect, *]
  · by_cases hr : e.reason = 1 <;> cases b <;> rcases hs with g | g | g | g | ⟨g1, g2, g3, g4⟩ <;> simp [becomes, after, effect, *]
  · have hq0 : e.reason = 0 := by omega
    rcases hs with g | g | g | g | ⟨g1, g2, g3, g4⟩ <;> simp [becomes, after, effect, *]
  · have hq0 : e.reason = 0 := by omega
    rcases hs with g | g | g | g | ⟨g1, g2, g3, g4⟩ <;> simp [becomes, after, effect, *]
  · have hq0 : e.reason = 0 := by omega
    rcases hs with g | g | g | g | ⟨g1, g2, g3, g4⟩ <;> simp [becomes, after, effect, *]
  · by_cases hr : e.reason = 1 <;> cases b <;> rcases hs with g | g | g | g | ⟨g1, g2, g3, g4⟩ <;> simp [becomes, after, effect, *]
theorem becomes_yes {b : Bool} {s last : Int} {e : Evt} (he : badEvt last e = false) (h : (after b s e).2 = true) : ¬ becomes b s e < 0 ∧ becomes b s e = (after b s e).1 := by
  rw [becomes_after he, if_pos h]
  refine ⟨?_, rfl⟩
  rcases after_yes h with ⟨_, e, _⟩ | ⟨_, e, _⟩ | ⟨_, e⟩ | ⟨_, e, _⟩ <;> omega
theorem becomes_no {b : Bool} {s last : Int} {e : Evt} (he : badEvt last e = false) (h : (after b s e).2 = false) : becomes b s e < 0 := by
  rw [becomes_after he, if_neg (by rw [h]; simp)]; omega
theorem runU_eqs {r : Rul} {b : Bool} {u : Int} {i : Nat} {now : Stt} {x : Evt} {l : List Evt} :
    (u < x.at_ → runU r b u i now (x :: l) = (alone r u now, [])) ∧
    (¬ u < x.at_ → becomes b (lastOf now (alone r x.at_ now)).state x < 0 → runU r b u i now (x :: l) = (alone r x.at_ now ++ (runU r b u (i + 1) (lastOf now (alone r x.at_ now)) l).1, (i : Int) :: (runU r b u (i + 1) (lastOf now (alone r x.at_ now)) l).2)) ∧
    (¬ u < x.at_ → ¬ becomes b (lastOf now (alone r x.at_ now)).state x < 0 → runU r b u i now (x :: l) = (alone r x.at_ now ++ begins r (becomes b (lastOf now (alone r x.at_ now)).state x) x.at_ :: (runU r b u (i + 1) (begins r (becomes b (lastOf now (alone r x.at_ now)).state x) x.at_) l).1,
      (runU r b u (i + 1) (begins r (becomes b (lastOf now (alone r x.at_ now)).state x) x.at_) l).2)) := by
  refine ⟨fun h => ?_, fun h h2 => ?_, fun h h2 => ?_⟩
  · have e : min x.at_ u = u := by omega
    rw [runU]; simp only [h, e, if_true]
  · have e : min x.at_ u = x.at_ := by omega
    rw [runU]; simp only [h, e, h2, if_true, if_false]
  · have e : min x.at_ u = x.at_ := by omega
    rw [runU]; simp only [h, e, h2, if_false]
theorem tw_runE {r : Rul} {b : Bool} {t : Int} (hr : areValid r = true) (ht : t ≤ 4611686018427387904) : ∀ (l : List Evt) (i : Nat) (now : Stt) (last : Int), anyBad last l = false → 0 ≤ last → Sound r now →
    (runE r b i now l).1.takeWhile (fun s => decide (s.since ≤ t)) = (runU r b t i now l).1
  | [], i, now, last, _, _, h => by rw [runE, runU]; exact aloneF_take ht 4 now
  | x :: l, i, now, last, hb, h0, h => by
    have hx := anyBad_at (x :: l) last hb 0 (by simp)
    simp only [List.getD_cons_zero] at hx
    simp only [anyBad, Bool.or_eq_false_iff] at hb
    have hs1 : Sound r (lastOf now (alone r x.at_ now)) := aloneF_sound hr 4 now h
    have hd := alone_done (u := x.at_) hr h
    by_cases hf : t < x.at_
    · rw [runU_eqs.1 hf]
      cases ha : (after b (lastOf now (alone r x.at_ now)).state x).2 with
      | true =>
        rw [runE_yes rfl ha]
        simp only
        have hsb : Sound r (begins r (after b (lastOf now (alone r x.at_ now)).state x).1 x.at_) := Sound.begins _ _ (by omega) hx.2
        rw [tw_none _ _ fun s hs => ?_]
        · exact aloneF_take (by omega) 4 now
        · have h3 : (begins r (after b (lastOf now (alone r x.at_ now)).state x).1 x.at_).since = x.at_ := rfl
          rcases List.mem_cons.1 hs with rfl | hs
          · simp only [h3]; simp; omega
          · have := runE_behind (t := t) hr l (i + 1) _ x.at_ hb.2 (by omega) hf hsb (by
              rcases Int.lt_or_le (begins r (after b (lastOf now (alone r x.at_ now)).state x).1 x.at_).next 0 with h4 | h4
              · exact .inl h4
              · have := hsb.ge hr h4; exact .inr (by omega)) s hs
            simp; omega
      | false =>
        rw [runE_no rfl ha]
        simp only
        rw [tw_none _ _ fun s hs => ?_]
        · exact aloneF_take (by omega) 4 now
        · have := runE_behind (t := t) hr l (i + 1) _ x.at_ hb.2 (by omega) hf hs1 (by omega) s hs
          simp; omega
    · have hall : ∀ s ∈ alone r x.at_ now, (fun s : Stt => decide (s.since ≤ t)) s = true := fun s hs => by
        have := aloneF_upto 4 now s hs
        simp; omega
      cases ha : (after b (lastOf now (alone r x.at_ now)).state x).2 with
      | true =>
        obtain ⟨k1, k2⟩ := becomes_yes hb.1 ha
        rw [runU_eqs.2.2 hf k1, runE_yes rfl ha]
        simp only
        rw [tw_all _ _ hall, takeW_pos (by simp only [begins]; omega), k2, tw_runE hr ht l (i + 1) _ x.at_ hb.2 (by omega) (Sound.begins _ _ (by omega) hx.2)]
      | false =>
        rw [runU_eqs.2.1 hf (becomes_no hb.1 ha), runE_no rfl ha]
        simp only
        rw [tw_all _ _ hall, tw_runE hr ht l (i + 1) _ x.at_ hb.2 (by omega) hs1]
theorem outcome_outR {r : Rul} {c : Clm} {l : List Evt} {t : Int} (hv : valid r c l = true) (ht : t ≤ 4611686018427387904) : outcome r c l t = outR r c l t := by
  obtain ⟨hr, hc, _, hb⟩ := valid_parts hv
  have h2 := isClaim_le hc
  unfold outcome outR statuses runS
  by_cases h : t < c.asked
  · rw [if_pos h, takeW_neg (by simp only [first, begins]; exact h)]; rfl
  · rw [if_neg h, takeW_pos (by simp only [first, begins]; omega), tw_runE hr ht l 0 (first r c) c.asked hb (by omega) (Sound.begins 1 c.asked (by omega) (by omega)), lastOf_cons, lastOf_cons]

/-! ### later events -/
theorem runU_filter {r : Rul} {b : Bool} {t : Int} : ∀ (l : List Evt) (i : Nat) (now : Stt) (last : Int), anyBad last l = false → (runU r b t i now (l.filter fun e => decide (e.at_ ≤ t))).1 = (runU r b t i now l).1
  | [], i, now, last, _ => rfl
  | x :: l, i, now, last, hb => by
    have hle := (anyBad_le (x :: l) last hb)
    simp only [anyBad, Bool.or_eq_false_iff] at hb
    have hl2 := (anyBad_le l x.at_ hb.2).2
    by_cases hf : t < x.at_
    · have e : (x :: l).filter (fun e => decide (e.at_ ≤ t)) = [] := by
        rw [List.filter_eq_nil_iff]
        intro y hy
        rcases List.mem_cons.1 hy with rfl | hy
        · simp; omega
        · have := hl2 y hy; simp; omega
      rw [e, runU_eqs.1 hf, runU]
    · rw [List.filter_cons_of_pos (by simp; omega)]
      by_cases hn : becomes b (lastOf now (alone r x.at_ now)).state x < 0
      · rw [runU_eqs.2.1 hf hn, runU_eqs.2.1 hf hn, runU_filter l (i + 1) _ x.at_ hb.2]
      · rw [runU_eqs.2.2 hf hn, runU_eqs.2.2 hf hn, runU_filter l (i + 1) _ x.at_ hb.2]
theorem anyBad_weak {last last' : Int} (h : last ≤ last') : ∀ (l : List Evt), anyBad last' l = false → anyBad last l = false
  | [], _ => rfl
  | x :: l, hb => by
    simp only [anyBad, Bool.or_eq_false_iff] at hb ⊢
    refine ⟨?_, hb.2⟩
    have h1 := hb.1
    simp only [badEvt, Bool.or_eq_false_iff, Bool.not_eq_false', isIn, Bool.and_eq_true, decide_eq_true_eq] at h1 ⊢
    exact ⟨⟨h1.1.1, by omega⟩, h1.2⟩
theorem anyBad_sub {l l' : List Evt} (hs : l'.Sublist l) : ∀ (last : Int), anyBad last l = false → anyBad last l' = false := by
  induction hs with
  | slnil => intro _ h; exact h
  | @cons l1 l2 a _ ih =>
    intro last h
    have hx := anyBad_at (a :: l2) last h 0 (by simp)
    simp only [List.getD_cons_zero] at hx
    simp only [anyBad, Bool.or_eq_false_iff] at h
    exact anyBad_weak hx.1 _ (ih _ h.2)
  | @cons_cons l1 l2 a _ ih =>
    intro last h
    simp only [anyBad, Bool.or_eq_false_iff] at h ⊢
    exact ⟨h.1, ih _ h.2⟩
theorem valid_sub {r : Rul} {c : Clm} {l l' : List Evt} (hv : valid r c l = true) (hs : l'.Sublist l) : valid r c l' = true := by
  obtain ⟨hr, hc, h20, hb⟩ := valid_parts hv
  have := hs.length_le
  simp only [valid, hr, hc, anyBad_sub hs _ hb, Bool.true_and, Bool.and_true, Bool.not_false, decide_eq_true_eq]
  omega
theorem outcome_filter {r : Rul} {c : Clm} {l : List Evt} {t : Int} (hv : valid r c l = true) (ht : t ≤ 4611686018427387904) : outcome r c (l.filter fun e => decide (e.at_ ≤ t)) t = outcome r c l t := by
  have hs : (l.filter fun e => decide (e.at_ ≤ t)).Sublist l := List.filter_sublist
  rw [outcome_outR hv ht, outcome_outR (valid_sub hv hs) ht]
  unfold outR runS
  rw [runU_filter l 0 (first r c) c.asked (valid_parts hv).2.2.2]

/-! ### events that are void -/
theorem aloneF_fuel {r : Rul} {u : Int} (hr : areValid r = true) : ∀ (n m : Nat) (now : Stt), Sound r now → rank now.state ≤ n → rank now.state ≤ m → aloneF n r u now = aloneF m r u now := by
  intro n
  induction n with
  | zero =>
    intro m now h hn _
    have : ¬ (0 ≤ now.next ∧ now.next ≤ u) := by
      rcases h.next hr with ⟨h1, _⟩ | ⟨_, h2, _⟩ <;> omega
    rw [aloneF_neg this, aloneF_neg this]
  | succ n ih =>
    intro m now h hn hm
    by_cases hc : 0 ≤ now.next ∧ now.next ≤ u
    · have h1 := h.step hr hc.1
      obtain ⟨m, rfl⟩ : ∃ k, m = k + 1 := ⟨m - 1, by omega⟩
      rw [aloneF_pos hc.1 hc.2, aloneF_pos hc.1 hc.2, ih m _ h1.1 (by simp only [begins]; omega) (by simp only [begins]; omega)]
    · rw [aloneF_neg hc, aloneF_neg hc]
theorem aloneF_split {r : Rul} {u v : Int} (hr : areValid r = true) (huv : u ≤ v) : ∀ (n : Nat) (now : Stt), Sound r now → rank now.state ≤ n → aloneF n r v now = aloneF n r u now ++ alone r v (lastOf now (aloneF n r u now)) := by
  intro n
  induction n with
  | zero =>
    intro now h hn
    have : ¬ (0 ≤ now.next ∧ now.next ≤ v) := by
      rcases h.next hr with ⟨h1, _⟩ | ⟨_, h2, _⟩ <;> omega
    rw [aloneF, aloneF, lastOf_nil, alone, aloneF_neg this]; rfl
  | succ n ih =>
    intro now h hn
    by_cases hc : 0 ≤ now.next ∧ now.next ≤ u
    · have h1 := h.step hr hc.1
      rw [aloneF_pos hc.1 hc.2, aloneF_pos hc.1 (by omega), lastOf_cons, ih _ h1.1 (by simp only [begins]; omega)]; rfl
    · rw [aloneF_neg (u := u) hc, lastOf_nil, List.nil_append, alone]
      exact aloneF_fuel hr _ _ now h hn (Nat.le_trans (rank_le _) (by omega))
theorem alone_split {r : Rul} {u v : Int} {now : Stt} (hr : areValid r = true) (huv : u ≤ v) (h : Sound r now) : alone r v now = alone r u now ++ alone r v (lastOf now (alone r u now)) := aloneF_split hr huv 4 now h (Nat.le_trans (rank_le _) (by omega))
theorem runE_split {r : Rul} {b : Bool} {u : Int} {i : Nat} {now : Stt} (hr : areValid r = true) (hu : u ≤ 4611686018427387904) (h : Sound r now) : ∀ (l : List Evt), anyBad u l = false → runE r b i now l = (alone r u now ++ (runE r b i (lastOf now (alone r u now)) l).1, (runE r b i (lastOf now (alone r u now)) l).2)
  | [], _ => by rw [runE, runE, ← alone_split hr hu h]
  | x :: l, hb => by
    have hx := anyBad_at (x :: l) u hb 0 (by simp)
    simp only [List.getD_cons_zero] at hx
    have e1 := alone_split hr hx.1 h
    have e2 : lastOf now (alone r x.at_ now) = lastOf (lastOf now (alone r u now)) (alone r x.at_ (lastOf now (alone r u now))) := by rw [e1, lastOf_append]
    cases ha : (after b (lastOf now (alone r x.at_ now)).state x).2 with
    | true =>
      rw [runE_yes rfl ha, runE_yes e2.symm ha]
      simp only
      rw [e1, List.append_assoc, ← e1]
    | false =>
      rw [runE_no rfl ha, runE_no e2.symm ha]
      simp only
      rw [e1, List.append_assoc, ← e1]
def keepF : Nat → List Evt → List Int → List Evt
  | _, [], _ => []
  | i, x :: l, v => if v.head? = some (i : Int) then keepF (i + 1) l v.tail else x :: keepF (i + 1) l v
theorem keepF_sub : ∀ (l : List Evt) (i : Nat) (v : List Int), (keepF i l v).Sublist l
  | [], _, _ => List.nil_sublist _
  | x :: l, i, v => by
    rw [keepF]; split
    · exact (keepF_sub l _ _).cons x
    · exact (keepF_sub l _ _).cons_cons x
theorem voids_ge {r : Rul} {b : Bool} : ∀ (l : List Evt) (i : Nat) (now : Stt), ∀ j ∈ (runE r b i now l).2, (i : Int) ≤ j
  | [], i, now, j, h => by rw [runE] at h; cases h
  | x :: l, i, now, j, h => by
    cases ha : (after b (lastOf now (alone r x.at_ now)).state x).2 with
    | true => rw [runE_yes rfl ha] at h; have := voids_ge l (i + 1) _ j h; omega
    | false =>
      rw [runE_no rfl ha] at h
      rcases List.mem_cons.1 h with rfl | h
      · omega
      · have := voids_ge l (i + 1) _ j h; omega
theorem head_ge {v : List Int} {i : Nat} (h : ∀ j ∈ v, ((i + 1 : Nat) : Int) ≤ j) : v.head? ≠ some (i : Int) := by
  cases v with
  | nil => simp
  | cons a v => have := h a (by simp); simp; omega
theorem runE_keep {r : Rul} {b : Bool} (hr : areValid r = true) : ∀ (l : List Evt) (i i' : Nat) (now : Stt) (last : Int), anyBad last l = false → 0 ≤ last → Sound r now → runE r b i' now (keepF i l (runE r b i now l).2) = ((runE r b i now l).1, [])
  | [], i, i', now, last, _, _, _ => by rw [keepF, runE, runE]
  | x :: l, i, i', now, last, hb, h0, h => by
    have hx := anyBad_at (x :: l) last hb 0 (by simp)
    simp only [List.getD_cons_zero] at hx
    simp only [anyBad, Bool.or_eq_false_iff] at hb
    have hs1 : Sound r (lastOf now (alone r x.at_ now)) := aloneF_sound hr 4 now h
    cases ha : (after b (lastOf now (alone r x.at_ now)).state x).2 with
    | true =>
      rw [runE_yes (i := i) rfl ha]
      simp only
      rw [keepF, if_neg (head_ge (voids_ge l (i + 1) _)), runE_yes rfl ha, runE_keep hr l (i + 1) (i' + 1) _ x.at_ hb.2 (by omega) (Sound.begins _ _ (by omega) hx.2)]
    | false =>
      rw [runE_no (i := i) rfl ha]
      simp only
      rw [keepF, if_pos (by simp), List.tail_cons, runE_split hr (u := x.at_) (by omega) h _ (anyBad_sub (keepF_sub _ _ _) _ hb.2), runE_keep hr l (i + 1) i' _ x.at_ hb.2 (by omega) hs1]
theorem statuses_keep {r : Rul} {c : Clm} {l : List Evt} (hv : valid r c l = true) : statuses r c (keepF 0 l (voids r c l)) = statuses r c l ∧ voids r c (keepF 0 l (voids r c l)) = [] ∧ valid r c (keepF 0 l (voids r c l)) = true := by
  obtain ⟨hr, hc, h20, hb⟩ := valid_parts hv
  have h2 := isClaim_le hc
  have := runE_keep (b := c.backed) hr l 0 0 (first r c) c.asked hb (by omega) (Sound.begins 1 c.asked (by omega) (by omega))
  refine ⟨?_, ?_, valid_sub hv (keepF_sub _ _ _)⟩
  · unfold statuses voids; rw [this]
  · unfold voids; rw [this]
end Go.Proofs.Ytdamipejlfipcaa
