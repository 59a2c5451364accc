import Derived.Test.YtdamipejlfipcaaSet
namespace Go.PW
open Go.RowKit
set_option linter.unusedVariables false

/-! ### a region that draws, piece by piece -/
/-- m parts the list: whatever stands from m on waits for all that stands ahead of it (ss: those ahead of it for which nobody ahead of it waits). -/
def barB (l : List Oper) (ss : List Nat) (m : Nat) : Bool :=
  ((List.range m).all fun j => ss.contains j || (List.range m).any fun j' => (aft (opAt l j')).contains j) &&
  ((List.range l.length).all fun i => decide (i < m) || (aft (opAt l i)).any (fun j => decide (m ≤ j)) || ss.all fun j => (aft (opAt l i)).contains j)
def earlyB (l : List Oper) : Bool := (List.range l.length).all fun i => (aft (opAt l i)).all fun j => decide (j < i)
def chainB (l : List Oper) (k m : Nat) : Bool := decide (k ≤ m) && decide (m ≤ l.length) && (List.range m).all fun i => decide (i ≤ k) || (aft (opAt l i)).contains (i - 1)
def Closed (l : List Oper) (D : List Nat) : Prop := ∀ i ∈ D, ∀ j ∈ aft (opAt l i), j ∈ D

section
variable {P : Program} {r : Option Nat} {a : Act} {w w' w0 : World} {M : Nat → Prop} {H E : List Ent} {N : Nat} {L : List (Nat × Value)} {df : List Deferred} {K : Act → World → Prop} {l : List Oper} {k m : Nat} {ss : List Nat}

theorem earlyB_lt (h : earlyB l = true) {i j : Nat} (hi : i < l.length) (hj : j ∈ aft (opAt l i)) : j < i := by
  have := List.all_eq_true.1 (List.all_eq_true.1 h i (List.mem_range.2 hi)) j hj
  simpa using this
theorem mem_aft {o : Oper} {p : Nat} : p ∈ aft o ↔ ∃ e ∈ o.after, Region.binds .any e = true ∧ e.on = p := by
  simp only [aft, List.mem_filterMap]
  constructor
  · rintro ⟨e, he, h⟩
    refine ⟨e, Array.mem_toList_iff.1 he, ?_⟩
    split at h
    · rename_i hb; exact ⟨hb, by simpa using h⟩
    · cases h
  · rintro ⟨e, he, hb, rfl⟩
    exact ⟨e, Array.mem_toList_iff.2 he, by rw [hb]⟩
theorem opAt_of {i : Nat} {o : Oper} (h : l[i]? = some o) : opAt l i = o := by simp [opAt, h]
theorem Closed.cons {D : List Nat} {i : Nat} (h : Closed l D) (hp : ∀ j ∈ aft (opAt l i), j ∈ D) : Closed l (i :: D) := by
  intro i' hi' j hj
  rcases List.mem_cons.1 hi' with rfl | hi'
  · exact List.mem_cons_of_mem _ (hp j hj)
  · exact List.mem_cons_of_mem _ (h i' hi' j hj)

theorem bar_all (hE : earlyB l = true) (hb : barB l ss m = true) {D : List Nat} (hD : Closed l D) : ∀ (i : Nat), i < l.length → m ≤ i → (∀ j ∈ aft (opAt l i), j ∈ D) → ∀ j, j < m → j ∈ D := by
  simp only [barB, Bool.and_eq_true, List.all_eq_true, List.mem_range, Bool.or_eq_true, List.any_eq_true, decide_eq_true_eq, List.contains_eq_mem] at hb
  obtain ⟨hb1, hb2⟩ := hb
  have hss : ∀ (i : Nat), i < l.length → m ≤ i → (∀ j ∈ aft (opAt l i), j ∈ D) → ∀ j ∈ ss, j ∈ D := by
    intro i
    induction i using Nat.strongRecOn with
    | _ i ih =>
      intro hi hmi hp j hj
      rcases hb2 i hi with (h | ⟨j', h1, h2⟩) | h
      · omega
      · have hlt := earlyB_lt hE hi h1
        exact ih j' hlt (by omega) h2 (fun q hq => hD j' (hp j' h1) q hq) j hj
      · exact hp j (h j hj)
  intro i hi hmi hp j hjm
  have hs := hss i hi hmi hp
  have key : ∀ (n j : Nat), m - j ≤ n → j < m → j ∈ D := by
    intro n
    induction n with
    | zero => intro j h1 h2; omega
    | succ n ih =>
      intro j h1 h2
      rcases hb1 j h2 with h | ⟨j', h3, h4⟩
      · exact hs j h
      · have hlt : j < j' := earlyB_lt hE (by omega) h4
        exact hD j' (ih j' (by omega) h3) j h4
  exact key (m - j) j (Nat.le_refl _) hjm

/-- The first k operations have been done. -/
def WD (P : Program) (r : Option Nat) (l : List Oper) (K : Act → World → Prop) (k : Nat) (a : Act) (w : World) : Prop :=
  ∃ S, (∀ D : List Nat, D.Nodup → (∀ i, i ∈ D ↔ i < k) → S D a w) ∧ Steps P r l.toArray S ∧ Fins l.toArray K S

theorem early_of (hE : earlyB l = true) : Early l.toArray := by
  intro i o ho e he hb
  simp only [List.getElem?_toArray] at ho
  have hi : i < l.length := (List.getElem?_eq_some_iff.1 ho).1
  refine earlyB_lt hE hi ?_
  rw [opAt_of ho]
  exact mem_aft.2 ⟨e, he, hb, rfl⟩
theorem dr_of_wd (hE : earlyB l = true) (h : ∀ w1, Ext No w w1 → WD P r l K 0 a w1) : DR P r l.toArray K a w := by
  intro w1 hx
  obtain ⟨S, h1, h2, h3⟩ := h w1 hx
  exact ⟨S, early_of hE, h1 [] List.nodup_nil (by simp), h2, h3⟩
theorem wd_end (hk : l.length = k) (h : K a w) : WD P r l K k a w := by
  subst hk
  refine ⟨fun D a w => (∀ i, i < l.length → i ∈ D) ∧ K a w, fun D _ hD => ⟨fun i hi => (hD i).2 hi, h⟩, ?_, fun D a w h _ _ => h.2⟩
  intro D i o a w hS hD ho hni _
  simp only [List.getElem?_toArray] at ho
  exact absurd (hS.1 i (List.getElem?_eq_some_iff.1 ho).1) hni

/-- Behind k: some S. -/
def Beh (P : Program) (r : Option Nat) (l : List Oper) (K : Act → World → Prop) (D : List Nat) (a : Act) (w : World) : Prop := ∃ S, S D a w ∧ Steps P r l.toArray S ∧ Fins l.toArray K S
theorem WD.beh (h : WD P r l K k a w) {D : List Nat} (hD : D.Nodup) (hk : ∀ i, i ∈ D ↔ i < k) : Beh P r l K D a w := let ⟨S, h1, h2, h3⟩ := h; ⟨S, h1 D hD hk, h2, h3⟩
theorem Beh.fin {D : List Nat} (h : Beh P r l K D a w) (hD : D.Nodup) (hall : ∀ i, i < l.toArray.size → i ∈ D) : K a w := let ⟨S, h1, h2, h3⟩ := h; h3 D a w h1 hD hall
theorem Beh.step {D : List Nat} {i : Nat} {o : Oper} (h : Beh P r l K D a w) (hD : D.Nodup) (ho : l.toArray[i]? = some o) (hni : i ∉ D) (hp : ∀ e ∈ o.after, Region.binds .any e = true → e.on ∈ D) :
    if Region.wanted o (yielded l.toArray a.tmps) then OpK P r o a w (Beh P r l K (i :: D)) else Beh P r l K (i :: D) (a.put o.dst undef) w := by
  obtain ⟨S, h1, h2, h3⟩ := h
  have := h2 D i o a w h1 hD ho hni hp
  split
  · rename_i hw
    rw [if_pos hw] at this
    exact this.mono fun a w h => ⟨S, h, h2, h3⟩
  · rename_i hw
    rw [if_neg hw] at this
    exact ⟨S, this, h2, h3⟩
theorem step_mono {o : Oper} {ops : Array Oper} {K K' : Act → World → Prop} (h : if Region.wanted o (yielded ops a.tmps) then OpK P r o a w K else K (a.put o.dst undef) w) (hK : ∀ a w, K a w → K' a w) :
    if Region.wanted o (yielded ops a.tmps) then OpK P r o a w K' else K' (a.put o.dst undef) w := by
  split
  · rename_i hw
    rw [if_pos hw] at h
    exact h.mono hK
  · rename_i hw
    rw [if_neg hw] at h
    exact hK _ _ h

/-- Operations that come in the text's order. -/
theorem wd_lin (m : Nat) (ss : List Nat) (hE : earlyB l = true) (hb : barB l ss m = true) (hc : chainB l k m = true) (h : WL P r l.toArray (fun a w => WD P r l K m a w) ((l.drop k).take (m - k)) a w) : WD P r l K k a w := by
  simp only [chainB, Bool.and_eq_true, List.all_eq_true, List.mem_range, Bool.or_eq_true, decide_eq_true_eq, List.contains_eq_mem] at hc
  obtain ⟨⟨hkm, hml⟩, hch⟩ := hc
  let S : List Nat → Act → World → Prop := fun D a w => Closed l D ∧ ((∃ j, k ≤ j ∧ j ≤ m ∧ (∀ i, i ∈ D ↔ i < j) ∧ WL P r l.toArray (fun a w => WD P r l K m a w) ((l.drop j).take (m - j)) a w) ∨ ((∀ j, j < m → j ∈ D) ∧ Beh P r l K D a w))
  have conv : ∀ D a w, D.Nodup → (∀ i, i ∈ D ↔ i < m) → WL P r l.toArray (fun a w => WD P r l K m a w) ((l.drop m).take (m - m)) a w → Beh P r l K D a w := by
    intro D a w hD hm hw
    rw [Nat.sub_self, List.take_zero] at hw
    exact WD.beh hw hD hm
  refine ⟨S, fun D hD hk => ⟨fun i hi j hj => ?_, .inl ⟨k, Nat.le_refl _, hkm, hk, h⟩⟩, ?_, ?_⟩
  · have hik := (hk i).1 hi
    exact (hk j).2 (Nat.lt_trans (earlyB_lt hE (by omega) hj) hik)
  · intro D i o a w hS hD ho hni hp
    obtain ⟨hcl, hS⟩ := hS
    have hol : l[i]? = some o := by simpa using ho
    have hi : i < l.length := (List.getElem?_eq_some_iff.1 hol).1
    have hp' : ∀ j ∈ aft (opAt l i), j ∈ D := by
      rw [opAt_of hol]; intro j hj
      obtain ⟨e, he, hb, rfl⟩ := mem_aft.1 hj
      exact hp e he hb
    have fin2 : Beh P r l K D a w → (∀ j, j < m → j ∈ D) → if Region.wanted o (yielded l.toArray a.tmps) then OpK P r o a w (S (i :: D)) else S (i :: D) (a.put o.dst undef) w := fun hB hall =>
      step_mono (hB.step hD ho hni hp) fun a w h => ⟨hcl.cons hp', .inr ⟨fun j hj => List.mem_cons_of_mem _ (hall j hj), h⟩⟩
    rcases hS with ⟨j, hkj, hjm, hDj, hwl⟩ | ⟨hall, hB⟩
    · by_cases him : m ≤ i
      · have hall := bar_all hE hb hcl i hi him hp'
        have hjm' : j = m := by
          rcases Nat.lt_or_ge j m with h | h
          · exact absurd ((hDj j).1 (hall j h)) (by omega)
          · omega
        subst hjm'
        exact fin2 (conv D a w hD hDj hwl) hall
      · have hij : i = j := by
          rcases Nat.lt_trichotomy i j with h | h | h
          · exact absurd ((hDj i).2 h) hni
          · exact h
          · have h1 := (hch i (by omega)).resolve_left (by omega)
            have := (hDj (i - 1)).1 (hp' _ h1)
            omega
        subst hij
        have hdrop : (l.drop i).take (m - i) = o :: (l.drop (i + 1)).take (m - (i + 1)) := by
          rw [List.drop_eq_getElem_cons hi, show m - i = (m - (i + 1)) + 1 by omega, List.take_succ_cons]
          congr 1
          exact (List.getElem?_eq_some_iff.1 hol).2
        rw [hdrop] at hwl
        unfold WL at hwl
        refine step_mono (K := WL P r l.toArray (fun a w => WD P r l K m a w) ((l.drop (i + 1)).take (m - (i + 1)))) hwl fun a w h => ⟨hcl.cons hp', .inl ⟨i + 1, by omega, by omega, fun q => by rw [List.mem_cons, hDj]; omega, h⟩⟩
    · exact fin2 hB hall
  · intro D a w hS hD hall
    obtain ⟨hcl, ⟨j, hkj, hjm, hDj, hwl⟩ | ⟨_, hB⟩⟩ := hS
    · simp only [List.size_toArray] at hall
      have hjm' : j = m := by
        rcases Nat.lt_or_ge j m with h | h
        · exact absurd ((hDj j).1 (hall j (by omega))) (by omega)
        · omega
      subst hjm'
      exact (conv D a w hD hDj hwl).fin hD (by simpa using hall)
    · exact hB.fin hD hall

/-! ### a piece as a region of its own -/
def shiftO (k : Nat) (o : Oper) : Oper :=
  { o with after := (o.after.toList.filterMap fun e => match Nat.ble k e.on with | true => some { e with on := e.on - k } | false => none).toArray,
           guard := match o.guard with | none => none | some (j, b) => match Nat.ble k j with | true => some (j - k, b) | false => none }
def segOf (l : List Oper) (k m : Nat) : List Oper := ((l.drop k).take (m - k)).map (shiftO k)
def outG (l : List Oper) (k m : Nat) : List (Nat × Bool) := ((l.drop k).take (m - k)).filterMap fun o => match o.guard with | none => none | some (j, b) => match Nat.ble k j with | true => none | false => some (j, b)
/-- The guards that stand ahead of the piece are known: open (want) or shut. -/
def gok (N : Nat) (L : List (Nat × Value)) (l : List Oper) (want : Bool) : List (Nat × Bool) → Bool
  | [] => true
  | g :: gs => (match (l[g.1]?).bind (·.dst) with
    | some d => Nat.blt d N && (match lk L d with | some (.bool b) => (b == g.2) == want | _ => false)
    | none => false) && gok N L l want gs
def segB (l : List Oper) (k m : Nat) : Bool :=
  decide (k ≤ m) && decide (m ≤ l.length) &&
  ((List.range m).all fun i => decide (i < k) || match (opAt l i).guard with | some (j, _) => decide (j < i) && (decide (k ≤ j) || (List.range m).all fun i' => decide (i' < k) || !((opAt l i').dst == (opAt l j).dst)) | none => true)

theorem opk_put {o : Oper} (h : OpK P r o a w K) : OpK P r o a w (fun a' w' => K a' w' ∧ ∃ v, a'.tmps = (a.put o.dst v).tmps) := by
  refine ⟨h.1, ?_⟩
  have hh := h.2
  generalize (o.semAt (Fw r).round a.eval).run P w = x at *
  have hm : ∀ {f : FuncId} {args : Array Value} {w1 : World}, CallsIn (Fw r) (0 - 1) P f args w1 (fun
      | .returned v, w'' => K (a.put o.dst v) w''
      | .panicked chain, w'' => False
      | .outgrown, _ => LetsOut (fun _ _ _ => False)) → CallsIn (Fw r) (0 - 1) P f args w1 (fun
      | .returned v, w'' => K (a.put o.dst v) w'' ∧ ∃ u, (a.put o.dst v).tmps = (a.put o.dst u).tmps
      | .panicked chain, w'' => False
      | .outgrown, _ => LetsOut (fun _ _ _ => False)) := by
    intro f args w1 hc
    refine CallsIn.mono hc fun e w' hR => ?_
    cases e with
    | returned v => exact ⟨hR, v, rfl⟩
    | panicked c => exact hR
    | outgrown => exact hR
  cases x with
  | halt hh2 w =>
    cases hh2 with
    | panic v => exact hh
    | _ => exact hh
  | ok nx w =>
    cases nx with
    | value v => exact ⟨hh, v, rfl⟩
    | skip => exact ⟨hh, undef, rfl⟩
    | defer d => exact ⟨hh, undef, by cases hd : o.dst <;> simp [Act.put]⟩
    | enter f args => exact ⟨hh.1, hm hh.2⟩
    | row rw args => exact ⟨hh.1, hh.2.mono fun v _ h => ⟨h, v, rfl⟩⟩
    | round l f tmps as body =>
      refine ⟨hh.1, hh.2.mono fun e w' hR => ?_⟩
      cases e with
      | returned v => exact ⟨hR, v, rfl⟩
      | panicked c => exact hR
      | outgrown => exact hR
    | _ => exact hh
theorem opk_shift {o : Oper} (h : OpK P r (shiftO k o) a w K) : OpK P r o a w K := h

theorem segOf_get {i : Nat} (hki : k ≤ i) (him : i < m) : (segOf l k m)[i - k]? = (l[i]?).map (shiftO k) := by
  rw [segOf, List.getElem?_map, List.getElem?_take, if_pos (by omega), List.getElem?_drop, show k + (i - k) = i by omega]
theorem yielded_seg {j : Nat} {tmps : Array Value} (hkj : k ≤ j) (hjm : j < m) : yielded (segOf l k m).toArray tmps (j - k) = yielded l.toArray tmps j := by
  unfold yielded
  rw [List.getElem?_toArray, List.getElem?_toArray, segOf_get hkj hjm]
  cases l[j]? <;> rfl
theorem gok_yielded {gs : List (Nat × Bool)} {want : Bool} (hfr : Fr N L df a) (h : gok N L l want gs = true) : ∀ g ∈ gs, ∃ b, yielded l.toArray a.tmps g.1 = some b ∧ (b == g.2) = want := by
  induction gs with
  | nil => intro g hg; cases hg
  | cons g0 gs ih =>
    simp only [gok, Bool.and_eq_true] at h
    intro g hg
    rcases List.mem_cons.1 hg with rfl | hg
    · have h1 := h.1
      split at h1
      · rename_i d hd
        simp only [Bool.and_eq_true] at h1
        have hdN : d < N := by simpa using h1.1
        have h2 := h1.2
        split at h2
        · rename_i b hb
          refine ⟨b, yielded_of (ops := l.toArray) hfr (by simpa using hd) hdN hb, by simpa using h2⟩
        · cases h2
      · cases h1
    · exact ih h.2 g hg

theorem dst_of_yielded {ops : Array Oper} {tmps : Array Value} {j : Nat} {b : Bool} (h : yielded ops tmps j = some b) {d : Nat} {v : Value} (hne : (ops[j]?).bind (·.dst) ≠ some d) : yielded ops (tmps.setIfInBounds d v) j = some b := by
  unfold yielded at *
  cases hj : (ops[j]?).bind (·.dst) with
  | none => simp [hj] at h
  | some d' =>
    have hdd : d' ≠ d := fun e => hne (by rw [hj, e])
    simp only [hj]at h ⊢
    simp only [Option.bind_some] at h ⊢
    rw [Array.getElem?_setIfInBounds, if_neg (fun e => hdd e.symm)]
    exact h

theorem wd_sub (m : Nat) (ss : List Nat) (hfr : Fr N L df a) (hE : earlyB l = true) (hb : barB l ss m = true) (hg : segB l k m = true) (hgo : gok N L l true (outG l k m) = true)
    (h : DR P r (segOf l k m).toArray (fun a w => WD P r l K m a w) a w) : WD P r l K k a w := by
  obtain ⟨S1, hE1, h10, hst1, hfin1⟩ := h w (Ext.refl _ _)
  have hgy := gok_yielded hfr hgo
  simp only [segB, Bool.and_eq_true, List.all_eq_true, List.mem_range, Bool.or_eq_true, decide_eq_true_eq] at hg
  obtain ⟨⟨hkm, hml⟩, hgd⟩ := hg
  let G : Act → Prop := fun a => ∀ g ∈ outG l k m, yielded l.toArray a.tmps g.1 = some g.2
  have hG0 : G a := fun g hg => by
    obtain ⟨b, h1, h2⟩ := hgy g hg
    rw [h1, show b = g.2 by simpa using h2]
  let S : List Nat → Act → World → Prop := fun D a w => Closed l D ∧ ((∃ D1 : List Nat, D1.Nodup ∧ (∀ i, i ∈ D ↔ i < k ∨ (k ≤ i ∧ i < m ∧ i - k ∈ D1)) ∧ (∀ j ∈ D1, j < m - k) ∧ G a ∧ S1 D1 a w) ∨ ((∀ j, j < m → j ∈ D) ∧ Beh P r l K D a w))
  have conv : ∀ (D D1 : List Nat) a w, D.Nodup → D1.Nodup → (∀ i, i ∈ D ↔ i < k ∨ (k ≤ i ∧ i < m ∧ i - k ∈ D1)) → (∀ j, j < m → j ∈ D) → S1 D1 a w → Beh P r l K D a w := by
    intro D D1 a w hD hD1 hDD hall hs
    have hwd := hfin1 D1 a w hs hD1 (fun i hi => by
      simp only [segOf, List.size_toArray, List.length_map, List.length_take, List.length_drop] at hi
      have := (hDD (i + k)).1 (hall (i + k) (by omega))
      rcases this with h | ⟨_, _, h⟩
      · omega
      · simpa using h)
    exact WD.beh hwd hD fun i => ⟨fun hi => by rcases (hDD i).1 hi with h | ⟨_, h, _⟩ <;> omega, fun hi => hall i hi⟩
  refine ⟨S, fun D hD hk => ⟨fun i hi j hj => ?_, .inl ⟨[], List.nodup_nil, fun i => by rw [hk]; simp, by simp, hG0, h10⟩⟩, ?_, ?_⟩
  · have hik := (hk i).1 hi
    exact (hk j).2 (Nat.lt_trans (earlyB_lt hE (by omega) hj) hik)
  · intro D i o a w hS hD ho hni hp
    obtain ⟨hcl, hS⟩ := hS
    have hol : l[i]? = some o := by simpa using ho
    have hi : i < l.length := (List.getElem?_eq_some_iff.1 hol).1
    have hp' : ∀ j ∈ aft (opAt l i), j ∈ D := by
      rw [opAt_of hol]; intro j hj
      obtain ⟨e, he, hb, rfl⟩ := mem_aft.1 hj
      exact hp e he hb
    have fin2 : Beh P r l K D a w → (∀ j, j < m → j ∈ D) → if Region.wanted o (yielded l.toArray a.tmps) then OpK P r o a w (S (i :: D)) else S (i :: D) (a.put o.dst undef) w := fun hB hall =>
      step_mono (hB.step hD ho hni hp) fun a w h => ⟨hcl.cons hp', .inr ⟨fun j hj => List.mem_cons_of_mem _ (hall j hj), h⟩⟩
    rcases hS with ⟨D1, hD1, hDD, hlt, hGa, hs⟩ | ⟨hall, hB⟩
    · by_cases him : m ≤ i
      · have hall := bar_all hE hb hcl i hi him hp'
        exact fin2 (conv D D1 a w hD hD1 hDD hall hs) hall
      · have him : i < m := by omega
        have hki : k ≤ i := by
          refine Classical.byContradiction fun hn => hni ((hDD i).2 (.inl (by omega)))
        have hseg : (segOf l k m).toArray[i - k]? = some (shiftO k o) := by rw [List.getElem?_toArray, segOf_get hki him, hol]; rfl
        have hn1 : i - k ∉ D1 := fun hh => hni ((hDD i).2 (.inr ⟨hki, him, hh⟩))
        have h1 := hst1 D1 (i - k) (shiftO k o) a w hs hD1 hseg hn1 (by
          intro e he hbd
          simp only [shiftO, List.mem_toArray, List.mem_filterMap] at he
          obtain ⟨e0, he0, h2⟩ := he
          split at h2
          · rename_i hkl
            cases h2
            have hon : e0.on ∈ D := hp e0 (Array.mem_toList_iff.1 he0) hbd
            have hke : k ≤ e0.on := Nat.le_of_ble_eq_true hkl
            rcases (hDD e0.on).1 hon with h3 | ⟨_, _, h3⟩
            · omega
            · exact h3
          · cases h2)
        have hgi := hgd i (by omega)
        rw [opAt_of hol] at hgi
        have hwant : Region.wanted (shiftO k o) (yielded (segOf l k m).toArray a.tmps) = Region.wanted o (yielded l.toArray a.tmps) := by
          unfold Region.wanted
          cases hgu : o.guard with
          | none => simp [shiftO, hgu]
          | some g =>
            obtain ⟨j, b⟩ := g
            rw [hgu] at hgi
            have hgi := (hgi.resolve_left (by omega))
            simp only [Bool.and_eq_true, decide_eq_true_eq] at hgi
            cases hkl : Nat.ble k j with
            | true =>
              have hkj := Nat.le_of_ble_eq_true hkl
              simp only [shiftO, hgu, hkl]
              rw [yielded_seg hkj (by omega)]
            | false =>
              have hmem : (j, b) ∈ outG l k m := by
                simp only [outG, List.mem_filterMap]
                refine ⟨o, ?_, by rw [hgu]; simp only [hkl]⟩
                have : ((l.drop k).take (m - k))[i - k]? = some o := by rw [List.getElem?_take, if_pos (by omega), List.getElem?_drop, show k + (i - k) = i by omega, hol]
                exact List.mem_of_getElem? this
              have := hGa _ hmem
              simp only at this
              simp only [shiftO, hgu, hkl, this]
              simp
        rw [hwant] at h1
        have hDD' : ∀ q, q ∈ i :: D ↔ q < k ∨ (k ≤ q ∧ q < m ∧ q - k ∈ (i - k) :: D1) := by
          intro q
          rw [List.mem_cons, hDD, List.mem_cons]
          constructor
          · rintro (rfl | h | ⟨h2, h3, h4⟩)
            · exact .inr ⟨hki, him, .inl rfl⟩
            · exact .inl h
            · exact .inr ⟨h2, h3, .inr h4⟩
          · rintro (h | ⟨h2, h3, h4 | h4⟩)
            · exact .inr (.inl h)
            · exact .inl (by omega)
            · exact .inr (.inr ⟨h2, h3, h4⟩)
        have hGp : ∀ v a', G a → a'.tmps = (a.put o.dst v).tmps → G a' := by
          intro v a' hga ht g hg
          rw [ht]
          cases hd : o.dst with
          | none => simpa [Act.put] using hga g hg
          | some d =>
            simp only [Act.put]
            refine dst_of_yielded (hga g hg) ?_
            simp only [outG, List.mem_filterMap] at hg
            obtain ⟨o', ho', h2⟩ := hg
            obtain ⟨q, hq⟩ := List.getElem?_of_mem ho'
            have hqm : q < m - k := by
              have := (List.getElem?_eq_some_iff.1 hq).1
              simp at this; omega
            have hq' : l[k + q]? = some o' := by
              rw [List.getElem?_take, if_pos hqm, List.getElem?_drop] at hq; exact hq
            have h3 := hgd (k + q) (by omega)
            rw [opAt_of hq'] at h3
            have h3 := h3.resolve_left (by omega)
            cases hgu : o'.guard with
            | none => rw [hgu] at h2; cases h2
            | some jb =>
              obtain ⟨j, b⟩ := jb
              rw [hgu] at h2 h3
              simp only at h2
              cases hkl : Nat.ble k j with
              | true => rw [hkl] at h2; cases h2
              | false =>
                rw [hkl] at h2
                cases h2
                simp only [Bool.and_eq_true, decide_eq_true_eq, Bool.or_eq_true, List.all_eq_true, List.mem_range, Bool.not_eq_true', beq_eq_false_iff_ne] at h3
                have hnk : ¬ k ≤ j := fun h => by rw [Nat.ble_eq_true_of_le h] at hkl; cases hkl
                have h4 := ((h3.2.resolve_left hnk) i him).resolve_left (by omega)
                rw [opAt_of hol, hd] at h4
                intro h5
                apply h4
                rw [List.getElem?_toArray] at h5
                cases hlj : l[j]? with
                | none => rw [hlj] at h5; simp at h5
                | some oj => rw [hlj] at h5; rw [opAt_of hlj]; simpa using h5.symm
        have hcl' := hcl.cons hp'
        have hlt' : ∀ j ∈ (i - k) :: D1, j < m - k := fun j hj => by rcases List.mem_cons.1 hj with rfl | hj; omega; exact hlt j hj
        split
        · rename_i hw
          rw [if_pos hw] at h1
          refine (opk_put (opk_shift h1)).mono ?_
          rintro a' w' ⟨h2, v, hv⟩
          exact ⟨hcl', .inl ⟨(i - k) :: D1, List.nodup_cons.2 ⟨hn1, hD1⟩, hDD', hlt', hGp v a' hGa hv, h2⟩⟩
        · rename_i hw
          rw [if_neg hw] at h1
          exact ⟨hcl', .inl ⟨(i - k) :: D1, List.nodup_cons.2 ⟨hn1, hD1⟩, hDD', hlt', hGp undef _ hGa rfl, h1⟩⟩
    · exact fin2 hB hall
  · intro D a w hS hD hall
    obtain ⟨hcl, ⟨D1, hD1, hDD, hlt, hGa, hs⟩ | ⟨_, hB⟩⟩ := hS
    · have hall' : ∀ j, j < m → j ∈ D := fun j hj => hall j (by simp; omega)
      exact (conv D D1 a w hD hD1 hDD hall' hs).fin hD hall
    · exact hB.fin hD hall

/-- A piece whose guards are all shut. -/
def skipB (l : List Oper) (k m N : Nat) (ks : List Nat) : Bool :=
  decide (k ≤ m) && decide (m ≤ l.length) &&
  ((List.range m).all fun i => decide (i < k) || (match (opAt l i).guard with | some (j, _) => decide (j < k) && (List.range m).all fun i' => decide (i' < k) || !((opAt l i').dst == (opAt l j).dst) | none => false)) &&
  ((List.range m).all fun i => decide (i < k) || match (opAt l i).dst with | some d => decide (d < N) && !ks.contains d | none => true)
def dsts (l : List Oper) (k m : Nat) : List Nat := ((l.drop k).take (m - k)).filterMap (·.dst)

theorem wd_skip (m : Nat) (ss : List Nat) (hfr : Fr N L df a) (hE : earlyB l = true) (hb : barB l ss m = true) (hg : skipB l k m N (keys L) = true) (hgo : gok N L l false (outG l k m) = true)
    (h : ∀ a, Fr N ((dsts l k m).map (fun d => (d, undef)) ++ L) df a → WD P r l K m a w) : WD P r l K k a w := by
  simp only [skipB, Bool.and_eq_true, List.all_eq_true, List.mem_range, Bool.or_eq_true, decide_eq_true_eq] at hg
  obtain ⟨⟨⟨hkm, hml⟩, hgd⟩, hds⟩ := hg
  let F : List Nat → Act → Prop := fun D a => Fr N L df a ∧ ∀ d ∈ dsts l k m, (∃ i ∈ D, k ≤ i ∧ i < m ∧ (opAt l i).dst = some d) → a.tmps.getD d undef = undef ∧ d < a.tmps.size
  let S : List Nat → Act → World → Prop := fun D a w' => Closed l D ∧ ((w' = w ∧ (∀ i ∈ D, i < m) ∧ (∀ i, i < k → i ∈ D) ∧ F D a) ∨ ((∀ j, j < m → j ∈ D) ∧ Beh P r l K D a w'))
  have conv : ∀ (D : List Nat) a, D.Nodup → (∀ i ∈ D, i < m) → (∀ j, j < m → j ∈ D) → F D a → Beh P r l K D a w := by
    intro D a hD hlt hall hF
    refine WD.beh (h a ⟨hF.1.size, fun t v ht => ?_, hF.1.dfs⟩) hD fun i => ⟨hlt i, hall i⟩
    by_cases hc : t ∈ dsts l k m
    · have hv : v = undef := by
        have : ∀ (ds : List Nat), t ∈ ds → lk (ds.map (fun d => (d, undef)) ++ L) t = some undef := by
          intro ds
          induction ds with
          | nil => intro h; cases h
          | cons d ds ih =>
            intro h
            simp only [List.map_cons, List.cons_append, lk]
            split
            · rfl
            · rename_i hk
              have : d ≠ t := Nat.ne_of_beq_eq_false hk
              rcases List.mem_cons.1 h with rfl | h
              · exact absurd rfl this
              · exact ih h
        rw [this _ hc] at ht
        cases ht; rfl
      subst hv
      obtain ⟨o, ho, hd⟩ := List.mem_filterMap.1 hc
      obtain ⟨q, hq⟩ := List.getElem?_of_mem ho
      have hqm : q < m - k := by
        have := (List.getElem?_eq_some_iff.1 hq).1
        simp at this; omega
      rw [List.getElem?_take, if_pos hqm, List.getElem?_drop] at hq
      exact (hF.2 t hc ⟨k + q, hall _ (by omega), by omega, by omega, by rw [opAt_of hq]; exact hd⟩).1
    · rw [lk_append_none] at ht
      · exact hF.1.get t v ht
      · refine lk_none fun hk => hc ?_
        simpa [keys] using hk
  refine ⟨S, fun D hD hk => ⟨fun i hi j hj => ?_, .inl ⟨rfl, fun i hi => Nat.lt_of_lt_of_le ((hk i).1 hi) hkm, fun i hi => (hk i).2 hi, hfr, ?_⟩⟩, ?_, ?_⟩
  · have hik := (hk i).1 hi
    exact (hk j).2 (Nat.lt_trans (earlyB_lt hE (by omega) hj) hik)
  · rintro d hd ⟨i, hi, hki, _⟩
    exact absurd ((hk i).1 hi) (by omega)
  · intro D i o a w' hS hD ho hni hp
    obtain ⟨hcl, hS⟩ := hS
    have hol : l[i]? = some o := by simpa using ho
    have hi : i < l.length := (List.getElem?_eq_some_iff.1 hol).1
    have hp' : ∀ j ∈ aft (opAt l i), j ∈ D := by
      rw [opAt_of hol]; intro j hj
      obtain ⟨e, he, hb, rfl⟩ := mem_aft.1 hj
      exact hp e he hb
    have fin2 : Beh P r l K D a w' → (∀ j, j < m → j ∈ D) → if Region.wanted o (yielded l.toArray a.tmps) then OpK P r o a w' (S (i :: D)) else S (i :: D) (a.put o.dst undef) w' := fun hB hall =>
      step_mono (hB.step hD ho hni hp) fun a w h => ⟨hcl.cons hp', .inr ⟨fun j hj => List.mem_cons_of_mem _ (hall j hj), h⟩⟩
    rcases hS with ⟨rfl, hlt, hlow, hF⟩ | ⟨hall, hB⟩
    · by_cases him : m ≤ i
      · have hall := bar_all hE hb hcl i hi him hp'
        exact fin2 (conv D a hD hlt hall hF) hall
      · have him : i < m := by omega
        have hki : k ≤ i := Classical.byContradiction fun hn => hni (hlow i (by omega))
        have hgi := (hgd i him).resolve_left (by omega)
        rw [opAt_of hol] at hgi
        have hdi := (hds i him).resolve_left (by omega)
        rw [opAt_of hol] at hdi
        cases hgu : o.guard with
        | none => rw [hgu] at hgi; cases hgi
        | some g =>
          obtain ⟨j, b⟩ := g
          rw [hgu] at hgi
          simp only [Bool.and_eq_true, decide_eq_true_eq] at hgi
          have hmem : (j, b) ∈ outG l k m := by
            simp only [outG, List.mem_filterMap]
            have hkl : Nat.ble k j = false := by
              cases hb : Nat.ble k j with
              | false => rfl
              | true => exact absurd (Nat.le_of_ble_eq_true hb) (by omega)
            refine ⟨o, ?_, by rw [hgu]; simp only [hkl]⟩
            have : ((l.drop k).take (m - k))[i - k]? = some o := by rw [List.getElem?_take, if_pos (by omega), List.getElem?_drop, show k + (i - k) = i by omega, hol]
            exact List.mem_of_getElem? this
          obtain ⟨b', h1, h2⟩ := gok_yielded hF.1 hgo _ hmem
          simp only at h1 h2
          rw [if_neg (by rw [Region.wanted, hgu]; simp only [h1]; cases b <;> cases b' <;> simp_all)]
          refine ⟨hcl.cons hp', .inl ⟨rfl, fun q hq => by rcases List.mem_cons.1 hq with rfl | hq; exact him; exact hlt q hq, fun q hq => List.mem_cons_of_mem _ (hlow q hq), ?_⟩⟩
          cases hd : o.dst with
          | none =>
            refine ⟨by simpa [Act.put] using hF.1, ?_⟩
            rintro d hdm ⟨q, hq, hkq, hqm, hqd⟩
            simp only [Act.put]
            rcases List.mem_cons.1 hq with rfl | hq
            · rw [opAt_of hol, hd] at hqd; cases hqd
            · exact hF.2 d hdm ⟨q, hq, hkq, hqm, hqd⟩
          | some d0 =>
            rw [hd] at hdi
            simp only [Bool.and_eq_true, decide_eq_true_eq, Bool.not_eq_true', List.contains_eq_mem, decide_eq_false_iff_not] at hdi
            have hput := hF.1.put hdi.1 undef
            refine ⟨hput.weaken fun t v ht => ?_, ?_⟩
            · simp only [lk]
              split
              · rename_i hk
                have : d0 = t := Nat.eq_of_beq_eq_true hk
                subst this
                exact absurd (lk_some_key ht) hdi.2
              · exact ht
            · rintro d hdm ⟨q, hq, hkq, hqm, hqd⟩
              simp only [Act.put]
              rw [Array.getD_eq_getD_getElem?, Array.getElem?_setIfInBounds, Array.size_setIfInBounds]
              by_cases hdd : d0 = d
              · subst hdd
                rw [if_pos rfl, if_pos (by rw [hF.1.size]; exact hdi.1)]
                exact ⟨rfl, by rw [hF.1.size]; exact hdi.1⟩
              · rw [if_neg hdd]
                rcases List.mem_cons.1 hq with rfl | hq
                · rw [opAt_of hol, hd] at hqd; exact absurd (by simpa using hqd) hdd
                · have := hF.2 d hdm ⟨q, hq, hkq, hqm, hqd⟩
                  rw [Array.getD_eq_getD_getElem?] at this
                  exact this
    · exact fin2 hB hall
  · intro D a w' hS hD hall
    obtain ⟨hcl, ⟨rfl, hlt, hlow, hF⟩ | ⟨_, hB⟩⟩ := hS
    · have hall' : ∀ j, j < m → j ∈ D := fun j hj => hall j (by simp; omega)
      exact (conv D a hD hlt hall' hF).fin hD hall
    · exact hB.fin hD hall
theorem ptr_inj {b c : Nat} (h : ptr b = ptr c) : b = c := by
  simp only [ptr, Value.pointer.injEq, Option.some.injEq, Addr.mk.injEq, and_true] at h
  exact h
/-- A guard that is open. -/
theorem wl_open {ops : Array Oper} {rest : List Oper} {o : Oper} {j d : Nat} {b : Bool} (hfr : Fr N L df a) (hg : o.guard = some (j, b)) (hj : (ops[j]?).bind (·.dst) = some d) (hd : d < N) (hl : lk L d = some (.bool b))
    (h : WL P r ops K ({ o with guard := none } :: rest) a w) : WL P r ops K (o :: rest) a w := by
  refine wl_guard_yes hg (yielded_of hfr hj hd hl) ?_
  unfold WL at h
  rw [if_pos (by simp [Region.wanted])] at h
  exact h
end
end Go.PW
