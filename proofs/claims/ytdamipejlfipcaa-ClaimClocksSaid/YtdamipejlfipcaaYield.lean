/- Calls of yield, seen from an iterator; entries joined at the end. -/
import Derived.Test.YtdamipejlfipcaaDrawM
import Derived.Test.YtdamipejlfipcaaRange
namespace Go.PW
open Go.RowKit
set_option linter.unusedVariables false
section
variable {P : Program} {r : Option Nat} {a : Act} {w w' w0 : World} {M : Nat → Prop} {H E : List Ent} {N : Nat}

/-- The rounds behind yield l: J pre e: the values pre have come, e is what the rounds own; Jx: they have said no. -/
def Rounds (P : Program) {α : Type} (l : Nat) (encs : α → List Value) (Nx : List α → α → Prop) (J Jx : List α → Ent → Prop) : Prop :=
  ∀ pre x e W, Nx pre x → J pre e → e.ok W → (∀ k, e.foot k → k < W.heap.size) →
      Yield P l (encs x).toArray W fun v W' => ∃ e', Ext e.foot W W' ∧ e'.ok W' ∧ (∀ b, e'.foot b → b < W'.heap.size ∧ (e.foot b ∨ W.heap.size ≤ b)) ∧
        ((v = .bool true ∧ J (pre ++ [x]) e') ∨ (v = .bool false ∧ Jx (pre ++ [x]) e'))
theorem Rounds.yield {α : Type} {l : Nat} {encs : α → List Value} {Nx : List α → α → Prop} {J Jx : List α → Ent → Prop} (h : Rounds P l encs Nx J Jx) {pre : List α} {x : α} {e : Ent}
    (hn : Nx pre x) (hJ : J pre e) (hok : e.ok w) (hlt : ∀ k, e.foot k → k < w.heap.size) :
    Yield P l (encs x).toArray w fun v W' => ∃ y e', v = .bool y ∧ Ext e.foot w W' ∧ e'.ok W' ∧ (∀ b, e'.foot b → b < W'.heap.size ∧ (e.foot b ∨ w.heap.size ≤ b)) ∧ (y = true → J (pre ++ [x]) e') ∧ (y = false → Jx (pre ++ [x]) e') :=
  (h pre x e w hn hJ hok hlt).mono fun v W' ⟨e', h1, h2, h3, h4⟩ => by
    rcases h4 with ⟨hv, h4⟩ | ⟨hv, h4⟩
    · exact ⟨true, e', hv, h1, h2, h3, fun _ => h4, fun h => (by cases h)⟩
    · exact ⟨false, e', hv, h1, h2, h3, fun h => (by cases h), fun _ => h4⟩
theorem St.joinTail (A B : List Ent) (h : St M w0 (A ++ B) w) : St M w0 (A ++ [PW.join B]) w :=
  (St.join B A (h.perm List.perm_append_comm)).perm (List.perm_append_comm (l₁ := [PW.join B]) (l₂ := A))
theorem St.unjoinTail (A B : List Ent) (h : St M w0 (A ++ [PW.join B]) w) : St M w0 (A ++ B) w :=
  (St.unjoin B A (h.perm (List.perm_append_comm (l₁ := A) (l₂ := [PW.join B])))).perm List.perm_append_comm
/-- Some of the entries, in whatever order. -/
theorem St.select (is : List Nat) (h : St M w0 H w) (hn : is.Nodup) : St M w0 (is.filterMap fun i => H[i]?) w := by
  refine ⟨h.ext, fun e he => ?_, ?_⟩
  · obtain ⟨i, _, hi⟩ := List.mem_filterMap.1 he
    exact h.ok e (List.mem_of_getElem? hi)
  · rw [List.pairwise_filterMap]
    refine hn.imp fun {i j} hij e he e' he' => ?_
    obtain ⟨h1, h1'⟩ := List.getElem?_eq_some_iff.1 he
    obtain ⟨h2, h2'⟩ := List.getElem?_eq_some_iff.1 he'
    subst h1'; subst h2'
    have hp := List.pairwise_iff_getElem.1 h.dis
    rcases Nat.lt_or_gt_of_ne hij with hlt | hlt
    · exact hp i j h1 h2 hlt
    · exact Ent.disj_symm (hp j i h2 h1 hlt)
/-- A range's mark is read and struck off. -/
theorem St.unmark {i D : Nat} {o o' : Obj} (h : St M w0 H w) (hi : H[i]? = some (obj D o)) : St M w0 (H.eraseIdx i) (w.putObj D o') := by
  have hlt : D < w.heap.size := h.lt hi rfl
  have h1 := h.exchange (k := i) (e' := obj D o') hi (Ext.putObj (M := (obj D o).foot) rfl w o') (World.putObj_heap_same hlt) (fun b hb => by cases hb; exact ⟨by simpa using hlt, .inl rfl⟩)
  have h2 : H.eraseIdx i = (H.set i (obj D o')).eraseIdx i := by rw [List.eraseIdx_set_eq]
  rw [h2]
  exact h1.sub (List.eraseIdx_sublist _ _)
/-- Two ways that come together again. -/
theorem wl_join {all : List Oper} {oa : Array Oper} {K : Act → World → Prop} {df : List Deferred} (n : Nat) (L' : List (Nat × Value)) (k : ∀ a, Fr N L' df a → WL P r oa K (all.drop n) a w)
    (h : (∀ a, Fr N L' df a → WL P r oa K (all.drop n) a w) → WL P r oa K all a w) : WL P r oa K all a w := h k
/-- Its guard was not asked. -/
theorem wl_vu {L : List (Nat × Value)} {df : List Deferred} {ops : Array Oper} {K : Act → World → Prop} {rest : List Oper} {d : Nat} {ty : TypeId} {pos : String} {af : Array Edge} {op : Op} {j g : Nat} {b : Bool} (hfr : Fr N L df a) (hd : d < N) (hj : (ops[j]?).bind (·.dst) = some g) (hgl : g < N) (hl : lk L g = some undef) (k : ∀ a, Fr N ((d, undef) :: L) df a → WL P r ops K rest a w) :
    WL P r ops K (⟨some d, op, ty, pos, af, some (j, b)⟩ :: rest) a w := by
  have hy : yielded ops a.tmps j = none := by
    have h := hfr.get g _ hl
    rw [Array.getD_eq_getD_getElem?] at h
    have hlt : g < a.tmps.size := by rw [hfr.size]; exact hgl
    rw [Array.getElem?_eq_getElem hlt] at h
    simp only [Option.getD_some] at h
    simp [yielded, hj, Array.getElem?_eq_getElem hlt, h, undef]
  unfold WL
  rw [if_neg (by rw [Region.wanted]; simp only [hy]; simp)]
  exact k _ (hfr.put hd _)
end
end Go.PW
