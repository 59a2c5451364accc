import Derived.Test.YtdamipejlfipcaaCore
namespace Go.PW
open Go.RowKit
set_option linter.unusedVariables false

/-! ### worlds -/
/-- Nothing has turned of what was there, but for the blocks of M. -/
structure Ext (M : Nat → Prop) (w w' : World) : Prop where
  os : w'.os = w.os
  tape : w'.tape = w.tape
  output : w'.output = w.output
  size : w.heap.size ≤ w'.heap.size
  same : ∀ k, k < w.heap.size → ¬ M k → w'.heap[k]? = w.heap[k]?

abbrev No : Nat → Prop := fun _ => False

section
variable {M M' : Nat → Prop} {u v w w' : World}
theorem Ext.refl (M : Nat → Prop) (w : World) : Ext M w w := ⟨rfl, rfl, rfl, Nat.le_refl _, fun _ _ _ => rfl⟩
theorem Ext.trans (h : Ext M u v) (k : Ext M' v w) (hm : ∀ b, b < u.heap.size → M' b → M b) : Ext M u w :=
  ⟨k.os.trans h.os, k.tape.trans h.tape, k.output.trans h.output, Nat.le_trans h.size k.size, fun i hi hn =>
    (k.same i (Nat.lt_of_lt_of_le hi h.size) (fun hm' => hn (hm i hi hm'))).trans (h.same i hi hn)⟩
theorem Ext.trans' (h : Ext M u v) (k : Ext M v w) : Ext M u w := h.trans k fun _ _ h => h
theorem Ext.mono (h : Ext M u v) (hm : ∀ b, b < u.heap.size → M b → M' b) : Ext M' u v := ⟨h.os, h.tape, h.output, h.size, fun k hk hn => h.same k hk fun h => hn (hm k hk h)⟩
theorem Ext.below (h : Ext No u v) : Below u.heap.size u v := ⟨h.os, h.tape, h.output, h.size, fun k hk => h.same k hk (fun h => h)⟩
theorem Ext.of_below (h : Below u.heap.size u v) : Ext No u v := ⟨h.os, h.tape, h.output, h.size, fun k hk _ => h.block k hk⟩
theorem Ext.alloc (M : Nat → Prop) (w : World) (o : Obj) : Ext M w (w.alloc o) := ⟨rfl, rfl, rfl, by simp, fun k hk _ => Below.heap_alloc w o k hk⟩
theorem Ext.drew (M : Nat → Prop) (w : World) : Ext M w w.drew := ⟨rfl, rfl, rfl, Nat.le_refl _, fun _ _ _ => rfl⟩
theorem Ext.putObj {b : Nat} (hb : M b) (w : World) (o : Obj) : Ext M w (w.putObj b o) := ⟨rfl, rfl, rfl, by simp, fun k hk hn => World.putObj_heap_other (fun e => hn (e ▸ hb))⟩
end

/-! ### entries -/
structure Ent where
  foot : Nat → Prop
  ok : World → Prop
  stable : ∀ w w' : World, (∀ k, foot k → w'.heap[k]? = w.heap[k]?) → ok w → ok w'

def Ent.disj (e e' : Ent) : Prop := ∀ k, e.foot k → e'.foot k → False

/-- A block of which all is known. -/
def obj (b : Nat) (o : Obj) : Ent := ⟨(· = b), fun w => w.heap[b]? = some o, fun w w' h ho => (h b rfl).trans ho⟩
/-- A block of cells of the call's own. -/
def blk (b : Nat) (cs : List Value) (T : TypeId) : Ent := obj b (.cells cs.toArray T)

/-- What is known of the world: nothing of w0 has turned, but for M; each entry holds; no two entries meet. -/
structure St (M : Nat → Prop) (w0 : World) (H : List Ent) (w : World) : Prop where
  ext : Ext M w0 w
  ok : ∀ e ∈ H, e.ok w ∧ ∀ k, e.foot k → k < w.heap.size ∧ (k < w0.heap.size → M k)
  dis : H.Pairwise Ent.disj

section
variable {M : Nat → Prop} {w0 w w' : World} {H H' : List Ent} {e e' : Ent}

theorem St.init (w : World) : St No w [] w := ⟨Ext.refl _ _, by simp, List.Pairwise.nil⟩
theorem St.init' (M : Nat → Prop) (w : World) : St M w [] w := ⟨Ext.refl _ _, by simp, List.Pairwise.nil⟩

theorem St.get {k : Nat} (h : St M w0 H w) (hk : H[k]? = some e) : e.ok w := (h.ok e (List.mem_of_getElem? hk)).1
theorem St.lt {k b : Nat} (h : St M w0 H w) (hk : H[k]? = some e) (hb : e.foot b) : b < w.heap.size := ((h.ok e (List.mem_of_getElem? hk)).2 b hb).1
theorem St.mem (h : St M w0 H w) (hk : e ∈ H) : e.ok w := (h.ok e hk).1

/-- Nothing that was there turned. -/
theorem St.grow (h : St M w0 H w) (hx : Ext No w w') : St M w0 H w' := by
  refine ⟨h.ext.trans hx (fun _ _ h => h.elim), fun e he => ?_, h.dis⟩
  obtain ⟨h1, h2⟩ := h.ok e he
  exact ⟨e.stable w w' (fun k hk => hx.same k (h2 k hk).1 (fun h => h)) h1, fun k hk => ⟨Nat.lt_of_lt_of_le (h2 k hk).1 hx.size, (h2 k hk).2⟩⟩

/-- A new entry, in new blocks. -/
theorem St.push (h : St M w0 H w) (hx : Ext No w w') (hok : e.ok w') (hf : ∀ k, e.foot k → w.heap.size ≤ k ∧ k < w'.heap.size) : St M w0 (e :: H) w' := by
  have hg := h.grow hx
  refine ⟨hg.ext, fun e' he' => ?_, List.Pairwise.cons ?_ h.dis⟩
  · rcases List.mem_cons.1 he' with rfl | he'
    · exact ⟨hok, fun k hk => ⟨(hf k hk).2, fun hlt => absurd h.ext.size (by have := (hf k hk).1; omega)⟩⟩
    · exact hg.ok e' he'
  · intro e' he' k hk hk'
    have h1 := (hf k hk).1
    have h2 := ((h.ok e' he').2 k hk').1
    omega

theorem St.alloc (h : St M w0 H w) (o : Obj) : St M w0 (obj w.heap.size o :: H) (w.alloc o) :=
  h.push (Ext.alloc _ _ _) (World.alloc_heap_new w o) (fun k hk => by cases hk; simp)

/-- One entry is exchanged: blocks of its own may have turned, new ones have come. -/
theorem St.exchange {k : Nat} (h : St M w0 H w) (hk : H[k]? = some e) (hx : Ext e.foot w w') (hok : e'.ok w') (hf : ∀ b, e'.foot b → b < w'.heap.size ∧ (e.foot b ∨ w.heap.size ≤ b)) : St M w0 (H.set k e') w' := by
  have hmem := List.mem_of_getElem? hk
  obtain ⟨hklt, hke⟩ := List.getElem?_eq_some_iff.1 hk
  have hfoot := (h.ok e hmem).2
  have hpw := List.pairwise_iff_getElem.1 h.dis
  refine ⟨h.ext.trans hx (fun b hb hf => (hfoot b hf).2 hb), ?_, ?_⟩
  · intro e1 he1
    obtain ⟨j, hj, hje⟩ := List.getElem_of_mem he1
    rw [List.length_set] at hj
    rw [List.getElem_set] at hje
    by_cases hjk : k = j
    · rw [if_pos hjk] at hje
      subst hje
      refine ⟨hok, fun b hb => ⟨(hf b hb).1, fun hlt => ?_⟩⟩
      rcases (hf b hb).2 with h1 | h1
      · exact (hfoot b h1).2 hlt
      · have := h.ext.size; omega
    · rw [if_neg hjk] at hje
      subst hje
      obtain ⟨h1, h2⟩ := h.ok _ (List.getElem_mem hj)
      refine ⟨(H[j]).stable w w' (fun b hb => hx.same b (h2 b hb).1 (fun hbe => ?_)) h1, fun b hb => ⟨Nat.lt_of_lt_of_le (h2 b hb).1 hx.size, (h2 b hb).2⟩⟩
      rcases Nat.lt_or_gt_of_ne hjk with hlt | hlt
      · exact hpw k j hklt hj hlt b (by rw [hke]; exact hbe) hb
      · exact hpw j k hj hklt hlt b hb (by rw [hke]; exact hbe)
  · rw [List.pairwise_iff_getElem]
    intro i j hi hj hij b hb1 hb2
    rw [List.length_set] at hi hj
    rw [List.getElem_set] at hb1 hb2
    by_cases hik : k = i
    · rw [if_pos hik] at hb1
      rw [if_neg (by omega)] at hb2
      have hlt := ((h.ok _ (List.getElem_mem hj)).2 b hb2).1
      rcases (hf b hb1).2 with h1 | h1
      · exact hpw k j hklt hj (by omega) b (by rw [hke]; exact h1) hb2
      · omega
    · rw [if_neg hik] at hb1
      have hlt := ((h.ok _ (List.getElem_mem hi)).2 b hb1).1
      by_cases hjk : k = j
      · rw [if_pos hjk] at hb2
        rcases (hf b hb2).2 with h1 | h1
        · exact hpw i k hi hklt (by omega) b hb1 (by rw [hke]; exact h1)
        · omega
      · rw [if_neg hjk] at hb2
        exact hpw i j hi hj hij b hb1 hb2

/-- Entries may be forgotten. -/
theorem St.sub (h : St M w0 H w) (hs : H'.Sublist H) : St M w0 H' w := ⟨h.ext, fun e he => h.ok e (hs.subset he), h.dis.sublist hs⟩

def mask : List Bool → List Ent → List Ent
  | true :: m, e :: H => e :: mask m H
  | false :: m, _ :: H => mask m H
  | _, _ => []
theorem mask_sub : ∀ (m : List Bool) (H : List Ent), (mask m H).Sublist H
  | [], H => by cases H <;> exact List.nil_sublist _
  | true :: m, e :: H => (mask_sub m H).cons_cons e
  | false :: m, e :: H => (mask_sub m H).cons e
  | true :: _, [] => List.nil_sublist _
  | false :: _, [] => List.nil_sublist _
theorem St.mask (m : List Bool) (h : St M w0 H w) : St M w0 (PW.mask m H) w := h.sub (mask_sub m H)

/-- What held of the world at the beginning holds still, where it leans on blocks that may not turn. -/
theorem St.base (h : St M w0 H w) (e : Ent) (hok : e.ok w0) (hf : ∀ k, e.foot k → k < w0.heap.size ∧ ¬ M k) : e.ok w :=
  e.stable w0 w (fun k hk => h.ext.same k (hf k hk).1 (hf k hk).2) hok
theorem St.size (h : St M w0 H w) : w0.heap.size ≤ w.heap.size := h.ext.size
end

/-! ### cells -/
def CellsAt (w : World) (b off : Nat) (cs : List Value) : Prop := ∀ j v, cs[j]? = some v → w.cell? ⟨b, off + j, none⟩ = some v

theorem addr_add (b off j : Nat) : (Addr.mk b off none).add j = ⟨b, off + j, none⟩ := by
  unfold Addr.add; split
  · rename_i h; subst h; rfl
  · rfl

section
variable {P : Program} {w : World} {b off : Nat} {cs : List Value} {T : TypeId}
theorem blk_cells (h : (blk b cs T).ok w) : CellsAt w b 0 cs := by
  intro j v hj
  have hb : w.heap[b]? = some (.cells cs.toArray T) := h
  simp [World.cell?, hb, hj]
theorem CellsAt.sub (h : CellsAt w b off cs) {i n : Nat} {ds : List Value} (hd : (cs.drop i).take n = ds) : CellsAt w b (off + i) ds := by
  intro j v hj
  subst hd
  rw [List.getElem?_take] at hj
  split at hj
  · rw [List.getElem?_drop] at hj
    have := h (i + j) v hj
    rwa [← Nat.add_assoc] at this
  · cases hj
theorem CellsAt.stable {w' : World} (h : CellsAt w b off cs) (hs : w'.heap[b]? = w.heap[b]?) : CellsAt w' b off cs := by
  intro j v hj
  have := h j v hj
  rw [← this]
  exact World.cell?_of_block (w := w) hs

theorem run_load_agg (hagg : (isAgg T).run P w = .ok true w) (hsz : (sizeOf T).run P w = .ok cs.length w) (h : CellsAt w b off cs) :
    (loadVar T ⟨b, off, none⟩).run P w = .ok (.agg cs.toArray) w := by
  have := run_loadCells_list (P := P) (w := w) ⟨b, off, none⟩ cs (fun j v hj => by rw [addr_add]; exact h j v hj)
  simp [loadVar, hagg, hsz, this]
theorem run_load_one {v : Value} (hagg : (isAgg T).run P w = .ok false w) (h : CellsAt w b off [v]) :
    (loadVar T ⟨b, off, none⟩).run P w = .ok v w := by
  have := h 0 v rfl
  simp only [Nat.add_zero] at this
  simp [loadVar, hagg, this]
end

def splice (cs : List Value) (off : Nat) (vs : List Value) : List Value := cs.take off ++ vs ++ cs.drop (off + vs.length)

theorem run_store_blk {P : Program} {w : World} {b : Nat} {E T : TypeId} {v : Value} {cs : List Value} {off : Nat} (hb : w.heap[b]? = some (.cells cs.toArray E))
    (hsz : (sizeOf T).run P w = .ok v.cells.size w) (hone : ∀ x ∈ v.cells.toList, x.oneCell' = true) (hfit : off + v.cells.size ≤ cs.length) :
    (storeVar T ⟨b, off, none⟩ v).run P w = .ok () (w.putObj b (.cells (splice cs off v.cells.toList).toArray E)) := by
  have h := run_storeCells_at (P := P) b off E v.cells.toList 0 cs.toArray w hb (by simpa using hfit) hone
  simp only [storeVar, Sem.run_bind, hsz, Result.andThen_ok]
  simp only [ne_eq, not_true_eq_false, if_false]
  have e : (splice cs off v.cells.toList).toArray = (cs.toArray.toList.take (off + 0) ++ v.cells.toList ++ cs.toArray.toList.drop (off + 0 + v.cells.toList.length)).toArray := by simp [splice]
  rw [e]
  generalize (cs.toArray.toList.take (off + 0) ++ v.cells.toList ++ cs.toArray.toList.drop (off + 0 + v.cells.toList.length)).toArray = A at *
  have e2 : w.setRow b A = w.putObj b (.cells A E) := by
    unfold World.setRow World.putObj
    congr 1
    apply Array.ext_getElem?
    intro i
    obtain ⟨hlt, hbe⟩ := Array.getElem?_eq_some_iff.1 hb
    rw [Array.getElem?_modify, Array.getElem?_setIfInBounds]
    by_cases hi : b = i
    · subst hi; simp [hlt, hbe]
    · simp [hi]
  rw [← e2, ← h]
end Go.PW
