import Derived.Test.YtdamipejlfipcaaFun
namespace Go.PW
open Go.RowKit
set_option linter.unusedVariables false
set_option linter.unusedSimpArgs false

section
variable {P : Program} {r : Option Nat} {a : Act} {w w' w0 : World} {M : Nat → Prop} {H E : List Ent} {N : Nat} {L : List (Nat × Value)} {df : List Deferred} {K : Act → World → Prop}

/-- New entries, in new blocks. -/
def EntsIn (w w' : World) (E : List Ent) : Prop := (∀ e ∈ E, e.ok w' ∧ ∀ k, e.foot k → w.heap.size ≤ k ∧ k < w'.heap.size) ∧ E.Pairwise Ent.disj
def GrowR (w : World) (R : Value → List Ent → Prop) : Value → World → Prop := fun v w' => Ext No w w' ∧ ∃ E, R v E ∧ EntsIn w w' E

theorem entsIn_nil : EntsIn w w' [] := ⟨by simp, List.Pairwise.nil⟩
theorem entsIn_one {e : Ent} (h : e.ok w') (hf : ∀ k, e.foot k → w.heap.size ≤ k ∧ k < w'.heap.size) : EntsIn w w' [e] := ⟨by simpa using ⟨h, hf⟩, List.pairwise_singleton _ _⟩
theorem EntsIn.cons {e : Ent} (hE : EntsIn w w' E) (h : e.ok w') (hf : ∀ k, e.foot k → w.heap.size ≤ k ∧ k < w'.heap.size) (hd : ∀ e' ∈ E, e.disj e') : EntsIn w w' (e :: E) :=
  ⟨fun e' he => (List.mem_cons.1 he).elim (fun h' => h' ▸ ⟨h, hf⟩) (hE.1 e'), List.Pairwise.cons hd hE.2⟩

theorem St.pushes (h : St M w0 H w) (hx : Ext No w w') (hE : EntsIn w w' E) : St M w0 (E ++ H) w' := by
  have hg := h.grow hx
  refine ⟨hg.ext, fun e he => ?_, ?_⟩
  · rcases List.mem_append.1 he with he | he
    · exact ⟨(hE.1 e he).1, fun k hk => ⟨((hE.1 e he).2 k hk).2, fun hlt => absurd h.ext.size (by have := ((hE.1 e he).2 k hk).1; omega)⟩⟩
    · exact hg.ok e he
  · rw [List.pairwise_append]
    refine ⟨hE.2, h.dis, fun e he e' he' k hk hk' => ?_⟩
    have h1 := ((hE.1 e he).2 k hk).1
    have h2 := ((h.ok e' he').2 k hk').1
    omega

theorem Ent.disj_symm {e e' : Ent} (h : e.disj e') : e'.disj e := fun k h1 h2 => h k h2 h1
theorem St.perm {H' : List Ent} (h : St M w0 H w) (hp : H.Perm H') : St M w0 H' w :=
  ⟨h.ext, fun e he => h.ok e (hp.mem_iff.2 he), (List.Perm.pairwise_iff (fun h => Ent.disj_symm h) hp).1 h.dis⟩
/-- Some of the entries, in whatever order, each at most once. -/
theorem St.part {H' : List Ent} (h : St M w0 (H' ++ H) w) : St M w0 H' w := h.sub (List.sublist_append_left _ _)

theorem perm_pick (D ps : List Nat) (hD : D.Nodup) (hp : ps.Nodup) (hs : ∀ p ∈ ps, p ∈ D) : ∃ rest, D.Perm (ps ++ rest) := by
  refine ⟨D.filter fun d => !ps.contains d, ?_⟩
  rw [List.perm_iff_count]
  intro x
  rw [List.count_append, hD.count, hp.count]
  have hf : (D.filter fun d => !ps.contains d).Nodup := hD.filter _
  rw [hf.count]
  by_cases h1 : x ∈ ps
  · have := hs x h1
    simp [h1, this]
  · by_cases h2 : x ∈ D <;> simp [h1, h2]

def dsOf (l : List Oper) (i : Nat) : Nat := ((l[i]?).bind (·.dst)).getD 0
def opAt (l : List Oper) (i : Nat) : Oper := (l[i]?).getD default
def keys (L : List (Nat × Value)) : List Nat := L.map (·.1)
def aft (o : Oper) : List Nat := o.after.toList.filterMap fun e => match Region.binds .any e with | true => some e.on | false => none
/-- What is asked of the region's form: asked by the kernel. -/
def phOk (l : List Oper) (m N : Nat) (ks : List Nat) (ps : List (List Nat)) : Bool :=
  ((List.range l.length).all fun i => (aft (opAt l i)).all fun j => decide (j < i)) &&
  ((List.range m).all fun i => (opAt l i).dst.isSome && (opAt l i).guard.isNone && decide (dsOf l i < N) && !ks.contains (dsOf l i) && (ps.getD i []).all (fun p => (aft (opAt l i)).contains p && decide (p < m)) && decide ((ps.getD i []).Nodup)) &&
  decide ((List.range m).map (dsOf l)).Nodup && decide (m ≤ l.length) &&
  ((List.range l.length).all fun i => decide (i < m) || (List.range i).all fun j => (decide (i ≠ m) && decide (j + 1 ≠ i)) || (aft (opAt l i)).contains j)

/-- The same, with guards that are known to be open. -/
def phOkG (l : List Oper) (m N : Nat) (ks : List Nat) (ps : List (List Nat)) : Bool :=
  ((List.range l.length).all fun i => (aft (opAt l i)).all fun j => decide (j < i)) &&
  ((List.range m).all fun i => (opAt l i).dst.isSome && ((opAt l i).guard.all fun g => (aft (opAt l i)).contains g.1 && decide (g.1 < m)) && decide (dsOf l i < N) && !ks.contains (dsOf l i) && (ps.getD i []).all (fun p => (aft (opAt l i)).contains p && decide (p < m)) && decide ((ps.getD i []).Nodup)) &&
  decide ((List.range m).map (dsOf l)).Nodup && decide (m ≤ l.length) &&
  ((List.range l.length).all fun i => decide (i < m) || (List.range i).all fun j => (decide (i ≠ m) && decide (j + 1 ≠ i)) || (aft (opAt l i)).contains j)

theorem lk_none {L : List (Nat × Value)} {t : Nat} (h : t ∉ keys L) : lk L t = none := by
  induction L with
  | nil => rfl
  | cons p L ih =>
    obtain ⟨k, v⟩ := p
    simp only [keys, List.map_cons, List.mem_cons, not_or] at h
    have : Nat.beq k t = false := by
      cases hb : Nat.beq k t with
      | false => rfl
      | true => exact absurd (Nat.eq_of_beq_eq_true hb).symm h.1
    simp only [lk, this]
    exact ih h.2
theorem lk_append_none {A B : List (Nat × Value)} {t : Nat} (h : lk A t = none) : lk (A ++ B) t = lk B t := by
  induction A with
  | nil => rfl
  | cons p A ih =>
    obtain ⟨k, v⟩ := p
    simp only [List.cons_append, lk] at h ⊢
    split at h
    · cases h
    · rename_i hk; exact ih h
theorem lk_append_some {A B : List (Nat × Value)} {t : Nat} {v : Value} (h : lk A t = some v) : lk (A ++ B) t = some v := by
  induction A with
  | nil => cases h
  | cons p A ih =>
    obtain ⟨k, u⟩ := p
    simp only [List.cons_append, lk] at h ⊢
    split at h
    · exact h
    · exact ih h
theorem lk_map {ds : Nat → Nat} {V : Nat → Value} : ∀ {D : List Nat} {i : Nat}, (D.map ds).Nodup → i ∈ D → lk (D.map fun i => (ds i, V i)) (ds i) = some (V i) := by
  intro D
  induction D with
  | nil => intro i _ h; simp at h
  | cons j D ih =>
    intro i hn hi
    simp only [List.map_cons, List.nodup_cons] at hn
    simp only [List.map_cons, lk]
    rcases List.mem_cons.1 hi with rfl | hi
    · simp
    · have hne : ds j ≠ ds i := fun e => hn.1 (e ▸ List.mem_map_of_mem hi)
      have : Nat.beq (ds j) (ds i) = false := by
        cases hb : Nat.beq (ds j) (ds i) with
        | false => rfl
        | true => exact absurd (Nat.eq_of_beq_eq_true hb) hne
      rw [this]
      exact ih hn.2 hi
theorem lk_map_none {ds : Nat → Nat} {V : Nat → Value} {D : List Nat} {t : Nat} (h : ∀ i ∈ D, ds i ≠ t) : lk (D.map fun i => (ds i, V i)) t = none := by
  apply lk_none
  simp only [keys, List.map_map, List.mem_map, not_exists, not_and]
  intro i hi e
  exact h i hi e
theorem lk_some_key {L : List (Nat × Value)} {t : Nat} {v : Value} (h : lk L t = some v) : t ∈ keys L := by
  refine Classical.byContradiction fun hn => ?_
  rw [lk_none hn] at h; cases h

theorem nodup_map_inj {ds : Nat → Nat} {m : Nat} (h : ((List.range m).map ds).Nodup) {i j : Nat} (hi : i < m) (hj : j < m) (e : ds i = ds j) : i = j := by
  have hp := List.pairwise_iff_getElem.1 h
  refine Classical.byContradiction fun hne => ?_
  rcases Nat.lt_or_gt_of_ne hne with hlt | hlt
  · exact hp i j (by simpa using hi) (by simpa using hj) hlt (by simpa using e)
  · exact hp j i (by simpa using hj) (by simpa using hi) hlt (by simpa using e.symm)
theorem nodup_map_of {ds : Nat → Nat} {m : Nat} (h : ((List.range m).map ds).Nodup) {D : List Nat} (hD : D.Nodup) (hm : ∀ i ∈ D, i < m) : (D.map ds).Nodup := by
  induction D with
  | nil => exact List.nodup_nil
  | cons i D ih =>
    obtain ⟨h1, h2⟩ := List.nodup_cons.1 hD
    simp only [List.map_cons, List.nodup_cons]
    refine ⟨fun hmem => ?_, ih h2 fun i hi => hm i (List.mem_cons_of_mem _ hi)⟩
    obtain ⟨j, hj, e⟩ := List.mem_map.1 hmem
    have := nodup_map_inj h (hm j (List.mem_cons_of_mem _ hj)) (hm i (by simp)) e
    exact h1 (this ▸ hj)

/-- A REGION THAT DRAWS ITS ORDER: its first m operations each yield a value and make new memory at most, whatever was done before; what stands behind them (the stores) is done in the text's order. -/
theorem wc_phases {l : List Oper} (m : Nat) (ps : List (List Nat)) (hmix : P.follows .mixedOrders = true) (hok : phOk l m N (keys L) ps = true)
    (R : Nat → Value → List Ent → Prop) (hfr : Fr N L df a) (hst : St M w0 H w)
    (hop : ∀ i, i < m → ∀ (V : Nat → Value) (E : Nat → List Ent) w, (∀ p ∈ ps.getD i [], R p (V p) (E p)) → St M w0 ((ps.getD i []).flatMap E ++ H) w →
      OpR P r (opAt l i) ((ps.getD i []).map (fun p => (dsOf l p, V p)) ++ L) w (GrowR w (R i)))
    (hk : ∀ (V : Nat → Value) (E : Nat → List Ent) a w, (∀ i, i < m → R i (V i) (E i)) → Fr N ((List.range m).map (fun i => (dsOf l i, V i)) ++ L) df a → St M w0 ((List.range m).flatMap E ++ H) w →
      WL P r l.toArray K (l.drop m) a w) : DR P r l.toArray K a w := by
  simp only [phOk, Bool.and_eq_true, List.all_eq_true, decide_eq_true_eq, List.mem_range, Bool.or_eq_true, Bool.not_eq_true', List.contains_eq_mem, decide_eq_false_iff_not] at hok
  obtain ⟨⟨⟨⟨hwf, hph⟩, hnd⟩, hml⟩, hph2⟩ := hok
  have haft : ∀ i o, l.toArray[i]? = some o → opAt l i = o := by
    intro i o ho
    simp only [List.getElem?_toArray] at ho
    simp [opAt, ho]
  have hmemaft : ∀ o : Oper, ∀ e ∈ o.after, Region.binds .any e = true → e.on ∈ aft o := by
    intro o e he hb
    simp only [aft, List.mem_filterMap]
    exact ⟨e, Array.mem_toList_iff.2 he, by rw [hb]⟩
  have hmemaft' : ∀ o : Oper, ∀ p ∈ aft o, ∃ e ∈ o.after, Region.binds .any e = true ∧ e.on = p := by
    intro o p hp
    simp only [aft, List.mem_filterMap] at hp
    obtain ⟨e, he, h⟩ := hp
    refine ⟨e, Array.mem_toList_iff.1 he, ?_⟩
    split at h
    · rename_i hb; exact ⟨hb, by simpa using h⟩
    · cases h
  let S : List Nat → Act → World → Prop := fun D a w =>
    ((∀ i ∈ D, i < m) ∧ ∃ (V : Nat → Value) (E : Nat → List Ent), (∀ i ∈ D, R i (V i) (E i)) ∧ Fr N (D.map (fun i => (dsOf l i, V i)) ++ L) df a ∧ St M w0 (D.flatMap E ++ H) w) ∨
    (∃ k, m < k ∧ (∀ i, i ∈ D ↔ i < k) ∧ WL P r l.toArray K (l.drop k) a w)
  -- behind the first phase
  have hmid : ∀ (D : List Nat) a w, D.Nodup → (∀ i, i < m → i ∈ D) → ((∀ i ∈ D, i < m) ∧ ∃ (V : Nat → Value) (E : Nat → List Ent), (∀ i ∈ D, R i (V i) (E i)) ∧ Fr N (D.map (fun i => (dsOf l i, V i)) ++ L) df a ∧ St M w0 (D.flatMap E ++ H) w) →
      WL P r l.toArray K (l.drop m) a w := by
    rintro D a w hD hall ⟨hlt, V, E, hR, hf, hs⟩
    have hperm : D.Perm (List.range m) := (List.perm_ext_iff_of_nodup hD List.nodup_range).2 fun i => ⟨fun h => List.mem_range.2 (hlt i h), fun h => hall i (List.mem_range.1 h)⟩
    refine hk V E a w (fun i hi => hR i (hall i hi)) ?_ (hs.perm ((hperm.flatMap_right E).append_right H))
    refine hf.weaken fun t v ht => ?_
    cases hc : lk ((List.range m).map fun i => (dsOf l i, V i)) t with
    | some u =>
      rw [lk_append_some hc] at ht
      cases ht
      have hmem := lk_some_key hc
      simp only [keys, List.map_map, List.mem_map] at hmem
      obtain ⟨i, hi, rfl⟩ := hmem
      have h1 := lk_map (ds := dsOf l) (V := V) hnd hi
      simp only [Function.comp_apply] at hc
      rw [h1] at hc
      cases hc
      exact lk_append_some (lk_map (ds := dsOf l) (V := V) (nodup_map_of hnd hD hlt) (hall i (List.mem_range.1 hi)))
    | none =>
      rw [lk_append_none hc] at ht
      rw [lk_append_none]
      · exact ht
      · refine lk_map_none fun i hi e => ?_
        have := (hph i (hlt i hi))
        have hk' := lk_some_key ht
        rw [← e] at hk'
        exact this.1.1.2 hk'
  intro wz hxz
  refine ⟨S, ?_, ?_, ?_, ?_⟩
  · intro i o ho e he hb
    have hi : i < l.length := by simpa using (Array.getElem?_eq_some_iff.1 ho).1
    have := hwf i hi
    rw [haft i o ho] at this
    exact this e.on (hmemaft o e he hb)
  · exact .inl ⟨by simp, fun _ => undef, fun _ => [], by simp, by simpa using hfr, by simpa using hst.grow hxz⟩
  · intro D i o a w hS hD ho hni hpre
    have hi : i < l.length := by simpa using (Array.getElem?_eq_some_iff.1 ho).1
    have hoe := haft i o ho
    have hpre' : ∀ p ∈ aft o, p ∈ D := fun p hp => by obtain ⟨e, he, hb, rfl⟩ := hmemaft' o p hp; exact hpre e he hb
    by_cases him : i < m
    · -- an operation of the first phase
      rcases hS with ⟨hlt, V, E, hR, hf, hs⟩ | ⟨k, hmk, hDk, _⟩
      · obtain ⟨⟨⟨⟨⟨hdst, hg⟩, hdN⟩, hnk⟩, hps⟩, hpn⟩ := hph i him
        rw [hoe] at hdst hg
        have hgn : o.guard = none := by simpa using hg
        rw [if_pos (by simp [Region.wanted, hgn])]
        have hpsD : ∀ p ∈ ps.getD i [], p ∈ D := fun p hp => hpre' p (by have := (hps p hp).1; rw [hoe] at this; simpa using this)
        have hpsm : ∀ p ∈ ps.getD i [], p < m := fun p hp => (hps p hp).2
        obtain ⟨rest, hperm⟩ := perm_pick D (ps.getD i []) hD hpn hpsD
        have hs1 : St M w0 ((ps.getD i []).flatMap E ++ H) w := by
          have h1 := hs.perm ((hperm.flatMap_right E).append_right H)
          rw [List.flatMap_append] at h1
          refine h1.sub ?_
          exact (List.sublist_append_left _ _).append (List.Sublist.refl H)
        have hf1 : Fr N ((ps.getD i []).map (fun p => (dsOf l p, V p)) ++ L) df a := by
          refine hf.weaken fun t v ht => ?_
          cases hc : lk ((ps.getD i []).map fun i => (dsOf l i, V i)) t with
          | some u =>
            rw [lk_append_some hc] at ht
            cases ht
            have hmem := lk_some_key hc
            simp only [keys, List.map_map, List.mem_map] at hmem
            obtain ⟨j, hj, rfl⟩ := hmem
            simp only [Function.comp_apply] at hc
            rw [lk_map (ds := dsOf l) (V := V) (nodup_map_of hnd hpn hpsm) hj] at hc
            cases hc
            exact lk_append_some (lk_map (ds := dsOf l) (V := V) (nodup_map_of hnd hD hlt) (hpsD j hj))
          | none =>
            rw [lk_append_none hc] at ht
            rw [lk_append_none]
            · exact ht
            · refine lk_map_none fun j hj e => ?_
              have := (hph j (hlt j hj))
              have hk' := lk_some_key ht
              rw [← e] at hk'
              exact this.1.1.2 hk'
        have hop1 := hop i him V E w (fun p hp => hR p (hpsD p hp)) hs1 N df a hf1
        rw [hoe] at hop1
        refine hop1.mono ?_
        rintro a' w' ⟨v, rfl, hx, Ei, hRi, hEi⟩
        refine .inl ⟨fun j hj => (List.mem_cons.1 hj).elim (fun h' => h' ▸ him) (hlt j), fun j => if j = i then v else V j, fun j => if j = i then Ei else E j, ?_, ?_, ?_⟩
        · intro j hj
          by_cases hji : j = i
          · subst hji; simpa using hRi
          · simp only [if_neg hji]
            rcases List.mem_cons.1 hj with rfl | hj
            · exact absurd rfl hji
            · exact hR j hj
        · have e1 : D.map (fun j => (dsOf l j, if j = i then v else V j)) = D.map fun j => (dsOf l j, V j) := by
            apply List.map_congr_left
            intro j hj
            rw [if_neg (fun (e : j = i) => hni (e ▸ hj))]
          obtain ⟨d, hd⟩ := Option.isSome_iff_exists.1 hdst
          have hdi : dsOf l i = d := by
            have := hoe
            simp only [opAt] at this
            simp only [dsOf]
            simp only [List.getElem?_toArray] at ho
            simp [ho, hd]
          simp only [List.map_cons, List.cons_append, if_true, e1, hdi, hd]
          exact hf.put (hdi ▸ hdN) v
        · have e1 : D.flatMap (fun j => if j = i then Ei else E j) = D.flatMap E := by
            rw [List.flatMap_def, List.flatMap_def]
            congr 1
            apply List.map_congr_left
            intro j hj
            rw [if_neg (fun (e : j = i) => hni (e ▸ hj))]
          simp only [List.flatMap_cons, if_true, e1, List.append_assoc]
          exact hs.pushes hx hEi
      · exact absurd ((hDk i).2 (by omega)) hni
    · -- behind it
      have hall' : ∀ j, j < i → (i = m ∨ j + 1 = i) → j ∈ D := fun j hj hor => hpre' j (by
        have := ((hph2 i hi).resolve_left him j hj).resolve_left (fun h => hor.elim h.1 h.2)
        rw [hoe] at this; simpa using this)
      have hfin : WL P r l.toArray K (l.drop i) a w ∧ ∀ j, j ∈ D ↔ j < i := by
        rcases hS with h1 | ⟨k, hmk, hDk, hwl⟩
        · have him' : i = m := by
            refine Classical.byContradiction fun hne => ?_
            have h2 := h1.1 (i - 1) (hall' (i - 1) (by omega) (.inr (by omega)))
            omega
          subst him'
          have hall : ∀ j, j < i → j ∈ D := fun j hj => hall' j hj (.inl rfl)
          exact ⟨hmid D a w hD hall h1, fun j => ⟨fun h => h1.1 j h, hall j⟩⟩
        · have hki : k = i := by
            rcases Nat.lt_trichotomy k i with h | h | h
            · have := (hDk (i - 1)).1 (hall' (i - 1) (by omega) (.inr (by omega))); omega
            · exact h
            · exact absurd ((hDk i).2 h) hni
          subst hki
          exact ⟨hwl, hDk⟩
      obtain ⟨hwl, hDi⟩ := hfin
      have hdrop : l.drop i = o :: l.drop (i + 1) := by
        rw [List.drop_eq_getElem_cons hi]
        simp only [List.getElem?_toArray] at ho
        congr 1
        exact (List.getElem?_eq_some_iff.1 ho).2
      rw [hdrop] at hwl
      unfold WL at hwl
      have hnext : ∀ a w, WL P r l.toArray K (l.drop (i + 1)) a w → S (i :: D) a w := fun a w h =>
        .inr ⟨i + 1, by omega, fun j => by rw [List.mem_cons, hDi]; omega, h⟩
      split
      · rename_i hw
        rw [if_pos hw] at hwl
        exact hwl.mono hnext
      · rename_i hw
        rw [if_neg hw] at hwl
        exact hnext _ _ hwl
  · intro D a w hS hD hall
    simp only [List.size_toArray] at hall
    rcases hS with h1 | ⟨k, hmk, hDk, hwl⟩
    · have hlen : m = l.length := by
        refine Classical.byContradiction fun hne => ?_
        have : m < l.length := by omega
        exact Nat.lt_irrefl _ (h1.1 m (hall m this))
      have := hmid D a w hD (fun i hi => hall i (by omega)) h1
      rw [hlen, List.drop_length] at this
      exact this
    · have hk : l.length ≤ k := by
        refine Classical.byContradiction fun hne => ?_
        exact Nat.lt_irrefl _ ((hDk k).1 (hall k (by omega)))
      rw [List.drop_eq_nil_of_le hk] at hwl
      exact hwl

/-- A REGION THAT DRAWS ITS ORDER: its first m operations each yield a value and make new memory at most, whatever was done before; what stands behind them (the stores) is done in the text's order. -/
theorem wc_phases_g {l : List Oper} (m : Nat) (ps : List (List Nat)) (hmix : P.follows .mixedOrders = true) (hok : phOkG l m N (keys L) ps = true)
    (R : Nat → Value → List Ent → Prop) (hgd : ∀ i, i < m → ∀ g, (opAt l i).guard = some g → ∀ v E, R g.1 v E → v = .bool g.2) (hfr : Fr N L df a) (hst : St M w0 H w)
    (hop : ∀ i, i < m → ∀ (V : Nat → Value) (E : Nat → List Ent) w, (∀ p ∈ ps.getD i [], R p (V p) (E p)) → St M w0 ((ps.getD i []).flatMap E ++ H) w →
      OpR P r (opAt l i) ((ps.getD i []).map (fun p => (dsOf l p, V p)) ++ L) w (GrowR w (R i)))
    (hk : ∀ (V : Nat → Value) (E : Nat → List Ent) a w, (∀ i, i < m → R i (V i) (E i)) → Fr N ((List.range m).map (fun i => (dsOf l i, V i)) ++ L) df a → St M w0 ((List.range m).flatMap E ++ H) w →
      WL P r l.toArray K (l.drop m) a w) : DR P r l.toArray K a w := by
  simp only [phOkG, Bool.and_eq_true, List.all_eq_true, decide_eq_true_eq, List.mem_range, Bool.or_eq_true, Bool.not_eq_true', List.contains_eq_mem, decide_eq_false_iff_not] at hok
  obtain ⟨⟨⟨⟨hwf, hph⟩, hnd⟩, hml⟩, hph2⟩ := hok
  have haft : ∀ i o, l.toArray[i]? = some o → opAt l i = o := by
    intro i o ho
    simp only [List.getElem?_toArray] at ho
    simp [opAt, ho]
  have hmemaft : ∀ o : Oper, ∀ e ∈ o.after, Region.binds .any e = true → e.on ∈ aft o := by
    intro o e he hb
    simp only [aft, List.mem_filterMap]
    exact ⟨e, Array.mem_toList_iff.2 he, by rw [hb]⟩
  have hmemaft' : ∀ o : Oper, ∀ p ∈ aft o, ∃ e ∈ o.after, Region.binds .any e = true ∧ e.on = p := by
    intro o p hp
    simp only [aft, List.mem_filterMap] at hp
    obtain ⟨e, he, h⟩ := hp
    refine ⟨e, Array.mem_toList_iff.1 he, ?_⟩
    split at h
    · rename_i hb; exact ⟨hb, by simpa using h⟩
    · cases h
  let S : List Nat → Act → World → Prop := fun D a w =>
    ((∀ i ∈ D, i < m) ∧ ∃ (V : Nat → Value) (E : Nat → List Ent), (∀ i ∈ D, R i (V i) (E i)) ∧ Fr N (D.map (fun i => (dsOf l i, V i)) ++ L) df a ∧ St M w0 (D.flatMap E ++ H) w) ∨
    (∃ k, m < k ∧ (∀ i, i ∈ D ↔ i < k) ∧ WL P r l.toArray K (l.drop k) a w)
  -- behind the first phase
  have hmid : ∀ (D : List Nat) a w, D.Nodup → (∀ i, i < m → i ∈ D) → ((∀ i ∈ D, i < m) ∧ ∃ (V : Nat → Value) (E : Nat → List Ent), (∀ i ∈ D, R i (V i) (E i)) ∧ Fr N (D.map (fun i => (dsOf l i, V i)) ++ L) df a ∧ St M w0 (D.flatMap E ++ H) w) →
      WL P r l.toArray K (l.drop m) a w := by
    rintro D a w hD hall ⟨hlt, V, E, hR, hf, hs⟩
    have hperm : D.Perm (List.range m) := (List.perm_ext_iff_of_nodup hD List.nodup_range).2 fun i => ⟨fun h => List.mem_range.2 (hlt i h), fun h => hall i (List.mem_range.1 h)⟩
    refine hk V E a w (fun i hi => hR i (hall i hi)) ?_ (hs.perm ((hperm.flatMap_right E).append_right H))
    refine hf.weaken fun t v ht => ?_
    cases hc : lk ((List.range m).map fun i => (dsOf l i, V i)) t with
    | some u =>
      rw [lk_append_some hc] at ht
      cases ht
      have hmem := lk_some_key hc
      simp only [keys, List.map_map, List.mem_map] at hmem
      obtain ⟨i, hi, rfl⟩ := hmem
      have h1 := lk_map (ds := dsOf l) (V := V) hnd hi
      simp only [Function.comp_apply] at hc
      rw [h1] at hc
      cases hc
      exact lk_append_some (lk_map (ds := dsOf l) (V := V) (nodup_map_of hnd hD hlt) (hall i (List.mem_range.1 hi)))
    | none =>
      rw [lk_append_none hc] at ht
      rw [lk_append_none]
      · exact ht
      · refine lk_map_none fun i hi e => ?_
        have := (hph i (hlt i hi))
        have hk' := lk_some_key ht
        rw [← e] at hk'
        exact this.1.1.2 hk'
  intro wz hxz
  refine ⟨S, ?_, ?_, ?_, ?_⟩
  · intro i o ho e he hb
    have hi : i < l.length := by simpa using (Array.getElem?_eq_some_iff.1 ho).1
    have := hwf i hi
    rw [haft i o ho] at this
    exact this e.on (hmemaft o e he hb)
  · exact .inl ⟨by simp, fun _ => undef, fun _ => [], by simp, by simpa using hfr, by simpa using hst.grow hxz⟩
  · intro D i o a w hS hD ho hni hpre
    have hi : i < l.length := by simpa using (Array.getElem?_eq_some_iff.1 ho).1
    have hoe := haft i o ho
    have hpre' : ∀ p ∈ aft o, p ∈ D := fun p hp => by obtain ⟨e, he, hb, rfl⟩ := hmemaft' o p hp; exact hpre e he hb
    by_cases him : i < m
    · -- an operation of the first phase
      rcases hS with ⟨hlt, V, E, hR, hf, hs⟩ | ⟨k, hmk, hDk, _⟩
      · obtain ⟨⟨⟨⟨⟨hdst, hg⟩, hdN⟩, hnk⟩, hps⟩, hpn⟩ := hph i him
        rw [hoe] at hdst hg
        rw [if_pos (show Region.wanted o (yielded l.toArray a.tmps) = true from by
          cases hgo : o.guard with
          | none => simp [Region.wanted, hgo]
          | some gg =>
            rw [hgo] at hg
            simp only [Option.all_some, Bool.and_eq_true, List.contains_eq_mem, decide_eq_true_eq] at hg
            have hjD : gg.1 ∈ D := hpre' gg.1 hg.1
            have hlj := lk_map (ds := dsOf l) (V := V) (nodup_map_of hnd hD hlt) hjD
            have hVj := hgd i him gg (by rw [hoe]; exact hgo) _ _ (hR gg.1 hjD)
            rw [hVj] at hlj
            have hj := hph gg.1 hg.2
            obtain ⟨dj, hdj⟩ := Option.isSome_iff_exists.1 hj.1.1.1.1.1
            have hds : ((l.toArray[gg.1]?).bind (·.dst)) = some (dsOf l gg.1) := by
              simp only [List.getElem?_toArray]
              unfold dsOf opAt at *
              cases hl : l[gg.1]? with
              | none => rw [hl] at hdj; simp [default, instInhabitedOper.default] at hdj
              | some oj => rw [hl] at hdj; simp only [Option.getD_some] at hdj; simp [hdj]
            have hy := yielded_of hf hds hj.1.1.1.2 (lk_append_some hlj)
            rw [Region.wanted, hgo]; simp [hy])]
        have hpsD : ∀ p ∈ ps.getD i [], p ∈ D := fun p hp => hpre' p (by have := (hps p hp).1; rw [hoe] at this; simpa using this)
        have hpsm : ∀ p ∈ ps.getD i [], p < m := fun p hp => (hps p hp).2
        obtain ⟨rest, hperm⟩ := perm_pick D (ps.getD i []) hD hpn hpsD
        have hs1 : St M w0 ((ps.getD i []).flatMap E ++ H) w := by
          have h1 := hs.perm ((hperm.flatMap_right E).append_right H)
          rw [List.flatMap_append] at h1
          refine h1.sub ?_
          exact (List.sublist_append_left _ _).append (List.Sublist.refl H)
        have hf1 : Fr N ((ps.getD i []).map (fun p => (dsOf l p, V p)) ++ L) df a := by
          refine hf.weaken fun t v ht => ?_
          cases hc : lk ((ps.getD i []).map fun i => (dsOf l i, V i)) t with
          | some u =>
            rw [lk_append_some hc] at ht
            cases ht
            have hmem := lk_some_key hc
            simp only [keys, List.map_map, List.mem_map] at hmem
            obtain ⟨j, hj, rfl⟩ := hmem
            simp only [Function.comp_apply] at hc
            rw [lk_map (ds := dsOf l) (V := V) (nodup_map_of hnd hpn hpsm) hj] at hc
            cases hc
            exact lk_append_some (lk_map (ds := dsOf l) (V := V) (nodup_map_of hnd hD hlt) (hpsD j hj))
          | none =>
            rw [lk_append_none hc] at ht
            rw [lk_append_none]
            · exact ht
            · refine lk_map_none fun j hj e => ?_
              have := (hph j (hlt j hj))
              have hk' := lk_some_key ht
              rw [← e] at hk'
              exact this.1.1.2 hk'
        have hop1 := hop i him V E w (fun p hp => hR p (hpsD p hp)) hs1 N df a hf1
        rw [hoe] at hop1
        refine hop1.mono ?_
        rintro a' w' ⟨v, rfl, hx, Ei, hRi, hEi⟩
        refine .inl ⟨fun j hj => (List.mem_cons.1 hj).elim (fun h' => h' ▸ him) (hlt j), fun j => if j = i then v else V j, fun j => if j = i then Ei else E j, ?_, ?_, ?_⟩
        · intro j hj
          by_cases hji : j = i
          · subst hji; simpa using hRi
          · simp only [if_neg hji]
            rcases List.mem_cons.1 hj with rfl | hj
            · exact absurd rfl hji
            · exact hR j hj
        · have e1 : D.map (fun j => (dsOf l j, if j = i then v else V j)) = D.map fun j => (dsOf l j, V j) := by
            apply List.map_congr_left
            intro j hj
            rw [if_neg (fun (e : j = i) => hni (e ▸ hj))]
          obtain ⟨d, hd⟩ := Option.isSome_iff_exists.1 hdst
          have hdi : dsOf l i = d := by
            have := hoe
            simp only [opAt] at this
            simp only [dsOf]
            simp only [List.getElem?_toArray] at ho
            simp [ho, hd]
          simp only [List.map_cons, List.cons_append, if_true, e1, hdi, hd]
          exact hf.put (hdi ▸ hdN) v
        · have e1 : D.flatMap (fun j => if j = i then Ei else E j) = D.flatMap E := by
            rw [List.flatMap_def, List.flatMap_def]
            congr 1
            apply List.map_congr_left
            intro j hj
            rw [if_neg (fun (e : j = i) => hni (e ▸ hj))]
          simp only [List.flatMap_cons, if_true, e1, List.append_assoc]
          exact hs.pushes hx hEi
      · exact absurd ((hDk i).2 (by omega)) hni
    · -- behind it
      have hall' : ∀ j, j < i → (i = m ∨ j + 1 = i) → j ∈ D := fun j hj hor => hpre' j (by
        have := ((hph2 i hi).resolve_left him j hj).resolve_left (fun h => hor.elim h.1 h.2)
        rw [hoe] at this; simpa using this)
      have hfin : WL P r l.toArray K (l.drop i) a w ∧ ∀ j, j ∈ D ↔ j < i := by
        rcases hS with h1 | ⟨k, hmk, hDk, hwl⟩
        · have him' : i = m := by
            refine Classical.byContradiction fun hne => ?_
            have h2 := h1.1 (i - 1) (hall' (i - 1) (by omega) (.inr (by omega)))
            omega
          subst him'
          have hall : ∀ j, j < i → j ∈ D := fun j hj => hall' j hj (.inl rfl)
          exact ⟨hmid D a w hD hall h1, fun j => ⟨fun h => h1.1 j h, hall j⟩⟩
        · have hki : k = i := by
            rcases Nat.lt_trichotomy k i with h | h | h
            · have := (hDk (i - 1)).1 (hall' (i - 1) (by omega) (.inr (by omega))); omega
            · exact h
            · exact absurd ((hDk i).2 h) hni
          subst hki
          exact ⟨hwl, hDk⟩
      obtain ⟨hwl, hDi⟩ := hfin
      have hdrop : l.drop i = o :: l.drop (i + 1) := by
        rw [List.drop_eq_getElem_cons hi]
        simp only [List.getElem?_toArray] at ho
        congr 1
        exact (List.getElem?_eq_some_iff.1 ho).2
      rw [hdrop] at hwl
      unfold WL at hwl
      have hnext : ∀ a w, WL P r l.toArray K (l.drop (i + 1)) a w → S (i :: D) a w := fun a w h =>
        .inr ⟨i + 1, by omega, fun j => by rw [List.mem_cons, hDi]; omega, h⟩
      split
      · rename_i hw
        rw [if_pos hw] at hwl
        exact hwl.mono hnext
      · rename_i hw
        rw [if_neg hw] at hwl
        exact hnext _ _ hwl
  · intro D a w hS hD hall
    simp only [List.size_toArray] at hall
    rcases hS with h1 | ⟨k, hmk, hDk, hwl⟩
    · have hlen : m = l.length := by
        refine Classical.byContradiction fun hne => ?_
        have : m < l.length := by omega
        exact Nat.lt_irrefl _ (h1.1 m (hall m this))
      have := hmid D a w hD (fun i hi => hall i (by omega)) h1
      rw [hlen, List.drop_length] at this
      exact this
    · have hk : l.length ≤ k := by
        refine Classical.byContradiction fun hne => ?_
        exact Nat.lt_irrefl _ ((hDk k).1 (hall k (by omega)))
      rw [List.drop_eq_nil_of_le hk] at hwl
      exact hwl

/-- The obligations, an operation each, the values of what it looks at by name. -/
def Hop (P : Program) (r : Option Nat) (M : Nat → Prop) (w0 : World) (H : List Ent) (L : List (Nat × Value)) (l : List Oper) (R : Nat → Value → List Ent → Prop) (i : Nat) : List Nat → List (Nat × Value) → List Ent → Prop
  | [], Lv, Es => ∀ w, St M w0 (Es ++ H) w → OpR P r (opAt l i) (Lv ++ L) w (GrowR w (R i))
  | p :: ps, Lv, Es => ∀ v E, R p v E → Hop P r M w0 H L l R i ps (Lv ++ [(dsOf l p, v)]) (Es ++ E)
theorem Hop.use {l : List Oper} {R : Nat → Value → List Ent → Prop} {i : Nat} {V : Nat → Value} {E : Nat → List Ent} : ∀ {ps : List Nat} {Lv : List (Nat × Value)} {Es : List Ent}, Hop P r M w0 H L l R i ps Lv Es → (∀ p ∈ ps, R p (V p) (E p)) →
    ∀ w, St M w0 (Es ++ ps.flatMap E ++ H) w → OpR P r (opAt l i) (Lv ++ ps.map (fun p => (dsOf l p, V p)) ++ L) w (GrowR w (R i))
  | [], Lv, Es, h, _, w, hs => by simpa using h w (by simpa using hs)
  | p :: ps, Lv, Es, h, hR, w, hs => by
    have := Hop.use (h (V p) (E p) (hR p (by simp))) (fun q hq => hR q (by simp [hq])) w (by simpa using hs)
    simpa using this
/-- What is done behind the first phase. -/
def HopK (P : Program) (r : Option Nat) (M : Nat → Prop) (w0 : World) (H : List Ent) (N : Nat) (L : List (Nat × Value)) (df : List Deferred) (l : List Oper) (m : Nat) (R : Nat → Value → List Ent → Prop) (K : Act → World → Prop) : List Nat → List (Nat × Value) → List Ent → Prop
  | [], Lv, Es => ∀ a w, Fr N (Lv ++ L) df a → St M w0 (Es ++ H) w → WL P r l.toArray K (l.drop m) a w
  | i :: is, Lv, Es => ∀ v E, R i v E → HopK P r M w0 H N L df l m R K is (Lv ++ [(dsOf l i, v)]) (Es ++ E)
theorem HopK.use {l : List Oper} {R : Nat → Value → List Ent → Prop} {m : Nat} {K : Act → World → Prop} {V : Nat → Value} {E : Nat → List Ent} : ∀ {is : List Nat} {Lv : List (Nat × Value)} {Es : List Ent}, HopK P r M w0 H N L df l m R K is Lv Es → (∀ p ∈ is, R p (V p) (E p)) →
    ∀ a w, Fr N (Lv ++ is.map (fun p => (dsOf l p, V p)) ++ L) df a → St M w0 (Es ++ is.flatMap E ++ H) w → WL P r l.toArray K (l.drop m) a w
  | [], Lv, Es, h, _, a, w, hf, hs => h a w (by simpa using hf) (by simpa using hs)
  | p :: ps, Lv, Es, h, hR, a, w, hf, hs =>
    HopK.use (h (V p) (E p) (hR p (by simp))) (fun q hq => hR q (by simp [hq])) a w (by simpa using hf) (by simpa using hs)
theorem wc_phases' {l : List Oper} (m : Nat) (ps : List (List Nat)) (R : Nat → Value → List Ent → Prop) (hfr : Fr N L df a) (hst : St M w0 H w) (hmix : P.follows .mixedOrders = true) (hok : phOk l m N (keys L) ps = true)
    (hop : ∀ i, i < m → Hop P r M w0 H L l R i (ps.getD i []) [] [])
    (hk : HopK P r M w0 H N L df l m R K (List.range m) [] []) : DR P r l.toArray K a w :=
  wc_phases m ps hmix hok R hfr hst (fun i hi V E w hR hs => by simpa using Hop.use (V := V) (E := E) (hop i hi) hR w (by simpa using hs))
    (fun V E a w hR hf hs => HopK.use (V := V) (E := E) hk (fun p hp => hR p (List.mem_range.1 hp)) a w (by simpa using hf) (by simpa using hs))

theorem wc_phases_g' {l : List Oper} (m : Nat) (ps : List (List Nat)) (R : Nat → Value → List Ent → Prop) (hfr : Fr N L df a) (hst : St M w0 H w) (hmix : P.follows .mixedOrders = true) (hok : phOkG l m N (keys L) ps = true)
    (hgd : ∀ i, i < m → match (opAt l i).guard with | some g => ∀ v E, R g.1 v E → v = .bool g.2 | none => True)
    (hop : ∀ i, i < m → Hop P r M w0 H L l R i (ps.getD i []) [] [])
    (hk : HopK P r M w0 H N L df l m R K (List.range m) [] []) : DR P r l.toArray K a w :=
  wc_phases_g m ps hmix hok R (fun i hi g hg v E h => by have h1 := hgd i hi; rw [hg] at h1; exact h1 v E h) hfr hst (fun i hi V E w hR hs => by simpa using Hop.use (V := V) (E := E) (hop i hi) hR w (by simpa using hs))
    (fun V E a w hR hf hs => HopK.use (V := V) (E := E) hk (fun p hp => hR p (List.mem_range.1 hp)) a w (by simpa using hf) (by simpa using hs))

theorem St.out {E : List Ent} (h : St No w0 (E ++ H) w) : EntsIn w0 w E :=
  ⟨fun e he => ⟨(h.ok e (List.mem_append_left _ he)).1, fun k hk => by
    have := (h.ok e (List.mem_append_left _ he)).2 k hk
    exact ⟨Nat.le_of_not_lt fun hlt => this.2 hlt, this.1⟩⟩, (List.pairwise_append.1 h.dis).1⟩

/-! ### calls that hand back memory -/
/-- What such a call hands back. -/
def MemR {X : Type} (w : World) (f : X → Value) (E : X → List Ent) (Pr : X → Prop) : Value → World → Prop := fun v w' => ∃ x, v = f x ∧ Pr x ∧ Ext No w w' ∧ EntsIn w w' (E x)
theorem wl_callm {X : Type} {fv : X → Value} {Ex : X → List Ent} {Pr : X → Prop} {ops : Array Oper} {K : Act → World → Prop} {rest : List Oper} {d : Nat} {ty : TypeId} {pos : String} {af : Array Edge} {f : FuncId} {xs : List Operand} {vs : List Value} {ats : Array TypeId}
    (hfr : Fr N L df a) (hst : St M w0 H w) (hd : d < N) (hen : ∀ args w, (callFunc f args).run P w = .ok (.enter f args) w) (hx : evs L xs = some vs)
    (hc : Ret P f vs.toArray w (MemR w fv Ex Pr))
    (k : ∀ a w' x, Pr x → Fr N ((d, fv x) :: L) df a → St M w0 (Ex x ++ H) w' → WL P r ops K rest a w') :
    WL P r ops K (⟨some d, .call { callee := .value (.func f), args := xs.toArray, argTypes := ats }, ty, pos, af, none⟩ :: rest) a w :=
  wl_r (r_call hen hx hc) rfl (decide_eq_true hd) hfr fun a v' w' ⟨x, hv, hp, hw, hE⟩ h => by subst hv; exact k _ _ x hp h (hst.pushes hw hE)

/-! ### for regions that draw -/
def pv (v : Value) : Value → List Ent → Prop := fun v' E => v = v' ∧ E = []
def pm {X : Type} (f : X → Value) (E : X → List Ent) (Pr : X → Prop) : Value → List Ent → Prop := fun v' E' => ∃ x, v' = f x ∧ Pr x ∧ E' = E x
theorem OpV.g {o : Oper} {v : Value} (h : OpV P o L w v) : OpR P r o L w (GrowR w (pv v)) := h.toR ⟨Ext.refl _ _, [], ⟨rfl, rfl⟩, entsIn_nil⟩
section
variable {x : Operand} {dst : Option Tmp} {ty : TypeId} {pos : String} {af : Array Edge} {gd : Option (Nat × Bool)} {T : TypeId} {cs : List Value} {z u : Value}
theorem g_alloc (hz : (zeroValue T).run P w = .ok z w) (hcs : z.cells.toList = cs) : OpR P r ⟨dst, .alloc T, ty, pos, af, gd⟩ L w (GrowR w (pm (fun b : Nat => .pointer (some ⟨b, 0, none⟩)) (fun b => [blk b cs T]) fun _ => True)) :=
  (r_alloc hz).mono fun v w' ⟨h1, h2⟩ => by
    subst h1; subst h2; subst hcs
    exact ⟨Ext.alloc _ _ _, _, ⟨w.heap.size, rfl, trivial, rfl⟩, entsIn_one (by simp only [blk, Array.toArray_toList]; exact World.alloc_heap_new w _) (fun k hk => by cases hk; simp)⟩
theorem g_box (hx : ev L x = some u) (hcs : u.cells.toList = cs) : OpR P r ⟨dst, .box T x, ty, pos, af, gd⟩ L w (GrowR w (pm (fun b : Nat => .pointer (some ⟨b, 0, none⟩)) (fun b => [blk b cs T]) fun _ => True)) :=
  (r_box hx).mono fun v w' ⟨h1, h2⟩ => by
    subst h1; subst h2; subst hcs
    exact ⟨Ext.alloc _ _ _, _, ⟨w.heap.size, rfl, trivial, rfl⟩, entsIn_one (by simp only [blk, Array.toArray_toList]; exact World.alloc_heap_new w _) (fun k hk => by cases hk; simp)⟩
theorem g_callp {f : FuncId} {xs : List Operand} {vs : List Value} {v : Value} {ats : Array TypeId} (hen : ∀ args w, (callFunc f args).run P w = .ok (.enter f args) w) (hx : evs L xs = some vs) (hc : Ret P f vs.toArray w fun v' w' => v' = v ∧ Ext No w w') :
    OpR P r ⟨dst, .call { callee := .value (.func f), args := xs.toArray, argTypes := ats }, ty, pos, af, gd⟩ L w (GrowR w (pv v)) :=
  (r_call hen hx hc).mono fun v' w' ⟨h1, h2⟩ => ⟨h2, [], ⟨h1.symm, rfl⟩, entsIn_nil⟩
theorem g_callvp {f : FuncId} {cap : List Value} {xs : List Operand} {vs : List Value} {v : Value} {ats : Array TypeId} (hf : ev L x = some (.func (.func f) #[] cap.toArray)) (hen : ∀ args w, (callFunc f args).run P w = .ok (.enter f args) w) (hx : evs L xs = some vs) (hc : Ret P f (vs ++ cap).toArray w fun v' w' => v' = v ∧ Ext No w w') :
    OpR P r ⟨dst, .call { callee := .value x, args := xs.toArray, argTypes := ats }, ty, pos, af, gd⟩ L w (GrowR w (pv v)) :=
  (r_callv hf hen hx hc).mono fun v' w' ⟨h1, h2⟩ => ⟨h2, [], ⟨h1.symm, rfl⟩, entsIn_nil⟩
theorem g_callm {X : Type} {fv : X → Value} {Ex : X → List Ent} {Pr : X → Prop} {f : FuncId} {xs : List Operand} {vs : List Value} {ats : Array TypeId} (hen : ∀ args w, (callFunc f args).run P w = .ok (.enter f args) w) (hx : evs L xs = some vs) (hc : Ret P f vs.toArray w (MemR w fv Ex Pr)) :
    OpR P r ⟨dst, .call { callee := .value (.func f), args := xs.toArray, argTypes := ats }, ty, pos, af, gd⟩ L w (GrowR w (pm fv Ex Pr)) :=
  (r_call hen hx hc).mono fun v' w' ⟨x, h1, h2, h3, h4⟩ => ⟨h3, _, ⟨x, h1, h2, rfl⟩, h4⟩
end
end
end Go.PW
