import Derived.Test.YtdamipejlfipcaaMap
namespace Go.PW
open Go.RowKit
set_option linter.unusedVariables false

section
variable {P : Program} {r : Option Nat} {a : Act} {w w' w0 : World} {M : Nat → Prop} {H E : List Ent} {N : Nat} {L : List (Nat × Value)} {df : List Deferred} {K : Act → World → Prop}

/-- The slot of an operation; one that writes none has a slot behind the frame. -/
def dsv (l : List Oper) (N i : Nat) : Nat := ((opAt l i).dst).getD (N + i)
def phOkM (l : List Oper) (m N : Nat) (ks : List Nat) (ps : List (List Nat)) : Bool :=
  ((List.range l.length).all fun i => (aft (opAt l i)).all fun j => decide (j < i)) &&
  ((List.range m).all fun i => ((opAt l i).dst.all fun d => decide (d < N)) && (opAt l i).guard.isNone && !ks.contains (dsv l N i) && (ps.getD i []).all (fun p => (aft (opAt l i)).contains p && decide (p < m)) && decide ((ps.getD i []).Nodup)) &&
  decide ((List.range m).map (dsv l N)).Nodup && decide (m ≤ l.length) &&
  ((List.range l.length).all fun i => decide (i < m) || (List.range i).all fun j => (decide (i ≠ m) && decide (j + 1 ≠ i)) || (aft (opAt l i)).contains j)

theorem Fr.dsv {o : Oper} {d : Nat} (h : Fr N L df a) (hd : o.dst.all (fun d => decide (d < N)) = true) (v : Value) (i : Nat) (hv : o.dst = none → v = undef) : Fr N (((o.dst).getD (N + i), v) :: L) df (a.put o.dst v) := by
  cases ho : o.dst with
  | some d => rw [ho] at hd; exact h.put (by simpa using hd) v
  | none =>
    have hv := hv ho
    subst hv
    refine ⟨by simpa [Act.put] using h.size, ?_, by simpa [Act.put] using h.dfs⟩
    intro t u ht
    simp only [Option.getD_none, lk] at ht
    split at ht
    · rename_i hk
      have : N + i = t := Nat.eq_of_beq_eq_true hk
      subst this
      cases ht
      rw [Array.getD_eq_getD_getElem?, Array.getElem?_eq_none (by simp only [Act.put]; rw [h.size]; omega)]; rfl
    · exact h.get t u ht

/-- As wc_phases; beside it some of the operations (mod) turn ONE entry e: what is known of it when D has been done: G D V e. -/
theorem wc_phases_mod {l : List Oper} {e0 : Ent} (m : Nat) (ps : List (List Nat)) (mod : List Nat) (hmix : P.follows .mixedOrders = true) (hok : phOkM l m N (keys L) ps = true)
    (R : Nat → Value → List Ent → Prop) (hRu : ∀ i v E, (opAt l i).dst = none → R i v E → v = undef) (G : List Nat → (Nat → Value) → Ent → Prop) (hG0 : ∀ V, G [] V e0) (hGk : ∀ i D V V' e, i < m → i ∉ mod → (∀ j ∈ D, V' j = V j) → G D V e → G (i :: D) V' e)
    (hfr : Fr N L df a) (hst : St M w0 (e0 :: H) w)
    (hop : ∀ i, i < m → i ∉ mod → ∀ (V : Nat → Value) (E : Nat → List Ent) w, (∀ p ∈ ps.getD i [], R p (V p) (E p)) → (∀ D e, (∀ p ∈ ps.getD i [], p ∈ D) → G D V e → i ∉ D → St M w0 (e :: ((ps.getD i []).flatMap E ++ H)) w →
      OpR P r (opAt l i) ((ps.getD i []).map (fun p => (dsv l N p, V p)) ++ L) w (GrowR w (R i))))
    (hmod : ∀ i, i < m → i ∈ mod → ∀ (V : Nat → Value) (E : Nat → List Ent) w, (∀ p ∈ ps.getD i [], R p (V p) (E p)) → (∀ D e, (∀ p ∈ ps.getD i [], p ∈ D) → G D V e → i ∉ D → St M w0 (e :: ((ps.getD i []).flatMap E ++ H)) w →
      OpR P r (opAt l i) ((ps.getD i []).map (fun p => (dsv l N p, V p)) ++ L) w (fun v w' => ∃ e', Ext e.foot w w' ∧ e'.ok w' ∧ (∀ b, e'.foot b → b < w'.heap.size ∧ (e.foot b ∨ w.heap.size ≤ b)) ∧ R i v [] ∧ ∀ V' : Nat → Value, (∀ j ∈ D, V' j = V j) → V' i = v → G (i :: D) V' e')))
    (hk : ∀ (D : List Nat) (V : Nat → Value) (E : Nat → List Ent) e a w, D.Perm (List.range m) → G D V e → (∀ i, i < m → R i (V i) (E i)) → Fr N ((List.range m).map (fun i => (dsv l N i, V i)) ++ L) df a → St M w0 (e :: ((List.range m).flatMap E ++ H)) w →
      WL P r l.toArray K (l.drop m) a w) : DR P r l.toArray K a w := by
  simp only [phOkM, Bool.and_eq_true, List.all_eq_true, decide_eq_true_eq, List.mem_range, Bool.or_eq_true, Bool.not_eq_true', List.contains_eq_mem, decide_eq_false_iff_not] at hok
  obtain ⟨⟨⟨⟨hwf, hph⟩, hnd⟩, hml⟩, hph2⟩ := hok
  have haft : ∀ i o, l.toArray[i]? = some o → opAt l i = o := by
    intro i o ho
    simp only [List.getElem?_toArray] at ho
    simp [opAt, ho]
  have hmemaft : ∀ o : Oper, ∀ e ∈ o.after, Region.binds .any e = true → e.on ∈ aft o := by
    intro o e he hb
    simp only [aft, List.mem_filterMap]
    exact ⟨e, Array.mem_toList_iff.2 he, by rw [hb]⟩
  have hmemaft' : ∀ o : Oper, ∀ p ∈ aft o, ∃ e ∈ o.after, Region.binds .any e = true ∧ e.on = p := by
    intro o p hp
    simp only [aft, List.mem_filterMap] at hp
    obtain ⟨e, he, h⟩ := hp
    refine ⟨e, Array.mem_toList_iff.1 he, ?_⟩
    split at h
    · rename_i hb; exact ⟨hb, by simpa using h⟩
    · cases h
  let S : List Nat → Act → World → Prop := fun D a w =>
    ((∀ i ∈ D, i < m) ∧ ∃ (V : Nat → Value) (E : Nat → List Ent) (e : Ent), G D V e ∧ (∀ i ∈ D, R i (V i) (E i)) ∧ Fr N (D.map (fun i => (dsv l N i, V i)) ++ L) df a ∧ St M w0 (e :: (D.flatMap E ++ H)) w) ∨
    (∃ k, m < k ∧ (∀ i, i ∈ D ↔ i < k) ∧ WL P r l.toArray K (l.drop k) a w)
  have hmid : ∀ (D : List Nat) a w, D.Nodup → (∀ i, i < m → i ∈ D) → ((∀ i ∈ D, i < m) ∧ ∃ (V : Nat → Value) (E : Nat → List Ent) (e : Ent), G D V e ∧ (∀ i ∈ D, R i (V i) (E i)) ∧ Fr N (D.map (fun i => (dsv l N i, V i)) ++ L) df a ∧ St M w0 (e :: (D.flatMap E ++ H)) w) →
      WL P r l.toArray K (l.drop m) a w := by
    rintro D a w hD hall ⟨hlt, V, E, e, hG, hR, hf, hs⟩
    have hperm : D.Perm (List.range m) := (List.perm_ext_iff_of_nodup hD List.nodup_range).2 fun i => ⟨fun h => List.mem_range.2 (hlt i h), fun h => hall i (List.mem_range.1 h)⟩
    refine hk D V E e a w hperm hG (fun i hi => hR i (hall i hi)) ?_ (hs.perm (((hperm.flatMap_right E).append_right H).cons e))
    refine hf.weaken fun t v ht => ?_
    cases hc : lk ((List.range m).map fun i => (dsv l N i, V i)) t with
    | some u =>
      rw [lk_append_some hc] at ht
      cases ht
      have hmem := lk_some_key hc
      simp only [keys, List.map_map, List.mem_map] at hmem
      obtain ⟨i, hi, rfl⟩ := hmem
      have h1 := lk_map (ds := dsv l N) (V := V) hnd hi
      simp only [Function.comp_apply] at hc
      rw [h1] at hc
      cases hc
      exact lk_append_some (lk_map (ds := dsv l N) (V := V) (nodup_map_of hnd hD hlt) (hall i (List.mem_range.1 hi)))
    | none =>
      rw [lk_append_none hc] at ht
      rw [lk_append_none]
      · exact ht
      · refine lk_map_none fun i hi e => ?_
        have := (hph i (hlt i hi))
        have hk' := lk_some_key ht
        rw [← e] at hk'
        exact this.1.1.2 hk'
  intro wz hxz
  refine ⟨S, ?_, ?_, ?_, ?_⟩
  · intro i o ho e he hb
    have hi : i < l.length := by simpa using (Array.getElem?_eq_some_iff.1 ho).1
    have := hwf i hi
    rw [haft i o ho] at this
    exact this e.on (hmemaft o e he hb)
  · exact .inl ⟨by simp, fun _ => undef, fun _ => [], e0, hG0 _, by simp, by simpa using hfr, by simpa using hst.grow hxz⟩
  · intro D i o a w hS hD ho hni hpre
    have hi : i < l.length := by simpa using (Array.getElem?_eq_some_iff.1 ho).1
    have hoe := haft i o ho
    have hpre' : ∀ p ∈ aft o, p ∈ D := fun p hp => by obtain ⟨e, he, hb, rfl⟩ := hmemaft' o p hp; exact hpre e he hb
    by_cases him : i < m
    · rcases hS with ⟨hlt, V, E, e, hG, hR, hf, hs⟩ | ⟨k, hmk, hDk, _⟩
      · obtain ⟨⟨⟨⟨hdst, hg⟩, hnk⟩, hps⟩, hpn⟩ := hph i him
        rw [hoe] at hdst hg
        have hgn : o.guard = none := by simpa using hg
        rw [if_pos (by simp [Region.wanted, hgn])]
        have hpsD : ∀ p ∈ ps.getD i [], p ∈ D := fun p hp => hpre' p (by have := (hps p hp).1; rw [hoe] at this; simpa using this)
        have hpsm : ∀ p ∈ ps.getD i [], p < m := fun p hp => (hps p hp).2
        obtain ⟨rest, hperm⟩ := perm_pick D (ps.getD i []) hD hpn hpsD
        have hs1 : St M w0 (e :: ((ps.getD i []).flatMap E ++ H)) w := by
          have h1 := hs.perm (((hperm.flatMap_right E).append_right H).cons e)
          rw [List.flatMap_append] at h1
          refine h1.sub (List.Sublist.cons_cons e ?_)
          exact (List.sublist_append_left _ _).append (List.Sublist.refl H)
        have hf1 : Fr N ((ps.getD i []).map (fun p => (dsv l N p, V p)) ++ L) df a := by
          refine hf.weaken fun t v ht => ?_
          cases hc : lk ((ps.getD i []).map fun i => (dsv l N i, V i)) t with
          | some u =>
            rw [lk_append_some hc] at ht
            cases ht
            have hmem := lk_some_key hc
            simp only [keys, List.map_map, List.mem_map] at hmem
            obtain ⟨j, hj, rfl⟩ := hmem
            simp only [Function.comp_apply] at hc
            rw [lk_map (ds := dsv l N) (V := V) (nodup_map_of hnd hpn hpsm) hj] at hc
            cases hc
            exact lk_append_some (lk_map (ds := dsv l N) (V := V) (nodup_map_of hnd hD hlt) (hpsD j hj))
          | none =>
            rw [lk_append_none hc] at ht
            rw [lk_append_none]
            · exact ht
            · refine lk_map_none fun j hj e => ?_
              have := (hph j (hlt j hj))
              have hk' := lk_some_key ht
              rw [← e] at hk'
              exact this.1.1.2 hk'
        have hnext : ∀ v Ei e' w' a', (∀ V' : Nat → Value, (∀ j ∈ D, V' j = V j) → V' i = v → G (i :: D) V' e') → R i v Ei → St M w0 (e' :: (Ei ++ (D.flatMap E ++ H))) w' → a' = a.put o.dst v → S (i :: D) a' w' := by
          rintro v Ei e' w' a' hG' hRi hs' rfl
          refine .inl ⟨fun j hj => (List.mem_cons.1 hj).elim (fun h' => h' ▸ him) (hlt j), fun j => if j = i then v else V j, fun j => if j = i then Ei else E j, e', hG' _ (fun j hj => if_neg (fun (h : j = i) => hni (h ▸ hj))) (if_pos rfl), ?_, ?_, ?_⟩
          · intro j hj
            by_cases hji : j = i
            · subst hji; simpa using hRi
            · simp only [if_neg hji]
              rcases List.mem_cons.1 hj with rfl | hj
              · exact absurd rfl hji
              · exact hR j hj
          · have e1 : D.map (fun j => (dsv l N j, if j = i then v else V j)) = D.map fun j => (dsv l N j, V j) := by
              apply List.map_congr_left
              intro j hj
              rw [if_neg (fun (e : j = i) => hni (e ▸ hj))]
            simp only [List.map_cons, List.cons_append, if_true, e1]
            have := hf.dsv (o := o) (d := 0) hdst v i (fun h => hRu i v Ei (by rw [hoe]; exact h) hRi)
            simpa [dsv, hoe] using this
          · have e1 : D.flatMap (fun j => if j = i then Ei else E j) = D.flatMap E := by
              rw [List.flatMap_def, List.flatMap_def]
              congr 1
              apply List.map_congr_left
              intro j hj
              rw [if_neg (fun (e : j = i) => hni (e ▸ hj))]
            simp only [List.flatMap_cons, if_true, e1, List.append_assoc]
            exact hs'
        by_cases hmm : i ∈ mod
        · have hop1 := hmod i him hmm V E w (fun p hp => hR p (hpsD p hp)) D e hpsD hG hni hs1 N df a hf1
          rw [hoe] at hop1
          refine hop1.mono ?_
          rintro a' w' ⟨v, rfl, e', hx, hok', hfoot, hRi, hG'⟩
          have hs' := hs.exchange (k := 0) (e := e) (e' := e') rfl hx hok' hfoot
          exact hnext v [] e' w' _ hG' hRi (by simpa using hs') rfl
        · have hop1 := hop i him hmm V E w (fun p hp => hR p (hpsD p hp)) D e hpsD hG hni hs1 N df a hf1
          rw [hoe] at hop1
          refine hop1.mono ?_
          rintro a' w' ⟨v, rfl, hx, Ei, hRi, hEi⟩
          have hs' := hs.pushes hx hEi
          exact hnext v Ei e w' _ (fun V' hV' _ => hGk i D V V' e him hmm hV' hG) hRi (hs'.perm (by
            have : (Ei ++ e :: (D.flatMap E ++ H)).Perm (e :: (Ei ++ (D.flatMap E ++ H))) := List.perm_middle
            exact this)) rfl
      · exact absurd ((hDk i).2 (by omega)) hni
    · have hall' : ∀ j, j < i → (i = m ∨ j + 1 = i) → j ∈ D := fun j hj hor => hpre' j (by
        have := ((hph2 i hi).resolve_left him j hj).resolve_left (fun h => hor.elim h.1 h.2)
        rw [hoe] at this; simpa using this)
      have hfin : WL P r l.toArray K (l.drop i) a w ∧ ∀ j, j ∈ D ↔ j < i := by
        rcases hS with h1 | ⟨k, hmk, hDk, hwl⟩
        · have him' : i = m := by
            refine Classical.byContradiction fun hne => ?_
            have h2 := h1.1 (i - 1) (hall' (i - 1) (by omega) (.inr (by omega)))
            omega
          subst him'
          have hall : ∀ j, j < i → j ∈ D := fun j hj => hall' j hj (.inl rfl)
          exact ⟨hmid D a w hD hall h1, fun j => ⟨fun h => h1.1 j h, hall j⟩⟩
        · have hki : k = i := by
            rcases Nat.lt_trichotomy k i with h | h | h
            · have := (hDk (i - 1)).1 (hall' (i - 1) (by omega) (.inr (by omega))); omega
            · exact h
            · exact absurd ((hDk i).2 h) hni
          subst hki
          exact ⟨hwl, hDk⟩
      obtain ⟨hwl, hDi⟩ := hfin
      have hdrop : l.drop i = o :: l.drop (i + 1) := by
        rw [List.drop_eq_getElem_cons hi]
        simp only [List.getElem?_toArray] at ho
        congr 1
        exact (List.getElem?_eq_some_iff.1 ho).2
      rw [hdrop] at hwl
      unfold WL at hwl
      have hnext : ∀ a w, WL P r l.toArray K (l.drop (i + 1)) a w → S (i :: D) a w := fun a w h =>
        .inr ⟨i + 1, by omega, fun j => by rw [List.mem_cons, hDi]; omega, h⟩
      split
      · rename_i hw
        rw [if_pos hw] at hwl
        exact hwl.mono hnext
      · rename_i hw
        rw [if_neg hw] at hwl
        exact hnext _ _ hwl
  · intro D a w hS hD hall
    simp only [List.size_toArray] at hall
    rcases hS with h1 | ⟨k, hmk, hDk, hwl⟩
    · have hlen : m = l.length := by
        refine Classical.byContradiction fun hne => ?_
        have : m < l.length := by omega
        exact Nat.lt_irrefl _ (h1.1 m (hall m this))
      have := hmid D a w hD (fun i hi => hall i (by omega)) h1
      rw [hlen, List.drop_length] at this
      exact this
    · have hk : l.length ≤ k := by
        refine Classical.byContradiction fun hne => ?_
        exact Nat.lt_irrefl _ ((hDk k).1 (hall k (by omega)))
      rw [List.drop_eq_nil_of_le hk] at hwl
      exact hwl

theorem dsv_eq {l : List Oper} {p : Nat} (h : (opAt l p).dst.isSome = true) : dsv l N p = dsOf l p := by
  unfold dsv dsOf; unfold opAt at *
  cases hl : l[p]? with
  | none => rw [hl] at h; simp [default, instInhabitedOper.default] at h
  | some o => rw [hl] at h; simp only [Option.getD_some] at h ⊢; obtain ⟨d, hd⟩ := Option.isSome_iff_exists.1 h; simp [hd]
theorem front_perm {α : Type} {e : α} : ∀ {l : List α} {i : Nat}, l[i]? = some e → l.Perm (e :: l.eraseIdx i)
  | a :: l, 0, h => by simp at h; subst h; exact List.Perm.refl _
  | a :: l, i + 1, h => ((front_perm (l := l) (i := i) (by simpa using h)).cons a).trans (List.Perm.swap _ _ _)
theorem St.front {i : Nat} {e : Ent} (h : St M w0 H w) (hi : H[i]? = some e) : St M w0 (e :: H.eraseIdx i) w := by
  refine h.perm (front_perm hi)

/-- As the operation q: it turns the entry e0, the one operation that does. -/
def HopQ (P : Program) (r : Option Nat) (M : Nat → Prop) (w0 : World) (e0 : Ent) (e1 : Value → Ent) (H : List Ent) (L : List (Nat × Value)) (l : List Oper) (R : Nat → Value → List Ent → Prop) (i : Nat) : List Nat → List (Nat × Value) → List Ent → Prop
  | [], Lv, Es => ∀ w, St M w0 (e0 :: (Es ++ H)) w → OpR P r (opAt l i) (Lv ++ L) w (fun v w' => Ext e0.foot w w' ∧ (e1 v).ok w' ∧ (∀ b, (e1 v).foot b → b < w'.heap.size ∧ (e0.foot b ∨ w.heap.size ≤ b)) ∧ R i v [])
  | p :: ps, Lv, Es => ∀ v E, R p v E → HopQ P r M w0 e0 e1 H L l R i ps (Lv ++ [(dsOf l p, v)]) (Es ++ E)
theorem HopQ.use {e0 : Ent} {e1 : Value → Ent} {l : List Oper} {R : Nat → Value → List Ent → Prop} {i : Nat} {V : Nat → Value} {E : Nat → List Ent} : ∀ {ps : List Nat} {Lv : List (Nat × Value)} {Es : List Ent}, HopQ P r M w0 e0 e1 H L l R i ps Lv Es → (∀ p ∈ ps, R p (V p) (E p)) →
    ∀ w, St M w0 (e0 :: (Es ++ ps.flatMap E ++ H)) w → OpR P r (opAt l i) (Lv ++ ps.map (fun p => (dsOf l p, V p)) ++ L) w (fun v w' => Ext e0.foot w w' ∧ (e1 v).ok w' ∧ (∀ b, (e1 v).foot b → b < w'.heap.size ∧ (e0.foot b ∨ w.heap.size ≤ b)) ∧ R i v [])
  | [], Lv, Es, h, _, w, hs => by simpa using h w (by simpa using hs)
  | p :: ps, Lv, Es, h, hR, w, hs => by
    have := HopQ.use (h (V p) (E p) (hR p (by simp))) (fun q hq => hR q (by simp [hq])) w (by simpa using hs)
    simpa using this

/-- A REGION THAT DRAWS ITS ORDER, in which ONE operation q turns an entry (append to a field). -/
theorem wc_phases_one {l : List Oper} (q : Nat) (e0 : Ent) (e1 : Value → Ent) (m : Nat) (ps : List (List Nat)) (R : Nat → Value → List Ent → Prop) (hfr : Fr N L df a) (hst : St M w0 (e0 :: H) w)
    (hmix : P.follows .mixedOrders = true) (hok : phOkM l m N (keys L) ps = true) (hds : ((List.range m).all fun i => (opAt l i).dst.isSome) = true) (hqm : q < m) (hRm : ∀ i v E, R i v E → i < m)
    (hop : ∀ i, i < m → i ≠ q → ∀ e, Hop P r M w0 (e :: H) L l R i (ps.getD i []) [] [])
    (hq : HopQ P r M w0 e0 e1 H L l R q (ps.getD q []) [] [])
    (hk : ∀ vq, HopK P r M w0 (e1 vq :: H) N L df l m (fun i v E => R i v E ∧ (i = q → v = vq)) K (List.range m) [] []) : DR P r l.toArray K a w := by
  have hsome : ∀ i, i < m → (opAt l i).dst.isSome = true := fun i hi => List.all_eq_true.1 hds i (List.mem_range.2 hi)
  have hpsm : ∀ i, i < m → ∀ p ∈ ps.getD i [], p < m := by
    intro i hi p hp
    have hok2 := hok
    simp only [phOkM, Bool.and_eq_true, List.all_eq_true, decide_eq_true_eq, List.mem_range] at hok2
    exact ((hok2.1.1.1.2 i hi).1.2 p hp).2
  have hmap : ∀ (V : Nat → Value) (is : List Nat), (∀ p ∈ is, p < m) → is.map (fun p => (dsv l N p, V p)) = is.map fun p => (dsOf l p, V p) := fun V is h => List.map_congr_left fun p hp => by rw [dsv_eq (hsome p (h p hp))]
  refine wc_phases_mod (M := M) (w0 := w0) (e0 := e0) m ps [q] hmix hok R (fun i v E hd hR => ?_) (fun D V e => (∀ i ∈ D, i < m) ∧ ((q ∉ D ∧ e = e0) ∨ (q ∈ D ∧ e = e1 (V q)))) (fun V => ⟨by simp, .inl ⟨by simp, rfl⟩⟩) ?_ hfr hst ?_ ?_ ?_
  · have := hsome i (hRm i v E hR)
    rw [hd] at this; cases this
  · rintro i D V V' e him hmq hV ⟨hlt, hor⟩
    have hiq : i ≠ q := by simpa using hmq
    refine ⟨by simpa using ⟨him, hlt⟩, ?_⟩
    rcases hor with ⟨h0, rfl⟩ | ⟨h0, rfl⟩
    · exact .inl ⟨by simp [h0, Ne.symm hiq], rfl⟩
    · exact .inr ⟨by simp [h0], by rw [hV q h0]⟩
  · intro i him hmq V E w hR D e hp hG hni hs
    rw [hmap V _ (hpsm i him)]
    have hiq : i ≠ q := by simpa using hmq
    have := Hop.use (V := V) (E := E) (hop i him hiq e) hR w (by simpa using hs.perm List.perm_middle.symm)
    simpa using this
  · intro i him hmq V E w hR D e hp hG hni hs
    have hiq : i = q := by simpa using hmq
    subst hiq
    obtain ⟨hlt, hor⟩ := hG
    have he : e = e0 := by rcases hor with ⟨_, h⟩ | ⟨h, _⟩; exact h; exact absurd h hni
    subst he
    rw [hmap V _ (hpsm i him)]
    have := HopQ.use (V := V) (E := E) hq hR w (by simpa using hs)
    refine OpR.mono (by simpa using this) ?_
    rintro v w' ⟨h1, h2, h3, h4⟩
    exact ⟨_, h1, h2, h3, h4, fun V' hV' hv => ⟨by simpa using ⟨him, hlt⟩, .inr ⟨by simp, by rw [hv]⟩⟩⟩
  · rintro D V E e a w hD ⟨_, hor⟩ hR hf hs
    have hqD : q ∈ D := hD.mem_iff.2 (List.mem_range.2 hqm)
    have he : e = e1 (V q) := by rcases hor with ⟨h, _⟩ | ⟨_, h⟩; exact absurd hqD h; exact h
    subst he
    rw [hmap V _ (fun p hp => List.mem_range.1 hp)] at hf
    exact HopK.use (V := V) (E := E) (hk (V q)) (fun p hp => ⟨hR p (List.mem_range.1 hp), fun h => by rw [h]⟩) a w (by simpa using hf) (by simpa using hs.perm List.perm_middle.symm)
end
end Go.PW
