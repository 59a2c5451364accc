/- Regions that draw their order, some of whose operations store to blocks of one's own. -/
import Derived.Test.YtdamipejlfipcaaYield
namespace Go.PW
open Go.RowKit
set_option linter.unusedVariables false
section
variable {P : Program} {r : Option Nat} {a : Act} {w w' w0 : World} {M : Nat → Prop} {H E : List Ent} {N : Nat} {L : List (Nat × Value)} {df : List Deferred} {K : Act → World → Prop}

theorem r_storeU {E T : TypeId} {dst : Option Tmp} {x y : Operand} {ty : TypeId} {pos : String} {af : Array Edge} {gd : Option (Nat × Bool)} {b off : Nat} {u : Value} {cs ds : List Value} (hx : ev L x = some (.pointer (some ⟨b, off, none⟩))) (hy : ev L y = some u) (hb : (blk b cs E).ok w)
    (hsz : (sizeOf T).run P w = .ok u.cells.size w) (hone : ones u = true) (hfit : off + u.cells.size ≤ cs.length) (hds : splice cs off u.cells.toList = ds) :
    OpR P r ⟨dst, .store T x y, ty, pos, af, gd⟩ L w fun v w' => v = undef ∧ Ext (blk b cs E).foot w w' ∧ (blk b ds E).ok w' := by
  subst hds
  have hlt : b < w.heap.size := (Array.getElem?_eq_some_iff.1 hb).1
  exact fun N df a h => opk_skip rfl (w' := w.putObj b (.cells (splice cs off u.cells.toList).toArray E)) (by
    simp only [execOp, h.eval hx, h.eval hy, Instr.storeAt, Instr.sureAddr, Sem.run_bind, Sem.run_pure, Result.andThen_ok, run_store_blk hb hsz (fun x hx => List.all_eq_true.1 hone x hx) hfit]) ⟨undef, rfl, rfl, Ext.putObj (M := (blk b cs E).foot) rfl w _, World.putObj_heap_same hlt⟩

def HopW (P : Program) (r : Option Nat) (F0 F1 : Nat → Ent) (L : List (Nat × Value)) (l : List Oper) (R : Nat → Value → List Ent → Prop) (i : Nat) : List Nat → List (Nat × Value) → Prop
  | [], Lv => ∀ w, (F0 i).ok w → OpR P r (opAt l i) (Lv ++ L) w (fun v w' => v = undef ∧ Ext (F0 i).foot w w' ∧ (F1 i).ok w')
  | p :: ps, Lv => ∀ v E, R p v E → HopW P r F0 F1 L l R i ps (Lv ++ [(dsOf l p, v)])
theorem HopW.use {F0 F1 : Nat → Ent} {l : List Oper} {R : Nat → Value → List Ent → Prop} {i : Nat} {V : Nat → Value} {E : Nat → List Ent} : ∀ {ps : List Nat} {Lv : List (Nat × Value)}, HopW P r F0 F1 L l R i ps Lv → (∀ p ∈ ps, R p (V p) (E p)) →
    ∀ w, (F0 i).ok w → OpR P r (opAt l i) (Lv ++ ps.map (fun p => (dsOf l p, V p)) ++ L) w (fun v w' => v = undef ∧ Ext (F0 i).foot w w' ∧ (F1 i).ok w')
  | [], Lv, h, _, w, hs => by simpa using h w hs
  | p :: ps, Lv, h, hR, w, hs => by
    have := HopW.use (h (V p) (E p) (hR p (by simp))) (fun q hq => hR q (by simp [hq])) w hs
    simpa using this

theorem join_upd {qs : List Nat} {F : Nat → Ent} {q : Nat} {e1 : Ent} (hn : qs.Nodup) (hq : q ∈ qs) (hok : (join (qs.map F)).ok w) (hx : Ext (F q).foot w w') (h1 : e1.ok w') (hf : e1.foot = (F q).foot) (hlt : ∀ b, (join (qs.map F)).foot b → b < w.heap.size) :
    Ext (join (qs.map F)).foot w w' ∧ (join (qs.map fun p => if p = q then e1 else F p)).ok w' ∧ (∀ b, (join (qs.map fun p => if p = q then e1 else F p)).foot b ↔ (join (qs.map F)).foot b) := by
  obtain ⟨ho, hd⟩ := hok
  have hfoot : ∀ p, (if p = q then e1 else F p).foot = (F p).foot := by
    intro p; by_cases h : p = q
    · subst h; rw [if_pos rfl]; exact hf
    · rw [if_neg h]
  have hdd : ∀ p ∈ qs, p ≠ q → (F p).disj (F q) := by
    rw [List.pairwise_map] at hd
    intro p hp hpq
    obtain ⟨i, hi, rfl⟩ := List.getElem_of_mem hp
    obtain ⟨j, hj, rfl⟩ := List.getElem_of_mem hq
    have hp := List.pairwise_iff_getElem.1 hd
    rcases Nat.lt_trichotomy i j with h | h | h
    · exact hp i j hi hj h
    · subst h; exact absurd rfl hpq
    · exact Ent.disj_symm (hp j i hj hi h)
  refine ⟨hx.mono fun b _ hb => ⟨F q, List.mem_map_of_mem hq, hb⟩, ⟨?_, ?_⟩, ?_⟩
  · intro e he
    obtain ⟨p, hp, rfl⟩ := List.mem_map.1 he
    by_cases h : p = q
    · simp only [h, if_true]; exact h1
    · simp only [h, if_false]
      exact (F p).stable w w' (fun k hk => by
        exact hx.same k (hlt k ⟨_, List.mem_map_of_mem hp, hk⟩) (fun hq' => hdd p hp h k hk hq')) (ho _ (List.mem_map_of_mem hp))
  · rw [List.pairwise_map] at hd ⊢
    exact hd.imp fun {p p'} h k h1 h2 => h k (by rw [← hfoot p]; exact h1) (by rw [← hfoot p']; exact h2)
  · intro b
    constructor
    · rintro ⟨e, he, hb⟩
      obtain ⟨p, hp, rfl⟩ := List.mem_map.1 he
      exact ⟨F p, List.mem_map_of_mem hp, by rw [← hfoot p]; exact hb⟩
    · rintro ⟨e, he, hb⟩
      obtain ⟨p, hp, rfl⟩ := List.mem_map.1 he
      exact ⟨_, List.mem_map_of_mem hp, by rw [hfoot p]; exact hb⟩
/-- A REGION THAT DRAWS ITS ORDER, some of whose operations (mods) store to blocks of one's own that no other one of them reads. -/
theorem wc_phases_set {l : List Oper} (mods : List Nat) (F0 F1 : Nat → Ent) (m : Nat) (ps : List (List Nat)) (R : Nat → Value → List Ent → Prop) (hF : ∀ q, (F1 q).foot = (F0 q).foot) (hfr : Fr N L df a) (hst : St M w0 (mods.map F0 ++ H) w)
    (hmix : P.follows .mixedOrders = true) (hok : phOkM l m N (keys L) ps = true) (hds : ((List.range m).all fun i => decide (i ∈ mods) || (opAt l i).dst.isSome) = true) (hpsn : ((List.range m).all fun i => (ps.getD i []).all fun p => !decide (p ∈ mods)) = true) (hnd : mods.Nodup) (hlt : ∀ q ∈ mods, q < m)
    (hRm : ∀ i v E, R i v E → i < m) (hRs : ∀ i v E, i ∈ mods → R i v E → v = undef ∧ E = []) (hR0 : ∀ i ∈ mods, R i undef [])
    (hop : ∀ i, i < m → i ∉ mods → ∀ e, Hop P r M w0 (e :: H) L l R i (ps.getD i []) [] [])
    (hmod : ∀ q ∈ mods, HopW P r F0 F1 L l R q (ps.getD q []) [])
    (hk : HopK P r M w0 (mods.map F1 ++ H) N L df l m R K ((List.range m).filter fun i => !decide (i ∈ mods)) [] []) : DR P r l.toArray K a w := by
  have hsome : ∀ i, i < m → i ∉ mods → (opAt l i).dst.isSome = true := fun i hi hn => by
    have := List.all_eq_true.1 hds i (List.mem_range.2 hi)
    simpa [hn] using this
  have hpm : ∀ i, i < m → ∀ p ∈ ps.getD i [], p < m ∧ p ∉ mods := by
    intro i hi p hp
    have hok2 := hok
    simp only [phOkM, Bool.and_eq_true, List.all_eq_true, decide_eq_true_eq, List.mem_range] at hok2
    refine ⟨((hok2.1.1.1.2 i hi).1.2 p hp).2, ?_⟩
    have := List.all_eq_true.1 (List.all_eq_true.1 hpsn i (List.mem_range.2 hi)) p hp
    simpa using this
  have hmap : ∀ (V : Nat → Value) (is : List Nat), (∀ p ∈ is, p < m ∧ p ∉ mods) → is.map (fun p => (dsv l N p, V p)) = is.map fun p => (dsOf l p, V p) := fun V is h => List.map_congr_left fun p hp => by rw [dsv_eq (hsome p (h p hp).1 (h p hp).2)]
  have hst0 : St M w0 (join (mods.map fun q => if q ∈ ([] : List Nat) then F1 q else F0 q) :: H) w := by
    have := St.join _ _ hst
    simpa using this
  refine wc_phases_mod (M := M) (w0 := w0) (e0 := _) m ps mods hmix hok R (fun i v E hd hR => ?_) (fun D V e => e = join (mods.map fun q => if q ∈ D then F1 q else F0 q)) (fun V => rfl) ?_ hfr hst0 ?_ ?_ ?_
  · by_cases hi : i ∈ mods
    · exact (hRs i v E hi hR).1
    · have := hsome i (hRm i v E hR) hi
      rw [hd] at this; cases this
  · rintro i D V V' e him hmq hV rfl
    congr 1
    refine List.map_congr_left fun q hq => ?_
    have : q ≠ i := fun h => hmq (h ▸ hq)
    simp [this]
  · intro i him hmq V E w hR D e hp hG hni hs
    rw [hmap V _ (hpm i him)]
    have := Hop.use (V := V) (E := E) (hop i him hmq e) hR w (by simpa using hs.perm List.perm_middle.symm)
    simpa using this
  · intro i him hmq V E w hR D e hp hG hni hs
    subst hG
    rw [hmap V _ (hpm i him)]
    have hj := hs.ok _ List.mem_cons_self
    have h0 : (F0 i).ok w := by
      have := hj.1.1 _ (List.mem_map_of_mem (f := fun q => if q ∈ D then F1 q else F0 q) hmq)
      simpa [hni] using this
    have := HopW.use (V := V) (E := E) (hmod i hmq) hR w h0
    refine OpR.mono (by simpa using this) ?_
    rintro v w' ⟨rfl, h2, h3⟩
    have hfe : (if i ∈ D then F1 i else F0 i) = F0 i := if_neg hni
    obtain ⟨g1, g2, g3⟩ := join_upd (qs := mods) (F := fun q => if q ∈ D then F1 q else F0 q) (q := i) (e1 := F1 i) hnd hmq hj.1 (by simpa [hni] using h2) h3 (by simp [hni, hF]) (fun b hb => (hj.2 b hb).1)
    have hg : (mods.map fun p => if p = i then F1 i else if p ∈ D then F1 p else F0 p) = mods.map fun q => if q ∈ i :: D then F1 q else F0 q := by
      refine List.map_congr_left fun q hq => ?_
      by_cases h : q = i
      · subst h; simp
      · simp [h]
    rw [hg] at g2 g3
    exact ⟨_, g1, g2, fun b hb => ⟨Nat.lt_of_lt_of_le (hj.2 b ((g3 b).1 hb)).1 g1.size, .inl ((g3 b).1 hb)⟩, hR0 i hmq, fun V' hV' hv => rfl⟩
  · rintro D V E e a w hD rfl hR hf hs
    have hall : (mods.map fun q => if q ∈ D then F1 q else F0 q) = mods.map F1 := List.map_congr_left fun q hq => if_pos (hD.mem_iff.2 (List.mem_range.2 (hlt q hq)))
    rw [hall] at hs
    have hs1 := St.unjoin _ _ hs
    have hE : (List.range m).flatMap E = ((List.range m).filter fun i => !decide (i ∈ mods)).flatMap E := by
      have : ∀ (is : List Nat), (∀ i ∈ is, i < m) → is.flatMap E = (is.filter fun i => !decide (i ∈ mods)).flatMap E := by
        intro is
        induction is with
        | nil => intro _; rfl
        | cons i is ih =>
          intro h
          have ih := ih fun j hj => h j (by simp [hj])
          by_cases hi : i ∈ mods
          · have h1 := hRs i _ _ hi (hR i (h i (by simp)))
            rw [List.filter_cons_of_neg (by simpa using hi), List.flatMap_cons, h1.2, ih]; rfl
          · rw [List.filter_cons_of_pos (by simpa using hi), List.flatMap_cons, List.flatMap_cons, ih]
      exact this _ fun i hi => List.mem_range.1 hi
    rw [hE] at hs1
    have hok2 := hok
    simp only [phOkM, Bool.and_eq_true, List.all_eq_true, decide_eq_true_eq, List.mem_range, Bool.not_eq_true', List.contains_eq_mem, decide_eq_false_iff_not] at hok2
    have hnk : ((List.range m).map (dsv l N)).Nodup := hok2.1.1.2
    refine HopK.use (V := V) (E := E) hk (fun p hp => hR p (List.mem_range.1 (List.mem_filter.1 hp).1)) a w ?_ (by
      have : (mods.map F1 ++ (((List.range m).filter fun i => !decide (i ∈ mods)).flatMap E ++ H)).Perm (((List.range m).filter fun i => !decide (i ∈ mods)).flatMap E ++ (mods.map F1 ++ H)) := by
        rw [← List.append_assoc, ← List.append_assoc]; exact List.perm_append_comm.append_right H
      simpa using hs1.perm this)
    rw [List.nil_append, ← hmap V _ (fun p hp => ⟨List.mem_range.1 (List.mem_filter.1 hp).1, by simpa using (List.mem_filter.1 hp).2⟩)]
    refine hf.weaken fun t v ht => ?_
    cases hc : lk (((List.range m).filter fun i => !decide (i ∈ mods)).map fun i => (dsv l N i, V i)) t with
    | some u =>
      rw [lk_append_some hc] at ht
      cases ht
      have hmem := lk_some_key hc
      simp only [keys, List.map_map, List.mem_map] at hmem
      obtain ⟨i, hi, rfl⟩ := hmem
      simp only [Function.comp_apply] at hc
      have hn2 : (((List.range m).filter fun i => !decide (i ∈ mods)).map (dsv l N)).Nodup := hnk.sublist (List.Sublist.map _ List.filter_sublist)
      rw [lk_map (ds := dsv l N) (V := V) hn2 hi] at hc
      cases hc
      exact lk_append_some (lk_map (ds := dsv l N) (V := V) hnk (List.mem_filter.1 hi).1)
    | none =>
      rw [lk_append_none hc] at ht
      rw [lk_append_none]
      · exact ht
      · refine lk_map_none fun i hi e => ?_
        have := (hok2.1.1.1.2 i (List.mem_range.1 hi)).1.1.2
        have hk' := lk_some_key ht
        rw [← e] at hk'
        exact this hk'

def ptr (b : Nat) : Value := .pointer (some ⟨b, 0, none⟩)
def HopZ (P : Program) (r : Option Nat) (T : TypeId) (zs ns : List Value) (L : List (Nat × Value)) (l : List Oper) (R : Nat → Value → List Ent → Prop) (ia i : Nat) : List Nat → List (Nat × Value) → Prop
  | [], Lv => ∀ b, lk Lv (dsOf l ia) = some (ptr b) → ∀ w, (blk b zs T).ok w → OpR P r (opAt l i) (Lv ++ L) w (fun v w' => v = undef ∧ Ext (blk b zs T).foot w w' ∧ (blk b ns T).ok w')
  | p :: ps, Lv => ∀ v E, R p v E → HopZ P r T zs ns L l R ia i ps (Lv ++ [(dsOf l p, v)])
theorem HopZ.use {T : TypeId} {zs ns : List Value} {l : List Oper} {R : Nat → Value → List Ent → Prop} {ia i : Nat} {V : Nat → Value} {E : Nat → List Ent} : ∀ {ps : List Nat} {Lv : List (Nat × Value)}, HopZ P r T zs ns L l R ia i ps Lv → (∀ p ∈ ps, R p (V p) (E p)) →
    ∀ b, lk (Lv ++ ps.map (fun p => (dsOf l p, V p))) (dsOf l ia) = some (ptr b) → ∀ w, (blk b zs T).ok w → OpR P r (opAt l i) (Lv ++ ps.map (fun p => (dsOf l p, V p)) ++ L) w (fun v w' => v = undef ∧ Ext (blk b zs T).foot w w' ∧ (blk b ns T).ok w')
  | [], Lv, h, _, b, hb, w, hs => by simpa using h b (by simpa using hb) w hs
  | p :: ps, Lv, h, hR, b, hb, w, hs => by
    have := HopZ.use (h (V p) (E p) (hR p (by simp))) (fun q hq => hR q (by simp [hq])) b (by simpa using hb) w hs
    simpa using this

/-- A REGION THAT DRAWS ITS ORDER, in which a variable is made (ia) and stored to (js). -/
theorem wc_phases_new {l : List Oper} (ia js : Nat) (T : TypeId) (zs ns : List Value) (m : Nat) (ps : List (List Nat)) (R : Nat → Value → List Ent → Prop) (hfr : Fr N L df a) (hst : St M w0 H w)
    (hmix : P.follows .mixedOrders = true) (hok : phOkM l m N (keys L) ps = true) (hds : ((List.range m).all fun i => decide (i = js) || (opAt l i).dst.isSome) = true) (hpsn : ((List.range m).all fun i => (ps.getD i []).all fun p => !decide (p = js)) = true)
    (hia : ia < m) (hjs : js < m) (hne : ia ≠ js) (hpa : ia ∈ ps.getD js [])
    (hnda : (((ps.getD js []).map (dsOf l)).Nodup))
    (hRm : ∀ i v E, R i v E → i < m) (hRs : ∀ v E, R js v E → v = undef ∧ E = []) (hR0 : R js undef []) (hRa : ∀ v E, R ia v E ↔ ∃ b, v = ptr b ∧ E = [])
    (hop : ∀ i, i < m → i ≠ ia → i ≠ js → ∀ e, Hop P r M w0 (e :: H) L l R i (ps.getD i []) [] [])
    (hal : ∀ (Lv : List (Nat × Value)) w, OpR P r (opAt l ia) (Lv ++ L) w fun v w' => v = ptr w.heap.size ∧ w' = w.alloc (.cells zs.toArray T))
    (hsto : HopZ P r T zs ns L l R ia js (ps.getD js []) [])
    (hk : ∀ b, HopK P r M w0 (blk b ns T :: H) N L df l m (fun i v E => R i v E ∧ (i = ia → v = ptr b)) K ((List.range m).filter fun i => !decide (i = js)) [] []) : DR P r l.toArray K a w := by
  have hsome : ∀ i, i < m → i ≠ js → (opAt l i).dst.isSome = true := fun i hi hn => by
    have := List.all_eq_true.1 hds i (List.mem_range.2 hi)
    simpa [hn] using this
  have hpm : ∀ i, i < m → ∀ p ∈ ps.getD i [], p < m ∧ p ≠ js := by
    intro i hi p hp
    have hok2 := hok
    simp only [phOkM, Bool.and_eq_true, List.all_eq_true, decide_eq_true_eq, List.mem_range] at hok2
    refine ⟨((hok2.1.1.1.2 i hi).1.2 p hp).2, ?_⟩
    have := List.all_eq_true.1 (List.all_eq_true.1 hpsn i (List.mem_range.2 hi)) p hp
    simpa using this
  have hmap : ∀ (V : Nat → Value) (is : List Nat), (∀ p ∈ is, p < m ∧ p ≠ js) → is.map (fun p => (dsv l N p, V p)) = is.map fun p => (dsOf l p, V p) := fun V is h => List.map_congr_left fun p hp => by rw [dsv_eq (hsome p (h p hp).1 (h p hp).2)]
  have hst0 : St M w0 (join [] :: H) w := by
    have := St.join [] H hst
    simpa using this
  refine wc_phases_mod (M := M) (w0 := w0) (e0 := join []) m ps [ia, js] hmix hok R (fun i v E hd hR => ?_)
    (fun D V e => (js ∈ D → ia ∈ D) ∧ ((ia ∉ D ∧ e = join []) ∨ (ia ∈ D ∧ ∃ b, V ia = ptr b ∧ e = blk b (if js ∈ D then ns else zs) T))) (fun V => ⟨by simp, .inl ⟨by simp, rfl⟩⟩) ?_ hfr hst0 ?_ ?_ ?_
  · by_cases hi : i = js
    · subst hi; exact (hRs v E hR).1
    · have := hsome i (hRm i v E hR) hi
      rw [hd] at this; cases this
  · rintro i D V V' e him hmq hV ⟨h0, hor⟩
    simp only [List.mem_cons, List.not_mem_nil, or_false, not_or] at hmq
    have hja : js ∈ i :: D ↔ js ∈ D := by simp [Ne.symm hmq.2]
    have hia' : ia ∈ i :: D ↔ ia ∈ D := by simp [Ne.symm hmq.1]
    refine ⟨fun h => hia'.2 (h0 (hja.1 h)), ?_⟩
    rcases hor with ⟨h1, h2⟩ | ⟨h1, b, h2, h3⟩
    · exact .inl ⟨fun h => h1 (hia'.1 h), h2⟩
    · refine .inr ⟨hia'.2 h1, b, (hV ia h1).trans h2, ?_⟩
      rw [h3]; congr 1; by_cases hj : js ∈ D
      · rw [if_pos hj, if_pos (hja.2 hj)]
      · rw [if_neg hj, if_neg (fun h => hj (hja.1 h))]
  · intro i him hmq V E w hR D e hp hG hni hs
    simp only [List.mem_cons, List.not_mem_nil, or_false, not_or] at hmq
    rw [hmap V _ (hpm i him)]
    have := Hop.use (V := V) (E := E) (hop i him hmq.1 hmq.2 e) hR w (by simpa using hs.perm List.perm_middle.symm)
    simpa using this
  · intro i him hmq V E w hR D e hp hG hni hs
    obtain ⟨h0, hor⟩ := hG
    rw [hmap V _ (hpm i him)]
    by_cases hi : i = ia
    · subst hi
      rcases hor with ⟨_, rfl⟩ | ⟨h1, _⟩
      · refine (hal _ w).mono ?_
        rintro v w' ⟨rfl, rfl⟩
        have hjn : js ∉ D := fun h => hni (h0 h)
        refine ⟨blk w.heap.size zs T, Ext.alloc _ _ _, World.alloc_heap_new w _, fun b hb => by cases hb; exact ⟨by simp, .inr (Nat.le_refl _)⟩, (hRa _ _).2 ⟨_, rfl, rfl⟩, fun V' hV' hv => ⟨fun _ => by simp, .inr ⟨by simp, _, hv, ?_⟩⟩⟩
        rw [if_neg (by simp [hjn, Ne.symm hne])]
      · exact absurd h1 hni
    · have hi2 : i = js := by simpa [hi] using hmq
      subst hi2
      have hiaD : ia ∈ D := hp ia hpa
      rcases hor with ⟨h1, _⟩ | ⟨_, b, h2, rfl⟩
      · exact absurd hiaD h1
      · rw [if_neg hni] at hs ⊢
        have hb := (hs.ok _ List.mem_cons_self)
        have hlk : lk (([] : List (Nat × Value)) ++ (ps.getD i []).map (fun p => (dsOf l p, V p))) (dsOf l ia) = some (ptr b) := by
          rw [List.nil_append, lk_map (ds := dsOf l) (V := V) hnda hpa, h2]
        have := HopZ.use (V := V) (E := E) hsto hR b hlk w hb.1
        refine OpR.mono (by simpa using this) ?_
        rintro v w' ⟨rfl, g2, g3⟩
        exact ⟨blk b ns T, g2, g3, fun k hk => by cases hk; exact ⟨Nat.lt_of_lt_of_le (hb.2 b rfl).1 g2.size, .inl rfl⟩, hR0, fun V' hV' hv => ⟨fun _ => by simp [hiaD], .inr ⟨by simp [hiaD], b, (hV' ia hiaD).trans h2, by simp⟩⟩⟩
  · rintro D V E e a w hD ⟨_, hor⟩ hR hf hs
    have hiaD : ia ∈ D := hD.mem_iff.2 (List.mem_range.2 hia)
    have hjsD : js ∈ D := hD.mem_iff.2 (List.mem_range.2 hjs)
    rcases hor with ⟨h1, _⟩ | ⟨_, b, h2, rfl⟩
    · exact absurd hiaD h1
    rw [if_pos hjsD] at hs
    have hE : (List.range m).flatMap E = ((List.range m).filter fun i => !decide (i = js)).flatMap E := by
      have : ∀ (is : List Nat), (∀ i ∈ is, i < m) → is.flatMap E = (is.filter fun i => !decide (i = js)).flatMap E := by
        intro is
        induction is with
        | nil => intro _; rfl
        | cons i is ih =>
          intro h
          have ih := ih fun j hj => h j (by simp [hj])
          by_cases hi : i = js
          · have h1 := hRs _ _ (hi ▸ hR i (h i (by simp)))
            rw [List.filter_cons_of_neg (by simpa using hi), List.flatMap_cons, ← ih]
            have : E i = [] := by rw [hi]; exact (hRs _ _ (hR js hjs)).2
            rw [this]; rfl
          · rw [List.filter_cons_of_pos (by simpa using hi), List.flatMap_cons, List.flatMap_cons, ih]
      exact this _ fun i hi => List.mem_range.1 hi
    rw [hE] at hs
    have hok2 := hok
    simp only [phOkM, Bool.and_eq_true, List.all_eq_true, decide_eq_true_eq, List.mem_range, Bool.not_eq_true', List.contains_eq_mem, decide_eq_false_iff_not] at hok2
    have hnk : ((List.range m).map (dsv l N)).Nodup := hok2.1.1.2
    refine HopK.use (V := V) (E := E) (hk b) (fun p hp => ⟨hR p (List.mem_range.1 (List.mem_filter.1 hp).1), fun h => by rw [h]; exact h2⟩) a w ?_ (by simpa using hs.perm List.perm_middle.symm)
    rw [List.nil_append, ← hmap V _ (fun p hp => ⟨List.mem_range.1 (List.mem_filter.1 hp).1, by simpa using (List.mem_filter.1 hp).2⟩)]
    refine hf.weaken fun t v ht => ?_
    cases hc : lk (((List.range m).filter fun i => !decide (i = js)).map fun i => (dsv l N i, V i)) t with
    | some u =>
      rw [lk_append_some hc] at ht
      cases ht
      have hmem := lk_some_key hc
      simp only [keys, List.map_map, List.mem_map] at hmem
      obtain ⟨i, hi, rfl⟩ := hmem
      simp only [Function.comp_apply] at hc
      have hn2 : (((List.range m).filter fun i => !decide (i = js)).map (dsv l N)).Nodup := hnk.sublist (List.Sublist.map _ List.filter_sublist)
      rw [lk_map (ds := dsv l N) (V := V) hn2 hi] at hc
      cases hc
      exact lk_append_some (lk_map (ds := dsv l N) (V := V) hnk (List.mem_filter.1 hi).1)
    | none =>
      rw [lk_append_none hc] at ht
      rw [lk_append_none]
      · exact ht
      · refine lk_map_none fun i hi e => ?_
        have := (hok2.1.1.1.2 i (List.mem_range.1 hi)).1.1.2
        have hk' := lk_some_key ht
        rw [← e] at hk'
        exact this hk'
end
end Go.PW
