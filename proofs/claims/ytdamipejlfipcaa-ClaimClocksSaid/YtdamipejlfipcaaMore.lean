/- More rules: arrays within a slice's elements, method values, stores of structs with slices. -/
import Derived.Test.YtdamipejlfipcaaSl
namespace Go.PW
open Go.RowKit
set_option linter.unusedVariables false
set_option linter.unusedSimpArgs false
section
variable {P : Program} {w0 w : World} {M : Nat → Prop} {H : List Ent} {N : Nat} {df : List Deferred} {L : List (Nat × Value)} {a : Act} {r : Option Nat} {ops : Array Oper} {K : Act → World → Prop} {rest : List Oper} {d dst : Nat} {ty T E : TypeId} {pos : String} {af : Array Edge} {gd : Option (Nat × Bool)} {x y : Operand} {v u : Value} {sz : Nat} {els : List (List Value)}
theorem SlAt.one (h : SlAt w v sz els) : v.oneCell' = true := by
  rcases h.2.2 with ⟨h, _⟩ | ⟨b, off, cap, h, _⟩ <;> subst h <;> rfl
/-- x[i][j], its address: an array that is an element of a slice, at a fixed place. -/
theorem v_indexAddr_slp {k j : Nat} {q : Value} (h : SlAt w v sz els) {i : Nat} (hi : i < els.length) (hx : ev L x = some (slAddr v k)) (hy : ev L y = some q) (hr : ∀ b off, (Instr.indexAt T (.pointer (some ⟨b, off, none⟩)) q).run P w = .ok (.pointer (some ⟨b, off + j, none⟩)) w) :
    OpV P ⟨some dst, .indexAddr T x y, ty, pos, af, gd⟩ L w (slAddr v (k + j)) := by
  obtain ⟨b, off, cap, rfl, _⟩ := h.at hi
  refine v_indexAddr hx hy ?_
  rw [slAddr, hr, slAddr, Nat.add_assoc]
/-- A call of a method value. -/
theorem r_callb {f : FuncId} {bd : List Value} {xs : List Operand} {vs : List Value} {ats : Array TypeId} {R : Value → World → Prop} {dst : Option Tmp} (hf : ev L x = some (.func (.func f) bd.toArray #[])) (hen : ∀ args w, (callFunc f args).run P w = .ok (.enter f args) w) (hx : evs L xs = some vs) (hc : Ret P f (bd ++ vs).toArray w R) :
    OpR P r ⟨dst, .call { callee := .value x, args := xs.toArray, argTypes := ats }, ty, pos, af, gd⟩ L w R :=
  fun N df a h => opk_call rfl (f := f) (args := (bd ++ vs).toArray) (w' := w) (by
    have e1 : xs.toArray.map a.eval = vs.toArray := by rw [List.map_toArray]; exact congrArg _ (h.evals hx)
    simp [execOp, resolve, e1, h.eval hf, Deferred.ofValue, invoke, hen]) (hc.mono fun v w' hR => ⟨v, rfl, hR⟩)
/-- A call of a method value that changes one block. -/
theorem wl_callb {f : FuncId} {bd : List Value} {xs : List Operand} {vs : List Value} {ats : Array TypeId} {b : Nat} {cs ds : List Value} {E : TypeId} {H' : List Ent} (i : Nat) (hfr : Fr N L df a) (hst : St M w0 H w) (hd : d < N) (hf : ev L x = some (.func (.func f) bd.toArray #[])) (hen : ∀ args w, (callFunc f args).run P w = .ok (.enter f args) w) (hx : evs L xs = some vs)
    (hi : H[i]? = some (blk b cs E)) (hc : Ret P f (bd ++ vs).toArray w fun v' w' => v' = v ∧ Ext (· = b) w w' ∧ (blk b ds E).ok w') (hH : H.set i (blk b ds E) = H')
    (k : ∀ a w', Fr N ((d, v) :: L) df a → St M w0 H' w' → WL P r ops K rest a w') :
    WL P r ops K (⟨some d, .call { callee := .value x, args := xs.toArray, argTypes := ats }, ty, pos, af, none⟩ :: rest) a w :=
  wl_r (r_callb hf hen hx hc) rfl (decide_eq_true hd) hfr fun a v' w' ⟨hv, hw, ho⟩ h => by
    subst hv; subst hH
    exact k _ _ h (hst.exchange (e := blk b cs E) (e' := blk b ds E) hi hw ho fun b' hb' => by
      cases hb'
      exact ⟨Nat.lt_of_lt_of_le (hst.lt hi rfl) hw.size, .inl rfl⟩)
/-- A struct with one slice is stored. -/
theorem wl_store_one {E T : TypeId} {x y : Operand} {ty : TypeId} {pos : String} {af : Array Edge} {cs ds : List Value} {H' : List Ent} {off b : Nat} {us : List Value} (i : Nat) (hfr : Fr N L df a) (hst : St M w0 H w) (hx : ev L x = some (.pointer (some ⟨b, off, none⟩))) (hy : ev L y = some (.agg us.toArray)) (hi : H[i]? = some (blk b cs E))
    (hsz : (sizeOf T).run P w = .ok us.length w) (hone : ∀ z ∈ us, z.oneCell' = true) (hfit : off + us.length ≤ cs.length) (hds : splice cs off us = ds) (hH : H.set i (blk b ds E) = H')
    (k : ∀ a w', Fr N L df a → St M w0 H' w' → WL P r ops K rest a w') :
    WL P r ops K (⟨none, .store T x y, ty, pos, af, none⟩ :: rest) a w :=
  wl_store i hfr hst hx hy hi hsz (by simpa [ones, Value.cells] using hone) hfit hds hH k
/-- As wc_phases, of operations whose values are known and that leave nothing behind. -/
theorem wc_phases_v {l : List Oper} (m : Nat) (ps : List (List Nat)) (vals : List Value) (hfr : Fr N L df a) (hst : St M w0 H w) (hmix : P.follows .mixedOrders = true) (hok : phOk l m N (keys L) ps = true)
    (hop : ∀ i, i < m → ∀ w, St M w0 H w → OpR P r (opAt l i) ((ps.getD i []).map (fun p => (dsOf l p, vals.getD p undef)) ++ L) w (GrowR w (pv (vals.getD i undef))))
    (hk : ∀ a w, Fr N ((List.range m).map (fun i => (dsOf l i, vals.getD i undef)) ++ L) df a → St M w0 H w → WL P r l.toArray K (l.drop m) a w) : DR P r l.toArray K a w :=
  wc_phases m ps hmix hok (fun i => pv (vals.getD i undef)) hfr hst
    (fun i hi V E w hR hs => by
      have h1 : (ps.getD i []).map (fun p => (dsOf l p, V p)) = (ps.getD i []).map (fun p => (dsOf l p, vals.getD p undef)) := List.map_congr_left fun p hp => by rw [(hR p hp).1]
      have h2 : (ps.getD i []).flatMap E = [] := List.flatMap_eq_nil_iff.2 fun p hp => (hR p hp).2
      rw [h2] at hs
      rw [h1]
      exact hop i hi w hs)
    (fun V E a w hR hf hs => by
      have h1 : (List.range m).map (fun p => (dsOf l p, V p)) = (List.range m).map (fun p => (dsOf l p, vals.getD p undef)) := List.map_congr_left fun p hp => by rw [(hR p (List.mem_range.1 hp)).1]
      have h2 : (List.range m).flatMap E = [] := List.flatMap_eq_nil_iff.2 fun p hp => (hR p (List.mem_range.1 hp)).2
      rw [h2] at hs
      rw [h1] at hf
      exact hk a w hf hs)
theorem wc_phases_gv {l : List Oper} (m : Nat) (ps : List (List Nat)) (vals : List Value) (hfr : Fr N L df a) (hst : St M w0 H w) (hmix : P.follows .mixedOrders = true) (hok : phOkG l m N (keys L) ps = true)
    (hgd : ((List.range m).all fun i => match (opAt l i).guard with | some g => (match vals.getD g.1 undef with | .bool b => b == g.2 | _ => false) | none => true) = true)
    (hop : ∀ i, i < m → ∀ w, St M w0 H w → OpR P r (opAt l i) ((ps.getD i []).map (fun p => (dsOf l p, vals.getD p undef)) ++ L) w (GrowR w (pv (vals.getD i undef))))
    (hk : ∀ a w, Fr N ((List.range m).map (fun i => (dsOf l i, vals.getD i undef)) ++ L) df a → St M w0 H w → WL P r l.toArray K (l.drop m) a w) : DR P r l.toArray K a w :=
  wc_phases_g m ps hmix hok (fun i => pv (vals.getD i undef)) (fun i hi g hg v E h => by
      have h1 := List.all_eq_true.1 hgd i (List.mem_range.2 hi)
      rw [hg] at h1
      obtain ⟨rfl, _⟩ := h
      revert h1
      simp only
      split
      · rename_i b hb; intro h1; rw [hb]; simp at h1; rw [h1]
      · intro h1; cases h1) hfr hst
    (fun i hi V E w hR hs => by
      have h1 : (ps.getD i []).map (fun p => (dsOf l p, V p)) = (ps.getD i []).map (fun p => (dsOf l p, vals.getD p undef)) := List.map_congr_left fun p hp => by rw [(hR p hp).1]
      have h2 : (ps.getD i []).flatMap E = [] := List.flatMap_eq_nil_iff.2 fun p hp => (hR p hp).2
      rw [h2] at hs
      rw [h1]
      exact hop i hi w hs)
    (fun V E a w hR hf hs => by
      have h1 : (List.range m).map (fun p => (dsOf l p, V p)) = (List.range m).map (fun p => (dsOf l p, vals.getD p undef)) := List.map_congr_left fun p hp => by rw [(hR p (List.mem_range.1 hp)).1]
      have h2 : (List.range m).flatMap E = [] := List.flatMap_eq_nil_iff.2 fun p hp => (hR p (List.mem_range.1 hp)).2
      rw [h2] at hs
      rw [h1] at hf
      exact hk a w hf hs)
theorem flatMap_one {E : Nat → List Ent} {q : Nat} : ∀ m, q < m → (∀ i, i < m → i ≠ q → E i = []) → (List.range m).flatMap E = E q := by
  have h0 : ∀ m, (∀ i, i < m → E i = []) → (List.range m).flatMap E = [] := fun m h => List.flatMap_eq_nil_iff.2 fun p hp => h p (List.mem_range.1 hp)
  intro m
  induction m with
  | zero => intro h; omega
  | succ m ih =>
    intro hq h
    rw [List.range_succ, List.flatMap_append, List.flatMap_singleton]
    by_cases he : q = m
    · subst he
      rw [h0 _ fun i hi => h i (by omega) (by omega), List.nil_append]
    · rw [ih (by omega) fun i hi hn => h i (by omega) hn, h m (by omega) (fun e => he e.symm), List.append_nil]
/-- As wc_phases_v; one operation (q), on whose value none of the others leans, leaves entries. -/
theorem wc_phases_v1 {l : List Oper} (q : Nat) (Rq : Value → List Ent → Prop) (m : Nat) (ps : List (List Nat)) (vals : List Value) (hfr : Fr N L df a) (hst : St M w0 H w) (hmix : P.follows .mixedOrders = true) (hok : phOk l m N (keys L) ps = true)
    (hq : (decide (q < m) && decide (vals.length = m) && (List.range m).all fun i => !(ps.getD i []).contains q) = true)
    (hop : ∀ i, i < m → i ≠ q → ∀ w, St M w0 H w → OpR P r (opAt l i) ((ps.getD i []).map (fun p => (dsOf l p, vals.getD p undef)) ++ L) w (GrowR w (pv (vals.getD i undef))))
    (hopq : ∀ w, St M w0 H w → OpR P r (opAt l q) ((ps.getD q []).map (fun p => (dsOf l p, vals.getD p undef)) ++ L) w (GrowR w Rq))
    (hk : ∀ v E, Rq v E → ∀ a w, Fr N ((List.range m).map (fun i => (dsOf l i, (vals.set q v).getD i undef)) ++ L) df a → St M w0 (E ++ H) w → WL P r l.toArray K (l.drop m) a w) : DR P r l.toArray K a w := by
  simp only [Bool.and_eq_true, decide_eq_true_eq, List.all_eq_true, List.mem_range, Bool.not_eq_true', List.contains_eq_mem, decide_eq_false_iff_not] at hq
  obtain ⟨⟨hqm, hlen⟩, hpq⟩ := hq
  refine wc_phases m ps hmix hok (fun i => if i = q then Rq else pv (vals.getD i undef)) hfr hst ?_ ?_
  · intro i hi V E w hR hs
    have hne : ∀ p ∈ ps.getD i [], p ≠ q := fun p hp e => hpq i hi (e ▸ hp)
    have hR' : ∀ p ∈ ps.getD i [], pv (vals.getD p undef) (V p) (E p) := fun p hp => by have := hR p hp; simp only [if_neg (hne p hp)] at this; exact this
    have h1 : (ps.getD i []).map (fun p => (dsOf l p, V p)) = (ps.getD i []).map (fun p => (dsOf l p, vals.getD p undef)) := List.map_congr_left fun p hp => by rw [(hR' p hp).1]
    have h2 : (ps.getD i []).flatMap E = [] := List.flatMap_eq_nil_iff.2 fun p hp => (hR' p hp).2
    rw [h2] at hs
    rw [h1]
    by_cases hi2 : i = q
    · subst hi2; simp only [if_true]; exact hopq w hs
    · simp only [if_neg hi2]; exact hop i hi hi2 w hs
  · intro V E a w hR hf hs
    have hR' : ∀ i, i < m → i ≠ q → pv (vals.getD i undef) (V i) (E i) := fun i hi hn => by have := hR i hi; simp only [if_neg hn] at this; exact this
    have hRq : Rq (V q) (E q) := by have := hR q hqm; simp only [if_true] at this; exact this
    rw [flatMap_one m hqm fun i hi hn => (hR' i hi hn).2] at hs
    have h1 : (List.range m).map (fun p => (dsOf l p, V p)) = (List.range m).map (fun p => (dsOf l p, (vals.set q (V q)).getD p undef)) := List.map_congr_left fun p hp => by
      by_cases he : p = q
      · subst he; rw [List.getD_eq_getElem?_getD, List.getElem?_set_self (by omega)]; rfl
      · have hs : (vals.set q (V q)).getD p undef = vals.getD p undef := by rw [List.getD_eq_getElem?_getD, List.getElem?_set_ne (fun e => he e.symm), ← List.getD_eq_getElem?_getD]
        rw [hs, (hR' p (List.mem_range.1 hp) he).1]
    rw [h1] at hf
    exact hk _ _ hRq a w hf hs
end
end Go.PW
