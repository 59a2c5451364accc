import Derived.Test.YtdamipejlfipcaaOps
namespace Go.PW
open Go.RowKit
set_option linter.unusedVariables false

section
variable {P : Program} {r : Option Nat} {a : Act} {w w' w0 : World} {M : Nat → Prop} {H : List Ent} {N : Nat} {L : List (Nat × Value)} {df : List Deferred}

/-! ### a function's end -/
/-- The frame leaves: no deferred calls but for marks of loops over functions. -/
def Fin (P : Program) (fn : Func) (R : Value → World → Prop) (tmps : Array Value) : List Deferred → World → Prop
  | [], w => ∃ v, (results fn tmps).run P w = .ok v w ∧ R v w
  | d :: ds, w => ∃ b, d.target = .collected b ∧ w.heap[b]? = some (.deferred (some [])) ∧ Fin P fn R tmps ds (w.putObj b (.deferred none))

def Post (P : Program) (fn : Func) (R : Value → World → Prop) : Exit → Act → World → Prop
  | .normal, a, w | .ret, a, w => Fin P fn R a.tmps a.defers w
  | _, _, _ => False

theorem leaves_of_fin {fn : Func} {R : Value → World → Prop} {tmps : Array Value} : ∀ (ds : List Deferred) (w : World), Fin P fn R tmps ds w →
    LeavesInM Fence.wide 0 P fn tmps (fun e w' => ∃ v, e = .returned v ∧ R v w') ds .returning w
  | [], w, ⟨v, h1, h2⟩ => ⟨v, h1, v, rfl, h2⟩
  | d :: ds, w, ⟨b, h1, h2, h3⟩ => ⟨by simp, .inl ⟨b, _, h1, run_takeDeferred h2, leaves_of_fin ds _ h3⟩⟩

/-- A function's contract, from its body. -/
theorem ret_of {f : FuncId} {fn : Func} {c : Code} {args : List Value} {R : Value → World → Prop} (hf : P.funcs[f]? = some fn) (hb : fn.body = some c) (hn : fn.ntmps = N) (hl : args.length ≤ N)
    (h : ∀ a, Fr N (args.zipIdx.map fun p => (p.2, p.1)) [] a → WC P none c (Post P fn R) a w) : Ret P f args.toArray w R := by
  refine (callsIn_wide (n := 0)).1 (callsIn_of_wp_marks hf hb trivial ?_)
  have hfr := Fr.entry (f := f) hl
  rw [← hn] at hfr
  refine wpIn_mono (h _ (hn ▸ hfr)) fun e a w hp => ?_
  cases e with
  | normal => exact leaves_of_fin _ _ hp
  | ret => exact leaves_of_fin _ _ hp
  | exit _ => exact hp.elim
  | goto _ => exact hp.elim
  | panic _ => exact hp.elim
  | outgrown => exact hp.elim

/-- What the result variables hold. -/
def resAre (P : Program) (L : List (Nat × Value)) (w : World) : List ResultVar → List Value → Prop
  | [], vs => vs = []
  | .tmp t :: rs, vs => ∃ v us, vs = v :: us ∧ lk L t = some v ∧ resAre P L w rs us
  | .cell t T :: rs, vs => ∃ v us b off, vs = v :: us ∧ lk L t = some (.pointer (some ⟨b, off, none⟩)) ∧ (loadVar T ⟨b, off, none⟩).run P w = .ok v w ∧ resAre P L w rs us

theorem resAre_nil : resAre P L w [] [] := rfl
theorem resAre_tmp {t : Tmp} {v : Value} {rs : List ResultVar} {vs : List Value} (h : lk L t = some v) (k : resAre P L w rs vs) : resAre P L w (.tmp t :: rs) (v :: vs) := ⟨v, vs, rfl, h, k⟩
theorem resAre_cell {t : Tmp} {T : TypeId} {v : Value} {b off : Nat} {rs : List ResultVar} {vs : List Value} (h : lk L t = some (.pointer (some ⟨b, off, none⟩))) (hv : (loadVar T ⟨b, off, none⟩).run P w = .ok v w) (k : resAre P L w rs vs) : resAre P L w (.cell t T :: rs) (v :: vs) := ⟨v, vs, b, off, rfl, h, hv, k⟩

def retv : List Value → Value
  | [v] => v
  | vs => .tuple vs.toArray

def resOne (tmps : Array Value) : ResultVar → Sem Value
  | .tmp t => pure (tmps.getD t undef)
  | .cell a t => do loadVar t (← asAddr (tmps.getD a undef))
theorem results_eq (fn : Func) (tmps : Array Value) : results fn tmps = (do let vs ← fn.results.mapM (resOne tmps); pure (if h : vs.size = 1 then vs[0] else .tuple vs)) := by
  unfold results
  congr 2

theorem run_results {fn : Func} {rs : List ResultVar} {vs : List Value} (hres : fn.results = rs.toArray) (hfr : Fr N L df a) (h : resAre P L w rs vs) : (results fn a.tmps).run P w = .ok (retv vs) w := by
  have key : ∀ (rs : List ResultVar) (vs : List Value), resAre P L w rs vs → (rs.mapM (resOne a.tmps)).run P w = .ok vs w := by
    intro rs
    induction rs with
    | nil => rintro _ rfl; rfl
    | cons x rs ih =>
      intro vs h
      rw [List.mapM_cons, Sem.run_bind]
      cases x with
      | tmp t =>
        obtain ⟨v, us, rfl, h1, h2⟩ := h
        have e : (resOne a.tmps (.tmp t)).run P w = .ok v w := by rw [resOne, hfr.get t v h1]; rfl
        rw [e, Result.andThen_ok, Sem.run_bind, ih us h2]; rfl
      | cell t T =>
        obtain ⟨v, us, b, off, rfl, h1, h2, h3⟩ := h
        have e : (resOne a.tmps (.cell t T)).run P w = .ok v w := by
          rw [resOne, hfr.get t _ h1, Sem.run_bind]
          show ((Sem.pure _).run P w).andThen _ = _
          rw [Sem.run_pure', Result.andThen_ok, h2]
        rw [e, Result.andThen_ok, Sem.run_bind, ih us h3]; rfl
  rw [results_eq, hres, List.mapM_toArray, Sem.run_bind, Sem.run_map, key rs vs h]
  simp only [Result.andThen_ok]
  match vs with
  | [] => rfl
  | [v] => rfl
  | v :: u :: vs => simp [retv]

theorem fin_ret {fn : Func} {rs : List ResultVar} {vs : List Value} {R : Value → World → Prop} (hfr : Fr N L [] a) (hres : fn.results = rs.toArray) (h : resAre P L w rs vs) (hR : R (retv vs) w) : Post P fn R .ret a w := by
  show Fin P fn R a.tmps a.defers w
  rw [hfr.dfs]
  exact ⟨_, run_results hres hfr h, hR⟩
theorem fin_end {fn : Func} {rs : List ResultVar} {vs : List Value} {R : Value → World → Prop} (hfr : Fr N L [] a) (hres : fn.results = rs.toArray) (h : resAre P L w rs vs) (hR : R (retv vs) w) : Post P fn R .normal a w := by
  show Fin P fn R a.tmps a.defers w
  rw [hfr.dfs]
  exact ⟨_, run_results hres hfr h, hR⟩
/-- One mark. -/
theorem fin_ret1 {fn : Func} {rs : List ResultVar} {vs : List Value} {D : Nat} {R : Value → World → Prop} (hfr : Fr N L [{ target := .collected D, args := #[] }] a) (hD : w.heap[D]? = some (.deferred (some []))) (hres : fn.results = rs.toArray) (h : resAre P L (w.putObj D (.deferred none)) rs vs) (hR : R (retv vs) (w.putObj D (.deferred none))) : Post P fn R .ret a w := by
  show Fin P fn R a.tmps a.defers w
  rw [hfr.dfs]
  exact ⟨D, rfl, hD, _, run_results hres hfr h, hR⟩
theorem fin_end1 {fn : Func} {rs : List ResultVar} {vs : List Value} {D : Nat} {R : Value → World → Prop} (hfr : Fr N L [{ target := .collected D, args := #[] }] a) (hD : w.heap[D]? = some (.deferred (some []))) (hres : fn.results = rs.toArray) (h : resAre P L (w.putObj D (.deferred none)) rs vs) (hR : R (retv vs) (w.putObj D (.deferred none))) : Post P fn R .normal a w := by
  show Fin P fn R a.tmps a.defers w
  rw [hfr.dfs]
  exact ⟨D, rfl, hD, _, run_results hres hfr h, hR⟩
end

theorem res_all {P : Program} {w : World} {b : Nat} {cs : List Value} {E T : TypeId} (hb : (blk b cs E).ok w) (hagg : (isAgg T).run P w = .ok true w) (hsz : (sizeOf T).run P w = .ok cs.length w) :
    (loadVar T ⟨b, 0, none⟩).run P w = .ok (.agg cs.toArray) w := run_load_agg hagg hsz (blk_cells hb)
theorem res_one {P : Program} {w : World} {b : Nat} {v : Value} {E T : TypeId} (hb : (blk b [v] E).ok w) (hagg : (isAgg T).run P w = .ok false w) :
    (loadVar T ⟨b, 0, none⟩).run P w = .ok v w := run_load_one hagg (blk_cells hb)

/-! ### a list of operations in whatever order -/
section draw
variable {P : Program} {r : Option Nat} {K : Act → World → Prop} {Q : Exit → Act → World → Prop}

def unlisted (n : Nat) (listed : Array Bool) : Nat := ((List.range n).filter fun j => !listed.getD j true).length

theorem unlisted_set {n i : Nat} {listed : Array Bool} (hi : i < n) (hl : listed.getD i true = false) : unlisted n (listed.setIfInBounds i true) + 1 = unlisted n listed := by
  have hsz : i < listed.size := by
    rcases Nat.lt_or_ge i listed.size with h | h
    · exact h
    · rw [Array.getD_eq_getD_getElem?, Array.getElem?_eq_none h] at hl; simp at hl
  have hset : ∀ j, (listed.setIfInBounds i true).getD j true = if j = i then true else listed.getD j true := by
    intro j
    rw [Array.getD_eq_getD_getElem?, Array.getElem?_setIfInBounds, Array.getD_eq_getD_getElem?]
    by_cases h : i = j
    · subst h; simp [hsz]
    · rw [if_neg h, if_neg (fun e => h e.symm)]
  have key : ∀ (l : List Nat), l.Nodup → i ∈ l → (l.filter fun j => !(listed.setIfInBounds i true).getD j true).length + 1 = (l.filter fun j => !listed.getD j true).length := by
    intro l
    induction l with
    | nil => intro _ h; simp at h
    | cons j l ih =>
      intro hn hm
      obtain ⟨hjl, hn'⟩ := List.nodup_cons.1 hn
      have hrest : i ∉ l → (l.filter fun j => !(listed.setIfInBounds i true).getD j true) = l.filter fun j => !listed.getD j true := by
        intro hil
        apply List.filter_congr
        intro x hx
        rw [hset, if_neg (fun (e : x = i) => hil (e ▸ hx))]
      rcases List.mem_cons.1 hm with rfl | hm'
      · have h1 : (!(listed.setIfInBounds i true).getD i true) = false := by rw [hset, if_pos rfl]; rfl
        have h2 : (!listed.getD i true) = true := by rw [hl]; rfl
        rw [List.filter_cons_of_neg (by rw [h1]; simp), List.filter_cons_of_pos (by rw [h2]), hrest hjl]
        simp
      · have hne : j ≠ i := fun e => hjl (e ▸ hm')
        have e1 : (!(listed.setIfInBounds i true).getD j true) = (!listed.getD j true) := by rw [hset, if_neg hne]
        rw [List.filter_cons, List.filter_cons, e1]
        split
        · rw [List.length_cons, List.length_cons, ih hn' hm']
        · exact ih hn' hm'
  exact key _ List.nodup_range (List.mem_range.2 hi)

/-- THE STATES OF A DRAW: S D: the operations of D have been done. -/
theorem wc_draw {id : Nat} {ops : Array Oper} {a : Act} {w : World} (hm : P.follows .mixedOrders = true) (S : List Nat → Act → World → Prop)
    (hwf : ∀ i o, ops[i]? = some o → ∀ e ∈ o.after, Region.binds .any e = true → e.on < i)
    (h0 : S [] a w.drew)
    (hstep : ∀ D i o a w, S D a w → D.Nodup → ops[i]? = some o → i ∉ D → (∀ e ∈ o.after, Region.binds .any e = true → e.on ∈ D) →
      if Region.wanted o (yielded ops a.tmps) then OpK P r o a w (S (i :: D)) else S (i :: D) (a.put o.dst undef) w)
    (hfin : ∀ D a w, S D a w → D.Nodup → (∀ i, i < ops.size → i ∈ D) → Q .normal a w) : WC P r (.region id ops true) Q a w := by
  refine wpIn_region_any hm ?_
  have key : ∀ (fuel : Nat) (D : List Nat) (listed : Array Bool) (a : Act) (w : World), unlisted ops.size listed = fuel → D.Nodup → listed.size = ops.size → (∀ i, i < ops.size → (listed.getD i true = true ↔ i ∈ D)) → S D a w →
      wpAnyIn (Fw r) 0 P .any ops Q fuel listed a w := by
    intro fuel
    have hall : ∀ (D : List Nat) (listed : Array Bool), listed.size = ops.size → (∀ i, i < ops.size → (listed.getD i true = true ↔ i ∈ D)) → Region.ready .any ops listed = [] → ∀ i, i < ops.size → i ∈ D := by
      intro D listed hsz hlD hr i
      induction i using Nat.strongRecOn with
      | _ i ih =>
        intro hi
        refine Classical.byContradiction fun hn => ?_
        have hl : listed.getD i true = false := by
          cases hb : listed.getD i true with
          | false => rfl
          | true => exact absurd ((hlD i hi).1 hb) hn
        have hmem : i ∈ Region.ready .any ops listed := by
          unfold Region.ready
          rw [List.mem_filter]
          refine ⟨List.mem_range.2 hi, ?_⟩
          rw [hl, Array.getElem?_eq_getElem hi]
          simp only [Bool.not_false, Bool.true_and, Option.map_some, Option.getD_some]
          rw [Array.all_eq_true']
          intro e he
          cases hbd : Region.binds .any e with
          | false => rfl
          | true =>
            have hlt := hwf i _ (Array.getElem?_eq_getElem hi) e he hbd
            have := (hlD e.on (by omega)).2 (ih e.on hlt (by omega))
            have hg : listed.getD e.on false = true := by
              rw [Array.getD_eq_getD_getElem?] at this ⊢
              rw [Array.getElem?_eq_getElem (by omega)] at this ⊢
              simpa using this
            simp [hg]
        rw [hr] at hmem
        simp at hmem
    induction fuel with
    | zero =>
      intro D listed a w hu hnd hsz hlD hS
      have hr : Region.ready .any ops listed = [] := by
        have hnil : ((List.range ops.size).filter fun j => !listed.getD j true) = [] := List.eq_nil_of_length_eq_zero hu
        unfold Region.ready
        rw [List.filter_eq_nil_iff] at hnil ⊢
        intro i hi h
        have := hnil i hi
        simp only [Bool.and_eq_true] at h
        exact this h.1
      exact ⟨hr, hfin D a w hS hnd (hall D listed hsz hlD hr)⟩
    | succ fuel ih =>
      intro D listed a w hu hnd hsz hlD hS
      refine ⟨fun hr => hfin D a w hS hnd (hall D listed hsz hlD hr), fun i hi => ?_⟩
      unfold Region.ready at hi
      rw [List.mem_filter] at hi
      obtain ⟨hi1, hi2⟩ := hi
      have hi1 := List.mem_range.1 hi1
      rw [Array.getElem?_eq_getElem hi1] at hi2
      simp only [Option.map_some, Option.getD_some, Bool.and_eq_true, Bool.not_eq_true', Array.all_eq_true'] at hi2
      obtain ⟨hl, haf⟩ := hi2
      have hniD : i ∉ D := fun h => by rw [(hlD i hi1).2 h] at hl; cases hl
      have hpre : ∀ e ∈ (ops[i]).after, Region.binds .any e = true → e.on ∈ D := by
        intro e he hbd
        have h1 := haf e he
        rw [hbd] at h1
        simp only [Bool.not_true, Bool.false_or] at h1
        have hlt := hwf i _ (Array.getElem?_eq_getElem hi1) e he hbd
        refine (hlD e.on (by omega)).1 ?_
        rw [Array.getD_eq_getD_getElem?] at h1 ⊢
        rw [Array.getElem?_eq_getElem (by omega)] at h1 ⊢
        simpa using h1
      have hst := hstep D i (ops[i]) a w hS hnd (Array.getElem?_eq_getElem hi1) hniD hpre
      have hnext : ∀ a w, S (i :: D) a w → wpAnyIn (Fw r) 0 P .any ops Q fuel (listed.setIfInBounds i true) a w := by
        intro a w hS'
        refine ih (i :: D) _ a w ?_ (List.nodup_cons.2 ⟨hniD, hnd⟩) (by simp [hsz]) ?_ hS'
        · have := unlisted_set hi1 hl; omega
        · intro j hj
          rw [Array.getD_eq_getD_getElem?, Array.getElem?_setIfInBounds]
          by_cases hij : i = j
          · subst hij; rw [if_pos rfl, if_pos (by omega)]; simp
          · rw [if_neg hij, ← Array.getD_eq_getD_getElem?, hlD j hj, List.mem_cons]
            exact ⟨fun h => .inr h, fun h => h.resolve_left (fun e => hij e.symm)⟩
      unfold wpOpIn
      rw [Array.getElem?_eq_getElem hi1]
      simp only
      split
      · rename_i hw
        rw [if_pos hw] at hst
        exact ⟨hst.1, uponIn_mono hnext (fun _ _ _ h => h.elim) hst.2⟩
      · rename_i hw
        rw [if_neg hw] at hst
        exact ⟨fun _ _ => trivial, hnext _ _ hst⟩
  refine key ops.size [] _ a w.drew ?_ List.nodup_nil (by simp) ?_ h0
  · unfold unlisted
    have : ((List.range ops.size).filter fun j => !(Array.replicate ops.size false).getD j true) = List.range ops.size := by
      rw [List.filter_eq_self]
      intro j hj
      have := List.mem_range.1 hj
      rw [Array.getD_eq_getD_getElem?, Array.getElem?_replicate, if_pos this]; rfl
    rw [this]; simp
  · intro i hi
    rw [Array.getD_eq_getD_getElem?, Array.getElem?_replicate, if_pos hi]; simp

/-- The operations of a list, in whatever order that their edges leave open: STATES of it, told by an invariant. -/
def Steps (P : Program) (r : Option Nat) (ops : Array Oper) (S : List Nat → Act → World → Prop) : Prop :=
  ∀ D i o a w, S D a w → D.Nodup → ops[i]? = some o → i ∉ D → (∀ e ∈ o.after, Region.binds .any e = true → e.on ∈ D) →
    if Region.wanted o (yielded ops a.tmps) then OpK P r o a w (S (i :: D)) else S (i :: D) (a.put o.dst undef) w
def Fins (ops : Array Oper) (K : Act → World → Prop) (S : List Nat → Act → World → Prop) : Prop :=
  ∀ D a w, S D a w → D.Nodup → (∀ i, i < ops.size → i ∈ D) → K a w
def Early (ops : Array Oper) : Prop := ∀ (i : Nat) (o : Oper), ops[i]? = some o → ∀ e ∈ o.after, Region.binds .any e = true → e.on < i
def DR (P : Program) (r : Option Nat) (ops : Array Oper) (K : Act → World → Prop) (a : Act) (w : World) : Prop :=
  ∀ w1, Ext No w w1 → ∃ S, Early ops ∧ S [] a w1 ∧ Steps P r ops S ∧ Fins ops K S
theorem wc_of_dr {id : Nat} {ops : Array Oper} {a : Act} {w : World} (hm : P.follows .mixedOrders = true) (h : DR P r ops (fun a w => Q .normal a w) a w) : WC P r (.region id ops true) Q a w := by
  obtain ⟨S, h1, h2, h3, h4⟩ := h w.drew (Ext.drew _ _)
  exact wc_draw hm S h1 h2 h3 h4
end draw
end Go.PW
