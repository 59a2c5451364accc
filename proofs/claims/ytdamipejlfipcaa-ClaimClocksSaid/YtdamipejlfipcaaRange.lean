import Derived.Test.YtdamipejlfipcaaDraw
namespace Go.PW
open Go.RowKit
set_option linter.unusedVariables false

section
variable {P : Program} {r : Option Nat} {a : Act} {w w' w0 : World} {M : Nat → Prop} {H E : List Ent} {N : Nat} {L : List (Nat × Value)} {df : List Deferred} {Q : Exit → Act → World → Prop}

/-! ### a call of yield -/
def Yield (P : Program) (l : Nat) (args : Array Value) (w : World) (R : Value → World → Prop) : Prop :=
  ∃ fn tmps assign body, (Instr.yield l args).run P w = .ok (.round l fn tmps assign body) w ∧ RoundRet P l fn tmps assign body w R

theorem Yield.mono {l : Nat} {args : Array Value} {R R' : Value → World → Prop} (h : Yield P l args w R) (hR : ∀ v w', R v w' → R' v w') : Yield P l args w R' := by
  obtain ⟨fn, tmps, assign, body, h1, h2⟩ := h
  exact ⟨fn, tmps, assign, body, h1, h2.mono fun e w' ⟨v, he, hr⟩ => ⟨v, he, hR _ _ hr⟩⟩

theorem r_yield {l : Nat} {x : Operand} {xs : List Operand} {vs : List Value} {ats : Array TypeId} {dst : Option Tmp} {ty : TypeId} {pos : String} {af : Array Edge} {gd : Option (Nat × Bool)} {R : Value → World → Prop}
    (hf : ev L x = some (.func (.yield l) #[] #[])) (hx : evs L xs = some vs) (hc : Yield P l vs.toArray w R) :
    OpR P r ⟨dst, .call { callee := .value x, args := xs.toArray, argTypes := ats }, ty, pos, af, gd⟩ L w R := by
  intro N df a h
  obtain ⟨fn, tmps, assign, body, h1, h2⟩ := hc
  refine opk_round rfl (l := l) (f := fn) (tmps := tmps) (assign := assign) (body := body) (w' := w) ?_ (h2.mono fun e w' ⟨v, he, hR⟩ => ⟨v, he, v, rfl, hR⟩)
  have e1 : xs.toArray.map a.eval = vs.toArray := by rw [List.map_toArray]; exact congrArg _ (h.evals hx)
  simp only [execOp, resolve, e1, h.eval hf, Deferred.ofValue, Sem.run_bind, Sem.run_pure, Result.andThen_ok, invoke]
  simpa using h1

/-! ### entries joined -/
def join (H : List Ent) : Ent where
  foot k := ∃ e ∈ H, e.foot k
  ok w := (∀ e ∈ H, e.ok w) ∧ H.Pairwise Ent.disj
  stable w w' h ho := ⟨fun e he => e.stable w w' (fun k hk => h k ⟨e, he, hk⟩) (ho.1 e he), ho.2⟩

theorem St.join (A B : List Ent) (h : St M w0 (A ++ B) w) : St M w0 (join A :: B) w := by
  obtain ⟨h1, h2, h3⟩ := List.pairwise_append.1 h.dis
  refine ⟨h.ext, fun e he => ?_, List.Pairwise.cons (fun e' he' k ⟨e, he, hk⟩ hk' => h3 e he e' he' k hk hk') h2⟩
  rcases List.mem_cons.1 he with rfl | he
  · exact ⟨⟨fun e he => (h.ok e (List.mem_append_left _ he)).1, h1⟩, fun k ⟨e, he, hk⟩ => (h.ok e (List.mem_append_left _ he)).2 k hk⟩
  · exact h.ok e (List.mem_append_right _ he)
theorem St.unjoin (A B : List Ent) (h : St M w0 (PW.join A :: B) w) : St M w0 (A ++ B) w := by
  obtain ⟨h1, h2⟩ := List.pairwise_cons.1 h.dis
  have hj := h.ok (PW.join A) (by simp)
  refine ⟨h.ext, fun e he => ?_, List.pairwise_append.2 ⟨hj.1.2, h2, fun e he e' he' k hk hk' => h1 e' he' k ⟨e, he, hk⟩ hk'⟩⟩
  rcases List.mem_append.1 he with he | he
  · exact ⟨hj.1.1 e he, fun k hk => hj.2 k ⟨e, he, hk⟩⟩
  · exact h.ok e (by simp [he])

/-- Seen from within: the world as it is, the entries' own blocks may turn. -/
theorem St.inner (A : List Ent) (hok : ∀ e ∈ A, e.ok w ∧ ∀ k, e.foot k → k < w.heap.size) (hd : A.Pairwise Ent.disj) : St (PW.join A).foot w A w :=
  ⟨Ext.refl _ _, fun e he => ⟨(hok e he).1, fun k hk => ⟨(hok e he).2 k hk, fun _ => ⟨e, he, hk⟩⟩⟩, hd⟩

/-! ### the rounds -/
/-- How a round may end: A: it goes on; X c: it leaves by the jump c. -/
def BPost (F : Nat → Prop) (W : World) (A : List Ent → Prop) (X : Code → List Ent → Prop) : Exit → Act → World → Prop
  | .normal, _, w => ∃ H, A H ∧ St F W H w
  | .ret, _, w => ∃ H, X .ret H ∧ St F W H w
  | .exit id, _, w => ∃ H, X (.exit id) H ∧ St F W H w
  | .goto t, _, w => ∃ H, X (.goto t) H ∧ St F W H w
  | .panic _, _, _ => False
  | .outgrown, _, _ => False

def putAll (ps : List Tmp) (vs : List Value) (tmps : Array Value) : Array Value := (ps.zip vs).foldl (fun t p => t.setIfInBounds p.1 p.2) tmps
theorem Fr.putAll {ps : List Tmp} {vs : List Value} (hfr : Fr N L df a) (hps : ∀ p ∈ ps, p < N) : Fr N ((ps.zip vs).reverse ++ L) [] { tmps := PW.putAll ps vs a.tmps, defers := [] } := by
  have key : ∀ (z : List (Tmp × Value)) (L : List (Nat × Value)) (a : Act), (∀ p ∈ z, p.1 < N) → Fr N L df a → Fr N (z.reverse ++ L) df { tmps := z.foldl (fun t p => t.setIfInBounds p.1 p.2) a.tmps, defers := a.defers } := by
    intro z
    induction z with
    | nil => intro L a _ h; simpa using h
    | cons p z ih =>
      intro L a hz h
      obtain ⟨d, v⟩ := p
      have := ih ((d, v) :: L) (a.put (some d) v) (fun p hp => hz p (by simp [hp])) (h.put (hz (d, v) (by simp)) v)
      simpa [Act.put] using this
  have := key (ps.zip vs) L a (fun p hp => hps p.1 (List.of_mem_zip hp).1) hfr
  exact ⟨this.size, this.get, rfl⟩

/-- ONE ROUND. -/
theorem yield_of {l D : Nat} {fn : FuncId} {tmps : Array Value} {ps : List Tmp} {assign body : Code} {vs : List Value} {W : World} {Hc : List Ent} {A : List Ent → Prop} {X : Code → List Ent → Prop} {A1 : List Ent → Act → Prop}
    (hl : W.heap[l]? = some (.loop { state := .ready, pending := none, fn, tmps, params := ps.toArray, assign, body, defers := D })) (hlen : vs.length = ps.length)
    (hok : ∀ e ∈ Hc, e.ok W ∧ ∀ k, e.foot k → k < W.heap.size ∧ k ≠ l) (hd : Hc.Pairwise Ent.disj)
    (hassign : WC P (some l) assign (Exit.then (fun a1 W1 => ∃ H1, A1 H1 a1 ∧ St (join Hc).foot W H1 W1) fun _ _ _ => False) { tmps := putAll ps vs tmps, defers := [] } W)
    (hbody : ∀ H1 a1 W2, A1 H1 a1 → (∃ rec : Loop, W2.heap[l]? = some (.loop rec)) → ¬ (join H1).foot l → St (join H1).foot W2 H1 W2 → WC P (some l) body (BPost (join H1).foot W2 A X) a1 W2) :
    Yield P l vs.toArray W fun v W' =>
      (∃ H3, v = .bool true ∧ A H3 ∧ (∀ e ∈ H3, e.ok W' ∧ ∀ k, e.foot k → k < W'.heap.size ∧ k ≠ l ∧ ((join Hc).foot k ∨ W.heap.size ≤ k)) ∧ H3.Pairwise Ent.disj ∧ Ext (fun k => k = l ∨ (join Hc).foot k) W W' ∧
        W'.heap[l]? = some (.loop { state := .ready, pending := none, fn, tmps, params := ps.toArray, assign, body, defers := D })) ∨
      (∃ c H3, v = .bool false ∧ X c H3 ∧ (∀ e ∈ H3, e.ok W' ∧ ∀ k, e.foot k → k < W'.heap.size ∧ k ≠ l ∧ ((join Hc).foot k ∨ W.heap.size ≤ k)) ∧ H3.Pairwise Ent.disj ∧ Ext (fun k => k = l ∨ (join Hc).foot k) W W' ∧
        W'.heap[l]? = some (.loop { state := .done, pending := some c, fn, tmps, params := ps.toArray, assign, body, defers := D })) := by
  obtain ⟨rec, hrec⟩ : ∃ rec : LoopState → Option Code → Loop, rec = fun st pe => { state := st, pending := pe, fn, tmps, params := ps.toArray, assign, body, defers := D } := ⟨_, rfl⟩
  have hl0 : W.heap[l]? = some (.loop (rec .ready none)) := by rw [hrec]; exact hl
  have hlt : l < W.heap.size := (Array.getElem?_eq_some_iff.1 hl0).1
  have hy := run_yield (P := P) (args := vs.toArray) hl0 (by rw [hrec]; simp [hlen])
  have htm : ((ps.toArray.zip vs.toArray).foldl (fun tmps (t, a) => tmps.setIfInBounds t a) tmps) = putAll ps vs tmps := by simp [putAll]
  rw [hrec] at hy
  simp only [htm] at hy
  refine ⟨fn, _, assign, body, hy, roundIn_of_wpIn (F := Fence.wide) trivial ?_⟩
  refine wpIn_mono hassign fun e a1 W1 he => ?_
  cases e with
  | normal =>
    obtain ⟨H1, hA1, hs1⟩ := he
    have hnl : ∀ k, (join Hc).foot k → k ≠ l := fun k ⟨e, he, hk⟩ => ((hok e he).2 k hk).2
    have hl1 : W1.heap[l]? = some (.loop (rec .ready none)) := (hs1.ext.same l hlt (fun h => hnl l h rfl)).trans hl0
    have hl1t : l < W1.heap.size := (Array.getElem?_eq_some_iff.1 hl1).1
    have hf1 : ∀ e ∈ H1, ∀ k, e.foot k → k < W1.heap.size ∧ k ≠ l ∧ ((join Hc).foot k ∨ W.heap.size ≤ k) := by
      intro e he k hk
      obtain ⟨h1, h2⟩ := (hs1.ok e he).2 k hk
      have h3 : (join Hc).foot k ∨ W.heap.size ≤ k := by
        rcases Nat.lt_or_ge k W.heap.size with h | h
        · exact .inl (h2 h)
        · exact .inr h
      refine ⟨h1, fun e' => ?_, h3⟩
      rcases h3 with h3 | h3
      · exact hnl k h3 e'
      · omega
    have hbr := run_beginRound (P := P) hl1 (by rw [hrec])
    have hl2 : (W1.putObj l (.loop { rec .ready none with state := .busy })).heap[l]? = some (.loop { rec .ready none with state := .busy }) := World.putObj_heap_same hl1t
    have hnl1 : ¬ (join H1).foot l := fun ⟨e, he, hk⟩ => (hf1 e he l hk).2.1 rfl
    have hs2 : St (join H1).foot (W1.putObj l (.loop { rec .ready none with state := .busy })) H1 (W1.putObj l (.loop { rec .ready none with state := .busy })) :=
      St.inner H1 (fun e he => ⟨e.stable _ _ (fun k hk => World.putObj_heap_other (hf1 e he k hk).2.1) (hs1.ok e he).1, fun k hk => by simpa using (hf1 e he k hk).1⟩) hs1.dis
    refine ⟨_, hbr, wpIn_mono (hbody H1 a1 _ hA1 ⟨_, hl2⟩ hnl1 hs2) fun e a3 W3 hp => ?_⟩
    have fin : ∀ (jump : Option Code) (H3 : List Ent), St (join H1).foot (W1.putObj l (.loop { rec .ready none with state := .busy })) H3 W3 →
        ∃ W4, (Instr.endRound l jump).run P W3 = .ok (.bool jump.isNone) W4 ∧ (∀ e ∈ H3, e.ok W4 ∧ ∀ k, e.foot k → k < W4.heap.size ∧ k ≠ l ∧ ((join Hc).foot k ∨ W.heap.size ≤ k)) ∧ H3.Pairwise Ent.disj ∧ Ext (fun k => k = l ∨ (join Hc).foot k) W W4 ∧
          W4.heap[l]? = some (.loop (rec (if jump.isNone then .ready else .done) jump)) := by
      intro jump H3 hs3
      have hsz : (W1.putObj l (.loop { rec .ready none with state := .busy })).heap.size = W1.heap.size := by simp
      have hl3 : W3.heap[l]? = some (.loop { rec .ready none with state := .busy }) := (hs3.ext.same l (by rw [hsz]; exact hl1t) hnl1).trans hl2
      have hl3t : l < W3.heap.size := (Array.getElem?_eq_some_iff.1 hl3).1
      have hend := run_endRound (P := P) jump hl3
      have hf3 : ∀ e ∈ H3, ∀ k, e.foot k → k < W3.heap.size ∧ k ≠ l ∧ ((join Hc).foot k ∨ W.heap.size ≤ k) := by
        intro e he k hk
        obtain ⟨h1, h2⟩ := (hs3.ok e he).2 k hk
        rcases Nat.lt_or_ge k W1.heap.size with h | h
        · obtain ⟨e1, he1, hk1⟩ := h2 (by rw [hsz]; exact h)
          exact ⟨h1, (hf1 e1 he1 k hk1).2⟩
        · exact ⟨h1, by omega, .inr (Nat.le_trans hs1.size h)⟩
      refine ⟨_, hend, fun e he => ⟨e.stable _ _ (fun k hk => World.putObj_heap_other (hf3 e he k hk).2.1) (hs3.ok e he).1, fun k hk => by simpa using hf3 e he k hk⟩, hs3.dis, ?_, ?_⟩
      · have x1 : Ext (fun k => k = l ∨ (join Hc).foot k) W W1 := hs1.ext.mono fun _ _ h => .inr h
        have x2 : Ext (fun k => k = l ∨ (join Hc).foot k) W1 (W1.putObj l (.loop { rec .ready none with state := .busy })) := Ext.putObj (.inl rfl) _ _
        have x3 : Ext (fun k => k = l ∨ (join H1).foot k) (W1.putObj l (.loop { rec .ready none with state := .busy })) W3 := hs3.ext.mono fun _ _ h => .inr h
        have x4 : Ext (fun k => k = l ∨ (join H1).foot k) W3 (W3.putObj l (.loop { ({ rec .ready none with state := .busy } : Loop) with state := if jump.isNone then .ready else .done, pending := jump })) := Ext.putObj (.inl rfl) _ _
        refine (x1.trans' x2).trans (x3.trans' x4) fun b hb h => ?_
        rcases h with h | ⟨e, he, hk⟩
        · exact .inl h
        · rcases (hf1 e he b hk).2.2 with h | h
          · exact .inr h
          · omega
      · rw [World.putObj_heap_same hl3t]
        rw [hrec]
    cases e with
    | normal =>
      obtain ⟨H3, hA, hs3⟩ := hp
      obtain ⟨W4, h1, h2, h3, h4, h5⟩ := fin none H3 hs3
      refine ⟨_, W4, h1, _, rfl, .inl ⟨H3, rfl, hA, h2, h3, h4, ?_⟩⟩
      rw [hrec] at h5; exact h5
    | ret =>
      obtain ⟨H3, hA, hs3⟩ := hp
      obtain ⟨W4, h1, h2, h3, h4, h5⟩ := fin (some .ret) H3 hs3
      refine ⟨_, W4, h1, _, rfl, .inr ⟨.ret, H3, rfl, hA, h2, h3, h4, ?_⟩⟩
      rw [hrec] at h5; exact h5
    | exit id =>
      obtain ⟨H3, hA, hs3⟩ := hp
      obtain ⟨W4, h1, h2, h3, h4, h5⟩ := fin (some (.exit id)) H3 hs3
      refine ⟨_, W4, h1, _, rfl, .inr ⟨.exit id, H3, rfl, hA, h2, h3, h4, ?_⟩⟩
      rw [hrec] at h5; exact h5
    | goto t =>
      obtain ⟨H3, hA, hs3⟩ := hp
      obtain ⟨W4, h1, h2, h3, h4, h5⟩ := fin (some (.goto t)) H3 hs3
      refine ⟨_, W4, h1, _, rfl, .inr ⟨.goto t, H3, rfl, hA, h2, h3, h4, ?_⟩⟩
      rw [hrec] at h5; exact h5
    | panic _ => exact hp.elim
    | outgrown => exact hp.elim
  | exit id => exact he.elim
  | goto t => exact he.elim
  | ret => exact he.elim
  | panic _ => exact he.elim
  | outgrown => exact he.elim

/-! ### the iterator's contract, the statement -/
/-- AN ITERATOR: the closure (gf, cap), called with yield: the values encs x come, one after the other (Nx pre x: x may come behind pre), till all have come (S) or a round has said no (Sp). What the rounds own is an entry e, which they may turn; Hi: what the iterator owns. -/
def Iter (P : Program) {α : Type} (gf : FuncId) (cap : List Value) (encs : α → List Value) (Nx : List α → α → Prop) (S Sp : List α → List Ent → Prop) (M : Nat → Prop) (w0 : World) (Hi : List Ent) : Prop :=
  ∀ (l : Nat) (J Jx : List α → Ent → Prop) (w : World) (e : Ent),
    (∀ pre x e W, Nx pre x → J pre e → e.ok W → (∀ k, e.foot k → k < W.heap.size) →
      Yield P l (encs x).toArray W fun v W' => ∃ e', Ext e.foot W W' ∧ e'.ok W' ∧ (∀ b, e'.foot b → b < W'.heap.size ∧ (e.foot b ∨ W.heap.size ≤ b)) ∧
        ((v = .bool true ∧ J (pre ++ [x]) e') ∨ (v = .bool false ∧ Jx (pre ++ [x]) e'))) →
    J [] e → St M w0 (e :: Hi) w →
    Ret P gf (.func (.yield l) #[] #[] :: cap).toArray w fun _ w' => ∃ e' Hi', St M w0 (e' :: Hi') w' ∧ ((∃ xs, S xs Hi' ∧ J xs e') ∨ (∃ pre, Sp pre Hi' ∧ Jx pre e'))

/-- The statement 'for .. := range g { .. }' in a function's own frame. Hc: what the rounds own; Hi: what the iterator owns. -/
theorem wc_range {α : Type} {g : Operand} {ps : List Tmp} {assign body : Code} {gf : FuncId} {cap : List Value} {encs : α → List Value} {Nx : List α → α → Prop} {S Sp : List α → List Ent → Prop} {Hi Hc : List Ent}
    (I : List α → List Ent → Prop) (Ix : Code → List α → List Ent → Prop) (A1 : List α → α → List Ent → Act → Prop)
    (hg : ev L g = some (.func (.func gf) #[] cap.toArray)) (hen : ∀ args w, (callFunc gf args).run P w = .ok (.enter gf args) w)
    (hfr : Fr N L df a) (hst : St M w0 (Hc ++ Hi) w) (hiter : Iter P gf cap encs Nx S Sp M w0 Hi)
    (hps : ∀ p ∈ ps, p < N) (hlen : ∀ x, (encs x).length = ps.length) (h0 : I [] Hc)
    (hassign : ∀ l pre x H a W, Nx pre x → I pre H → Fr N ((ps.zip (encs x)).reverse ++ L) [] a → St (join H).foot W H W →
      WC P (some l) assign (Exit.then (fun a1 W1 => ∃ H1, A1 pre x H1 a1 ∧ St (join H).foot W H1 W1) fun _ _ _ => False) a W)
    (hbody : ∀ l pre x H1 a1 W, Nx pre x → A1 pre x H1 a1 → (∃ rec : Loop, W.heap[l]? = some (.loop rec)) → ¬ (join H1).foot l → St (join H1).foot W H1 W →
      WC P (some l) body (BPost (join H1).foot W (I (pre ++ [x])) (fun c => Ix c (pre ++ [x]))) a1 W)
    (hdone : ∀ D xs H3 Hi' a' w', S xs Hi' → I xs H3 → St M w0 (obj D (.deferred (some [])) :: (H3 ++ Hi')) w' → Fr N L ({ target := .collected D, args := #[] } :: df) a' → Q .normal a' w')
    (hstop : ∀ D c pre H3 Hi' a' w', Sp pre Hi' → Ix c pre H3 → St M w0 (obj D (.deferred (some [])) :: (H3 ++ Hi')) w' → Fr N L ({ target := .collected D, args := #[] } :: df) a' → WC P none c Q a' w') :
    WC P none (.rangeFunc g ps.toArray assign body) Q a w := by
  refine wpIn_rangeFunc (F := Fw none) fun fn _ => ?_
  obtain ⟨rec, hrec⟩ : ∃ rec : LoopState → Option Code → Loop, rec = fun st pe => { state := st, pending := pe, fn, tmps := a.tmps, params := ps.toArray, assign, body, defers := w.heap.size } := ⟨_, rfl⟩
  obtain ⟨W1, hW1⟩ : ∃ W1, (w.alloc (.deferred (some []))).alloc (.loop (rec .ready none)) = W1 := ⟨_, rfl⟩
  have hs1 : St M w0 (obj (w.heap.size + 1) (.loop (rec .ready none)) :: obj w.heap.size (.deferred (some [])) :: (Hc ++ Hi)) W1 := by
    have := (hst.alloc (.deferred (some []))).alloc (.loop (rec .ready none))
    rw [hW1] at this
    simpa using this
  have hev := hfr.eval hg
  refine ⟨w.heap.size + 1, [{ target := .collected w.heap.size, args := #[] }], W1, { target := .fn (.func gf) cap.toArray, args := #[.func (.yield (w.heap.size + 1)) #[] #[]] }, W1, gf,
    #[.func (.yield (w.heap.size + 1)) #[] #[]] ++ cap.toArray, W1, ?_, ?_, fun _ _ => trivial, ?_, fun h => (by cases h), trivial, ?_⟩
  · rw [← hW1, hrec]; exact run_enterLoop_outer _ _ _ _ _
  · simp only [resolve, hev, Deferred.ofValue]
    simp [Act.eval]
  · simp only [invoke, hen]
  · -- the iterator
    let J : List α → Ent → Prop := fun pre e => ∃ H, I pre H ∧ e = join (obj (w.heap.size + 1) (.loop (rec .ready none)) :: obj w.heap.size (.deferred (some [])) :: H)
    let Jx : List α → Ent → Prop := fun pre e => ∃ c H, Ix c pre H ∧ e = join (obj (w.heap.size + 1) (.loop (rec .done (some c))) :: obj w.heap.size (.deferred (some [])) :: H)
    have hround : ∀ pre x e W, Nx pre x → J pre e → e.ok W → (∀ k, e.foot k → k < W.heap.size) →
      Yield P (w.heap.size + 1) (encs x).toArray W fun v W' => ∃ e', Ext e.foot W W' ∧ e'.ok W' ∧ (∀ b, e'.foot b → b < W'.heap.size ∧ (e.foot b ∨ W.heap.size ≤ b)) ∧
        ((v = .bool true ∧ J (pre ++ [x]) e') ∨ (v = .bool false ∧ Jx (pre ++ [x]) e')) := by
      rintro pre x e W hnx ⟨H, hI, rfl⟩ ⟨hok, hdis⟩ hlt
      obtain ⟨hd1, hdis1⟩ := List.pairwise_cons.1 hdis
      obtain ⟨hd2, hdis2⟩ := List.pairwise_cons.1 hdis1
      have hl : W.heap[w.heap.size + 1]? = some (.loop (rec .ready none)) := hok _ List.mem_cons_self
      have hK : W.heap[w.heap.size]? = some (.deferred (some [])) := hok (obj w.heap.size (.deferred (some []))) (List.mem_cons_of_mem _ List.mem_cons_self)
      rw [hrec] at hl
      have hnl : ∀ e ∈ H, ∀ k, e.foot k → k < W.heap.size ∧ k ≠ w.heap.size + 1 := fun e he k hk => ⟨hlt k ⟨e, List.mem_cons_of_mem _ (List.mem_cons_of_mem _ he), hk⟩, fun h => hd1 e (List.mem_cons_of_mem _ he) k h hk⟩
      have hnD : ∀ e ∈ H, ∀ k, e.foot k → k ≠ w.heap.size := fun e he k hk h => hd2 e he k h hk
      have hy := yield_of (P := P) (Hc := H) (A := I (pre ++ [x])) (X := fun c => Ix c (pre ++ [x])) (A1 := A1 pre x) hl (hlen x)
        (fun e he => ⟨hok e (List.mem_cons_of_mem _ (List.mem_cons_of_mem _ he)), hnl e he⟩) hdis2
        (hassign _ pre x H _ W hnx hI (hfr.putAll hps) (St.inner H (fun e he => ⟨hok e (List.mem_cons_of_mem _ (List.mem_cons_of_mem _ he)), fun k hk => (hnl e he k hk).1⟩) hdis2))
        (fun H1 a1 W2 hA1 hr hn hs => hbody _ pre x H1 a1 W2 hnx hA1 hr hn hs)
      refine hy.mono ?_
      have fin : ∀ (ls : LoopState) (pe : Option Code) (H3 : List Ent) (W' : World), (∀ e ∈ H3, e.ok W' ∧ ∀ k, e.foot k → k < W'.heap.size ∧ k ≠ w.heap.size + 1 ∧ ((join H).foot k ∨ W.heap.size ≤ k)) → H3.Pairwise Ent.disj →
          Ext (fun k => k = w.heap.size + 1 ∨ (join H).foot k) W W' → W'.heap[w.heap.size + 1]? = some (.loop (rec ls pe)) →
          Ext (join (obj (w.heap.size + 1) (.loop (rec .ready none)) :: obj w.heap.size (.deferred (some [])) :: H)).foot W W' ∧
          (join (obj (w.heap.size + 1) (.loop (rec ls pe)) :: obj w.heap.size (.deferred (some [])) :: H3)).ok W' ∧
          (∀ b, (join (obj (w.heap.size + 1) (.loop (rec ls pe)) :: obj w.heap.size (.deferred (some [])) :: H3)).foot b → b < W'.heap.size ∧ ((join (obj (w.heap.size + 1) (.loop (rec .ready none)) :: obj w.heap.size (.deferred (some [])) :: H)).foot b ∨ W.heap.size ≤ b)) := by
        intro ls pe H3 W' h2 h3 h4 h5
        have hDlt : w.heap.size < W.heap.size := hlt w.heap.size ⟨obj w.heap.size (.deferred (some [])), List.mem_cons_of_mem _ List.mem_cons_self, rfl⟩
        have hDne : ∀ e ∈ H3, ∀ k, e.foot k → k ≠ w.heap.size := by
          intro e he k hk hkD
          rcases ((h2 e he).2 k hk).2.2 with ⟨e1, he1, hk1⟩ | h
          · exact hnD e1 he1 k hk1 hkD
          · omega
        have hD' : W'.heap[w.heap.size]? = some (.deferred (some [])) := (h4.same _ hDlt (fun h => by
          rcases h with h | ⟨e1, he1, hk1⟩
          · omega
          · exact hnD e1 he1 _ hk1 rfl)).trans hK
        refine ⟨h4.mono ?_, ⟨?_, ?_⟩, ?_⟩
        · rintro b _ (rfl | ⟨e1, he1, hk1⟩)
          · exact ⟨obj (w.heap.size + 1) (.loop (rec .ready none)), List.mem_cons_self, rfl⟩
          · exact ⟨e1, List.mem_cons_of_mem _ (List.mem_cons_of_mem _ he1), hk1⟩
        · intro e he
          rcases List.mem_cons.1 he with rfl | he
          · exact h5
          · rcases List.mem_cons.1 he with rfl | he
            · exact hD'
            · exact (h2 e he).1
        · refine List.Pairwise.cons ?_ (List.Pairwise.cons ?_ h3)
          · intro e he k hk hk'
            rcases List.mem_cons.1 he with rfl | he
            · have h1 : k = w.heap.size + 1 := hk
              have h2 : k = w.heap.size := hk'
              omega
            · exact ((h2 e he).2 k hk').2.1 hk
          · intro e he k hk hk'
            exact hDne e he k hk' hk
        · rintro b ⟨e, he, hk⟩
          rcases List.mem_cons.1 he with rfl | he
          · cases hk
            have := h4.size
            exact ⟨(Array.getElem?_eq_some_iff.1 h5).1, .inl ⟨obj (w.heap.size + 1) (.loop (rec .ready none)), List.mem_cons_self, rfl⟩⟩
          · rcases List.mem_cons.1 he with rfl | he
            · cases hk
              exact ⟨(Array.getElem?_eq_some_iff.1 hD').1, .inl ⟨obj w.heap.size (.deferred (some [])), List.mem_cons_of_mem _ List.mem_cons_self, rfl⟩⟩
            · obtain ⟨h6, _, h7⟩ := (h2 e he).2 b hk
              refine ⟨h6, h7.imp (fun ⟨e1, he1, hk1⟩ => ⟨e1, List.mem_cons_of_mem _ (List.mem_cons_of_mem _ he1), hk1⟩) id⟩
      rintro v W' (⟨H3, rfl, hA, h2, h3, h4, h5⟩ | ⟨c, H3, rfl, hX, h2, h3, h4, h5⟩)
      · obtain ⟨g1, g2, g3⟩ := fin .ready none H3 W' h2 h3 h4 (by rw [hrec]; exact h5)
        exact ⟨_, g1, g2, g3, .inl ⟨rfl, H3, hA, rfl⟩⟩
      · obtain ⟨g1, g2, g3⟩ := fin .done (some c) H3 W' h2 h3 h4 (by rw [hrec]; exact h5)
        exact ⟨_, g1, g2, g3, .inr ⟨rfl, c, H3, hX, rfl⟩⟩
    have hcall := hiter (w.heap.size + 1) J Jx W1 _ hround ⟨Hc, h0, rfl⟩ ((St.join (obj (w.heap.size + 1) (.loop (rec .ready none)) :: obj w.heap.size (.deferred (some [])) :: Hc) Hi (by simpa using hs1)))
    have hargs : (#[.func (.yield (w.heap.size + 1)) #[] #[]] ++ cap.toArray : Array Value) = (.func (.yield (w.heap.size + 1)) #[] #[] :: cap).toArray := by simp
    rw [hargs]
    refine fun cs hr => ?_
    have hcall' : CallsIn Fence.wide (0 - 1) P gf (.func (.yield (w.heap.size + 1)) #[] #[] :: cap).toArray W1 _ := callsIn_wide.2 hcall
    obtain ⟨e, w3, fr, ⟨v, rfl, e', Hi', hs3, hor⟩, hrest⟩ := hcall'.2 cs (room_wide _)
    refine ⟨.returned v, w3, fr, ?_, hrest⟩
    have hfr' : Fr N L ({ target := .collected w.heap.size, args := #[] } :: df) { tmps := a.tmps, defers := [{ target := .collected w.heap.size, args := #[] }] ++ a.defers } := ⟨hfr.size, hfr.get, by simp [hfr.dfs]⟩
    rcases hor with ⟨xs, hS, H3, hI, rfl⟩ | ⟨pre, hSp, c, H3, hX, rfl⟩
    · have hs4 := hs3.unjoin
      have hl3 : w3.heap[w.heap.size + 1]? = some (.loop (rec .ready none)) := hs4.mem (e := obj (w.heap.size + 1) (.loop (rec .ready none))) List.mem_cons_self
      refine ⟨none, _, by have := run_endLoop (P := P) hl3 (by rw [hrec]; simp); rw [hrec] at this; exact this, ?_⟩
      refine hdone w.heap.size xs H3 Hi' _ _ hS hI ?_ hfr'
      have h5 : St M w0 (obj (w.heap.size + 1) _ :: (obj w.heap.size (.deferred (some [])) :: (H3 ++ Hi'))) _ := (hs4.exchange (k := 0) (e := obj (w.heap.size + 1) (.loop (rec .ready none))) (e' := obj (w.heap.size + 1) (.loop { rec .ready none with state := .exhausted })) rfl
        (Ext.putObj (M := (· = w.heap.size + 1)) rfl w3 (.loop { rec .ready none with state := .exhausted })) (World.putObj_heap_same (Array.getElem?_eq_some_iff.1 hl3).1) (fun b hb => by cases hb; exact ⟨by simpa using (Array.getElem?_eq_some_iff.1 hl3).1, .inl rfl⟩))
      have h6 := h5.sub (List.sublist_cons_self _ _)
      rw [hrec] at h6
      exact h6
    · have hs4 := hs3.unjoin
      have hl3 : w3.heap[w.heap.size + 1]? = some (.loop (rec .done (some c))) := hs4.mem (e := obj (w.heap.size + 1) (.loop (rec .done (some c)))) List.mem_cons_self
      refine ⟨some c, _, by have := run_endLoop (P := P) hl3 (by rw [hrec]; simp); rw [hrec] at this; exact this, ?_⟩
      refine hstop w.heap.size c pre H3 Hi' _ _ hSp hX ?_ hfr'
      have h5 : St M w0 (obj (w.heap.size + 1) _ :: (obj w.heap.size (.deferred (some [])) :: (H3 ++ Hi'))) _ := (hs4.exchange (k := 0) (e := obj (w.heap.size + 1) (.loop (rec .done (some c)))) (e' := obj (w.heap.size + 1) (.loop { rec .done (some c) with state := .exhausted })) rfl
        (Ext.putObj (M := (· = w.heap.size + 1)) rfl w3 (.loop { rec .done (some c) with state := .exhausted })) (World.putObj_heap_same (Array.getElem?_eq_some_iff.1 hl3).1) (fun b hb => by cases hb; exact ⟨by simpa using (Array.getElem?_eq_some_iff.1 hl3).1, .inl rfl⟩))
      have h6 := h5.sub (List.sublist_cons_self _ _)
      rw [hrec] at h6
      exact h6
end
end Go.PW
