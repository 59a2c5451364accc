import Derived.WalkKit
import Derived.ProofKit
import Derived.RangeFuncLeaves
import Derived.OrdersIn
import Derived.RangeFuncRecord
import Derived.LoopNIn
namespace Go.PW
open Go.RowKit
set_option linter.unusedVariables false

/-! ### frames -/
abbrev Fw (r : Option Nat) : Fence := { fn := fun _ => True, depth := none, alive := false, round := r }
theorem Fw_room (r : Option Nat) (n : Nat) : (Fw r).room n := by intro d h; cases h

def lk : List (Nat × Value) → Nat → Option Value
  | [], _ => none
  | (k, v) :: L, t => match Nat.beq k t with
    | true => some v
    | false => lk L t

def ev (L : List (Nat × Value)) : Operand → Option Value
  | .tmp t => lk L t
  | .const v => some v
  | .global g => some (.pointer (some ⟨g, 0, none⟩))
  | .func f => some (.func (.func f) #[] #[])

def evs (L : List (Nat × Value)) : List Operand → Option (List Value)
  | [] => some []
  | x :: xs => match ev L x, evs L xs with
    | some v, some vs => some (v :: vs)
    | _, _ => none

structure Fr (N : Nat) (L : List (Nat × Value)) (df : List Deferred) (a : Act) : Prop where
  size : a.tmps.size = N
  get : ∀ t v, lk L t = some v → a.tmps.getD t undef = v
  dfs : a.defers = df

section
variable {N d : Nat} {L L' : List (Nat × Value)} {df : List Deferred} {a : Act} {v : Value} {x : Operand}

theorem Fr.eval (h : Fr N L df a) (hx : ev L x = some v) : a.eval x = v := by
  cases x with
  | tmp t => exact h.get t v hx
  | const u => simpa [ev, Act.eval] using hx
  | global g => simpa [ev, Act.eval] using hx
  | func f => simpa [ev, Act.eval] using hx

theorem Fr.evals {xs : List Operand} {vs : List Value} (h : Fr N L df a) (hx : evs L xs = some vs) : xs.map a.eval = vs := by
  induction xs generalizing vs with
  | nil => simpa [evs] using hx
  | cons x xs ih =>
    simp only [evs] at hx
    split at hx
    · rename_i v vs' h1 h2
      cases hx
      simp [h.eval h1, ih h2]
    · cases hx

theorem Fr.put (h : Fr N L df a) (hd : d < N) (v : Value) : Fr N ((d, v) :: L) df (a.put (some d) v) := by
  refine ⟨by simp [Act.put, h.size], ?_, by simp [Act.put, h.dfs]⟩
  intro t u ht
  simp only [Act.put]
  simp only [lk] at ht
  rw [Array.getD_eq_getD_getElem?, Array.getElem?_setIfInBounds]
  split at ht
  · rename_i hk
    have : d = t := Nat.eq_of_beq_eq_true hk
    subst this
    rw [if_pos rfl, if_pos (by rw [h.size]; exact hd)]
    simpa using ht
  · rename_i hk
    have : d ≠ t := Nat.ne_of_beq_eq_false hk
    rw [if_neg this]
    have := h.get t u ht
    rwa [Array.getD_eq_getD_getElem?] at this

theorem Fr.put_none (h : Fr N L df a) (v : Value) : Fr N L df (a.put none v) := by simpa [Act.put] using h

theorem Fr.weaken (h : Fr N L df a) (hl : ∀ t v, lk L' t = some v → lk L t = some v) : Fr N L' df a := ⟨h.size, fun t v ht => h.get t v (hl t v ht), h.dfs⟩

/-- Each entry of the new list is looked up in the old one. -/
theorem Fr.keep (h : Fr N L df a) (hl : ∀ p ∈ L', lk L p.1 = some p.2) : Fr N L' df a := by
  refine h.weaken fun t v ht => ?_
  induction L' with
  | nil => simp [lk] at ht
  | cons p L' ih =>
    obtain ⟨k, u⟩ := p
    simp only [lk] at ht
    split at ht
    · rename_i hk
      have : k = t := Nat.eq_of_beq_eq_true hk
      subst this
      cases ht
      exact hl (k, v) (by simp)
    · exact ih (fun p hp => hl p (by simp [hp])) ht

theorem Fr.entry {f : FuncId} {args : List Value} {n : Nat} (hl : args.length ≤ n) :
    Fr n (args.zipIdx.map fun p => (p.2, p.1)) [] { tmps := args.toArray ++ Array.replicate (n - args.toArray.size) undef, defers := [] } := by
  refine ⟨by simp; omega, ?_, rfl⟩
  intro t v ht
  have key : ∀ (l : List Value) (k : Nat), lk ((l.zipIdx k).map fun p => (p.2, p.1)) t = some v → k ≤ t ∧ l[t - k]? = some v := by
    intro l
    induction l with
    | nil => intro k h; simp [lk] at h
    | cons u l ih =>
      intro k h
      simp only [List.zipIdx_cons, List.map_cons, lk] at h
      split at h
      · rename_i hk
        have : k = t := Nat.eq_of_beq_eq_true hk
        subst this
        cases h
        simp
      · rename_i hk
        have hne : k ≠ t := Nat.ne_of_beq_eq_false hk
        obtain ⟨h1, h2⟩ := ih (k + 1) h
        refine ⟨by omega, ?_⟩
        have : t - k = (t - (k + 1)) + 1 := by omega
        rw [this, List.getElem?_cons_succ]; exact h2
  obtain ⟨_, h2⟩ := key args 0 ht
  simp only [Nat.sub_zero] at h2
  obtain ⟨hlt, hv⟩ := List.getElem?_eq_some_iff.1 h2
  rw [Array.getD_eq_getD_getElem?, Array.getElem?_append_left (by simpa using hlt)]
  simp [h2]
end

/-! ### operations -/
section
variable {P : Program} {r : Option Nat} {ops : Array Oper} {K : Act → World → Prop} {rest : List Oper} {o : Oper} {a : Act} {w w' : World}

def OpK (P : Program) (r : Option Nat) (o : Oper) (a : Act) (w : World) (K : Act → World → Prop) : Prop := o.wpIn (Fw r) 0 P a w K (fun _ _ _ => False)
def WL (P : Program) (r : Option Nat) (ops : Array Oper) (K : Act → World → Prop) : List Oper → Act → World → Prop
  | [], a, w => K a w
  | o :: rest, a, w => if Region.wanted o (yielded ops a.tmps) then OpK P r o a w (WL P r ops K rest) else WL P r ops K rest (a.put o.dst undef) w
def WC (P : Program) (r : Option Nat) (c : Code) (Q : Exit → Act → World → Prop) (a : Act) (w : World) : Prop := c.wpIn (Fw r) 0 P Q a w

theorem uponIn_mono {F : Fence} {n : Nat} {K K' : Act → World → Prop} {Q Q' : Exit → Act → World → Prop} {x : Result Next} (hK : ∀ a w, K a w → K' a w) (hQ : ∀ e a w, Q e a w → Q' e a w)
    (h : o.uponIn F n P a K Q x) : o.uponIn F n P a K' Q' x := by
  have hm : ∀ {f : FuncId} {args : Array Value} {w1 : World} , CallsIn F (n - 1) P f args w1 (fun
      | .returned v, w'' => K (a.put o.dst v) w''
      | .panicked chain, w'' => Q (.panic chain) a w''
      | .outgrown, _ => LetsOut Q) → CallsIn F (n - 1) P f args w1 (fun
      | .returned v, w'' => K' (a.put o.dst v) w''
      | .panicked chain, w'' => Q' (.panic chain) a w''
      | .outgrown, _ => LetsOut Q') := by
    intro f args w1 hc
    refine ⟨hc.1, fun cs hr => ?_⟩
    obtain ⟨e, w', fr, hR, rest⟩ := hc.2 cs hr
    refine ⟨e, w', fr, ?_, rest⟩
    cases e with
    | returned v => exact hK _ _ hR
    | panicked c => exact hQ _ _ _ hR
    | outgrown => exact let ⟨a, w, q⟩ := hR; ⟨a, w, hQ _ _ _ q⟩
  cases x with
  | halt hh w =>
    cases hh with
    | panic v => exact hQ _ _ _ h
    | _ => exact h
  | ok nx w =>
    cases nx with
    | value v => exact hK _ _ h
    | skip => exact hK _ _ h
    | defer d => exact hK _ _ h
    | enter f args => exact ⟨h.1, hm h.2⟩
    | row rw args => exact ⟨h.1, h.2.mono fun _ _ => hK _ _⟩
    | round l f tmps as body =>
      refine ⟨h.1, h.2.mono fun e w' hR => ?_⟩
      cases e with
      | returned v => exact hK _ _ hR
      | panicked c => exact hQ _ _ _ hR
      | outgrown => exact let ⟨a, w, q⟩ := hR; ⟨a, w, hQ _ _ _ q⟩
    | _ => exact h

theorem OpK.mono {K' : Act → World → Prop} (h : OpK P r o a w K) (hK : ∀ a w, K a w → K' a w) : OpK P r o a w K' :=
  ⟨h.1, uponIn_mono hK (fun _ _ _ h => h) h.2⟩

theorem wl_op (hg : o.guard = none) (h : OpK P r o a w (fun a' w' => WL P r ops K rest a' w')) : WL P r ops K (o :: rest) a w := by
  unfold WL
  rw [if_pos (by simp [Region.wanted, hg])]
  exact h

theorem wl_nil (h : K a w) : WL P r ops K [] a w := h

theorem yielded_of {N : Nat} {L : List (Nat × Value)} {df : List Deferred} {j d : Nat} {b : Bool} (hfr : Fr N L df a) (hj : (ops[j]?).bind (·.dst) = some d) (hd : d < N) (hl : lk L d = some (.bool b)) :
    yielded ops a.tmps j = some b := by
  have h := hfr.get d _ hl
  rw [Array.getD_eq_getD_getElem?] at h
  have hlt : d < a.tmps.size := by rw [hfr.size]; exact hd
  rw [Array.getElem?_eq_getElem hlt] at h
  simp only [Option.getD_some] at h
  simp [yielded, hj, Array.getElem?_eq_getElem hlt, h]

theorem wl_guard_yes {j : Nat} {b : Bool} (hg : o.guard = some (j, b)) (hy : yielded ops a.tmps j = some b) (h : OpK P r o a w (fun a' w' => WL P r ops K rest a' w')) : WL P r ops K (o :: rest) a w := by
  unfold WL
  rw [if_pos (by simp [Region.wanted, hg, hy])]
  exact h

theorem wl_guard_no {j : Nat} {b b' : Bool} (hg : o.guard = some (j, b)) (hy : yielded ops a.tmps j = some b') (hne : (b' == b) = false) (h : WL P r ops K rest (a.put o.dst undef) w) : WL P r ops K (o :: rest) a w := by
  unfold WL
  rw [if_neg (by rw [Region.wanted, hg]; simp only [hy]; cases b <;> cases b' <;> simp_all)]
  exact h

/-- No operation but 'defer': what is run is the operation itself, in whatever frame. -/
def Op.plain : Op → Bool
  | .defer _ => false
  | _ => true

theorem semAt_plain (hp : Op.plain o.op = true) (ro : Option Nat) (ρ : Operand → Value) : o.semAt ro ρ = execOp ρ o :=
  Oper.semAt_eq ro ρ o fun c hc => by rw [hc] at hp; cases hp

theorem opk_value {v : Value} (hp : Op.plain o.op = true) (hrun : (execOp a.eval o).run P w = .ok (.value v) w') (h : K (a.put o.dst v) w') : OpK P r o a w K :=
  ⟨fun _ _ => trivial, by rw [semAt_plain hp, hrun]; exact h⟩
theorem opk_skip (hp : Op.plain o.op = true) (hrun : (execOp a.eval o).run P w = .ok .skip w') (h : K (a.put o.dst undef) w') : OpK P r o a w K :=
  ⟨fun _ _ => trivial, by rw [semAt_plain hp, hrun]; exact h⟩

/-- A call: the callee returns. -/
def Ret (P : Program) (f : FuncId) (args : Array Value) (w : World) (R : Value → World → Prop) : Prop := Calls P f args w fun e w' => ∃ v, e = .returned v ∧ R v w'

theorem Ret.mono {f : FuncId} {args : Array Value} {R R' : Value → World → Prop} (h : Ret P f args w R) (hR : ∀ v w', R v w' → R' v w') : Ret P f args w R' := by
  intro cs
  obtain ⟨e, w', fr, ⟨v, he, hr⟩, rest⟩ := h cs
  exact ⟨e, w', fr, ⟨v, he, hR _ _ hr⟩, rest⟩

theorem opk_call {f : FuncId} {args : Array Value} (hp : Op.plain o.op = true) (hrun : (execOp a.eval o).run P w = .ok (.enter f args) w') (h : Ret P f args w' fun v w'' => K (a.put o.dst v) w'') : OpK P r o a w K := by
  refine ⟨fun _ _ => trivial, ?_⟩
  rw [semAt_plain hp, hrun]
  refine ⟨fun h => (by cases h), ?_⟩
  have hc : CallsIn Fence.wide (0 - 1) P f args w' (fun e w'' => ∃ v, e = .returned v ∧ K (a.put o.dst v) w'') := callsIn_wide.2 h
  refine ⟨trivial, fun cs hr => ?_⟩
  obtain ⟨e, w2, fr, ⟨v, rfl, hk⟩, hrest⟩ := hc.2 cs (room_wide _)
  exact ⟨.returned v, w2, fr, hk, hrest⟩

/-- A call of yield. -/
def RoundRet (P : Program) (l : Nat) (f : FuncId) (tmps : Array Value) (assign body : Code) (w : World) (R : Value → World → Prop) : Prop :=
  RoundIn Fence.wide 0 P l f tmps assign body w fun e w' => ∃ v, e = .returned v ∧ R v w'

theorem opk_round {l : Nat} {f : FuncId} {tmps : Array Value} {assign body : Code} (hp : Op.plain o.op = true) (hrun : (execOp a.eval o).run P w = .ok (.round l f tmps assign body) w')
    (h : RoundRet P l f tmps assign body w' fun v w'' => K (a.put o.dst v) w'') : OpK P r o a w K := by
  refine ⟨fun _ _ => trivial, ?_⟩
  rw [semAt_plain hp, hrun]
  refine ⟨fun h => (by cases h), trivial, fun c cs hr => ?_⟩
  obtain ⟨e, w2, ⟨v, rfl, hk⟩, hrest⟩ := h.2 c cs (room_wide _)
  exact ⟨.returned v, w2, hk, hrest⟩

/-! ### code -/
variable {Q : Exit → Act → World → Prop} {x y : Code}
theorem wc_region {id : Nat} {l : List Oper} (h : WL P r l.toArray (fun a w => Q .normal a w) l a w) : WC P r (.region id l.toArray false) Q a w := by
  refine wpIn_region_lit ?_
  have hm : ∀ (l' : List Oper) a w, WL P r l.toArray (fun a w => Q .normal a w) l' a w → wpListIn (Fw r) 0 P l.toArray Q l' a w := by
    intro l'
    induction l' with
    | nil => intro a w h; exact h
    | cons o l' ih =>
      intro a w h
      unfold WL at h
      unfold wpListIn
      split
      · rename_i hw
        rw [if_pos hw] at h
        exact ⟨h.1, uponIn_mono (ih) (fun e a w h => h.elim) h.2⟩
      · rename_i hw
        rw [if_neg hw] at h
        exact ⟨fun _ _ => trivial, ih _ _ h⟩
  exact hm l a w h

theorem wc_mono {Q' : Exit → Act → World → Prop} {c : Code} (h : WC P r c Q a w) (hq : ∀ e a w, Q e a w → Q' e a w) : WC P r c Q' a w := wpIn_mono h hq
theorem wc_seq (h : WC P r x (Exit.then (WC P r y Q) Q) a w) : WC P r (.seq x y) Q a w := wpIn_seq h
/-- A list of operations, then the rest. -/
theorem wc_seq_region {id : Nat} {l : List Oper} (h : ∀ K : Act → World → Prop, (∀ a w, WC P r y Q a w → K a w) → WL P r l.toArray K l a w) : WC P r (.seq (.region id l.toArray false) y) Q a w :=
  wc_seq (wc_region (h _ fun _ _ h => h))
theorem wc_seq_k (h : ∀ K : Act → World → Prop, (∀ a w, WC P r y Q a w → K a w) → WC P r x (Exit.then K Q) a w) : WC P r (.seq x y) Q a w := wc_seq (h _ fun _ _ h => h)
/-- The ways meet again at J. -/
theorem wc_cut (J : Act → World → Prop) (hx : WC P r x (Exit.then J Q) a w) (hy : ∀ a w, J a w → WC P r y Q a w) : WC P r (.seq x y) Q a w :=
  wc_seq (wc_mono hx fun e a w h => by cases e <;> first | exact hy _ _ h | exact h)
theorem wc_skip (h : Q .normal a w) : WC P r .skip Q a w := wpIn_skip h
theorem wc_exit {id : Nat} (h : Q (.exit id) a w) : WC P r (.exit id) Q a w := wpIn_exit h
theorem wc_ret (h : Q .ret a w) : WC P r .ret Q a w := wpIn_ret h
theorem wc_block {id : Nat} {c : Code} (h : WC P r c (Exit.inBlock id Q) a w) : WC P r (.block id c) Q a w := wpIn_block h
theorem wc_cond {N : Nat} {L : List (Nat × Value)} {df : List Deferred} {c : Operand} {b : Bool} (hfr : Fr N L df a) (hc : ev L c = some (.bool b)) (ht : b = true → WC P r x Q a w) (hf : b = false → WC P r y Q a w) : WC P r (.cond c x y) Q a w :=
  wpIn_cond_split (hfr.eval hc) ht hf
theorem wc_cond_t {N : Nat} {L : List (Nat × Value)} {df : List Deferred} {c : Operand} (hfr : Fr N L df a) (hc : ev L c = some (.bool true)) (h : WC P r x Q a w) : WC P r (.cond c x y) Q a w :=
  wpIn_cond_true (hfr.eval hc) h
theorem wc_cond_f {N : Nat} {L : List (Nat × Value)} {df : List Deferred} {c : Operand} (hfr : Fr N L df a) (hc : ev L c = some (.bool false)) (h : WC P r y Q a w) : WC P r (.cond c x y) Q a w :=
  wpIn_cond_false (hfr.eval hc) h

theorem least {p : Nat → Prop} (h : ∃ m, p m) : ∃ m, p m ∧ ∀ m', p m' → m ≤ m' := by
  obtain ⟨m, hm⟩ := h
  induction m using Nat.strongRecOn with
  | _ m ih =>
    by_cases h : ∃ m', m' < m ∧ p m'
    · obtain ⟨m', hlt, hp⟩ := h
      exact ih m' hlt hp
    · exact ⟨m, hm, fun m' hp => Nat.le_of_not_lt fun hlt => h ⟨m', hlt, hp⟩⟩

/-- A loop, by a ghost that falls. -/
theorem wc_loop {c : Code} (I : Nat → Act → World → Prop) (m : Nat) (h0 : I m a w)
    (round : ∀ m a w, I m a w → WC P r c (Exit.then (fun a' w' => ∃ m', m' < m ∧ I m' a' w') Q) a w) : WC P r (.loop c) Q a w := by
  classical
  let J : Act → World → Prop := fun a w => ∃ m, I m a w
  let μ : Act → World → Nat := fun a w => if h : ∃ m, I m a w then Classical.choose (least h) else 0
  have hμ : ∀ a w (h : J a w), I (μ a w) a w ∧ ∀ m', I m' a w → μ a w ≤ m' := by
    intro a w h
    have e : μ a w = Classical.choose (least h) := dif_pos h
    rw [e]; exact Classical.choose_spec (least h)
  refine wpIn_loop J μ ⟨m, h0⟩ ?_
  intro a w hJ
  refine wpIn_mono (round _ a w (hμ a w hJ).1) ?_
  intro e a' w' h
  cases e <;> first | exact h | skip
  obtain ⟨m', hlt, hm'⟩ := h
  have hJ' : J a' w' := ⟨m', hm'⟩
  exact ⟨hJ', Nat.lt_of_le_of_lt ((hμ a' w' hJ').2 m' hm') hlt⟩

/-- A loop of at most n rounds, each walked. -/
def WR (P : Program) (r : Option Nat) (c : Code) (Q : Exit → Act → World → Prop) (n : Nat) (a : Act) (w : World) : Prop := Code.roundsIn (Fw r) 0 P c Q n a w
theorem wc_rounds {c : Code} (n : Nat) (h : WR P r c Q n a w) : WC P r (.loop c) Q a w := wpIn_loop_rounds n h
theorem wr_succ {c : Code} {n : Nat} (h : WC P r c (Exit.then (WR P r c Q n) Q) a w) : WR P r c Q (n + 1) a w := h
end
end Go.PW
