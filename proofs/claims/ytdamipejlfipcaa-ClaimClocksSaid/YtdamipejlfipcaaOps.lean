import Derived.Test.YtdamipejlfipcaaMem
namespace Go.PW
open Go.RowKit
set_option linter.unusedVariables false

/-! ### what one operation does -/
section
variable {P : Program} {r : Option Nat} {ops : Array Oper} {K : Act → World → Prop} {rest : List Oper} {a : Act} {w w' w0 : World} {M : Nat → Prop} {H : List Ent}
variable {N : Nat} {L : List (Nat × Value)} {df : List Deferred} {d : Nat} {dst : Option Tmp} {ty : TypeId} {pos : String} {af : Array Edge} {gd : Option (Nat × Bool)} {o : Oper}

/-- The operation yields v; the world stays. -/
def OpV (P : Program) (o : Oper) (L : List (Nat × Value)) (w : World) (v : Value) : Prop :=
  Op.plain o.op = true ∧ ∀ N df a, Fr N L df a → (execOp a.eval o).run P w = .ok (.value v) w

/-- The operation ends; its value and the new world are R. -/
def OpR (P : Program) (r : Option Nat) (o : Oper) (L : List (Nat × Value)) (w : World) (R : Value → World → Prop) : Prop :=
  ∀ N df a, Fr N L df a → OpK P r o a w fun a' w' => ∃ v, a' = a.put o.dst v ∧ R v w'

theorem OpV.toR {v : Value} {R : Value → World → Prop} (h : OpV P o L w v) (hR : R v w) : OpR P r o L w R :=
  fun N df a hfr => opk_value h.1 (h.2 N df a hfr) ⟨v, rfl, hR⟩
theorem OpR.mono {R R' : Value → World → Prop} (h : OpR P r o L w R) (hR : ∀ v w', R v w' → R' v w') : OpR P r o L w R' :=
  fun N df a hfr => (h N df a hfr).mono fun a' w' ⟨v, e, hr⟩ => ⟨v, e, hR _ _ hr⟩

def upd (dst : Option Tmp) (v : Value) (L : List (Nat × Value)) : List (Nat × Value) :=
  match dst with
  | some d => (d, v) :: L
  | none => L
def okDst (dst : Option Tmp) (N : Nat) : Bool :=
  match dst with
  | some d => decide (d < N)
  | none => true
theorem Fr.upd (h : Fr N L df a) (hd : okDst dst N = true) (v : Value) : Fr N (upd dst v L) df (a.put dst v) := by
  cases dst with
  | none => exact h.put_none v
  | some d => exact h.put (of_decide_eq_true hd) v

/-- An operation that yields a value. -/
theorem wl_v {v : Value} {op : Op} (hfr : Fr N L df a) (hd : d < N) (hv : OpV P ⟨some d, op, ty, pos, af, none⟩ L w v) (k : ∀ a, Fr N ((d, v) :: L) df a → WL P r ops K rest a w) :
    WL P r ops K (⟨some d, op, ty, pos, af, none⟩ :: rest) a w :=
  wl_op rfl (opk_value hv.1 (hv.2 N df a hfr) (k _ (hfr.put hd v)))
/-- The same, its guard open. -/
theorem wl_vy {v : Value} {op : Op} {j g : Nat} {b : Bool} (hfr : Fr N L df a) (hd : d < N) (hj : (ops[j]?).bind (·.dst) = some g) (hgl : g < N) (hl : lk L g = some (.bool b)) (hv : OpV P ⟨some d, op, ty, pos, af, some (j, b)⟩ L w v) (k : ∀ a, Fr N ((d, v) :: L) df a → WL P r ops K rest a w) :
    WL P r ops K (⟨some d, op, ty, pos, af, some (j, b)⟩ :: rest) a w :=
  wl_guard_yes rfl (yielded_of hfr hj hgl hl) (opk_value hv.1 (hv.2 N df a hfr) (k _ (hfr.put hd v)))
/-- Its guard shut. -/
theorem wl_vn {op : Op} {j g : Nat} {b b' : Bool} (hfr : Fr N L df a) (hd : d < N) (hj : (ops[j]?).bind (·.dst) = some g) (hgl : g < N) (hl : lk L g = some (.bool b')) (hne : (b' == b) = false) (k : ∀ a, Fr N ((d, undef) :: L) df a → WL P r ops K rest a w) :
    WL P r ops K (⟨some d, op, ty, pos, af, some (j, b)⟩ :: rest) a w :=
  wl_guard_no rfl (yielded_of hfr hj hgl hl) hne (k _ (hfr.put hd _))

def pick (L : List (Nat × Value)) : List Nat → List (Nat × Value)
  | [] => []
  | k :: ks => match lk L k with
    | some v => (k, v) :: pick L ks
    | none => pick L ks
theorem Fr.pick (h : Fr N L df a) (ks : List Nat) : Fr N (PW.pick L ks) df a := by
  refine h.keep fun p hp => ?_
  induction ks with
  | nil => simp [PW.pick] at hp
  | cons k ks ih =>
    simp only [PW.pick] at hp
    split at hp
    · rename_i v hv
      rcases List.mem_cons.1 hp with rfl | hp
      · exact hv
      · exact ih hp
    · exact ih hp
theorem OpV.as {v v' : Value} (h : OpV P o L w v) (e : v = v') : OpV P o L w v' := e ▸ h
theorem OpV.asb {b b' : Bool} (h : OpV P o L w (.bool b)) (e : b = b') : OpV P o L w (.bool b') := e ▸ h
theorem OpV.asi {k : IntKind} {m m' : Int} (h : OpV P o L w (.int k m)) (e : m = m') : OpV P o L w (.int k m') := e ▸ h

/-- An operation, whatever it does. -/
theorem wl_r {R : Value → World → Prop} (ho : OpR P r o L w R) (hg : o.guard = none) (hd : okDst o.dst N = true) (hfr : Fr N L df a)
    (k : ∀ a v w', R v w' → Fr N (upd o.dst v L) df a → WL P r ops K rest a w') : WL P r ops K (o :: rest) a w :=
  wl_op hg ((ho N df a hfr).mono fun a' w' ⟨v, e, hR⟩ => by subst e; exact k _ v w' hR (hfr.upd hd v))

/-- The same, its guard open. -/
theorem wl_ry {R : Value → World → Prop} {j g : Nat} {b : Bool} (ho : OpR P r o L w R) (hg : o.guard = some (j, b)) (hj : (ops[j]?).bind (·.dst) = some g) (hgl : g < N) (hl : lk L g = some (.bool b)) (hd : okDst o.dst N = true) (hfr : Fr N L df a)
    (k : ∀ a v w', R v w' → Fr N (upd o.dst v L) df a → WL P r ops K rest a w') : WL P r ops K (o :: rest) a w :=
  wl_guard_yes hg (yielded_of hfr hj hgl hl) ((ho N df a hfr).mono fun a' w' ⟨v, e, hR⟩ => by subst e; exact k _ v w' hR (hfr.upd hd v))

/-- The same, its guard shut: it is passed over. -/
theorem wl_rn {j g : Nat} {b b' : Bool} (hg : o.guard = some (j, b)) (hj : (ops[j]?).bind (·.dst) = some g) (hgl : g < N) (hl : lk L g = some (.bool b')) (hne : (b' == b) = false) (hd : okDst o.dst N = true) (hfr : Fr N L df a)
    (k : ∀ a, Fr N (upd o.dst undef L) df a → WL P r ops K rest a w) : WL P r ops K (o :: rest) a w :=
  wl_guard_no hg (yielded_of hfr hj hgl hl) hne (k _ (hfr.upd hd _))

/-- Several ways meet at the state J. -/
theorem wl_cut (J : Act → World → Prop) {l1 l2 : List Oper} (h1 : WL P r ops J l1 a w) (h2 : ∀ a w, J a w → WL P r ops K l2 a w) : WL P r ops K (l1 ++ l2) a w := by
  induction l1 generalizing a w with
  | nil => exact h2 _ _ h1
  | cons o l1 ih =>
    rw [List.cons_append]
    unfold WL at h1 ⊢
    split
    · rename_i hw
      rw [if_pos hw] at h1
      exact h1.mono fun a w h => ih h
    · rename_i hw
      rw [if_neg hw] at h1
      exact ih h1

/-! ### pure operations -/
section pure
variable {x y c : Operand} {v u : Value} {k : IntKind} {m n : Int} {T T' : TypeId} {b : Bool}
abbrev O (dst : Option Tmp) (op : Op) (ty : TypeId) (pos : String) (af : Array Edge) (gd : Option (Nat × Bool)) : Oper := ⟨dst, op, ty, pos, af, gd⟩

theorem v_move (hx : ev L x = some v) : OpV P ⟨dst, .move x, ty, pos, af, gd⟩ L w v := ⟨rfl, fun N df a h => by simp only [execOp, h.eval hx]; rfl⟩
theorem v_assign (hx : ev L x = some v) : OpV P ⟨dst, .assign x, ty, pos, af, gd⟩ L w v := ⟨rfl, fun N df a h => by simp only [execOp, h.eval hx]; rfl⟩
theorem v_pick_t (hc : ev L c = some (.bool true)) (hx : ev L x = some v) : OpV P ⟨dst, .pick c x y, ty, pos, af, gd⟩ L w v := ⟨rfl, fun N df a h => by simp only [execOp, h.eval hc, h.eval hx]; rfl⟩
theorem v_pick_f (hc : ev L c = some (.bool false)) (hy : ev L y = some v) : OpV P ⟨dst, .pick c x y, ty, pos, af, gd⟩ L w v := ⟨rfl, fun N df a h => by simp only [execOp, h.eval hc, h.eval hy]; rfl⟩
theorem v_not (hx : ev L x = some (.bool b)) : OpV P ⟨dst, .unOp .not T x, ty, pos, af, gd⟩ L w (.bool (!b)) := ⟨rfl, fun N df a h => by simp only [execOp, h.eval hx]; rfl⟩
theorem v_neg (hx : ev L x = some (.int .i64 m)) (h1 : -9223372036854775807 ≤ m) (h2 : m ≤ 9223372036854775807) : OpV P ⟨dst, .unOp .neg T x, ty, pos, af, gd⟩ L w (.int .i64 (-m)) :=
  ⟨rfl, fun N df a h => by
    have e : IntKind.i64.wrap (-m) = -m := IntWalk.i64_in _ (by omega)
    simp only [execOp, h.eval hx]
    show (do pure (Next.value (← Op.unary .neg (.int .i64 m))) : Sem Next).run P w = _
    have : (Op.unary .neg (.int .i64 m)).run P w = .ok (.int .i64 (IntKind.i64.wrap (-m))) w := by simp [Op.unary, Op.intArith]
    rw [Sem.run_bind, this, e]; rfl⟩

theorem bin_run {op : BinOp} {ρ : Operand → Value} (hx : ρ x = .int k m) (hy : ρ y = .int k n) (hr : (binOp op T (.int k m) (.int k n)).run P w = .ok v w) :
    (execOp ρ ⟨dst, .binOp op T x y T', ty, pos, af, gd⟩).run P w = .ok (.value v) w := by
  have hg : (eqGuard op T x y (.int k m) (.int k n)).run P w = .ok () w := by unfold eqGuard; cases op <;> rfl
  simp only [execOp, hx, hy, Sem.run_bind, hg, Result.andThen_ok, hr, Sem.run_pure]

theorem v_bin {op : BinOp} (hx : ev L x = some (.int k m)) (hy : ev L y = some (.int k n)) (hr : (binOp op T (.int k m) (.int k n)).run P w = .ok v w) : OpV P ⟨dst, .binOp op T x y T', ty, pos, af, gd⟩ L w v :=
  ⟨rfl, fun N df a h => bin_run (h.eval hx) (h.eval hy) hr⟩

theorem run_arith {op : BinOp} (h : op = .add ∨ op = .sub ∨ op = .mul) : (binOp op T (.int k m) (.int k n)).run P w = .ok (.int k (k.wrap (match op with | .add => m + n | .sub => m - n | _ => m * n))) w := by
  rcases h with rfl | rfl | rfl <;> simp [binOp, Op.intArith]
theorem v_add (hx : ev L x = some (.int .i64 m)) (hy : ev L y = some (.int .i64 n)) (hb : -9223372036854775808 ≤ m + n ∧ m + n ≤ 9223372036854775807) : OpV P ⟨dst, .binOp .add T x y T', ty, pos, af, gd⟩ L w (.int .i64 (m + n)) :=
  v_bin hx hy (by rw [run_arith (.inl rfl), IntWalk.i64_in _ hb])
theorem v_sub (hx : ev L x = some (.int .i64 m)) (hy : ev L y = some (.int .i64 n)) (hb : -9223372036854775808 ≤ m - n ∧ m - n ≤ 9223372036854775807) : OpV P ⟨dst, .binOp .sub T x y T', ty, pos, af, gd⟩ L w (.int .i64 (m - n)) :=
  v_bin hx hy (by rw [run_arith (.inr (.inl rfl)), IntWalk.i64_in _ hb])
theorem v_mul (hx : ev L x = some (.int .i64 m)) (hy : ev L y = some (.int .i64 n)) (hb : -9223372036854775808 ≤ m * n ∧ m * n ≤ 9223372036854775807) : OpV P ⟨dst, .binOp .mul T x y T', ty, pos, af, gd⟩ L w (.int .i64 (m * n)) :=
  v_bin hx hy (by rw [run_arith (.inr (.inr rfl)), IntWalk.i64_in _ hb])
theorem v_quo (hx : ev L x = some (.int .i64 m)) (hy : ev L y = some (.int .i64 n)) (hm : 0 ≤ m) (hm2 : m ≤ 9223372036854775807) (hn : 0 < n) : OpV P ⟨dst, .binOp .quo T x y T', ty, pos, af, gd⟩ L w (.int .i64 (m / n)) :=
  v_bin hx hy (by
    have e : m.tdiv n = m / n := by rw [Int.tdiv_eq_ediv_of_nonneg hm]
    have h1 : 0 ≤ m / n := Int.ediv_nonneg hm (by omega)
    have h2 : m / n ≤ m := Int.ediv_le_self n hm
    have hne : ¬ n = 0 := by omega
    have hw : IntKind.i64.wrap (m / n) = m / n := IntWalk.i64_in _ ⟨by omega, by omega⟩
    simp [binOp, Op.intDiv, hne, e, hw])
theorem v_rem (hx : ev L x = some (.int .i64 m)) (hy : ev L y = some (.int .i64 n)) (hm : 0 ≤ m) (hn : 0 < n) : OpV P ⟨dst, .binOp .rem T x y T', ty, pos, af, gd⟩ L w (.int .i64 (m % n)) :=
  v_bin hx hy (by
    have e : m.tmod n = m % n := by rw [Int.tmod_eq_emod_of_nonneg hm]
    have hne : ¬ n = 0 := by omega
    simp [binOp, Op.intDiv, hne, e])
/-- '/' and '%' whatever the signs (the divisor is not zero). -/
theorem v_quo' (hx : ev L x = some (.int .i64 m)) (hy : ev L y = some (.int .i64 n)) (hn : 0 < n) (hb : -9223372036854775808 ≤ m ∧ m ≤ 9223372036854775807) : OpV P ⟨dst, .binOp .quo T x y T', ty, pos, af, gd⟩ L w (.int .i64 (m.tdiv n)) :=
  v_bin hx hy (by
    have h1 : -9223372036854775808 ≤ m.tdiv n ∧ m.tdiv n ≤ 9223372036854775807 := by
      rcases Int.le_total 0 m with h | h
      · have e : m.tdiv n = m / n := by rw [Int.tdiv_eq_ediv_of_nonneg h]
        have h1 : 0 ≤ m / n := Int.ediv_nonneg h (by omega)
        have h2 : m / n ≤ m := Int.ediv_le_self n h
        omega
      · have e : m.tdiv n = -((-m) / n) := by rw [← Int.tdiv_eq_ediv_of_nonneg (by omega), Int.neg_tdiv, Int.neg_neg]
        have h1 : 0 ≤ (-m) / n := Int.ediv_nonneg (by omega) (by omega)
        have h2 : (-m) / n ≤ -m := Int.ediv_le_self n (by omega)
        omega
    have hne : ¬ n = 0 := by omega
    simp [binOp, Op.intDiv, hne, IntWalk.i64_in _ h1])
theorem v_rem' (hx : ev L x = some (.int .i64 m)) (hy : ev L y = some (.int .i64 n)) (hn : 0 < n) : OpV P ⟨dst, .binOp .rem T x y T', ty, pos, af, gd⟩ L w (.int .i64 (m.tmod n)) :=
  v_bin hx hy (by
    have hne : ¬ n = 0 := by omega
    simp [binOp, Op.intDiv, hne])
theorem v_eq (hx : ev L x = some (.int k m)) (hy : ev L y = some (.int k n)) : OpV P ⟨dst, .binOp .eql T x y T', ty, pos, af, gd⟩ L w (.bool (decide (m = n))) := v_bin hx hy (by simp [binOp, Op.intCmp]; rfl)
theorem v_ne (hx : ev L x = some (.int k m)) (hy : ev L y = some (.int k n)) : OpV P ⟨dst, .binOp .neq T x y T', ty, pos, af, gd⟩ L w (.bool (!decide (m = n))) := v_bin hx hy (by simp [binOp, Op.intCmp]; rfl)
theorem v_lt (hx : ev L x = some (.int k m)) (hy : ev L y = some (.int k n)) : OpV P ⟨dst, .binOp .lss T x y T', ty, pos, af, gd⟩ L w (.bool (decide (m < n))) := v_bin hx hy (by simp [binOp, Op.intCmp])
theorem v_le (hx : ev L x = some (.int k m)) (hy : ev L y = some (.int k n)) : OpV P ⟨dst, .binOp .leq T x y T', ty, pos, af, gd⟩ L w (.bool (decide (m ≤ n))) := v_bin hx hy (by simp [binOp, Op.intCmp])
theorem v_gt (hx : ev L x = some (.int k m)) (hy : ev L y = some (.int k n)) : OpV P ⟨dst, .binOp .gtr T x y T', ty, pos, af, gd⟩ L w (.bool (decide (n < m))) := v_bin hx hy (by simp [binOp, Op.intCmp])
theorem v_ge (hx : ev L x = some (.int k m)) (hy : ev L y = some (.int k n)) : OpV P ⟨dst, .binOp .geq T x y T', ty, pos, af, gd⟩ L w (.bool (decide (n ≤ m))) := v_bin hx hy (by simp [binOp, Op.intCmp])

theorem v_extract {vs : Array Value} {i : Nat} (hx : ev L x = some (.tuple vs)) (hi : vs[i]? = some v) : OpV P ⟨dst, .extract x i, ty, pos, af, gd⟩ L w v :=
  ⟨rfl, fun N df a h => by simp only [execOp, h.eval hx, Instr.extract, hi]; rfl⟩
theorem v_nilCheck {ad : Addr} (hx : ev L x = some (.pointer (some ad))) : OpV P ⟨dst, .nilCheck x, ty, pos, af, gd⟩ L w (.pointer (some ad)) :=
  ⟨rfl, fun N df a h => by simp only [execOp, h.eval hx]; rfl⟩
theorem v_field {i : Nat} (hx : ev L x = some u) (hr : (Instr.field T u i).run P w = .ok v w) : OpV P ⟨dst, .field T x i, ty, pos, af, gd⟩ L w v :=
  ⟨rfl, fun N df a h => by simp only [execOp, h.eval hx, Sem.run_bind, hr, Result.andThen_ok]; rfl⟩
theorem v_fieldAddr {i : Nat} (hx : ev L x = some u) (hr : (Instr.fieldAt T u i).run P w = .ok v w) : OpV P ⟨dst, .fieldAddr T x i, ty, pos, af, gd⟩ L w v :=
  ⟨rfl, fun N df a h => by simp only [execOp, h.eval hx, Sem.run_bind, hr, Result.andThen_ok]; rfl⟩
theorem v_indexAddr {u' : Value} (hx : ev L x = some u) (hy : ev L y = some u') (hr : (Instr.indexAt T u u').run P w = .ok v w) : OpV P ⟨dst, .indexAddr T x y, ty, pos, af, gd⟩ L w v :=
  ⟨rfl, fun N df a h => by simp only [execOp, h.eval hx, h.eval hy, Sem.run_bind, hr, Result.andThen_ok]; rfl⟩
theorem v_index {u' : Value} (hx : ev L x = some u) (hy : ev L y = some u') (hr : (Instr.index T u u').run P w = .ok v w) : OpV P ⟨dst, .index T x y, ty, pos, af, gd⟩ L w v :=
  ⟨rfl, fun N df a h => by simp only [execOp, h.eval hx, h.eval hy, Sem.run_bind, hr, Result.andThen_ok]; rfl⟩
theorem v_convert (hx : ev L x = some u) (hr : (convert T T' u).run P w = .ok v w) : OpV P ⟨dst, .convert T T' x, ty, pos, af, gd⟩ L w v :=
  ⟨rfl, fun N df a h => by simp only [execOp, h.eval hx, Sem.run_bind, hr, Result.andThen_ok]; rfl⟩

def evp (L : List (Nat × Value)) : List (Nat × Operand) → Option (List (Nat × Value))
  | [] => some []
  | (i, x) :: xs => match ev L x, evp L xs with
    | some v, some vs => some ((i, v) :: vs)
    | _, _ => none
theorem Fr.evalp {xs : List (Nat × Operand)} {vs : List (Nat × Value)} (h : Fr N L df a) (hx : evp L xs = some vs) : xs.map (fun p => (p.1, a.eval p.2)) = vs := by
  induction xs generalizing vs with
  | nil => simpa [evp] using hx
  | cons p xs ih =>
    obtain ⟨i, x⟩ := p
    simp only [evp] at hx
    split at hx
    · rename_i v vs' h1 h2
      cases hx
      simp [h.eval h1, ih h2]
    · cases hx
theorem v_build {xs : List (Nat × Operand)} {vs : List (Nat × Value)} (hx : evp L xs = some vs) (hr : (Instr.build T vs.toArray).run P w = .ok v w) : OpV P ⟨dst, .build T xs.toArray, ty, pos, af, gd⟩ L w v :=
  ⟨rfl, fun N df a h => by
    have e : (xs.toArray.map fun (i, x) => (i, a.eval x)) = vs.toArray := by rw [List.map_toArray]; exact congrArg _ (h.evalp hx)
    simp only [execOp, e, Sem.run_bind, hr, Result.andThen_ok]; rfl⟩
theorem v_makeFunc {fn : Fn} {xs ys : List Operand} {vs us : List Value} (hx : evs L xs = some vs) (hy : evs L ys = some us) : OpV P ⟨dst, .makeFunc fn xs.toArray ys.toArray, ty, pos, af, gd⟩ L w (.func fn vs.toArray us.toArray) :=
  ⟨rfl, fun N df a h => by
    have e1 : xs.toArray.map a.eval = vs.toArray := by rw [List.map_toArray]; exact congrArg _ (h.evals hx)
    have e2 : ys.toArray.map a.eval = us.toArray := by rw [List.map_toArray]; exact congrArg _ (h.evals hy)
    simp only [execOp, e1, e2]; rfl⟩
/-- A builtin that yields a value (len, min, max ..). -/
theorem v_builtin {bi : Builtin} {xs : List Operand} {vs : List Value} {ats : Array TypeId} (hx : evs L xs = some vs)
    (hr : (builtin bi ats ty (xs.toArray.map fun | .const _ => true | _ => false) vs.toArray).run P w = .ok (.value v) w) : OpV P ⟨dst, .call { callee := .builtin bi, args := xs.toArray, argTypes := ats }, ty, pos, af, gd⟩ L w v :=
  ⟨rfl, fun N df a h => by
    have e1 : xs.toArray.map a.eval = vs.toArray := by rw [List.map_toArray]; exact congrArg _ (h.evals hx)
    simp only [execOp, resolve, e1, Sem.run_bind, Sem.run_pure, Result.andThen_ok, invoke]
    exact hr⟩
end pure

/-! ### memory -/
section mem
variable {x y c : Operand} {v u : Value} {T T' : TypeId} {b off : Nat} {cs : List Value}
theorem v_load (hx : ev L x = some (.pointer (some ⟨b, off, none⟩))) (hr : (loadVar T ⟨b, off, none⟩).run P w = .ok v w) : OpV P ⟨dst, .load T x, ty, pos, af, gd⟩ L w v :=
  ⟨rfl, fun N df a h => by
    simp only [execOp, h.eval hx, Instr.loadAt, Instr.sureAddr, Sem.run_bind, Sem.run_pure, Result.andThen_ok, hr]⟩
theorem v_load_agg (hx : ev L x = some (.pointer (some ⟨b, off, none⟩))) (hagg : (isAgg T).run P w = .ok true w) (hsz : (sizeOf T).run P w = .ok cs.length w) (h : CellsAt w b off cs) :
    OpV P ⟨dst, .load T x, ty, pos, af, gd⟩ L w (.agg cs.toArray) := v_load hx (run_load_agg hagg hsz h)
theorem v_load_one (hx : ev L x = some (.pointer (some ⟨b, off, none⟩))) (hagg : (isAgg T).run P w = .ok false w) (h : CellsAt w b off [v]) :
    OpV P ⟨dst, .load T x, ty, pos, af, gd⟩ L w v := v_load hx (run_load_one hagg h)

theorem run_newVar (t : TypeId) (v : Value) : (newVar t v).run P w = .ok ⟨w.heap.size, 0, none⟩ (w.alloc (.cells v.cells t)) := rfl

theorem r_alloc {z : Value} (hz : (zeroValue T).run P w = .ok z w) : OpR P r ⟨dst, .alloc T, ty, pos, af, gd⟩ L w fun v w' => v = .pointer (some ⟨w.heap.size, 0, none⟩) ∧ w' = w.alloc (.cells z.cells T) :=
  fun N df a h => opk_value rfl (v := .pointer (some ⟨w.heap.size, 0, none⟩)) (w' := w.alloc (.cells z.cells T)) (by
    simp only [execOp, Instr.alloc, Sem.run_bind, hz, Result.andThen_ok]; rfl) ⟨_, rfl, rfl, rfl⟩
theorem r_box (hx : ev L x = some u) : OpR P r ⟨dst, .box T x, ty, pos, af, gd⟩ L w fun v w' => v = .pointer (some ⟨w.heap.size, 0, none⟩) ∧ w' = w.alloc (.cells u.cells T) :=
  fun N df a h => opk_value rfl (v := .pointer (some ⟨w.heap.size, 0, none⟩)) (w' := w.alloc (.cells u.cells T)) (by
    simp only [execOp, h.eval hx, Instr.box]; rfl) ⟨_, rfl, rfl, rfl⟩
theorem r_store {E : TypeId} (hx : ev L x = some (.pointer (some ⟨b, off, none⟩))) (hy : ev L y = some u) (hb : w.heap[b]? = some (.cells cs.toArray E))
    (hsz : (sizeOf T).run P w = .ok u.cells.size w) (hone : ∀ x ∈ u.cells.toList, x.oneCell' = true) (hfit : off + u.cells.size ≤ cs.length) :
    OpR P r ⟨dst, .store T x y, ty, pos, af, gd⟩ L w fun v w' => w' = w.putObj b (.cells (splice cs off u.cells.toList).toArray E) :=
  fun N df a h => opk_skip rfl (w' := w.putObj b (.cells (splice cs off u.cells.toList).toArray E)) (by
    simp only [execOp, h.eval hx, h.eval hy, Instr.storeAt, Instr.sureAddr, Sem.run_bind, Sem.run_pure, Result.andThen_ok, run_store_blk hb hsz hone hfit]) ⟨_, rfl, rfl⟩
theorem r_call {f : FuncId} {xs : List Operand} {vs : List Value} {ats : Array TypeId} {R : Value → World → Prop} (hen : ∀ args w, (callFunc f args).run P w = .ok (.enter f args) w) (hx : evs L xs = some vs) (hc : Ret P f vs.toArray w R) :
    OpR P r ⟨dst, .call { callee := .value (.func f), args := xs.toArray, argTypes := ats }, ty, pos, af, gd⟩ L w R :=
  fun N df a h => opk_call rfl (f := f) (args := vs.toArray) (w' := w) (by
    have e1 : xs.toArray.map a.eval = vs.toArray := by rw [List.map_toArray]; exact congrArg _ (h.evals hx)
    simp [execOp, resolve, e1, Act.eval, Deferred.ofValue, invoke, hen]) (hc.mono fun v w' hR => ⟨v, rfl, hR⟩)
/-- A call of a closure. -/
theorem r_callv {f : FuncId} {cap : List Value} {xs : List Operand} {vs : List Value} {ats : Array TypeId} {R : Value → World → Prop} (hf : ev L x = some (.func (.func f) #[] cap.toArray)) (hen : ∀ args w, (callFunc f args).run P w = .ok (.enter f args) w) (hx : evs L xs = some vs) (hc : Ret P f (vs ++ cap).toArray w R) :
    OpR P r ⟨dst, .call { callee := .value x, args := xs.toArray, argTypes := ats }, ty, pos, af, gd⟩ L w R :=
  fun N df a h => opk_call rfl (f := f) (args := (vs ++ cap).toArray) (w' := w) (by
    have e1 : xs.toArray.map a.eval = vs.toArray := by rw [List.map_toArray]; exact congrArg _ (h.evals hx)
    simp [execOp, resolve, e1, h.eval hf, Deferred.ofValue, invoke, hen]) (hc.mono fun v w' hR => ⟨v, rfl, hR⟩)
theorem enters {f : FuncId} {fn : Func} (hf : P.funcs[f]? = some fn) (hn : (fn.name == "runtime.NumGoroutine") = false) (hb : fn.body.isNone = false) : ∀ args w, (callFunc f args).run P w = .ok (.enter f args) w := by
  intro args w
  simp only [callFunc, Sem.run_bind, run_program, Result.andThen_ok, hf, hn, hb, Bool.false_eq_true, if_false, Sem.run_pure]
end mem

/-! ### with the state -/
section state
variable {x y c : Operand} {v u z : Value} {T T' : TypeId} {b off : Nat} {cs : List Value}
theorem wl_alloc (hfr : Fr N L df a) (hst : St M w0 H w) (hd : d < N) (hz : (zeroValue T).run P w = .ok z w) (hcs : z.cells.toList = cs)
    (k : ∀ a w', Fr N ((d, .pointer (some ⟨w.heap.size, 0, none⟩)) :: L) df a → St M w0 (blk w.heap.size cs T :: H) w' → WL P r ops K rest a w') :
    WL P r ops K (⟨some d, .alloc T, ty, pos, af, none⟩ :: rest) a w :=
  wl_r (r_alloc hz) rfl (decide_eq_true hd) hfr fun a v w' ⟨hv, hw⟩ h => by subst hv; subst hw; subst hcs; exact k _ _ h (by simpa [blk] using hst.alloc (.cells z.cells T))
theorem wl_box (hfr : Fr N L df a) (hst : St M w0 H w) (hd : d < N) (hx : ev L x = some u) (hcs : u.cells.toList = cs)
    (k : ∀ a w', Fr N ((d, .pointer (some ⟨w.heap.size, 0, none⟩)) :: L) df a → St M w0 (blk w.heap.size cs T :: H) w' → WL P r ops K rest a w') :
    WL P r ops K (⟨some d, .box T x, ty, pos, af, none⟩ :: rest) a w :=
  wl_r (r_box hx) rfl (decide_eq_true hd) hfr fun a v w' ⟨hv, hw⟩ h => by subst hv; subst hw; subst hcs; exact k _ _ h (by simpa [blk] using hst.alloc (.cells u.cells T))
theorem St.store {i : Nat} {E : TypeId} {ds : List Value} (hst : St M w0 H w) (hi : H[i]? = some (blk b cs E)) : St M w0 (H.set i (blk b ds E)) (w.putObj b (.cells ds.toArray E)) :=
  hst.exchange hi (Ext.putObj (M := (· = b)) rfl w _) (World.putObj_heap_same (hst.lt hi (b := b) rfl)) (fun k hk => by cases hk; exact ⟨by simpa using hst.lt hi (b := b) rfl, .inl rfl⟩)
def ones (v : Value) : Bool := v.cells.toList.all (·.oneCell')
theorem wl_store {E : TypeId} {ds : List Value} {H' : List Ent} (i : Nat) (hfr : Fr N L df a) (hst : St M w0 H w) (hx : ev L x = some (.pointer (some ⟨b, off, none⟩))) (hy : ev L y = some u) (hi : H[i]? = some (blk b cs E))
    (hsz : (sizeOf T).run P w = .ok u.cells.size w) (hone : ones u = true) (hfit : off + u.cells.size ≤ cs.length) (hds : splice cs off u.cells.toList = ds) (hH : H.set i (blk b ds E) = H')
    (k : ∀ a w', Fr N L df a → St M w0 H' w' → WL P r ops K rest a w') :
    WL P r ops K (⟨none, .store T x y, ty, pos, af, none⟩ :: rest) a w :=
  wl_r (r_store hx hy (hst.get hi) hsz (fun x hx => List.all_eq_true.1 hone x hx) hfit) rfl rfl hfr fun a v w' hw h => by subst hw; subst hds; subst hH; exact k _ _ h (hst.store hi)
/-- A block that is known is read whole. -/
theorem v_load_all {E : TypeId} (hb : (blk b cs E).ok w) (hx : ev L x = some (.pointer (some ⟨b, 0, none⟩))) (hagg : (isAgg T).run P w = .ok true w) (hsz : (sizeOf T).run P w = .ok cs.length w) :
    OpV P ⟨dst, .load T x, ty, pos, af, gd⟩ L w (.agg cs.toArray) :=
  v_load_agg hx hagg hsz (blk_cells hb)
/-- A part of it. -/
theorem v_load_blk {E : TypeId} {ds : List Value} (hb : (blk b cs E).ok w) (hx : ev L x = some (.pointer (some ⟨b, off, none⟩))) (hagg : (isAgg T).run P w = .ok true w) (hsz : (sizeOf T).run P w = .ok ds.length w)
    (hds : (cs.drop off).take ds.length = ds) : OpV P ⟨dst, .load T x, ty, pos, af, gd⟩ L w (.agg ds.toArray) :=
  v_load_agg hx hagg hsz (by have := (blk_cells hb).sub hds; simpa using this)
theorem v_load_blk1 {E : TypeId} (hb : (blk b cs E).ok w) (hx : ev L x = some (.pointer (some ⟨b, off, none⟩))) (hagg : (isAgg T).run P w = .ok false w)
    (hv : (cs.drop off).take 1 = [v]) : OpV P ⟨dst, .load T x, ty, pos, af, gd⟩ L w v :=
  v_load_one hx hagg (by have := (blk_cells hb).sub hv; simpa using this)
/-- '==', '!=' of two structs. -/
theorem run_eqGuard_off {op : BinOp} {xs ys : Array Value} (hg : P.eqGuardType P.depth T = false) : (eqGuard op T x y (.agg xs) (.agg ys)).run P w = .ok () w := by
  unfold eqGuard
  cases op <;> first | rfl | simp [hg, program, Sem.run]
theorem v_eq_agg {xs ys : Array Value} {bb : Bool} (hx : ev L x = some (.agg xs)) (hy : ev L y = some (.agg ys)) (hg : P.eqGuardType P.depth T = false) (hr : (Op.equal T (.agg xs) (.agg ys)).run P w = .ok bb w) : OpV P ⟨dst, .binOp .eql T x y T', ty, pos, af, gd⟩ L w (.bool bb) :=
  ⟨rfl, fun N df a h => by simp [execOp, h.eval hx, h.eval hy, run_eqGuard_off hg, binOp, hr]⟩
theorem v_ne_agg {xs ys : Array Value} {bb : Bool} (hx : ev L x = some (.agg xs)) (hy : ev L y = some (.agg ys)) (hg : P.eqGuardType P.depth T = false) (hr : (Op.equal T (.agg xs) (.agg ys)).run P w = .ok bb w) : OpV P ⟨dst, .binOp .neq T x y T', ty, pos, af, gd⟩ L w (.bool (!bb)) :=
  ⟨rfl, fun N df a h => by simp [execOp, h.eval hx, h.eval hy, run_eqGuard_off hg, binOp, hr]⟩
/-- '==', '!=' of two bools. -/
theorem v_eq_bool {bb bc : Bool} (hx : ev L x = some (.bool bb)) (hy : ev L y = some (.bool bc)) (ht : P.underlying T = some .bool) : OpV P ⟨dst, .binOp .eql T x y T', ty, pos, af, gd⟩ L w (.bool (bb == bc)) :=
  ⟨rfl, fun N df a h => by
    obtain ⟨dd, hd⟩ : ∃ dd, Op.maxDepth = dd + 1 := ⟨9999, rfl⟩
    simp [execOp, h.eval hx, h.eval hy, eqGuard, binOp, Op.equal, hd, Op.equalIn, run_underlying ht]⟩
/-- What held of the beginning holds still. -/
theorem St.keep {e : Ent} (hst : St No w0 H w) (h : e.ok w0) (hf : ∀ k, e.foot k → k < w0.heap.size) : e.ok w := hst.base e h fun k hk => ⟨hf k hk, fun h => h⟩
theorem St.keepb {E : TypeId} (hst : St No w0 H w) (h : (blk b cs E).ok w0) : (blk b cs E).ok w := hst.keep h fun k hk => by cases hk; exact (Array.getElem?_eq_some_iff.1 h).1
/-- One block that the call may turn. -/
theorem St.one {E : TypeId} (h : (blk b cs E).ok w) : St (· = b) w [blk b cs E] w :=
  ⟨Ext.refl _ _, fun e he => by
    rw [List.mem_singleton] at he; subst he
    exact ⟨h, fun k hk => by cases hk; exact ⟨(Array.getElem?_eq_some_iff.1 h).1, fun _ => rfl⟩⟩, List.pairwise_singleton _ _⟩
/-- A call of a function of values: it makes memory at most. -/
theorem wl_callp {f : FuncId} {xs : List Operand} {vs : List Value} {ats : Array TypeId} (hfr : Fr N L df a) (hst : St M w0 H w) (hd : d < N) (hen : ∀ args w, (callFunc f args).run P w = .ok (.enter f args) w) (hx : evs L xs = some vs)
    (hc : Ret P f vs.toArray w fun v' w' => v' = v ∧ Ext No w w')
    (k : ∀ a w', Fr N ((d, v) :: L) df a → St M w0 H w' → WL P r ops K rest a w') :
    WL P r ops K (⟨some d, .call { callee := .value (.func f), args := xs.toArray, argTypes := ats }, ty, pos, af, none⟩ :: rest) a w :=
  wl_r (r_call hen hx hc) rfl (decide_eq_true hd) hfr fun a v' w' ⟨hv, hw⟩ h => by subst hv; exact k _ _ h (hst.grow hw)
/-- The same behind an open guard. -/
theorem wl_callpy {f : FuncId} {xs : List Operand} {vs : List Value} {ats : Array TypeId} {j g : Nat} {b : Bool} (hfr : Fr N L df a) (hst : St M w0 H w) (hd : d < N) (hj : (ops[j]?).bind (·.dst) = some g) (hgl : g < N) (hl : lk L g = some (.bool b)) (hen : ∀ args w, (callFunc f args).run P w = .ok (.enter f args) w) (hx : evs L xs = some vs)
    (hc : Ret P f vs.toArray w fun v' w' => v' = v ∧ Ext No w w')
    (k : ∀ a w', Fr N ((d, v) :: L) df a → St M w0 H w' → WL P r ops K rest a w') :
    WL P r ops K (⟨some d, .call { callee := .value (.func f), args := xs.toArray, argTypes := ats }, ty, pos, af, some (j, b)⟩ :: rest) a w :=
  wl_ry (r_call hen hx hc) rfl hj hgl hl (decide_eq_true hd) hfr fun a v' w' ⟨hv, hw⟩ h => by subst hv; exact k _ _ h (hst.grow hw)
theorem wl_callvp {f : FuncId} {cap : List Value} {xs : List Operand} {vs : List Value} {ats : Array TypeId} (hfr : Fr N L df a) (hst : St M w0 H w) (hd : d < N) (hf : ev L x = some (.func (.func f) #[] cap.toArray)) (hen : ∀ args w, (callFunc f args).run P w = .ok (.enter f args) w) (hx : evs L xs = some vs)
    (hc : Ret P f (vs ++ cap).toArray w fun v' w' => v' = v ∧ Ext No w w')
    (k : ∀ a w', Fr N ((d, v) :: L) df a → St M w0 H w' → WL P r ops K rest a w') :
    WL P r ops K (⟨some d, .call { callee := .value x, args := xs.toArray, argTypes := ats }, ty, pos, af, none⟩ :: rest) a w :=
  wl_r (r_callv hf hen hx hc) rfl (decide_eq_true hd) hfr fun a v' w' ⟨hv, hw⟩ h => by subst hv; exact k _ _ h (hst.grow hw)
end state
end
end Go.PW
