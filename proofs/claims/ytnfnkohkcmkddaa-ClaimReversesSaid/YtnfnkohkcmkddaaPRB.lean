/- Texts joined: Ph, Wrd, Arr, Chk, Pre, Byt, App, Lst, Sto, Chn, Chd, Cut, Bld, Pan, ClaimP, ClaimM, ClaimN, ClaimO, BlkP, ClaimA, ClaimB, ClaimC, ClaimD, ClaimE. -/
import Derived.Test.YtnfnkohkcmkddaaPRA
import Derived.Laws.CopyRow
import Derived.Laws.IdiomStrings
import Derived.ArgAppend
import Derived.Lib.AppendStr
import Derived.Lib.Builder
import Derived.Lib.UnsafeStr
import Derived.Laws.Externs
import Derived.RecoverIn
import GoSem.Core.Value
import Derived.Test.YtnfnkohkcmkddaaRows
namespace Go.PW
open Go.RowKit
set_option linter.unusedVariables false
set_option linter.unusedSimpArgs false
section
variable {P : Program} {w0 w : World} {M : Nat → Prop} {H : List Ent} {N : Nat} {df : List Deferred} {L : List (Nat × Value)} {a : Act} {r : Option Nat} {K : Act → World → Prop} {l : List Oper}
def Hopq (P : Program) (r : Option Nat) (M : Nat → Prop) (w0 : World) (H : List Ent) (L : List (Nat × Value)) (l : List Oper) (qs : List Nat) (Rq : Nat → Value → List Ent → Prop) (vals : List Value) (Rx : Value → List Ent → Prop) (i : Nat) : List Nat → List (Nat × Value) → List Ent → Prop
 | [], Lv, Es => ∀ w, St M w0 (Es ++ H) w → OpR P r (opAt l i) (Lv ++ L) w (GrowR w Rx)
 | p :: ps, Lv, Es => if p ∈ qs then ∀ v E, Rq p v E → Hopq P r M w0 H L l qs Rq vals Rx i ps (Lv ++ [(dsOf l p, v)]) (Es ++ E) else Hopq P r M w0 H L l qs Rq vals Rx i ps (Lv ++ [(dsOf l p, vals.getD p undef)]) Es
def HopKq (P : Program) (r : Option Nat) (M : Nat → Prop) (w0 : World) (H : List Ent) (N : Nat) (L : List (Nat × Value)) (df : List Deferred) (l : List Oper) (m : Nat) (Rq : Nat → Value → List Ent → Prop) (K : Act → World → Prop) : List Nat → List Value → List Ent → Prop
 | [], vals, Es => ∀ a w, Fr N ((List.range m).map (fun i => (dsOf l i, vals.getD i undef)) ++ L) df a → St M w0 (Es ++ H) w → WL P r l.toArray K (l.drop m) a w
 | q :: qs, vals, Es => ∀ v E, Rq q v E → HopKq P r M w0 H N L df l m Rq K qs (vals.set q v) (Es ++ E)
theorem Hopq.use {qs : List Nat} {Rq : Nat → Value → List Ent → Prop} {vals : List Value} {Rx : Value → List Ent → Prop} {i : Nat} {V : Nat → Value} {E : Nat → List Ent} : ∀ {ps : List Nat} {Lv : List (Nat × Value)} {Es : List Ent}, Hopq P r M w0 H L l qs Rq vals Rx i ps Lv Es →
  (∀ p ∈ ps, if p ∈ qs then Rq p (V p) (E p) else pv (vals.getD p undef) (V p) (E p)) →
  ∀ w, St M w0 (Es ++ ps.flatMap E ++ H) w → OpR P r (opAt l i) (Lv ++ ps.map (fun p => (dsOf l p, V p)) ++ L) w (GrowR w Rx)
 | [], Lv, Es, h, _, w, hs => by simpa using h w (by simpa using hs)
 | p :: ps, Lv, Es, h, hR, w, hs => by
  have hp := hR p (by simp)
  rw [Hopq] at h
  by_cases hq : p ∈ qs
  ·rw [if_pos hq] at h hp
   have := Hopq.use (h (V p) (E p) hp) (fun q hq => hR q (by simp [hq])) w (by simpa using hs)
   simpa using this
  ·rw [if_neg hq] at h hp
   obtain ⟨h1, h2⟩ := hp
   have := Hopq.use h (fun q hq => hR q (by simp [hq])) w (by simpa [h2] using hs)
   rw [h1] at this
   simpa using this
def setAll (V : Nat → Value) : List Nat → List Value → List Value
 | [], vals => vals
 | q :: qs, vals => setAll V qs (vals.set q (V q))
theorem setAll_get {V : Nat → Value} {i : Nat} : ∀ (qs : List Nat) (vals : List Value), i < vals.length → (setAll V qs vals).getD i undef = if i ∈ qs then V i else vals.getD i undef
 | [], vals, h => by simp [setAll]
 | q :: qs, vals, h => by
  rw [setAll, setAll_get qs _ (by simpa using h)]
  by_cases h1 : i ∈ qs
  ·simp [h1]
  ·rw [if_neg h1]
   by_cases h2 : i = q
   ·subst h2
    rw [if_pos (by simp), List.getD_eq_getElem?_getD, List.getElem?_set_self h]; rfl
   ·rw [if_neg (by simp [h1, h2]), List.getD_eq_getElem?_getD, List.getElem?_set_ne (fun e => h2 e.symm), ← List.getD_eq_getElem?_getD]
theorem HopKq.use {Rq : Nat → Value → List Ent → Prop} {m : Nat} {V : Nat → Value} {E : Nat → List Ent} : ∀ {qs : List Nat} {vals : List Value} {Es : List Ent}, HopKq P r M w0 H N L df l m Rq K qs vals Es → (∀ q ∈ qs, Rq q (V q) (E q)) →
  ∀ a w, Fr N ((List.range m).map (fun i => (dsOf l i, (setAll V qs vals).getD i undef)) ++ L) df a → St M w0 (Es ++ qs.flatMap E ++ H) w → WL P r l.toArray K (l.drop m) a w
 | [], vals, Es, h, _, a, w, hf, hs => h a w hf (by simpa using hs)
 | q :: qs, vals, Es, h, hR, a, w, hf, hs => HopKq.use (h (V q) (E q) (hR q (by simp))) (fun p hp => hR p (by simp [hp])) a w hf (by simpa using hs)
theorem flatMap_filter {E : Nat → List Ent} {qs : List Nat} : ∀ (ns : List Nat), (∀ i ∈ ns, i ∉ qs → E i = []) → ns.flatMap E = (ns.filter (fun i => decide (i ∈ qs))).flatMap E
 | [], _ => rfl
 | n :: ns, h => by
  rw [List.flatMap_cons, flatMap_filter ns fun i hi => h i (by simp [hi])]
  by_cases hn : n ∈ qs
  ·rw [List.filter_cons_of_pos (by simpa using hn), List.flatMap_cons]
  ·rw [List.filter_cons_of_neg (by simpa using hn), h n (by simp) hn, List.nil_append]
theorem Hopq.of {qs : List Nat} {Rq : Nat → Value → List Ent → Prop} {vals : List Value} {Rx : Value → List Ent → Prop} {i : Nat} : ∀ {ps : List Nat} {Lv : List (Nat × Value)} {Es : List Ent}, (∀ p ∈ ps, p ∉ qs) →
  (∀ w, St M w0 (Es ++ H) w → OpR P r (opAt l i) (Lv ++ ps.map (fun p => (dsOf l p, vals.getD p undef)) ++ L) w (GrowR w Rx)) → Hopq P r M w0 H L l qs Rq vals Rx i ps Lv Es
 | [], Lv, Es, _, h => by simpa [Hopq] using h
 | p :: ps, Lv, Es, hn, h => by
  rw [Hopq, if_neg (hn p (by simp))]
  exact Hopq.of (fun q hq => hn q (by simp [hq])) (by simpa using h)
theorem hqw {qs : List Nat} {Rq : Nat → Value → List Ent → Prop} {vals : List Value} {ps : List (List Nat)} {k m : Nat} (h : ∀ {w}, St M w0 H w → OpV P (opAt l k) ((ps.getD k []).map (fun p => (dsOf l p, vals.getD p undef)) ++ L) w (vals.getD k undef)) (t : ∀ i, k + 1 ≤ i → i < m → i ∉ qs → Hopq P r M w0 H L l qs Rq vals (pv (vals.getD i undef)) i (ps.getD i []) [] [])
  (hn : ((ps.getD k []).all fun p => !(decide (p ∈ qs))) = true := by rfl) : ∀ i, k ≤ i → i < m → i ∉ qs → Hopq P r M w0 H L l qs Rq vals (pv (vals.getD i undef)) i (ps.getD i []) [] [] := fun i h1 h2 => (Nat.eq_or_lt_of_le h1).elim
 (fun e _ => by
  subst e
  refine Hopq.of (fun p hp => ?_) fun w hs => (h hs).g
  have := List.all_eq_true.1 hn p hp
  simpa using this) fun e => t i e h2
theorem hqv {qs : List Nat} {Rq : Nat → Value → List Ent → Prop} {vals : List Value} {ps : List (List Nat)} {k m : Nat} (h : ∀ {w}, OpV P (opAt l k) ((ps.getD k []).map (fun p => (dsOf l p, vals.getD p undef)) ++ L) w (vals.getD k undef)) (t : ∀ i, k + 1 ≤ i → i < m → i ∉ qs → Hopq P r M w0 H L l qs Rq vals (pv (vals.getD i undef)) i (ps.getD i []) [] [])
  (hn : ((ps.getD k []).all fun p => !(decide (p ∈ qs))) = true := by rfl) : ∀ i, k ≤ i → i < m → i ∉ qs → Hopq P r M w0 H L l qs Rq vals (pv (vals.getD i undef)) i (ps.getD i []) [] [] := hqw (fun _ => h) t hn
theorem wc_phases_q (qs : List Nat) (Rq : Nat → Value → List Ent → Prop) (m : Nat) (ps : List (List Nat)) (vals : List Value) (hfr : Fr N L df a) (hst : St M w0 H w)
  (hop : ∀ i, i < m → i ∉ qs → Hopq P r M w0 H L l qs Rq vals (pv (vals.getD i undef)) i (ps.getD i []) [] [])
  (hopq : ∀ i ∈ qs, Hopq P r M w0 H L l qs Rq vals (Rq i) i (ps.getD i []) [] [])
  (hk : HopKq P r M w0 H N L df l m Rq K qs vals []) (hmix : P.follows .mixedOrders = true := by kernel_rfl) (hok : phOk l m N (keys L) ps = true := by kernel_rfl)
  (hq : (decide (vals.length = m) && decide ((List.range m).filter (fun i => decide (i ∈ qs)) = qs)) = true := by kernel_rfl) : DR P r l.toArray K a w := by
 simp only [Bool.and_eq_true, decide_eq_true_eq] at hq
 obtain ⟨hlen, hf⟩ := hq
 have hlt : ∀ q ∈ qs, q < m := fun q hq => by rw [← hf] at hq; exact List.mem_range.1 (List.mem_filter.1 hq).1
 refine wc_phases m ps hmix hok (fun i v E => if i ∈ qs then Rq i v E else pv (vals.getD i undef) v E) hfr hst ?_ ?_
 ·intro i hi V E w hR hs
  by_cases h : i ∈ qs
  ·have := Hopq.use (V := V) (E := E) (hopq i h) hR w (by simpa using hs)
   simp only [if_pos h]
   simpa using this
  ·have := Hopq.use (V := V) (E := E) (hop i hi h) hR w (by simpa using hs)
   simp only [if_neg h]
   simpa using this
 ·intro V E a w hR hfr hs
  rw [flatMap_filter (qs := qs) _ (fun i hi hn => by have := hR i (List.mem_range.1 hi); rw [if_neg hn] at this; exact this.2), hf] at hs
  have h1 : (List.range m).map (fun p => (dsOf l p, V p)) = (List.range m).map (fun i => (dsOf l i, (setAll V qs vals).getD i undef)) := List.map_congr_left fun p hp => by
   have hp' := List.mem_range.1 hp
   rw [setAll_get qs vals (by omega)]
   have := hR p hp'
   split
   ·rfl
   ·rename_i hn; rw [if_neg hn] at this; rw [this.1]
  rw [h1] at hfr
  exact HopKq.use (V := V) (E := E) hk (fun q hq => by have := hR q (hlt q hq); rw [if_pos hq] at this; exact this) a w hfr (by simpa using hs)
end
section
variable {P : Program} {w0 w : World} {M : Nat → Prop} {H : List Ent} {N : Nat} {df : List Deferred} {L : List (Nat × Value)} {a a' : Act} {r : Option Nat} {K : Act → World → Prop} {l : List Oper} {o : Oper} {R : Value → World → Prop}
theorem put_move {dst : Option Tmp} {u v : Value} (hs : a'.tmps.size ≤ a.tmps.size) (h : a.put dst u = a.put dst v) : a'.put dst u = a'.put dst v := by
 cases dst with
 | none => rfl
 | some d =>
  have h1 : (a.put (some d) u).tmps[d]? = (a.put (some d) v).tmps[d]? := by rw [h]
  simp only [Act.put, Array.getElem?_setIfInBounds, if_true] at h1
  by_cases hd : d < a.tmps.size
  ·rw [if_pos hd, if_pos hd] at h1
   rw [Option.some.inj h1]
  ·simp only [Act.put]
   rw [Array.setIfInBounds_eq_of_size_le (Nat.le_trans hs (Nat.le_of_not_lt hd)), Array.setIfInBounds_eq_of_size_le (Nat.le_trans hs (Nat.le_of_not_lt hd))]
theorem opk_move (hp : Op.plain o.op = true) (he : execOp a'.eval o = execOp a.eval o) (hs : a'.tmps.size ≤ a.tmps.size) (h : OpK P r o a w fun b w' => ∃ v, b = a.put o.dst v ∧ R v w') : OpK P r o a' w fun b w' => ∃ v, b = a'.put o.dst v ∧ R v w' := by
 have key : ∀ {v : Value} {w' : World}, (∃ v', a.put o.dst v = a.put o.dst v' ∧ R v' w') → ∃ v', a'.put o.dst v = a'.put o.dst v' ∧ R v' w' := fun ⟨v', h1, h2⟩ => ⟨v', put_move hs h1, h2⟩
 refine ⟨fun _ _ => trivial, ?_⟩
 have h2 := h.2
 rw [semAt_plain hp] at h2 ⊢
 rw [he]
 generalize (execOp a.eval o).run P w = x at h2 ⊢
 cases x with
 | halt hh w =>
  cases hh with
  | panic v => exact h2
  | _ => exact h2
 | ok nx w =>
  cases nx with
  | value v => exact key h2
  | skip => exact key h2
  | defer d =>
   obtain ⟨v', h1, _⟩ := h2
   have h3 := congrArg (fun z : Act => z.defers.length) h1
   have h4 : ∀ (b : Act) (x : Option Tmp) (v : Value), (b.put x v).defers = b.defers := fun b x v => by cases x <;> rfl
   simp only [h4, List.length_cons] at h3
   omega
  | enter f args =>
   refine ⟨h2.1, h2.2.1, fun cs hr => ?_⟩
   obtain ⟨e, w', fr, hR, rest⟩ := h2.2.2 cs hr
   refine ⟨e, w', fr, ?_, rest⟩
   cases e with
   | returned v => exact key hR
   | panicked c => exact hR
   | outgrown => exact hR
  | row rw args => exact ⟨h2.1, h2.2.mono fun _ _ => key⟩
  | round l f tmps asg body =>
   refine ⟨h2.1, h2.2.mono fun e w' hR => ?_⟩
   cases e with
   | returned v => exact key hR
   | panicked c => exact hR
   | outgrown => exact hR
  | _ => exact h2
theorem nodup_rev (n : Nat) : ((List.range n).reverse).Nodup := by
 unfold List.Nodup
 rw [List.pairwise_reverse]
 exact List.Pairwise.imp (fun h e => h e.symm) List.nodup_range
def rdsOk (l : List Oper) (i : Nat) : Bool :=
 Op.plain (opAt l i).op && (match (opAt l i).op with | .select _ _ => false | _ => true) &&
 (opAt l i).op.operands.toList.all fun x => match x with
  | .tmp t => (List.range i).all fun j => !(Nat.beq (dsOf l j) t) || (aft (opAt l i)).contains j
  | _ => true
def psA (l : List Oper) (m : Nat) : List (List Nat) := (List.range m).map fun i => (List.range i).filter fun j => (aft (opAt l i)).contains j
def plOk (l : List Oper) (m N : Nat) (ks : List Nat) : Bool := phOk l m N ks (psA l m) && (List.range m).all (rdsOk l)
def PL (P : Program) (r : Option Nat) (M : Nat → Prop) (w0 : World) (H : List Ent) (K : List (Nat × Value) → Prop) : List Oper → List (Nat × Value) → Prop
 | [], L => K L
 | o :: l, L => ∃ v, (∀ w, St M w0 H w → OpR P r o L w (GrowR w (pv v))) ∧ PL P r M w0 H K l ((o.dst.getD 0, v) :: L)
def puts' (l : List Oper) (V : Nat → Value) (a : Act) : Nat → Act
 | 0 => a
 | i + 1 => (puts' l V a i).put (some (dsOf l i)) (V i)
def chL (l : List Oper) (V : Nat → Value) (L : List (Nat × Value)) : Nat → List (Nat × Value)
 | 0 => L
 | i + 1 => (dsOf l i, V i) :: chL l V L i
theorem chL_eq {V : Nat → Value} : ∀ n, chL l V L n = ((List.range n).reverse.map fun i => (dsOf l i, V i)) ++ L
 | 0 => rfl
 | n + 1 => by rw [chL, chL_eq n, List.range_succ, List.reverse_append]; rfl
theorem chL_congr {V V' : Nat → Value} : ∀ n, (∀ i, i < n → V i = V' i) → chL l V L n = chL l V' L n
 | 0, _ => rfl
 | n + 1, h => by rw [chL, chL, h n (by omega), chL_congr n fun i hi => h i (by omega)]
theorem puts_fr {V : Nat → Value} (h : Fr N L df a) : ∀ n, (∀ i, i < n → dsOf l i < N) → Fr N (chL l V L n) df (puts' l V a n)
 | 0, _ => h
 | n + 1, hd => (puts_fr h n fun i hi => hd i (by omega)).put (hd n (by omega)) _
theorem puts_eval {V : Nat → Value} {x : Operand} : ∀ n, (∀ i, i < n → x ≠ .tmp (dsOf l i)) → (puts' l V a n).eval x = a.eval x
 | 0, _ => rfl
 | n + 1, h => by
  rw [puts', Act.eval_put fun d hd => by cases hd; exact h n (by omega)]
  exact puts_eval n fun i hi => h i (by omega)
theorem PL.vals {Kp : List (Nat × Value) → Prop} : ∀ {l' : List Oper} {k : Nat} {V0 : Nat → Value}, (∀ i, l'[i]? = (l.drop k)[i]? ∨ l'.length ≤ i) → (∀ o ∈ l', o.dst.isSome = true) → PL P r M w0 H Kp l' (chL l V0 L k) →
  ∃ V : Nat → Value, (∀ i, i < k → V i = V0 i) ∧ (∀ i, k ≤ i → i < k + l'.length → ∀ w, St M w0 H w → OpR P r (opAt l i) (chL l V L i) w (GrowR w (pv (V i)))) ∧ Kp (chL l V L (k + l'.length))
 | [], k, V0, _, _, h => ⟨V0, fun _ _ => rfl, fun i h1 h2 => by simp at h2; omega, h⟩
 | o :: l', k, V0, hl, hd, h => by
  obtain ⟨v, h1, h2⟩ := h
  have ho : l[k]? = some o := by
   have := (hl 0).resolve_right (by simp)
   simpa using this.symm
  have hds : o.dst.getD 0 = dsOf l k := by rw [dsOf, ho]; rfl
  have hop : opAt l k = o := by rw [opAt, ho]; rfl
  have e0 : chL l (fun i => if i = k then v else V0 i) L k = chL l V0 L k := chL_congr k fun i hi => if_neg (by omega)
  have e1 : chL l (fun i => if i = k then v else V0 i) L (k + 1) = (o.dst.getD 0, v) :: chL l V0 L k := by rw [chL, e0, hds, if_pos rfl]
  obtain ⟨V, g1, g2, g3⟩ := PL.vals (l' := l') (k := k + 1) (V0 := fun i => if i = k then v else V0 i) (fun i => by
   have := hl (i + 1)
   simpa [Nat.add_assoc, Nat.add_comm 1 i] using this) (fun z hz => hd z (List.mem_cons_of_mem _ hz)) (by rw [e1]; exact h2)
  have gk : V k = v := by rw [g1 k (by omega), if_pos rfl]
  refine ⟨V, fun i hi => by rw [g1 i (by omega), if_neg (by omega)], fun i hi1 hi2 => ?_, ?_⟩
  ·rcases Nat.eq_or_lt_of_le hi1 with e | hlt
   ·subst e
    rw [hop, gk, chL_congr (V' := V0) k fun i hi => by rw [g1 i (by omega), if_neg (by omega)]]
    exact h1
   ·exact g2 i hlt (by simp only [List.length_cons] at hi2; omega)
  ·rw [List.length_cons, Nat.add_comm l'.length 1, ← Nat.add_assoc]; exact g3
theorem dr_pl (m : Nat) (hfr : Fr N L df a) (hst : St M w0 H w)
  (h : PL P r M w0 H (fun L' => ∀ a w, Fr N L' df a → St M w0 H w → WL P r l.toArray K (l.drop m) a w) (l.take m) L) (hmix : P.follows .mixedOrders = true := by kernel_rfl) (hok : plOk l m N (keys L) = true := by kernel_rfl) : DR P r l.toArray K a w := by
 simp only [plOk, Bool.and_eq_true] at hok
 obtain ⟨hok, hrd⟩ := hok
 have hok' := hok
 simp only [phOk, Bool.and_eq_true, List.all_eq_true, decide_eq_true_eq, List.mem_range, Bool.or_eq_true, Bool.not_eq_true', List.contains_eq_mem, decide_eq_false_iff_not] at hok'
 obtain ⟨⟨⟨⟨hwf, hph⟩, hnd⟩, hml⟩, _⟩ := hok'
 have hlen : (l.take m).length = m := by rw [List.length_take]; omega
 have hdN : ∀ i, i < m → dsOf l i < N := fun i hi => (hph i hi).1.1.1.2
 obtain ⟨V, _, g2, g3⟩ := PL.vals (l := l) (L := L) (l' := l.take m) (k := 0) (V0 := fun _ => undef) (fun i => by
  rcases Nat.lt_or_ge i m with hi | hi
  ·left; rw [List.getElem?_take, if_pos hi, List.drop_zero]
  ·right; omega) (fun o ho => by
  obtain ⟨i, hi, rfl⟩ := List.getElem_of_mem ho
  have hi' : i < m := by omega
  have := (hph i hi').1.1.1.1.1
  have e : opAt l i = (l.take m)[i] := by rw [opAt, List.getElem_take, List.getElem?_eq_getElem (by omega)]; rfl
  rw [← e]; exact this) h
 rw [hlen, Nat.zero_add] at g2 g3
 have hinj : ∀ {i j : Nat}, i < m → j < m → dsOf l i = dsOf l j → i = j := fun hi hj e => nodup_map_inj hnd hi hj e
 refine wc_phases m (psA l m) hmix hok (fun i => pv (V i)) hfr hst ?_ ?_
 ·intro i hi V' E w hR hs
  have hps : (psA l m).getD i [] = (List.range i).filter fun j => (aft (opAt l i)).contains j := by
   rw [psA, List.getD_eq_getElem?_getD, List.getElem?_map, List.getElem?_range hi]; rfl
  rw [hps] at hR hs ⊢
  have hE : ((List.range i).filter fun j => (aft (opAt l i)).contains j).flatMap E = [] := List.flatMap_eq_nil_iff.2 fun p hp => (hR p hp).2
  rw [hE] at hs
  rw [List.map_congr_left (g := fun p => (dsOf l p, V p)) fun p hp => by rw [(hR p hp).1]]
  have hr := List.all_eq_true.1 hrd i (List.mem_range.2 hi)
  simp only [rdsOk, Bool.and_eq_true, List.all_eq_true] at hr
  obtain ⟨⟨hp, hsel⟩, hr⟩ := hr
  intro N' df' b hb
  have g := g2 i (Nat.zero_le _) hi w hs
  have hsub : Fr N' L df' b := hb.weaken fun t v ht => by
   have hn : lk (((List.range i).filter fun j => (aft (opAt l i)).contains j).map fun p => (dsOf l p, V p)) t = none := by
    refine lk_map_none fun j hj e => ?_
    have hjm : j < m := Nat.lt_trans (List.mem_range.1 (List.mem_filter.1 hj).1) hi
    exact (hph j hjm).1.1.2 (e ▸ lk_some_key ht)
   rw [lk_append_none hn]; exact ht
  have hx : ∀ t, (b.tmps ++ Array.replicate N undef).getD t undef = b.tmps.getD t undef := fun t => by
   rw [Array.getD_eq_getD_getElem?, Array.getD_eq_getD_getElem?]
   by_cases hlt : t < b.tmps.size
   ·rw [Array.getElem?_append_left hlt]
   ·rw [Array.getElem?_append_right (by omega), Array.getElem?_eq_none (xs := b.tmps) (by omega)]
    by_cases h2 : t - b.tmps.size < N
    ·rw [Array.getElem?_replicate, if_pos h2]; rfl
    ·rw [Array.getElem?_replicate, if_neg h2]
  have hb0 : Fr (N' + N) L df' { b with tmps := b.tmps ++ Array.replicate N undef } := ⟨by simp [hsub.size], fun t v ht => by rw [hx]; exact hsub.get t v ht, hsub.dfs⟩
  have hb1 := puts_fr (l := l) (V := V) hb0 i fun j hj => by have := hdN j (by omega); omega
  have hlk : ∀ j, j < i → lk (chL l V L i) (dsOf l j) = some (V j) := fun j hj => by
   rw [chL_eq]
   exact lk_append_some (lk_map (nodup_map_of hnd (nodup_rev _) fun q hq => by have := List.mem_range.1 (List.mem_reverse.1 hq); omega) (List.mem_reverse.2 (List.mem_range.2 hj)))
  refine opk_move hp (execOp_congr _ (fun cs bb e => by rw [e] at hsel; cases hsel) fun x hxo => ?_) (by rw [hb1.size, hsub.size]; omega) (g _ _ _ hb1)
  have hx2 := hr x (Array.mem_toList_iff.2 hxo)
  match x, hx2 with
  | .tmp t, hx2 =>
   by_cases hj : ∃ j, j < i ∧ dsOf l j = t
   ·obtain ⟨j, hj, rfl⟩ := hj
    have hc : (aft (opAt l i)).contains j = true := by
     have := List.all_eq_true.1 hx2 j (List.mem_range.2 hj)
     rw [Nat.beq_refl] at this
     simpa using this
    rw [hb1.eval (x := .tmp (dsOf l j)) (hlk j hj)]
    refine hb.eval (x := .tmp (dsOf l j)) (lk_append_some (lk_map (nodup_map_of hnd ((List.nodup_range).filter _) fun q hq => by have := List.mem_range.1 (List.mem_filter.1 hq).1; omega) (List.mem_filter.2 ⟨List.mem_range.2 hj, hc⟩)))
   ·rw [puts_eval i fun j hj' e => hj ⟨j, hj', by injection e with e; exact e.symm⟩]
    exact (hx t).symm
  | .const v, _ => rfl
  | .global v, _ => rfl
  | .func v, _ => rfl
 ·intro V' E a w hR hf hs
  have h2 : (List.range m).flatMap E = [] := List.flatMap_eq_nil_iff.2 fun p hp => (hR p (List.mem_range.1 hp)).2
  rw [h2] at hs
  refine g3 a w (hf.weaken fun t v ht => ?_) hs
  rw [chL_eq] at ht
  have e : ∀ {D : List Nat}, (∀ i, i ∈ D ↔ i < m) → D.Nodup → lk (D.map fun i => (dsOf l i, V i)) t = lk ((List.range m).map fun i => (dsOf l i, V i)) t := fun {D} hD hDn => by
   by_cases hj : ∃ j, j < m ∧ dsOf l j = t
   ·obtain ⟨j, hj, rfl⟩ := hj
    rw [lk_map (nodup_map_of hnd hDn fun q hq => (hD q).1 hq) ((hD j).2 hj), lk_map hnd (List.mem_range.2 hj)]
   ·rw [lk_map_none fun j hj' e => hj ⟨j, (hD j).1 hj', e⟩, lk_map_none fun j hj' e => hj ⟨j, List.mem_range.1 hj', e⟩]
  have e1 := e (D := (List.range m).reverse) (fun i => by rw [List.mem_reverse, List.mem_range]) (nodup_rev _)
  rw [List.map_congr_left (g := fun i => (dsOf l i, V i)) fun p hp => by rw [(hR p (List.mem_range.1 hp)).1]]
  cases hc : lk ((List.range m).map fun i => (dsOf l i, V i)) t with
  | some u => rw [lk_append_some hc]; rw [lk_append_some (e1.trans hc)] at ht; exact ht
  | none => rw [lk_append_none hc]; rw [lk_append_none (e1.trans hc)] at ht; exact ht
section
variable {Kp : List (Nat × Value) → Prop} {d : Nat} {op : Op} {ty : TypeId} {pos : String} {af : Array Edge} {gd : Option (Nat × Bool)} {v : Value} {x : Operand}
theorem pl_r (h : ∀ {w}, St M w0 H w → OpR P r ⟨some d, op, ty, pos, af, gd⟩ L w (GrowR w (pv v))) (k : PL P r M w0 H Kp l ((d, v) :: L)) : PL P r M w0 H Kp (⟨some d, op, ty, pos, af, gd⟩ :: l) L := ⟨v, fun _ => h, k⟩
theorem pl_w (h : ∀ {w}, St M w0 H w → OpV P ⟨some d, op, ty, pos, af, gd⟩ L w v) (k : PL P r M w0 H Kp l ((d, v) :: L)) : PL P r M w0 H Kp (⟨some d, op, ty, pos, af, gd⟩ :: l) L := pl_r (fun hs => (h hs).g) k
theorem pl_v (h : ∀ {w}, OpV P ⟨some d, op, ty, pos, af, gd⟩ L w v) (k : PL P r M w0 H Kp l ((d, v) :: L)) : PL P r M w0 H Kp (⟨some d, op, ty, pos, af, gd⟩ :: l) L := pl_w (fun _ => h) k
theorem pl_m (hx : ev L x = some v) (k : PL P r M w0 H Kp l ((d, v) :: L)) : PL P r M w0 H Kp (⟨some d, .move x, ty, pos, af, gd⟩ :: l) L := pl_v (v_move hx) k
end
end
end Go.PW
namespace Go.PW
open Go.RowKit
set_option linter.unusedVariables false
set_option linter.unusedSimpArgs false
def wv (x : BitVec 32) : Value := .int .u32 (x.toNat : Int)
def yv (b : UInt8) : Value := .int .u8 (b.toNat : Int)
section ops
variable {P : Program} {w : World} {L : List (Nat × Value)} {dst : Option Tmp} {T T' ty : TypeId} {pos : String} {af : Array Edge} {gd : Option (Nat × Bool)} {x y : Operand} {a b : BitVec 32}
end ops
end Go.PW
namespace Go.PW
open Go.RowKit
set_option linter.unusedVariables false
set_option linter.unusedSimpArgs false
section
variable {P : Program} {w0 w : World} {M : Nat → Prop} {H : List Ent} {N : Nat} {df : List Deferred} {L : List (Nat × Value)} {a : Act} {r : Option Nat} {ops : Array Oper} {K : Act → World → Prop} {rest : List Oper} {d : Nat} {dst : Option Tmp} {ty T T' E : TypeId} {pos : String} {af : Array Edge} {gd : Option (Nat × Bool)} {x y : Operand} {v u : Value}
def evo (L : List (Nat × Value)) : Option Operand → Option (Option Value)
 | none => some none
 | some x => (ev L x).map some
theorem Fr.evalo {lo : Option Operand} {l : Option Value} (h : Fr N L df a) (hl : evo L lo = some l) : lo.map a.eval = l := by
 cases lo with
 | none => simp [evo] at hl; simp [hl]
 | some x =>
  simp only [evo, Option.map_eq_some_iff] at hl
  obtain ⟨v, hv, rfl⟩ := hl
  simp [h.eval hv]
theorem v_slice {lo hi mx : Option Operand} {l h m : Option Value} (hx : ev L x = some u) (hl : evo L lo = some l) (hh : evo L hi = some h) (hm : evo L mx = some m) (hr : (Instr.sliceAt T u l h m).run P w = .ok v w) :
  OpV P ⟨dst, .slice T x lo hi mx, ty, pos, af, gd⟩ L w v :=
 ⟨rfl, fun N df a hf => by simp only [execOp, hf.eval hx, hf.evalo hl, hf.evalo hh, hf.evalo hm, Sem.run_bind, hr, Result.andThen_ok]; rfl⟩
def sv (xs : List UInt8) : Value := .string ⟨xs.toArray⟩
end
end Go.PW
namespace Go.PW
open Go.RowKit
set_option linter.unusedVariables false
set_option linter.unusedSimpArgs false
def cut (v : Value) (sz l h m : Nat) : Value :=
 match v with
 | .slice a n c => .slice (if m = l then a else a.map (·.add (l * sz))) (h - l) (m - l)
 | v => v
def slCap : Value → Nat
 | .slice _ _ c => c
 | _ => 0
def Shp (v : Value) (n : Nat) : Prop := ∃ a c, v = .slice a n c ∧ n ≤ c
section
variable {P : Program} {w0 w : World} {M : Nat → Prop} {H : List Ent} {N : Nat} {df : List Deferred} {L : List (Nat × Value)} {a : Act} {r : Option Nat} {ops : Array Oper} {K : Act → World → Prop} {rest : List Oper} {d : Nat} {dst : Option Tmp} {ty T T' E : TypeId} {pos : String} {af : Array Edge} {gd : Option (Nat × Bool)} {x y : Operand} {v u : Value} {sz : Nat} {els : List (List Value)}
theorem SlAt.shp (h : SlAt w v sz els) : Shp v els.length := by
 rcases h.2.2 with ⟨rfl, rfl⟩ | ⟨b, off, cap, rfl, hc, _⟩
 ·exact ⟨none, 0, rfl, Nat.le_refl _⟩
 ·exact ⟨_, _, rfl, hc⟩
theorem Shp.cap {n : Nat} (h : Shp v n) : n ≤ slCap v := by
 obtain ⟨a, c, rfl, hc⟩ := h; exact hc
theorem Shp.cut {n l h m : Nat} (hs : Shp v n) (hhm : h ≤ m) : Shp (cut v sz l h m) (h - l) := by
 obtain ⟨a, c, rfl, hc⟩ := hs; exact ⟨_, _, rfl, by omega⟩
theorem run_slice_s {n l h m : Nat} {lo hi mx : Option Value} (hs : Shp v n) (hu : P.underlying T = some (.slice E)) (hsz : (P.info? E).map (·.size) = some sz)
  (hlo : lo = none ∧ l = 0 ∨ lo = some (.int .i64 (l : Int))) (hhi : (hi = none ∧ mx = none ∧ h = n) ∨ hi = some (.int .i64 (h : Int))) (hmx : mx = none ∧ m = slCap v ∨ mx = some (.int .i64 (m : Int))) (hlh : l ≤ h) (hhm : h ≤ m) (hmc : m ≤ slCap v) :
  (Instr.sliceAt T v lo hi mx).run P w = .ok (cut v sz l h m) w := by
 obtain ⟨a, c, rfl, hc⟩ := hs
 cases hq : P.info? E with
 | none => simp [hq] at hsz
 | some i =>
  have hi1 : i.size = sz := by simpa [hq] using hsz
  simp only [slCap] at hmx hmc
  have hl2 : (l : Int) ≤ (h : Int) := by omega
  have hh2 : (h : Int) ≤ (m : Int) := by omega
  have hm2 : (m : Int) ≤ (c : Int) := by omega
  rcases hlo with ⟨rfl, rfl⟩ | rfl <;> rcases hhi with ⟨rfl, rfl, rfl⟩ | rfl <;> rcases hmx with ⟨hz, rfl⟩ | hz <;> cases hz <;>
   simp [Instr.sliceAt, Instr.slice, run_underlying hu, Instr.sliceBounds, Instr.sliceBound, asIntOf, sizeOf, typeInfo, hq, hi1, hlh, hhm, hmc, cut]
theorem v_slice_s {n l h m : Nat} {lo hi mx : Option Operand} {lv hv mv : Option Value} (hs : Shp v n) (hx : ev L x = some v) (e1 : evo L lo = some lv) (e2 : evo L hi = some hv) (e3 : evo L mx = some mv) (hu : P.underlying T = some (.slice E)) (hsz : (P.info? E).map (·.size) = some sz)
  (hlo : lv = none ∧ l = 0 ∨ lv = some (.int .i64 (l : Int))) (hhi : (hv = none ∧ mv = none ∧ h = n) ∨ hv = some (.int .i64 (h : Int))) (hmx : mv = none ∧ m = slCap v ∨ mv = some (.int .i64 (m : Int))) (hlh : l ≤ h) (hhm : h ≤ m) (hmc : m ≤ slCap v) :
  OpV P ⟨dst, .slice T x lo hi mx, ty, pos, af, gd⟩ L w (cut v sz l h m) :=
 v_slice hx e1 e2 e3 (run_slice_s hs hu hsz hlo hhi hmx hlh hhm hmc)
theorem flat_drop {els : List (List Value)} (h1 : ∀ e ∈ els, e.length = sz) : ∀ l, els.flatten.drop (l * sz) = (els.drop l).flatten := by
 induction els with
 | nil => intro l; simp
 | cons e els ih =>
  intro l
  cases l with
  | zero => simp
  | succ l =>
   have he := h1 e (by simp)
   rw [List.flatten_cons, List.drop_succ_cons, ← ih (fun x hx => h1 x (by simp [hx])), Nat.succ_mul, List.drop_append, List.drop_eq_nil_of_le (by omega), List.nil_append]
   congr 1; omega
theorem flat_take {els : List (List Value)} (h1 : ∀ e ∈ els, e.length = sz) : ∀ l, els.flatten.take (l * sz) = (els.take l).flatten := by
 induction els with
 | nil => intro l; simp
 | cons e els ih =>
  intro l
  cases l with
  | zero => simp
  | succ l =>
   have he := h1 e (by simp)
   rw [List.flatten_cons, List.take_succ_cons, List.flatten_cons, ← ih (fun x hx => h1 x (by simp [hx])), Nat.succ_mul, List.take_append, List.take_of_length_le (by omega)]
   congr 2; omega
theorem SlAt.cut {l h m : Nat} (hv : SlAt w v sz els) (hlh : l ≤ h) (hh : h ≤ els.length) (hhm : h ≤ m) (hmc : m ≤ slCap v) : SlAt w (PW.cut v sz l h m) sz ((els.drop l).take (h - l)) := by
 obtain ⟨h1, h2, h3⟩ := hv
 have hlen : ((els.drop l).take (h - l)).length = h - l := by simp; omega
 refine ⟨fun e he => h1 e (List.mem_of_mem_drop (List.mem_of_mem_take he)), by omega, ?_⟩
 rcases h3 with ⟨rfl, rfl⟩ | ⟨b, off, cap, rfl, hc, hb, hcells⟩
 ·have : h = 0 := by simpa using hh
  subst this
  have : l = 0 := by omega
  subst this
  have : m = 0 := by simpa [slCap] using hmc
  subst this; exact .inl ⟨rfl, by simp⟩
 ·right
  by_cases hm : m = l
  ·have : h - l = 0 := by omega
   refine ⟨b, off, m - l, by simp [PW.cut, hm, hlen, this], by omega, hb, ?_⟩
   rw [List.eq_nil_of_length_eq_zero (hlen.trans this)]
   intro j u hj; simp at hj
  ·refine ⟨b, off + l * sz, m - l, by simp [PW.cut, hm, hlen, addr_add], by omega, hb, hcells.sub (n := (h - l) * sz) ?_⟩
   rw [flat_drop h1, flat_take fun e he => h1 e (List.mem_of_mem_drop he)]
theorem Ext.const {b : Nat} {cs : List Value} {E : TypeId} (h : Ext (· = b) w0 w) (h1 : (blk b cs E).ok w0) (h2 : (blk b cs E).ok w) : Ext No w0 w :=
 ⟨h.os, h.tape, h.output, h.size, fun k hk _ => by
  by_cases hb : k = b
  ·subst hb; exact (h2 : w.heap[k]? = _).trans (h1 : w0.heap[k]? = _).symm
  ·exact h.same k hk hb⟩
end
end Go.PW
namespace Go.PW
open Go.RowKit
set_option linter.unusedVariables false
set_option linter.unusedSimpArgs false
section
variable {w0 w : World} {M : Nat → Prop} {H : List Ent} {E : TypeId} {v : Value} {sz : Nat} {els : List (List Value)}
theorem own_take {k : Nat} (h : (own v E sz els).ok w) (hk : k ≤ els.length) : (own (cut v sz 0 k (slCap v)) E sz (els.take k)).ok w ∧ ∀ j, (own (cut v sz 0 k (slCap v)) E sz (els.take k)).foot j → (own v E sz els).foot j := by
 obtain ⟨h1, h2, h3, h4⟩ := h
 have hl : (els.take k).length = k := by rw [List.length_take]; omega
 have hfl : (els.take k).flatten.length = k * sz := by rw [flat_len fun e he => h1 e (List.mem_of_mem_take he), hl]
 rcases h4 with ⟨rfl, h0⟩ | ⟨g, cap, cur, fz, rfl, hg, hfz, hnc, hcm, hcs, htk⟩
 ·obtain rfl : els = [] := List.eq_nil_of_length_eq_zero h0
  obtain rfl : k = 0 := by simpa using hk
  exact ⟨⟨by simp, by simp, by simp, .inl ⟨by simp [cut, slCap], by simp⟩⟩, fun j hj => by simp [own, cut, slCap, Value.ownBlock] at hj⟩
 ·have hv : cut (.slice (some ⟨g, 0, none⟩) els.length cap) sz 0 k (slCap (.slice (some ⟨g, 0, none⟩) els.length cap)) = .slice (some ⟨g, 0, none⟩) k cap := by
   simp only [cut, slCap, Nat.zero_mul, Nat.sub_zero, Option.map_some]
   split
   ·rfl
   ·rw [addr_add]
  refine ⟨⟨fun e he => h1 e (List.mem_of_mem_take he), by omega, by rw [hfl, hl], .inr ⟨g, cap, cur, fz, by rw [hv, hl], hg, hfz, by omega, hcm, hcs, ?_⟩⟩, fun j hj => by rw [hv] at hj; exact hj⟩
  rw [hl, ← flat_take h1, ← htk, List.take_take, Nat.min_eq_left (Nat.mul_le_mul_right sz hk)]
theorem St.take {i k : Nat} (hst : St M w0 H w) (hi : H[i]? = some (own v E sz els)) (hk : k ≤ els.length) : St M w0 (H.set i (own (cut v sz 0 k (slCap v)) E sz (els.take k))) w :=
 hst.exchange hi (Ext.refl _ _) (own_take (hst.get hi) hk).1 fun j hj => ⟨hst.lt hi ((own_take (hst.get hi) hk).2 j hj), .inl ((own_take (hst.get hi) hk).2 j hj)⟩
theorem SlAt.cutd {α : Type} {xs : List α} {f : α → List Value} {l : Nat} (hs : SlAt w v sz (xs.map f)) (hl : l ≤ xs.length) : SlAt w (PW.cut v sz l xs.length (slCap v)) sz ((xs.drop l).map f) := by
 have := hs.cut (l := l) (h := xs.length) (m := slCap v) hl (by simp) (by have := hs.shp.cap; simpa using this) (Nat.le_refl _)
 rw [← List.map_drop, ← List.map_take] at this
 rwa [List.take_of_length_le (by simp)] at this
theorem v_slice_at {P : Program} {L : List (Nat × Value)} {dst : Option Tmp} {T ty eT : TypeId} {pos : String} {af : Array Edge} {gd : Option (Nat × Bool)} {x : Operand} {lo hi : Option Operand} {lv hv : Option Value} {l h : Nat} (hs : SlAt w v sz els) (hx : ev L x = some v) (e1 : evo L lo = some lv) (e2 : evo L hi = some hv) (hu : P.underlying T = some (.slice eT)) (hsz : (P.info? eT).map (·.size) = some sz)
  (hlo : lv = none ∧ l = 0 ∨ lv = some (.int .i64 (l : Int))) (hhi : hv = none ∧ h = els.length ∨ hv = some (.int .i64 (h : Int))) (hlh : l ≤ h) (hh : h ≤ els.length) :
  OpV P ⟨dst, .slice T x lo hi none, ty, pos, af, gd⟩ L w (cut v sz l h (slCap v)) :=
 v_slice_s hs.shp hx e1 e2 rfl hu hsz hlo (hhi.elim (fun ⟨a, b⟩ => .inl ⟨a, rfl, b⟩) .inr) (.inl ⟨rfl, rfl⟩) hlh (Nat.le_trans hh hs.shp.cap) (Nat.le_refl _)
end
end Go.PW
namespace Go.PW
open Go.RowKit
set_option linter.unusedVariables false
set_option linter.unusedSimpArgs false
end Go.PW
namespace Go.PW
open Go.RowKit
set_option linter.unusedVariables false
set_option linter.unusedSimpArgs false
section
variable {P : Program} {w : World} {e : TypeId} {v u : Value} {n : Nat} {xs : List Value}
theorem run_append_zero (t ty e : TypeId) (i : TypeInfo) (ht : P.underlying t = some (.slice e)) (hi : P.info? e = some i) (hown : ownsG w e i.size v n xs) (hu : u = .slice none 0 0 ∨ ∃ a c, u = .slice (some a) 0 c) :
  (Builtin.append_ #[t, t] ty #[v, u]).run P w = .ok v w := by
 have hf : (Builtin.firstCells i.size 0 u).run P w = .ok #[] w := by
  rcases hu with rfl | ⟨a, c, rfl⟩
  ·rfl
  ·simp [Builtin.firstCells, loadCells, loadCellsFrom]
 have hl : (Builtin.lenOf u).run P w = .ok 0 w := by
  rcases hu with rfl | ⟨a, c, rfl⟩ <;> rfl
 rcases hown.2 with ⟨rfl, rfl⟩ | ⟨g, cap, cur, fz, rfl, hg, hfz, hnc, hcm, hcs, htake⟩
 ·simp [Builtin.append_, run_underlying ht, sizeOf, typeInfo, hi, hl, hf]
 ·simp [Builtin.append_, run_underlying ht, sizeOf, typeInfo, hi, hl, hf, hnc, storeCells]
end
section
variable {P : Program} {r : Option Nat} {ops : Array Oper} {K : Act → World → Prop} {rest : List Oper} {a : Act} {w w' w0 : World} {M : Nat → Prop} {H : List Ent}
variable {N : Nat} {L : List (Nat × Value)} {df : List Deferred} {d : Nat} {ty : TypeId} {pos : String} {af : Array Edge} {E T : TypeId} {sz : Nat} {v u : Value} {els els' : List (List Value)} {x y : Operand}
theorem r_append_any {sT : TypeId} {inf : TypeInfo} {z : Value} (hok : (own v E sz els).ok w) (hx : ev L x = some v) (hy : ev L y = some u) (hu : SlAt w u sz els')
  (ht : P.underlying sT = some (.slice E)) (hinf : P.info? E = some inf) (hz : inf.zero = some z) (hsize : inf.size = sz) (hzs : z.cells.size = sz) (hsz : 0 < sz) (hone : ∀ e ∈ els', ∀ u ∈ e, u.oneCell' = true)
  (hbytes : (els.length + els'.length) * inf.bytes ≤ 140737488355328) (hbig : els.length + els'.length ≤ big) {dst : Option Tmp} {gd : Option (Nat × Bool)} :
  OpR P r ⟨dst, .call { callee := .builtin .append, args := #[x, y], argTypes := #[sT, sT] }, ty, pos, af, gd⟩ L w fun v' w' =>
   Ext (own v E sz els).foot w w' ∧ (own v' E sz (els ++ els')).ok w' ∧ (∀ g, (own v' E sz (els ++ els')).foot g → g < w'.heap.size ∧ ((own v E sz els).foot g ∨ w.heap.size ≤ g)) := by
 by_cases hne : els' = []
 ·subst hne
  obtain ⟨h1, h2, h3⟩ := hok
  have hu' : u = .slice none 0 0 ∨ ∃ a c, u = .slice (some a) 0 c := by
   rcases hu.2.2 with ⟨h, _⟩ | ⟨b, off, cap, h, _⟩
   ·exact .inl h
   ·exact .inr ⟨_, _, h⟩
  have hr := run_append_zero (P := P) sT ty E inf ht hinf (by rw [hsize]; exact h3) hu'
  intro N df a hfr
  refine opk_value rfl (v := v) (w' := w) ?_ ⟨v, rfl, Ext.refl _ _, by rw [List.append_nil]; exact ⟨h1, h2, h3⟩, fun g hg => ?_⟩
  ·simp only [execOp, resolve, invoke, builtin, Sem.run_bind, Sem.run_pure, Result.andThen_ok, List.map_toArray, List.map_cons, List.map_nil, hfr.eval hx, hfr.eval hy, hr]
  ·exact ⟨h3.lt g hg, .inl hg⟩
 ·intro N df a hfr
  exact OpK.mono (r_append hok hx hy hu hne ht hinf hz hsize hzs hsz hone hbytes hbig N df a hfr) fun a w ⟨v, h1, h2, h3, h4, _⟩ => ⟨v, h1, h2, h3, h4⟩
end
end Go.PW
namespace Go.Proofs.Ytnfnkohkcmkddaa
theorem el_at {α : Type} {f : α → List Value} {l : List α} {i : Nat} (d : α) {h : i < (l.map f).length} : (l.map f)[i] = f (l.getD i d) := by
 have h' : i < l.length := by simpa using h
 rw [List.getElem_map, List.getD_eq_getElem?_getD, List.getElem?_eq_getElem h']; rfl
end Go.Proofs.Ytnfnkohkcmkddaa
namespace Go.PW
open Go.RowKit
set_option linter.unusedVariables false
set_option linter.unusedSimpArgs false
theorem splice_left {A B us : List Value} {o : Nat} (h : o + us.length ≤ A.length) : splice (A ++ B) o us = splice A o us ++ B := by
 unfold splice
 rw [List.take_append_of_le_length (by omega), List.drop_append_of_le_length (by omega)]
 simp
theorem splice_right {A B us : List Value} {o : Nat} : splice (A ++ B) (A.length + o) us = A ++ splice B o us := by
 unfold splice
 rw [List.take_length_add_append, Nat.add_assoc, ← List.drop_drop, List.drop_left]
 simp
theorem splice_len {A us : List Value} {o : Nat} (h : o + us.length ≤ A.length) : (splice A o us).length = A.length := by
 unfold splice
 simp only [List.length_append, List.length_take, List.length_drop]
 omega
theorem flat_splice {sz j : Nat} {us : List Value} : ∀ {els : List (List Value)} {k : Nat} (h1 : ∀ e ∈ els, e.length = sz) (hk : k < els.length) (hj : j + us.length ≤ sz),
  splice els.flatten (k * sz + j) us = (els.set k (splice els[k] j us)).flatten
 | [], k, h1, hk, hj => by simp at hk
 | e :: els, 0, h1, hk, hj => by
  have he := h1 e (by simp)
  simp only [List.flatten_cons, Nat.zero_mul, Nat.zero_add, List.set_cons_zero, List.getElem_cons_zero]
  exact splice_left (by omega)
 | e :: els, k + 1, h1, hk, hj => by
  have he := h1 e (by simp)
  have e1 : (k + 1) * sz + j = e.length + (k * sz + j) := by rw [he, Nat.succ_mul]; omega
  have hk' : k < els.length := by simpa using hk
  rw [e1]
  simp only [List.flatten_cons, List.set_cons_succ, List.getElem_cons_succ]
  rw [splice_right, flat_splice (fun e he => h1 e (by simp [he])) hk' hj]
section
variable {P : Program} {r : Option Nat} {ops : Array Oper} {K : Act → World → Prop} {rest : List Oper} {a : Act} {w w' w0 : World} {M : Nat → Prop} {H : List Ent}
variable {N : Nat} {L : List (Nat × Value)} {df : List Deferred} {ty : TypeId} {pos : String} {af : Array Edge}
variable {v u : Value} {sz : Nat} {els : List (List Value)} {E T : TypeId} {x y : Operand}
theorem run_store_row {g off : Nat} {cur : Array Value} {fz : Nat × Nat} (hg : w.heap[g]? = some (.cells cur E fz)) (hfz : rowFz fz cur.size) (hsz : (sizeOf T).run P w = .ok u.cells.size w) (hone : ∀ x ∈ u.cells.toList, x.oneCell' = true) (hfit : off + u.cells.size ≤ cur.size) :
  (storeVar T ⟨g, off, none⟩ u).run P w = .ok () (w.setRow g (splice cur.toList off u.cells.toList).toArray) := by
 have h := run_storeCells_atG P g off E fz u.cells.toList 0 cur w hg (by rcases hfz with h | h <;> simp <;> omega) (by simpa using hfit) hone
 simp only [storeVar, Sem.run_bind, hsz, Result.andThen_ok]
 simp only [ne_eq, not_true_eq_false, if_false]
 rw [← Array.toArray_toList (xs := u.cells)] at h
 simpa [splice] using h
theorem own_store {k j : Nat} (hk : k < els.length) (ho : (own v E sz els).ok w) (hsz : (sizeOf T).run P w = .ok u.cells.size w) (hone : ∀ x ∈ u.cells.toList, x.oneCell' = true) (hj : j + u.cells.size ≤ sz) :
  ∃ g cap w', v = .slice (some ⟨g, 0, none⟩) els.length cap ∧ (storeVar T ⟨g, 0 + (k * sz + j), none⟩ u).run P w = .ok () w' ∧ Ext (own v E sz els).foot w w' ∧ w'.heap.size = w.heap.size ∧ (own v E sz (els.set k (splice els[k] j u.cells.toList))).ok w' := by
 obtain ⟨h1, h2, h3, h4⟩ := ho
 rcases h4 with ⟨rfl, h0⟩ | ⟨g, cap, cur, fz, rfl, hg, hfz, hnc, hcm, hcs, htk⟩
 ·omega
 ·have hks : (k + 1) * sz ≤ els.length * sz := Nat.mul_le_mul_right _ hk
  have hcc : els.length * sz ≤ cap * sz := Nat.mul_le_mul_right _ hnc
  rw [Nat.succ_mul] at hks
  have hfl : els.flatten.length = els.length * sz := flat_len h1
  have hr := run_store_row (P := P) (T := T) (u := u) (off := k * sz + j) hg (by rw [hcs]; exact hfz) hsz hone (by omega)
  refine ⟨g, cap, w.setRow g (splice cur.toList (k * sz + j) u.cells.toList).toArray, rfl, by rw [Nat.zero_add]; exact hr, ⟨rfl, rfl, rfl, by simp, fun b _ hb => setRow_other w g b _ (fun e => hb (by subst e; rfl))⟩, by simp, ?_, by simpa using h2, ?_, .inr ⟨g, cap, _, fz, by simp, setRow_heap w g cur _ E _ hg, hfz, by simpa using hnc, hcm, ?_, ?_⟩⟩
  ·intro e he
   rcases List.mem_or_eq_of_mem_set he with he | rfl
   ·exact h1 e he
   ·rw [splice_len (by rw [h1 _ (List.getElem_mem hk)]; simpa using hj)]; exact h1 _ (List.getElem_mem hk)
  ·rw [← flat_splice h1 hk (by simpa using hj), splice_len (by rw [hfl]; simp; omega), hfl]; simp
  ·simp only [List.size_toArray]
   rw [splice_len (by simp; omega)]; simpa using hcs
  ·rw [← flat_splice h1 hk (by simpa using hj), ← htk]
   simp only [List.length_set]
   have hl : (cur.toList.take (els.length * sz)).length = els.length * sz := by rw [htk]; exact hfl
   conv => lhs; arg 2; arg 1; rw [← List.take_append_drop (els.length * sz) cur.toList]
   rw [splice_left (by rw [hl]; simp; omega)]
   have hl2 : (splice (cur.toList.take (els.length * sz)) (k * sz + j) u.cells.toList).length = els.length * sz := by rw [splice_len (by rw [hl]; simp; omega), hl]
   exact List.take_left' hl2
theorem wl_store_own {k j q : Nat} {els' : List (List Value)} {H' : List Ent} (i : Nat) (hfr : Fr N L df a) (hst : St M w0 H w) (hx : ev L x = some (slAddr v q)) (hy : ev L y = some u) (hi : H[i]? = some (own v E sz els)) (hk : k < els.length) (hq : q = k * sz + j)
  (hsz : (sizeOf T).run P w = .ok u.cells.size w) (hone : ∀ x ∈ u.cells.toList, x.oneCell' = true) (hj : j + u.cells.size ≤ sz) (hels : els.set k (splice els[k] j u.cells.toList) = els') (hH : H.set i (own v E sz els') = H')
  (kk : ∀ a w', Fr N L df a → St M w0 H' w' → WL P r ops K rest a w') :
  WL P r ops K (⟨none, .store T x y, ty, pos, af, none⟩ :: rest) a w := by
 subst hels; subst hH; subst hq
 obtain ⟨g, cap, w', hv, hr, hext, hsize, hok⟩ := own_store hk (hst.get hi) hsz hone hj
 have hx' : ev L x = some (.pointer (some ⟨g, 0 + (k * sz + j), none⟩)) := by rw [hx, hv]; rfl
 refine wl_r (R := fun _ w2 => w2 = w') ?_ rfl rfl hfr fun a _ w2 hw h => by
  subst hw
  refine kk _ _ h (hst.exchange hi hext hok fun b hb => ?_)
  have hlt := hst.lt hi (b := b) hb
  exact ⟨by rw [hsize]; exact hlt, .inl hb⟩
 intro N df a hfr
 refine opk_skip rfl (w' := w') ?_ ⟨_, rfl, rfl⟩
 simp only [execOp, hfr.eval hx', hfr.eval hy, Instr.storeAt, Instr.sureAddr, Sem.run_bind, Sem.run_pure, Result.andThen_ok, hr]
end
end Go.PW
namespace Go.PW
open Go.RowKit
set_option linter.unusedVariables false
set_option linter.unusedSimpArgs false
section
variable {P : Program} {r : Option Nat} {K : Act → World → Prop} {a : Act} {w w0 : World} {M : Nat → Prop} {H : List Ent}
variable {N : Nat} {L : List (Nat × Value)} {df : List Deferred}
def HopC (P : Program) (r : Option Nat) (M : Nat → Prop) (w0 : World) (pc : Nat) (e0 e1 : Value → Ent) (H : List Ent) (L : List (Nat × Value)) (l : List Oper) (R : Nat → Value → List Ent → Prop) (i : Nat) : List Nat → List (Nat × Value) → List Ent → Value → Prop
 | [], Lv, Es, u => ∀ w, St M w0 (e0 u :: (Es ++ H)) w → OpR P r (opAt l i) (Lv ++ L) w (fun v w' => Ext (e0 u).foot w w' ∧ (e1 v).ok w' ∧ (∀ b, (e1 v).foot b → b < w'.heap.size ∧ ((e0 u).foot b ∨ w.heap.size ≤ b)) ∧ R i v [])
 | p :: ps, Lv, Es, u => ∀ v E, R p v E → HopC P r M w0 pc e0 e1 H L l R i ps (Lv ++ [(dsOf l p, v)]) (Es ++ E) (bif Nat.beq p pc then v else u)
theorem HopC.use {pc : Nat} {e0 e1 : Value → Ent} {l : List Oper} {R : Nat → Value → List Ent → Prop} {i : Nat} {V : Nat → Value} {E : Nat → List Ent} : ∀ {ps : List Nat} {Lv : List (Nat × Value)} {Es : List Ent} {u : Value}, HopC P r M w0 pc e0 e1 H L l R i ps Lv Es u → (∀ p ∈ ps, R p (V p) (E p)) → (pc ∈ ps ∨ u = V pc) →
  ∀ w, St M w0 (e0 (V pc) :: (Es ++ ps.flatMap E ++ H)) w → OpR P r (opAt l i) (Lv ++ ps.map (fun p => (dsOf l p, V p)) ++ L) w (fun v w' => Ext (e0 (V pc)).foot w w' ∧ (e1 v).ok w' ∧ (∀ b, (e1 v).foot b → b < w'.heap.size ∧ ((e0 (V pc)).foot b ∨ w.heap.size ≤ b)) ∧ R i v [])
 | [], Lv, Es, u, h, _, hu, w, hs => by
  rcases hu with hu | hu
  ·cases hu
  ·subst hu; simpa using h w (by simpa using hs)
 | p :: ps, Lv, Es, u, h, hR, hu, w, hs => by
  have h2 : pc ∈ ps ∨ (bif Nat.beq p pc then V p else u) = V pc := by
   by_cases hp : p = pc
   ·subst hp; exact .inr (by simp)
   ·rcases hu with hu | hu
    ·rcases List.mem_cons.1 hu with h3 | h3
     ·exact absurd h3.symm hp
     ·exact .inl h3
    ·have : Nat.beq p pc = false := by cases hb : Nat.beq p pc with | false => rfl | true => exact absurd (Nat.eq_of_beq_eq_true hb) hp
     exact .inr (by rw [this]; exact hu)
  have := HopC.use (h (V p) (E p) (hR p (by simp))) (fun q hq => hR q (by simp [hq])) h2 w (by simpa using hs)
  simpa using this
theorem OpR.to_own {o : Oper} {f : Nat → Value} {e : Value → Ent} {R : Value → List Ent → Prop} (h : OpR P r o L w (GrowR w (pm f (fun b => [e (f b)]) fun _ => True))) (hR : ∀ v, R v []) : OpR P r o L w (fun v w' => Ext (join []).foot w w' ∧ (e v).ok w' ∧ (∀ b, (e v).foot b → b < w'.heap.size ∧ ((join []).foot b ∨ w.heap.size ≤ b)) ∧ R v []) :=
 OpR.mono h fun v w' ⟨hx, E, ⟨x, hv, _, hE⟩, hin⟩ => by
  subst hv; subst hE
  exact ⟨hx.mono fun _ _ h => h.elim, (hin.1 _ (List.mem_singleton.2 rfl)).1, fun b hb => ⟨((hin.1 _ (List.mem_singleton.2 rfl)).2 b hb).2, .inr ((hin.1 _ (List.mem_singleton.2 rfl)).2 b hb).1⟩, hR _⟩
theorem St.hollow (h : St M w0 H w) : St M w0 (PW.join [] :: H) w := St.join [] H h
theorem wc_phases_chain {l : List Oper} (q0 q1 q2 : Nat) (e1 e2 e3 : Value → Ent) (m : Nat) (ps : List (List Nat)) (R : Nat → Value → List Ent → Prop) (hfr : Fr N L df a) (hst : St M w0 H w)
  (hmix : P.follows .mixedOrders = true) (hok : phOkM l m N (keys L) ps = true) (hds : ((List.range m).all fun i => (opAt l i).dst.isSome) = true) (hqm : q0 < m ∧ q1 < m ∧ q2 < m) (hne : q0 ≠ q1 ∧ q0 ≠ q2 ∧ q1 ≠ q2) (h01 : q0 ∈ ps.getD q1 []) (h12 : q1 ∈ ps.getD q2 []) (hRm : ∀ i v E, R i v E → i < m)
  (hop : ∀ i, i < m → i ≠ q0 → i ≠ q1 → i ≠ q2 → ∀ e, Hop P r M w0 (e :: H) L l R i (ps.getD i []) [] [])
  (hq0 : HopQ P r M w0 (join []) e1 H L l R q0 (ps.getD q0 []) [] [])
  (hq1 : HopC P r M w0 q0 e1 e2 H L l R q1 (ps.getD q1 []) [] [] undef)
  (hq2 : HopC P r M w0 q1 e2 e3 H L l R q2 (ps.getD q2 []) [] [] undef)
  (hk : ∀ vq, HopK P r M w0 (e3 vq :: H) N L df l m (fun i v E => R i v E ∧ (i = q2 → v = vq)) K (List.range m) [] []) : DR P r l.toArray K a w := by
 obtain ⟨hn1, hn2, hn3⟩ := hne
 obtain ⟨hm0, hm1, hm2⟩ := hqm
 have hsome : ∀ i, i < m → (opAt l i).dst.isSome = true := fun i hi => List.all_eq_true.1 hds i (List.mem_range.2 hi)
 have hpsm : ∀ i, i < m → ∀ p ∈ ps.getD i [], p < m := by
  intro i hi p hp
  have hok2 := hok
  simp only [phOkM, Bool.and_eq_true, List.all_eq_true, decide_eq_true_eq, List.mem_range] at hok2
  exact ((hok2.1.1.1.2 i hi).1.2 p hp).2
 have hmap : ∀ (V : Nat → Value) (is : List Nat), (∀ p ∈ is, p < m) → is.map (fun p => (dsv l N p, V p)) = is.map fun p => (dsOf l p, V p) := fun V is h => List.map_congr_left fun p hp => by rw [dsv_eq (hsome p (h p hp))]
 refine wc_phases_mod (M := M) (w0 := w0) (e0 := join []) m ps [q0, q1, q2] hmix hok R (fun i v E hd hR => ?_)
  (fun D V e => (∀ i ∈ D, i < m) ∧ ((q0 ∉ D ∧ q1 ∉ D ∧ q2 ∉ D ∧ e = join []) ∨ (q0 ∈ D ∧ q1 ∉ D ∧ q2 ∉ D ∧ e = e1 (V q0)) ∨ (q0 ∈ D ∧ q1 ∈ D ∧ q2 ∉ D ∧ e = e2 (V q1)) ∨ (q0 ∈ D ∧ q1 ∈ D ∧ q2 ∈ D ∧ e = e3 (V q2))))
  (fun V => ⟨by simp, .inl ⟨by simp, by simp, by simp, rfl⟩⟩) ?_ hfr hst.hollow ?_ ?_ ?_
 ·have := hsome i (hRm i v E hR)
  rw [hd] at this; cases this
 ·rintro i D V V' e him hmq hV ⟨hlt, hor⟩
  simp only [List.mem_cons, List.not_mem_nil, or_false, not_or] at hmq
  obtain ⟨i0, i1, i2⟩ := hmq
  refine ⟨by simpa using ⟨him, hlt⟩, ?_⟩
  rcases hor with ⟨a0, a1, a2, rfl⟩ | ⟨a0, a1, a2, rfl⟩ | ⟨a0, a1, a2, rfl⟩ | ⟨a0, a1, a2, rfl⟩
  ·exact .inl ⟨by simp [a0, Ne.symm i0], by simp [a1, Ne.symm i1], by simp [a2, Ne.symm i2], rfl⟩
  ·exact .inr (.inl ⟨by simp [a0], by simp [a1, Ne.symm i1], by simp [a2, Ne.symm i2], by rw [hV q0 a0]⟩)
  ·exact .inr (.inr (.inl ⟨by simp [a0], by simp [a1], by simp [a2, Ne.symm i2], by rw [hV q1 a1]⟩))
  ·exact .inr (.inr (.inr ⟨by simp [a0], by simp [a1], by simp [a2], by rw [hV q2 a2]⟩))
 ·intro i him hmq V E w hR D e hp hG hni hs
  rw [hmap V _ (hpsm i him)]
  simp only [List.mem_cons, List.not_mem_nil, or_false, not_or] at hmq
  have := Hop.use (V := V) (E := E) (hop i him hmq.1 hmq.2.1 hmq.2.2 e) hR w (by simpa using hs.perm List.perm_middle.symm)
  simpa using this
 ·intro i him hmq V E w hR D e hp hG hni hs
  obtain ⟨hlt, hor⟩ := hG
  rw [hmap V _ (hpsm i him)]
  simp only [List.mem_cons, List.not_mem_nil, or_false] at hmq
  rcases hmq with rfl | rfl | rfl
  ·have he : e = join [] := by rcases hor with h | h | h | h; exact h.2.2.2; exact absurd h.1 hni; exact absurd h.1 hni; exact absurd h.1 hni
   have hd1 : q1 ∉ D := by rcases hor with h | h | h | h; exact h.2.1; exact absurd h.1 hni; exact absurd h.1 hni; exact absurd h.1 hni
   have hd2 : q2 ∉ D := by rcases hor with h | h | h | h; exact h.2.2.1; exact absurd h.1 hni; exact absurd h.1 hni; exact absurd h.1 hni
   subst he
   have := HopQ.use (V := V) (E := E) hq0 hR w (by simpa using hs)
   refine OpR.mono (by simpa using this) ?_
   rintro v w' ⟨h1, h2, h3, h4⟩
   exact ⟨_, h1, h2, h3, h4, fun V' hV' hv => ⟨by simpa using ⟨him, hlt⟩, .inr (.inl ⟨by simp, by simp [hd1, Ne.symm hn1], by simp [hd2, Ne.symm hn2], by rw [hv]⟩)⟩⟩
  ·have h0 : q0 ∈ D := hp q0 h01
   have he : e = e1 (V q0) := by rcases hor with h | h | h | h; exact absurd h0 h.1; exact h.2.2.2; exact absurd h.2.1 hni; exact absurd h.2.1 hni
   have hd2 : q2 ∉ D := by rcases hor with h | h | h | h; exact h.2.2.1; exact h.2.2.1; exact h.2.2.1; exact absurd h.2.1 hni
   subst he
   have := HopC.use (V := V) (E := E) hq1 hR (.inl h01) w (by simpa using hs)
   refine OpR.mono (by simpa using this) ?_
   rintro v w' ⟨h1, h2, h3, h4⟩
   exact ⟨_, h1, h2, h3, h4, fun V' hV' hv => ⟨by simpa using ⟨him, hlt⟩, .inr (.inr (.inl ⟨by simp [h0], by simp, by simp [hd2, Ne.symm hn3], by rw [hv]⟩))⟩⟩
  ·have h1D : q1 ∈ D := hp q1 h12
   have he : e = e2 (V q1) := by rcases hor with h | h | h | h; exact absurd h1D h.2.1; exact absurd h1D h.2.1; exact h.2.2.2; exact absurd h.2.2.1 hni
   have h0D : q0 ∈ D := by rcases hor with h | h | h | h; exact absurd h1D h.2.1; exact h.1; exact h.1; exact h.1
   subst he
   have := HopC.use (V := V) (E := E) hq2 hR (.inl h12) w (by simpa using hs)
   refine OpR.mono (by simpa using this) ?_
   rintro v w' ⟨h1, h2, h3, h4⟩
   exact ⟨_, h1, h2, h3, h4, fun V' hV' hv => ⟨by simpa using ⟨him, hlt⟩, .inr (.inr (.inr ⟨by simp [h0D], by simp [h1D], by simp, by rw [hv]⟩))⟩⟩
 ·rintro D V E e a w hD ⟨_, hor⟩ hR hf hs
  have hqD : ∀ q, q < m → q ∈ D := fun q hq => hD.mem_iff.2 (List.mem_range.2 hq)
  have he : e = e3 (V q2) := by rcases hor with h | h | h | h; exact absurd (hqD _ hm2) h.2.2.1; exact absurd (hqD _ hm2) h.2.2.1; exact absurd (hqD _ hm2) h.2.2.1; exact h.2.2.2
  subst he
  rw [hmap V _ (fun p hp => List.mem_range.1 hp)] at hf
  exact HopK.use (V := V) (E := E) (hk (V q2)) (fun p hp => ⟨hR p (List.mem_range.1 hp), fun h => by rw [h]⟩) a w (by simpa using hf) (by simpa using hs.perm List.perm_middle.symm)
end
end Go.PW
namespace Go.PW
open Go.RowKit
set_option linter.unusedVariables false
set_option linter.unusedSimpArgs false
section
variable {P : Program} {r : Option Nat} {K : Act → World → Prop} {a : Act} {w w0 : World} {M : Nat → Prop} {H : List Ent}
variable {N : Nat} {L : List (Nat × Value)} {df : List Deferred}
def HopV (P : Program) (r : Option Nat) (M : Nat → Prop) (w0 : World) (pc : Nat) (e3 : Value → Ent) (f : Value → Value) (H : List Ent) (L : List (Nat × Value)) (l : List Oper) (R : Nat → Value → List Ent → Prop) (i : Nat) : List Nat → List (Nat × Value) → List Ent → Value → Prop
 | [], Lv, Es, u => ∀ w, St M w0 (e3 u :: (Es ++ H)) w → OpR P r (opAt l i) (Lv ++ L) w (fun v w' => Ext No w w' ∧ v = f u ∧ R i v [])
 | p :: ps, Lv, Es, u => ∀ v E, R p v E → HopV P r M w0 pc e3 f H L l R i ps (Lv ++ [(dsOf l p, v)]) (Es ++ E) (bif Nat.beq p pc then v else u)
theorem HopV.use {pc : Nat} {e3 : Value → Ent} {f : Value → Value} {l : List Oper} {R : Nat → Value → List Ent → Prop} {i : Nat} {V : Nat → Value} {E : Nat → List Ent} : ∀ {ps : List Nat} {Lv : List (Nat × Value)} {Es : List Ent} {u : Value}, HopV P r M w0 pc e3 f H L l R i ps Lv Es u → (∀ p ∈ ps, R p (V p) (E p)) → (pc ∈ ps ∨ u = V pc) →
  ∀ w, St M w0 (e3 (V pc) :: (Es ++ ps.flatMap E ++ H)) w → OpR P r (opAt l i) (Lv ++ ps.map (fun p => (dsOf l p, V p)) ++ L) w (fun v w' => Ext No w w' ∧ v = f (V pc) ∧ R i v [])
 | [], Lv, Es, u, h, _, hu, w, hs => by
  rcases hu with hu | hu
  ·cases hu
  ·subst hu; simpa using h w (by simpa using hs)
 | p :: ps, Lv, Es, u, h, hR, hu, w, hs => by
  have h2 : pc ∈ ps ∨ (bif Nat.beq p pc then V p else u) = V pc := by
   by_cases hp : p = pc
   ·subst hp; exact .inr (by simp)
   ·rcases hu with hu | hu
    ·rcases List.mem_cons.1 hu with h3 | h3
     ·exact absurd h3.symm hp
     ·exact .inl h3
    ·have : Nat.beq p pc = false := by cases hb : Nat.beq p pc with | false => rfl | true => exact absurd (Nat.eq_of_beq_eq_true hb) hp
     exact .inr (by rw [this]; exact hu)
  have := HopV.use (h (V p) (E p) (hR p (by simp))) (fun q hq => hR q (by simp [hq])) h2 w (by simpa using hs)
  simpa using this
section state
variable {rest : List Oper} {d : Nat} {ty : TypeId} {pos : String} {af : Array Edge} {x : Operand} {ops : Array Oper}
end state
section slices
variable {dst : Option Tmp} {T E ty : TypeId} {pos : String} {af : Array Edge} {gd : Option (Nat × Bool)} {x y : Operand} {v u : Value} {sz : Nat} {els : List (List Value)} {w1 : World}
end slices
end
end Go.PW
namespace Go.PW
open Go.RowKit Go.Builtin
set_option linter.unusedVariables false
set_option linter.unusedSimpArgs false
section
variable {P : Program} {r : Option Nat} {ops : Array Oper} {K : Act → World → Prop} {rest : List Oper} {a : Act} {w w' w0 : World} {M : Nat → Prop} {H : List Ent}
variable {N : Nat} {L : List (Nat × Value)} {df : List Deferred} {d : Nat} {ty : TypeId} {pos : String} {af : Array Edge} {E T : TypeId} {sz : Nat} {v u : Value} {els els' : List (List Value)} {x y : Operand}
theorem v_slice_k {w1 : World} {dst : Option Tmp} {gd : Option (Nat × Bool)} {hi mx : Operand} {h : Nat} (hs : SlAt w1 v sz els) (hx : ev L x = some v) (e2 : ev L hi = some (.int .i64 (h : Int))) (e3 : ev L mx = some (.int .i64 (h : Int))) (hu : P.underlying T = some (.slice E)) (hsz : (P.info? E).map (·.size) = some sz) (hh : h ≤ els.length) :
  OpV P ⟨dst, .slice T x none (some hi) (some mx), ty, pos, af, gd⟩ L w (cut v sz 0 h h) :=
 v_slice_s (lo := none) (hi := some hi) (mx := some mx) (lv := none) (hv := some (.int .i64 (h : Int))) (mv := some (.int .i64 (h : Int))) hs.shp hx rfl (by simp [evo, e2]) (by simp [evo, e3]) hu hsz (.inl ⟨rfl, rfl⟩) (.inr rfl) (.inr rfl) (Nat.zero_le _) (Nat.le_refl _) (Nat.le_trans hh hs.shp.cap)
end
end Go.PW
namespace Go.PW
open Go.RowKit Go.Lib
set_option linter.unusedVariables false
set_option linter.unusedSimpArgs false
end Go.PW
namespace Go.PW
open Go.RowKit
set_option linter.unusedVariables false
section
variable {P : Program} {r : Option Nat} {a : Act} {w w' w0 : World} {M : Nat → Prop} {H : List Ent} {N d : Nat} {L : List (Nat × Value)} {df : List Deferred} {Q : Exit → Act → World → Prop} {ops : Array Oper} {l l1 l2 rest : List Oper} {y : Code}
variable {dst : Option Tmp} {T ty : TypeId} {pos : String} {af : Array Edge} {x : Operand} {xs : List Operand} {vs : List Value} {ats : Array TypeId}
theorem wc_meet {K : Act → World → Prop} {x : Code} (J : Act → World → Prop) (hx : WC P r x (Exit.then J Q) a w) (hy : ∀ a w, J a w → K a w) : WC P r x (Exit.then K Q) a w :=
 wc_mono hx fun e a w h => by cases e <;> first | exact hy _ _ h | exact h
def Recd (u : FrameMode) (v : Value) (u2 : FrameMode) : Prop :=
 (u = .returning ∧ v = .nilIface ∧ u2 = .returning) ∨ (u = .panicking [{ v := v, recovered := false }] ∧ u2 = .panicking [{ v := v, recovered := true }])
theorem Recd.settle {u u2 : FrameMode} {v : Value} (h : Recd u v u2) : settle u2 = .returning := by
 rcases h with ⟨_, _, rfl⟩ | ⟨_, rfl⟩ <;> rfl
end
end Go.PW
namespace Go.Proofs.Ytnfnkohkcmkddaa
def pick (c n : Int) : Int := (if c < 0 then -(c + 1) else c) % n
def isIn (n lo hi : Int) : Bool := decide (lo ≤ n) && decide (n ≤ hi)
structure Rul where
 answer : Int
 cooling : Int
 settle : Int
 reverse : Int
structure Clm where
 number : Int
 frm : Int
 to : Int
 holder : Int
 asked : Int
 backed : Bool
structure Evt where
 kind : Int
 at_ : Int
 reason : Int
structure Stt where
 state : Int
 since : Int
 next : Int
 deriving DecidableEq
def Rul.cells (r : Rul) : List Value := [.int .i64 r.answer, .int .i64 r.cooling, .int .i64 r.settle, .int .i64 r.reverse]
def Clm.cells (c : Clm) : List Value := [.int .i64 c.number, .int .i64 c.frm, .int .i64 c.to, .int .i64 c.holder, .int .i64 c.asked, .bool c.backed]
def Evt.cells (e : Evt) : List Value := [.int .i64 e.kind, .int .i64 e.at_, .int .i64 e.reason]
def Stt.cells (s : Stt) : List Value := [.int .i64 s.state, .int .i64 s.since, .int .i64 s.next]
def Rul.val (r : Rul) : Value := .agg #[.int .i64 r.answer, .int .i64 r.cooling, .int .i64 r.settle, .int .i64 r.reverse]
def Clm.val (c : Clm) : Value := .agg #[.int .i64 c.number, .int .i64 c.frm, .int .i64 c.to, .int .i64 c.holder, .int .i64 c.asked, .bool c.backed]
def Stt.val (s : Stt) : Value := .agg #[.int .i64 s.state, .int .i64 s.since, .int .i64 s.next]
def areValid (r : Rul) : Bool := isIn r.answer 1 1000000 && isIn r.settle 1 1000000 && isIn r.cooling 1 1000000 && isIn r.reverse 1 1000000
def isClaim (c : Clm) : Bool := isIn c.number 0 99999999 && isIn c.frm 0 7 && isIn c.to 0 7 && !decide (c.frm = c.to) && isIn c.holder 0 63 && isIn c.asked 0 10000000
def badEvt (last : Int) (e : Evt) : Bool :=
 !isIn e.kind 1 6 || !isIn e.at_ last 20000000 || !(if e.kind = 2 ∨ e.kind = 6 then isIn e.reason 1 9 else isIn e.reason 0 0)
def anyBad (last : Int) : List Evt → Bool
 | [] => false
 | e :: l => badEvt last e || anyBad e.at_ l
def valid (r : Rul) (c : Clm) (l : List Evt) : Bool := areValid r && isClaim c && decide (l.length ≤ 20) && !anyBad c.asked l
def ends (r : Rul) (c : Clm) : Int := c.asked + r.answer - 1 + r.settle + r.cooling + r.reverse
def lastAt (asked : Int) (l : List Evt) (k : Nat) : Int :=
 match k with
 | 0 => asked
 | k + 1 => (l.getD k ⟨0, 0, 0⟩).at_
theorem anyBad_range (l : List Evt) : ∀ asked, ((List.range l.length).any fun k => badEvt (lastAt asked l k) (l.getD k ⟨0, 0, 0⟩)) = anyBad asked l := by
 induction l with
 | nil => intro asked; rfl
 | cons e l ih =>
  intro asked
  rw [List.length_cons, List.range_succ_eq_map, List.any_cons, List.any_map, anyBad]
  congr 1
  rw [← ih e.at_]
  congr 1
  funext k
  cases k <;> simp [lastAt]
theorem areValid_le {r : Rul} (h : areValid r = true) : (1 ≤ r.answer ∧ r.answer ≤ 1000000) ∧ (1 ≤ r.settle ∧ r.settle ≤ 1000000) ∧ (1 ≤ r.cooling ∧ r.cooling ≤ 1000000) ∧ (1 ≤ r.reverse ∧ r.reverse ≤ 1000000) := by
 simp only [areValid, isIn, Bool.and_eq_true, decide_eq_true_eq] at h
 omega
theorem isClaim_le {c : Clm} (h : isClaim c = true) : (0 ≤ c.number ∧ c.number ≤ 99999999) ∧ (0 ≤ c.frm ∧ c.frm ≤ 7) ∧ (0 ≤ c.to ∧ c.to ≤ 7) ∧ c.frm ≠ c.to ∧ (0 ≤ c.holder ∧ c.holder ≤ 63) ∧ (0 ≤ c.asked ∧ c.asked ≤ 10000000) := by
 simp only [isClaim, isIn, Bool.and_eq_true, Bool.not_eq_true', decide_eq_true_eq, decide_eq_false_iff_not] at h
 omega
def dueSec (r : Rul) (s : Int) : Option Int :=
 if s = 1 then some r.answer else if s = 2 then some r.settle else if s = 3 then some r.cooling else if s = 4 then some r.reverse else none
def dueNext (s : Int) : Int := if s = 1 then 3 else if s = 2 then 3 else if s = 3 then 4 else 5
def begins (r : Rul) (s since : Int) : Stt := ⟨s, since, match dueSec r s with | some d => since + d | none => -1⟩
def effect (kind s : Int) : Option Int :=
 if kind = 1 ∧ s = 1 then some 3 else if kind = 2 ∧ s = 1 then some 2 else if kind = 3 ∧ s = 2 then some 3 else if kind = 4 ∧ s = 2 then some 6
 else if kind = 5 ∧ s = 1 then some 7 else if kind = 5 ∧ s = 2 then some 7 else if kind = 5 ∧ s = 3 then some 7 else if kind = 6 ∧ s = 4 then some 8 else none
def after (backed : Bool) (s : Int) (e : Evt) : Int × Bool :=
 if e.reason = 1 then (if e.kind = 2 then 6 else (effect e.kind s).getD 0, (effect e.kind s).isSome && !backed) else ((effect e.kind s).getD 0, (effect e.kind s).isSome)
end Go.Proofs.Ytnfnkohkcmkddaa
namespace Go.Proofs.Ytnfnkohkcmkddaa
set_option linter.unusedVariables false
def rank (s : Int) : Nat := if s = 1 ∨ s = 2 then 3 else if s = 3 then 2 else if s = 4 then 1 else 0
def aloneF : Nat → Rul → Int → Stt → List Stt
 | 0, _, _, _ => []
 | n + 1, r, u, now => if 0 ≤ now.next ∧ now.next ≤ u then begins r (dueNext now.state) now.next :: aloneF n r u (begins r (dueNext now.state) now.next) else []
theorem aloneF_pos {n : Nat} {r : Rul} {u : Int} {now : Stt} (h : 0 ≤ now.next) (h' : now.next ≤ u) : aloneF (n + 1) r u now = begins r (dueNext now.state) now.next :: aloneF n r u (begins r (dueNext now.state) now.next) := by rw [aloneF, if_pos ⟨h, h'⟩]
theorem aloneF_neg {n : Nat} {r : Rul} {u : Int} {now : Stt} (h : ¬ (0 ≤ now.next ∧ now.next ≤ u)) : aloneF n r u now = [] := by
 cases n with
 | zero => rfl
 | succ n => rw [aloneF, if_neg h]
def alone (r : Rul) (u : Int) (now : Stt) : List Stt := aloneF 4 r u now
def lastOf (now : Stt) (l : List Stt) : Stt := l.getLast?.getD now
def runE (r : Rul) (backed : Bool) : Nat → Stt → List Evt → List Stt × List Int
 | _, now, [] => (alone r 4611686018427387904 now, [])
 | i, now, x :: l =>
  let al := alone r x.at_ now
  let now1 := lastOf now al
  let a := after backed now1.state x
  if a.2 then
   let n := begins r a.1 x.at_
   let q := runE r backed (i + 1) n l
   (al ++ n :: q.1, q.2)
  else
   let q := runE r backed (i + 1) now1 l
   (al ++ q.1, (i : Int) :: q.2)
def first (r : Rul) (c : Clm) : Stt := begins r 1 c.asked
def statuses (r : Rul) (c : Clm) (l : List Evt) : List Stt := first r c :: (runE r c.backed 0 (first r c) l).1
def voids (r : Rul) (c : Clm) (l : List Evt) : List Int := (runE r c.backed 0 (first r c) l).2
def Sound (r : Rul) (now : Stt) : Prop := now = begins r now.state now.since ∧ 0 ≤ now.since ∧ now.since + 1000000 * (rank now.state : Int) ≤ 30000000
theorem lastOf_cons (now n : Stt) (l : List Stt) : lastOf now (n :: l) = lastOf n l := by
 unfold lastOf
 cases l with
 | nil => rfl
 | cons a l => rw [List.getLast?_cons_cons]; simp [List.getLast?_eq_some_getLast]
theorem lastOf_append (now : Stt) (l l' : List Stt) : lastOf now (l ++ l') = lastOf (lastOf now l) l' := by
 induction l generalizing now with
 | nil => rfl
 | cons a l ih => rw [List.cons_append, lastOf_cons, ih, lastOf_cons]
theorem Sound.next {r : Rul} {now : Stt} (hr : areValid r = true) (h : Sound r now) : (now.next = -1 ∧ rank now.state = 0) ∨ ((now.state = 1 ∨ now.state = 2 ∨ now.state = 3 ∨ now.state = 4) ∧ 1 ≤ rank now.state ∧ now.since < now.next ∧ now.next ≤ now.since + 1000000 ∧ 0 ≤ now.next ∧ now.next ≤ 30000000) := by
 obtain ⟨h1, h2, h3⟩ := h
 have hb := areValid_le hr
 have hn : now.next = (begins r now.state now.since).next := by rw [← h1]
 simp only [begins, dueSec] at hn
 by_cases e1 : now.state = 1
 ·simp [e1, rank] at *; omega
 by_cases e2 : now.state = 2
 ·simp [e2, rank] at *; omega
 by_cases e3 : now.state = 3
 ·simp [e3, rank] at *; omega
 by_cases e4 : now.state = 4
 ·simp [e4, rank] at *; omega
 ·left; simp [e1, e2, e3, e4, rank] at *; exact hn
theorem Sound.step {r : Rul} {now : Stt} (hr : areValid r = true) (h : Sound r now) (h0 : 0 ≤ now.next) : Sound r (begins r (dueNext now.state) now.next) ∧ rank (dueNext now.state) + 1 ≤ rank now.state := by
 rcases h.next hr with ⟨h1, _⟩ | ⟨h1, h2, h3, h4, h5, h6⟩
 ·omega
 ·obtain ⟨g1, g2, g3⟩ := h
  have hk : rank (dueNext now.state) + 1 ≤ rank now.state := by rcases h1 with e | e | e | e <;> simp [e, dueNext, rank]
  refine ⟨⟨rfl, h5, ?_⟩, hk⟩
  simp only [begins]
  omega
theorem rank_le (s : Int) : rank s ≤ 3 := by unfold rank; split <;> (try split) <;> (try split) <;> omega
theorem Sound.begins {r : Rul} (s t : Int) (h0 : 0 ≤ t) (h1 : t ≤ 20000000) : Sound r (begins r s t) := by
 refine ⟨rfl, h0, ?_⟩
 have := rank_le s
 simp only [Go.Proofs.Ytnfnkohkcmkddaa.begins]
 omega
theorem aloneF_sound {r : Rul} {u : Int} (hr : areValid r = true) : ∀ (n : Nat) (now : Stt), Sound r now → Sound r (lastOf now (aloneF n r u now)) := by
 intro n
 induction n with
 | zero => intro now h; exact h
 | succ n ih =>
  intro now h
  unfold aloneF
  split
  ·rename_i hc
   rw [lastOf_cons]; exact ih _ (h.step hr hc.1).1
  ·exact h
theorem drop_getD (l : List Evt) (k : Nat) (h : k < l.length) : l.drop k = l.getD k ⟨0, 0, 0⟩ :: l.drop (k + 1) := by
 rw [List.drop_eq_getElem_cons h]; simp [List.getD_eq_getElem?_getD, h]
theorem runE_void {r : Rul} {b : Bool} {k : Nat} {now now1 : Stt} {l : List Evt} {ev : Evt} (hk : k < l.length) (he : l.getD k ⟨0, 0, 0⟩ = ev) (hn : lastOf now (alone r ev.at_ now) = now1) (ha : (after b now1.state ev).2 = false) :
  runE r b k now (l.drop k) = (alone r ev.at_ now ++ (runE r b (k + 1) now1 (l.drop (k + 1))).1, (k : Int) :: (runE r b (k + 1) now1 (l.drop (k + 1))).2) := by
 rw [drop_getD l k hk, he, runE]
 simp only [hn, ha]
 rfl
theorem runE_go {r : Rul} {b : Bool} {k : Nat} {now now1 : Stt} {l : List Evt} {ev : Evt} (hk : k < l.length) (he : l.getD k ⟨0, 0, 0⟩ = ev) (hn : lastOf now (alone r ev.at_ now) = now1) (ha : (after b now1.state ev).2 = true) :
  runE r b k now (l.drop k) = (alone r ev.at_ now ++ begins r (after b now1.state ev).1 ev.at_ :: (runE r b (k + 1) (begins r (after b now1.state ev).1 ev.at_) (l.drop (k + 1))).1, (runE r b (k + 1) (begins r (after b now1.state ev).1 ev.at_) (l.drop (k + 1))).2) := by
 rw [drop_getD l k hk, he, runE]
 simp only [hn, ha, if_true]
theorem anyBad_at : ∀ (l : List Evt) (last : Int), anyBad last l = false → ∀ k, k < l.length → last ≤ (l.getD k ⟨0, 0, 0⟩).at_ ∧ (l.getD k ⟨0, 0, 0⟩).at_ ≤ 20000000
 | [], _, _, k, hk => by simp at hk
 | e :: l, last, h, k, hk => by
  simp only [anyBad, Bool.or_eq_false_iff, badEvt, Bool.not_eq_false', isIn, Bool.and_eq_true, decide_eq_true_eq] at h
  cases k with
  | zero => simpa using h.1.1.2
  | succ k =>
   have := anyBad_at l e.at_ h.2 k (by simpa using hk)
   simp only [List.getD_cons_succ]
   omega
theorem valid_parts {r : Rul} {c : Clm} {l : List Evt} (h : valid r c l = true) : areValid r = true ∧ isClaim c = true ∧ l.length ≤ 20 ∧ anyBad c.asked l = false := by
 simp only [valid, Bool.and_eq_true, Bool.not_eq_true', decide_eq_true_eq] at h
 exact ⟨h.1.1.1, h.1.1.2, h.1.2, h.2⟩
theorem alone_length (r : Rul) (u : Int) (now : Stt) : (alone r u now).length ≤ 4 := by
 have : ∀ n now, (aloneF n r u now).length ≤ n := by
  intro n
  induction n with
  | zero => intro now; simp [aloneF]
  | succ n ih => intro now; rw [aloneF]; split; simp [ih]; simp
 exact this 4 now
def outcome (r : Rul) (c : Clm) (l : List Evt) (t : Int) : Stt := lastOf ⟨0, 0, c.asked⟩ ((statuses r c l).takeWhile fun s => decide (s.since ≤ t))
theorem takeWhile_self {p : Stt → Bool} : ∀ {l : List Stt}, (∀ s ∈ l, p s = true) → l.takeWhile p = l
 | [], _ => rfl
 | a :: l, h => by rw [List.takeWhile_cons, if_pos (h a (by simp)), takeWhile_self fun s hs => h s (by simp [hs])]
theorem takeWhile_stop {p : Stt → Bool} {x : Stt} {q : List Stt} : ∀ {l : List Stt}, (∀ s ∈ l, p s = true) → p x = false → (l ++ [x] ++ q).takeWhile p = l
 | [], _, hx => by simp [hx]
 | a :: l, h, hx => by
  rw [List.cons_append, List.cons_append, List.takeWhile_cons, if_pos (h a (by simp)), takeWhile_stop (fun s hs => h s (by simp [hs])) hx]
theorem outcome_done {r : Rul} {c : Clm} {l : List Evt} {t : Int} (h : ∀ s ∈ statuses r c l, s.since ≤ t) : outcome r c l t = lastOf ⟨0, 0, c.asked⟩ (statuses r c l) := by
 unfold outcome; rw [takeWhile_self fun s hs => decide_eq_true (h s hs)]
theorem outcome_stop {r : Rul} {c : Clm} {l : List Evt} {t : Int} {p q : List Stt} {x : Stt} (hs : statuses r c l = p ++ [x] ++ q) (h : ∀ s ∈ p, s.since ≤ t) (hx : t < x.since) : outcome r c l t = lastOf ⟨0, 0, c.asked⟩ p := by
 unfold outcome; rw [hs, takeWhile_stop (fun s hs => decide_eq_true (h s hs)) (decide_eq_false (by omega))]
def withAt (r : Rul) (c : Clm) (l : List Evt) (t : Int) : Int := if (outcome r c l t).state = 4 ∨ (outcome r c l t).state = 5 then c.to else c.frm
theorem lastOf_snoc (n s : Stt) (l : List Stt) : lastOf n (l ++ [s]) = s := by simp [lastOf]
def becomes (backed : Bool) (s : Int) (e : Evt) : Int :=
 bif (decide (e.kind = 1) && decide (s = 1)) then 3
 else bif (((decide (e.kind = 2) && decide (s = 1)) && decide (e.reason = 1)) && !backed) then 6
 else bif ((decide (e.kind = 2) && decide (s = 1)) && !decide (e.reason = 1)) then 2
 else bif (decide (e.kind = 3) && decide (s = 2)) then 3
 else bif (decide (e.kind = 4) && decide (s = 2)) then 6
 else bif (decide (e.kind = 5) && ((decide (s = 1) || decide (s = 2)) || decide (s = 3))) then 7
 else bif ((decide (e.kind = 6) && decide (s = 4)) && (!decide (e.reason = 1) || !backed)) then 8 else -1
end Go.Proofs.Ytnfnkohkcmkddaa
namespace Go.Proofs.Ytnfnkohkcmkddaa
set_option linter.unusedVariables false
def runU (r : Rul) (b : Bool) (u : Int) : Nat → Stt → List Evt → List Stt × List Int
 | _, now, [] => (alone r u now, [])
 | i, now, x :: l =>
  let al := alone r (min x.at_ u) now
  let now1 := lastOf now al
  if u < x.at_ then (al, []) else
  let nx := becomes b now1.state x
  if nx < 0 then
   let q := runU r b u (i + 1) now1 l
   (al ++ q.1, (i : Int) :: q.2)
  else
   let n := begins r nx x.at_
   let q := runU r b u (i + 1) n l
   (al ++ n :: q.1, q.2)
def runS (r : Rul) (c : Clm) (l : List Evt) (u : Int) : List Stt := first r c :: (runU r c.backed u 0 (first r c) l).1
def runV (r : Rul) (c : Clm) (l : List Evt) (u : Int) : List Int := (runU r c.backed u 0 (first r c) l).2
theorem runU_end {r : Rul} {b : Bool} {u : Int} {k : Nat} {now : Stt} {l : List Evt} (hk : l.length ≤ k) : runU r b u k now (l.drop k) = (alone r u now, []) := by
 rw [List.drop_eq_nil_of_le hk, runU]
theorem runU_far {r : Rul} {b : Bool} {u : Int} {k : Nat} {now : Stt} {l : List Evt} {ev : Evt} (hk : k < l.length) (he : l.getD k ⟨0, 0, 0⟩ = ev) (h : u < ev.at_) : runU r b u k now (l.drop k) = (alone r (min ev.at_ u) now, []) := by
 rw [drop_getD l k hk, he, runU]; simp only [h, if_true]
theorem runU_void {r : Rul} {b : Bool} {u : Int} {k : Nat} {now now1 : Stt} {l : List Evt} {ev : Evt} (hk : k < l.length) (he : l.getD k ⟨0, 0, 0⟩ = ev) (h : ¬ u < ev.at_) (hn : lastOf now (alone r (min ev.at_ u) now) = now1) (ha : becomes b now1.state ev < 0) :
  runU r b u k now (l.drop k) = (alone r (min ev.at_ u) now ++ (runU r b u (k + 1) now1 (l.drop (k + 1))).1, (k : Int) :: (runU r b u (k + 1) now1 (l.drop (k + 1))).2) := by
 rw [drop_getD l k hk, he, runU]; simp only [h, hn, ha, if_true, if_false]
theorem runU_go {r : Rul} {b : Bool} {u : Int} {k : Nat} {now now1 : Stt} {l : List Evt} {ev : Evt} (hk : k < l.length) (he : l.getD k ⟨0, 0, 0⟩ = ev) (h : ¬ u < ev.at_) (hn : lastOf now (alone r (min ev.at_ u) now) = now1) (ha : ¬ becomes b now1.state ev < 0) :
  runU r b u k now (l.drop k) = (alone r (min ev.at_ u) now ++ begins r (becomes b now1.state ev) ev.at_ :: (runU r b u (k + 1) (begins r (becomes b now1.state ev) ev.at_) (l.drop (k + 1))).1, (runU r b u (k + 1) (begins r (becomes b now1.state ev) ev.at_) (l.drop (k + 1))).2) := by
 rw [drop_getD l k hk, he, runU]; simp only [h, hn, ha, if_false]
def outR (r : Rul) (c : Clm) (l : List Evt) (t : Int) : Stt := if t < c.asked then ⟨0, 0, c.asked⟩ else lastOf ⟨0, 0, 0⟩ (runS r c l t)
theorem aloneF_le {r : Rul} {u : Int} : ∀ (n : Nat) (now : Stt), now.since ≤ u → (lastOf now (aloneF n r u now)).since ≤ u := by
 intro n
 induction n with
 | zero => intro now h; exact h
 | succ n ih =>
  intro now h
  unfold aloneF
  split
  ·rename_i hc; rw [lastOf_cons]; exact ih _ (by simp only [begins]; exact hc.2)
  ·exact h
theorem runU_sound {r : Rul} {b : Bool} {u : Int} (hr : areValid r = true) : ∀ (l : List Evt) (i : Nat) (now : Stt) (last : Int), anyBad last l = false → 0 ≤ last → Sound r now → now.since ≤ u → Sound r (lastOf now (runU r b u i now l).1) ∧ (lastOf now (runU r b u i now l).1).since ≤ u
 | [], i, now, last, _, _, hs, hu => by rw [runU]; exact ⟨aloneF_sound hr 4 now hs, aloneF_le 4 now hu⟩
 | x :: l, i, now, last, hb, h0, hs, hu => by
  have hx := anyBad_at (x :: l) last hb 0 (by simp)
  simp only [List.getD_cons_zero] at hx
  simp only [anyBad, Bool.or_eq_false_iff] at hb
  rw [runU]
  have h1 := aloneF_sound (u := min x.at_ u) hr 4 now hs
  by_cases hf : u < x.at_
  ·simp only [hf, if_true]
   exact ⟨h1, Int.le_trans (Int.le_trans (aloneF_le (u := u) (r := r) 4 now hu |> fun h => by rw [show min x.at_ u = u from by omega]; exact h) (Int.le_refl _)) (Int.le_refl _)⟩
  ·simp only [hf, if_false]
   have h2 : (lastOf now (alone r (min x.at_ u) now)).since ≤ u := by
    by_cases hq : now.since ≤ min x.at_ u
    ·have := aloneF_le (u := min x.at_ u) (r := r) 4 now hq
     exact Int.le_trans this (by omega)
    ·have : aloneF 4 r (min x.at_ u) now = [] ∨ True := .inr trivial
     unfold alone
     rcases hs.next hr with ⟨hn, _⟩ | ⟨_, _, hlt, _⟩
     ·rw [aloneF_neg (by omega)]; exact hu
     ·rw [aloneF_neg (by omega)]; exact hu
   split
   ·rw [lastOf_append]
    exact runU_sound hr l (i + 1) _ x.at_ hb.2 (by omega) h1 h2
   ·rw [lastOf_append, lastOf_cons]
    exact runU_sound hr l (i + 1) _ x.at_ hb.2 (by omega) (Sound.begins _ _ (by omega) (by omega)) (by simp only [begins]; omega)
theorem outR_next {r : Rul} {c : Clm} {l : List Evt} {t : Int} (hv : valid r c l = true) (h0 : c.asked ≤ t) : (outR r c l t).next ≤ t + 1000000 ∧ -1 ≤ (outR r c l t).next ∧ Sound r (outR r c l t) := by
 obtain ⟨hr, hc, hlen, hbad⟩ := valid_parts hv
 have hcl := isClaim_le hc
 have hf : Sound r (first r c) := Sound.begins 1 c.asked (by omega) (by omega)
 have := runU_sound (b := c.backed) (u := t) hr l 0 (first r c) c.asked hbad (by omega) hf (by simp only [first, begins]; omega)
 unfold outR runS
 rw [if_neg (by omega), lastOf_cons]
 refine ⟨?_, ?_, this.1⟩ <;> rcases this.1.next hr with ⟨hn, _⟩ | ⟨_, _, h1, h2, h3, h4⟩ <;> omega
end Go.Proofs.Ytnfnkohkcmkddaa
namespace Go.Proofs.Ytnfnkohkcmkddaa
set_option linter.unusedVariables false
structure Tri where
  a : Int
  b : Int
  c : Int
def Tri.cells (z : Tri) : List Value := [.int .i64 z.a, .int .i64 z.b, .int .i64 z.c]
def isI64 (n : Int) : Prop := -9223372036854775808 ≤ n ∧ n ≤ 9223372036854775807
def Tri.fits (z : Tri) : Prop := isI64 z.a ∧ isI64 z.b ∧ isI64 z.c
def mkRule (x : Int) : Int := if pick (x.tdiv 16) 4 = 3 then 1 + pick x 86400 else 1 + pick x 12
def mkRul (x0 x1 x2 x3 : Int) : Rul := ⟨mkRule x0, mkRule x1, mkRule x2, mkRule x3⟩
def mkClm (y0 y1 y2 y3 y4 y5 : Int) : Clm := ⟨pick y0 100000000, pick y1 8, (pick y1 8 + 1 + pick y2 7) % 8, pick y3 64, pick y4 1000, decide (pick y5 2 = 0)⟩
def mkEvt (r : Rul) (c : Clm) (l : List Evt) (last : Int) (z : Tri) : Evt :=
  ⟨1 + pick z.a 6, if 0 < (outR r c l last).next ∧ 0 < pick (z.b.tdiv 4) 3 then max last ((outR r c l last).next - 1 + pick z.b 3) else last + pick z.b 4,
   if 1 + pick z.a 6 = 2 ∨ 1 + pick z.a 6 = 6 then 1 + pick z.c 4 else 0⟩
def mkN (r : Rul) (c : Clm) (xs : List Tri) : Nat → List Evt
  | 0 => []
  | k + 1 => mkN r c xs k ++ [mkEvt r c (mkN r c xs k) (lastAt c.asked (mkN r c xs k) k) (xs.getD k ⟨0, 0, 0⟩)]
def mkL (r : Rul) (c : Clm) (xs : List Tri) : List Evt := mkN r c xs (min xs.length 10)
theorem pick_lt (c n : Int) (h : 0 < n) : 0 ≤ pick c n ∧ pick c n < n := by
  unfold pick
  exact ⟨Int.emod_nonneg _ (by omega), Int.emod_lt_of_pos _ h⟩
theorem tdiv_fits (x : Int) (n : Int) (hn : 1 ≤ n) (h : isI64 x) : isI64 (x.tdiv n) := by
  unfold isI64 at *
  rcases Int.lt_or_le x 0 with h0 | h0
  · have e : x.tdiv n = -((-x).tdiv n) := by rw [Int.neg_tdiv, Int.neg_neg]
    have h1 : 0 ≤ (-x).tdiv n := Int.tdiv_nonneg (by omega) (by omega)
    have h2 : (-x).tdiv n ≤ -x := Int.tdiv_le_self _ (by omega)
    rw [e]; omega
  · have h1 : 0 ≤ x.tdiv n := Int.tdiv_nonneg h0 (by omega)
    have h2 : x.tdiv n ≤ x := Int.tdiv_le_self _ h0
    omega
theorem mkRule_le (x : Int) : 1 ≤ mkRule x ∧ mkRule x ≤ 86400 := by
  unfold mkRule
  have h1 := pick_lt x 86400 (by omega)
  have h2 := pick_lt x 12 (by omega)
  split <;> omega
theorem mkRul_valid (x0 x1 x2 x3 : Int) : areValid (mkRul x0 x1 x2 x3) = true := by
  have h0 := mkRule_le x0; have h1 := mkRule_le x1; have h2 := mkRule_le x2; have h3 := mkRule_le x3
  simp only [areValid, isIn, Bool.and_eq_true, decide_eq_true_eq]; simp only [mkRul]; omega
theorem mkClm_valid (y0 y1 y2 y3 y4 y5 : Int) : isClaim (mkClm y0 y1 y2 y3 y4 y5) = true ∧ (mkClm y0 y1 y2 y3 y4 y5).asked < 1000 := by
  have h0 := pick_lt y0 100000000 (by omega); have h1 := pick_lt y1 8 (by omega); have h2 := pick_lt y2 7 (by omega); have h3 := pick_lt y3 64 (by omega); have h4 := pick_lt y4 1000 (by omega)
  simp only [isClaim, isIn, Bool.and_eq_true, Bool.not_eq_true', decide_eq_true_eq, decide_eq_false_iff_not]
  simp only [mkClm]
  refine ⟨⟨⟨⟨⟨⟨?_, ?_⟩, ?_⟩, ?_⟩, ?_⟩, ?_⟩, ?_⟩ <;> omega
theorem mkN_length (r : Rul) (c : Clm) (xs : List Tri) : ∀ k, (mkN r c xs k).length = k
  | 0 => rfl
  | k + 1 => by simp [mkN, mkN_length r c xs k]
theorem anyBad_snoc (e : Evt) : ∀ (l : List Evt) (last : Int), anyBad last (l ++ [e]) = (anyBad last l || badEvt (lastAt last l l.length) e)
  | [], last => by simp [anyBad, lastAt]
  | x :: l, last => by
    rw [List.cons_append, anyBad, anyBad_snoc e l x.at_, anyBad, Bool.or_assoc]
    congr 3
    cases l with
    | nil => simp [lastAt]
    | cons y l => simp [lastAt]
theorem mkN_valid {r : Rul} {c : Clm} (hr : areValid r = true) (hc : isClaim c = true) (ha : c.asked < 1000) (xs : List Tri) : ∀ k, k ≤ 10 → valid r c (mkN r c xs k) = true ∧ c.asked ≤ lastAt c.asked (mkN r c xs k) k ∧ lastAt c.asked (mkN r c xs k) k ≤ 1000 + k * 1000010
  | 0, _ => by
    refine ⟨by simp [valid, hr, hc, mkN, anyBad], by simp [lastAt], by simp [lastAt]; omega⟩
  | k + 1, hk => by
    obtain ⟨hv, h1, h2⟩ := mkN_valid hr hc ha xs k (by omega)
    have hlen := mkN_length r c xs k
    have hcl := isClaim_le hc
    obtain ⟨n1, n2, _⟩ := outR_next hv h1
    obtain ⟨z, hz⟩ : ∃ z, xs.getD k ⟨0, 0, 0⟩ = z := ⟨_, rfl⟩
    obtain ⟨e, he⟩ : ∃ e, mkEvt r c (mkN r c xs k) (lastAt c.asked (mkN r c xs k) k) z = e := ⟨_, rfl⟩
    have hN : mkN r c xs (k + 1) = mkN r c xs k ++ [e] := by rw [mkN, hz, he]
    have hl : lastAt c.asked (mkN r c xs (k + 1)) (k + 1) = e.at_ := by
      rw [hN]; simp [lastAt, List.getD_eq_getElem?_getD, hlen]
    have hat : lastAt c.asked (mkN r c xs k) k ≤ e.at_ ∧ e.at_ ≤ lastAt c.asked (mkN r c xs k) k + 1000010 := by
      rw [← he]; unfold mkEvt
      have p1 := pick_lt z.b 3 (by omega); have p2 := pick_lt z.b 4 (by omega)
      simp only
      split <;> omega
    have p1 := pick_lt z.a 6 (by omega); have p2 := pick_lt z.c 4 (by omega)
    have hb : badEvt (lastAt c.asked (mkN r c xs k) k) e = false := by
      have hkd : e.kind = 1 + pick z.a 6 := by rw [← he]; rfl
      have hrs : e.reason = if e.kind = 2 ∨ e.kind = 6 then 1 + pick z.c 4 else 0 := by rw [hkd, ← he]; rfl
      simp only [badEvt, isIn, Bool.or_eq_false_iff, Bool.not_eq_false', Bool.and_eq_true, decide_eq_true_eq]
      refine ⟨⟨by omega, by omega⟩, ?_⟩
      rw [hrs]
      split <;> simp <;> omega
    obtain ⟨v1, v2, v3, v4⟩ := valid_parts hv
    refine ⟨?_, by rw [hl]; omega, by rw [hl]; push_cast; omega⟩
    rw [hN]
    have hab : anyBad c.asked (mkN r c xs k ++ [e]) = false := by rw [anyBad_snoc, v4, hlen, hb]; rfl
    simp [valid, v1, v2, hab, hlen]; omega
theorem mkL_valid {r : Rul} {c : Clm} (hr : areValid r = true) (hc : isClaim c = true) (ha : c.asked < 1000) (xs : List Tri) : valid r c (mkL r c xs) = true ∧ (mkL r c xs).length ≤ 10 :=
  ⟨(mkN_valid hr hc ha xs _ (by omega)).1, by rw [mkL, mkN_length]; omega⟩
end Go.Proofs.Ytnfnkohkcmkddaa
namespace Go.Proofs.Ytnfnkohkcmkddaa
set_option linter.unusedVariables false
set_option linter.unusedSimpArgs false
structure Blo where
 f : Int
 t : Int
 c : Int
 deriving DecidableEq
def Blo.z : Blo := ⟨0, 0, 0⟩
def hold : List Blo → Int → Int
 | [], _ => -1
 | b :: l, n => if b.f ≤ n ∧ n < b.t then b.c else hold l n
def rngB (f t : Int) : Bool := decide (0 ≤ f) && decide (f < t) && decide (t ≤ 100000000)
def okF : Int → Int → List Blo → Bool
 | _, _, [] => true
 | p, c, b :: l => rngB b.f b.t && isIn b.c 0 7 && decide (p ≤ b.f) && !(decide (b.f = p) && decide (b.c = c)) && okF b.t b.c l
def mapOk (l : List Blo) : Bool := okF 0 (-1) l && decide (l.length ≤ 40)
theorem okF_cons {p c : Int} {b : Blo} {l : List Blo} : okF p c (b :: l) = true ↔ (0 ≤ b.f ∧ b.f < b.t ∧ b.t ≤ 100000000) ∧ (0 ≤ b.c ∧ b.c ≤ 7) ∧ p ≤ b.f ∧ ¬ (b.f = p ∧ b.c = c) ∧ okF b.t b.c l = true := by
 simp only [okF, rngB, isIn, Bool.and_eq_true, decide_eq_true_eq, Bool.not_eq_true', Bool.and_eq_false_iff, decide_eq_false_iff_not]
 constructor
 ·rintro ⟨⟨⟨⟨⟨⟨h1, h2⟩, h3⟩, h4, h5⟩, h6⟩, h7⟩, h8⟩; exact ⟨⟨h1, h2, h3⟩, ⟨h4, h5⟩, h6, fun h => by omega, h8⟩
 ·rintro ⟨⟨h1, h2, h3⟩, ⟨h4, h5⟩, h6, h7, h8⟩; exact ⟨⟨⟨⟨⟨⟨h1, h2⟩, h3⟩, h4, h5⟩, h6⟩, by omega⟩, h8⟩
theorem hold_cons {b : Blo} {l : List Blo} {n : Int} : hold (b :: l) n = if b.f ≤ n ∧ n < b.t then b.c else hold l n := rfl
theorem hold_below : ∀ {l : List Blo} {p c n : Int}, okF p c l = true → n < p → hold l n = -1
 | [], p, c, n, _, _ => rfl
 | b :: l, p, c, n, h, hn => by
  obtain ⟨h1, h2, h3, _, h4⟩ := okF_cons.1 h
  rw [hold_cons, if_neg (by omega)]
  exact hold_below h4 (by omega)
theorem hold_rng : ∀ {l : List Blo} {p c : Int} (n : Int), okF p c l = true → -1 ≤ hold l n ∧ hold l n ≤ 7
 | [], p, c, n, _ => by simp [hold]
 | b :: l, p, c, n, h => by
  obtain ⟨h1, h2, h3, _, h4⟩ := okF_cons.1 h
  rw [hold_cons]
  split
  ·omega
  ·exact hold_rng n h4
theorem hold_edge : ∀ {l : List Blo} {p c : Int}, okF p c l = true → 0 ≤ c → hold l p ≠ c
 | [], p, c, h, hc => by simp only [hold]; omega
 | b :: l, p, c, h, hc => by
  obtain ⟨h1, h2, h3, h5, h4⟩ := okF_cons.1 h
  rw [hold_cons]
  split
  ·intro e; exact h5 ⟨by omega, e⟩
  ·rw [hold_below h4 (by omega)]; omega
theorem map_unique : ∀ {l m : List Blo} {p c d : Int}, okF p c l = true → okF p d m = true → (∀ n, p ≤ n → n < 100000000 → hold l n = hold m n) → l = m
 | [], [], p, c, d, _, _, _ => rfl
 | [], b :: m, p, c, d, _, hm, he => by
  obtain ⟨h1, h2, h3, _, _⟩ := okF_cons.1 hm
  have := he b.f h3 (by omega)
  rw [hold_cons, if_pos (by omega)] at this
  simp only [hold] at this; omega
 | a :: l, [], p, c, d, hl, _, he => by
  obtain ⟨h1, h2, h3, _, _⟩ := okF_cons.1 hl
  have := he a.f h3 (by omega)
  rw [hold_cons, if_pos (by omega)] at this
  simp only [hold] at this; omega
 | a :: l, b :: m, p, c, d, hl, hm, he => by
  obtain ⟨a1, a2, a3, a4, a5⟩ := okF_cons.1 hl
  obtain ⟨b1, b2, b3, b4, b5⟩ := okF_cons.1 hm
  have ha : ∀ n, n < a.f → hold (a :: l) n = -1 := fun n hn => by rw [hold_cons, if_neg (by omega)]; exact hold_below a5 (by omega)
  have hb : ∀ n, n < b.f → hold (b :: m) n = -1 := fun n hn => by rw [hold_cons, if_neg (by omega)]; exact hold_below b5 (by omega)
  have ia : ∀ n, a.f ≤ n → n < a.t → hold (a :: l) n = a.c := fun n h1 h2 => by rw [hold_cons, if_pos ⟨h1, h2⟩]
  have ib : ∀ n, b.f ≤ n → n < b.t → hold (b :: m) n = b.c := fun n h1 h2 => by rw [hold_cons, if_pos ⟨h1, h2⟩]
  have ja : ∀ n, a.t ≤ n → hold (a :: l) n = hold l n := fun n h => by rw [hold_cons, if_neg (by omega)]
  have jb : ∀ n, b.t ≤ n → hold (b :: m) n = hold m n := fun n h => by rw [hold_cons, if_neg (by omega)]
  have hf : a.f = b.f := by
   rcases Int.lt_trichotomy a.f b.f with h | h | h
   ·have := he a.f a3 (by omega); rw [ia _ (by omega) (by omega), hb _ h] at this; omega
   ·exact h
   ·have := he b.f b3 (by omega); rw [ib _ (by omega) (by omega), ha _ h] at this; omega
  have hc : a.c = b.c := by
   have := he a.f a3 (by omega); rw [ia _ (by omega) (by omega), ib _ (by omega) (by omega)] at this; exact this
  have ht : a.t = b.t := by
   rcases Int.lt_trichotomy a.t b.t with h | h | h
   ·have := he a.t (by omega) (by omega); rw [ja _ (by omega), ib _ (by omega) (by omega)] at this
    exact absurd this (by rw [← hc]; exact hold_edge a5 (by omega))
   ·exact h
   ·have := he b.t (by omega) (by omega); rw [jb _ (by omega), ia _ (by omega) (by omega)] at this
    exact absurd this.symm (by rw [hc]; exact hold_edge b5 (by omega))
  have e : a = b := by cases a; cases b; simp only at hf hc ht; subst hf; subst hc; subst ht; rfl
  subst e
  rw [map_unique (p := a.t) a5 b5 fun n h1 h2 => by
   have := he n (by omega) h2
   rwa [ja n h1, jb n h1] at this]
def lastE : Int → Int → List Blo → Int × Int
 | p, c, [] => (p, c)
 | _, _, b :: l => lastE b.t b.c l
theorem okF_snoc : ∀ {l : List Blo} {p c : Int} {b : Blo}, okF p c (l ++ [b]) = true ↔ okF p c l = true ∧ okF (lastE p c l).1 (lastE p c l).2 [b] = true
 | [], p, c, b => ⟨fun h => ⟨rfl, h⟩, fun h => h.2⟩
 | a :: l, p, c, b => by
  rw [List.cons_append, okF_cons, okF_cons, okF_snoc]
  exact ⟨fun ⟨h1, h2, h3, h4, h5, h6⟩ => ⟨⟨h1, h2, h3, h4, h5⟩, h6⟩, fun ⟨⟨h1, h2, h3, h4, h5⟩, h6⟩ => ⟨h1, h2, h3, h4, h5, h6⟩⟩
theorem lastE_snoc : ∀ {l : List Blo} {p c : Int} {b : Blo}, lastE p c (l ++ [b]) = (b.t, b.c)
 | [], p, c, b => rfl
 | a :: l, p, c, b => by rw [List.cons_append, lastE]; exact lastE_snoc
theorem hold_app {l m : List Blo} {p c : Int} (hl : okF p c l = true) (n : Int) : hold (l ++ m) n = if hold l n = -1 then hold m n else hold l n := by
 induction l generalizing p c with
 | nil => simp [hold]
 | cons a l ih =>
  obtain ⟨h1, h2, h3, _, h4⟩ := okF_cons.1 hl
  rw [List.cons_append, hold_cons, hold_cons]
  split
  ·rw [if_neg (by omega)]
  ·exact ih h4
def Upto (l : List Blo) (p : Int) : Prop := okF 0 (-1) l = true ∧ (lastE 0 (-1) l).1 ≤ p
theorem hold_above : ∀ {l : List Blo} {p c n : Int}, okF p c l = true → (lastE p c l).1 ≤ n → hold l n = -1
 | [], p, c, n, _, _ => rfl
 | b :: l, p, c, n, h, hn => by
  obtain ⟨h1, h2, h3, _, h4⟩ := okF_cons.1 h
  have hle : ∀ {l : List Blo} {p c : Int}, okF p c l = true → p ≤ (lastE p c l).1 := by
   intro l
   induction l with
   | nil => intro p c _; exact Int.le_refl _
   | cons a l ih =>
    intro p c h
    obtain ⟨h1, h2, h3, _, h4⟩ := okF_cons.1 h
    have := ih h4
    show p ≤ (lastE a.t a.c l).1
    omega
  have := hle h4
  have hn : (lastE b.t b.c l).1 ≤ n := hn
  rw [hold_cons, if_neg (by omega)]
  exact hold_above h4 hn
def stepB (l : List Blo) (p q x : Int) : List Blo :=
 if x = -1 then l else if l ≠ [] ∧ lastE 0 (-1) l = (p, x) then l.dropLast ++ [⟨(l.getD (l.length - 1) Blo.z).f, q, x⟩] else l ++ [⟨p, q, x⟩]
theorem step_upto {l : List Blo} {p q x : Int} (h : Upto l p) (h0 : 0 ≤ p) (hpq : p < q) (hq : q ≤ 100000000) (hx : -1 ≤ x ∧ x ≤ 7) :
  Upto (stepB l p q x) q ∧ (∀ n, n < p → hold (stepB l p q x) n = hold l n) ∧ (∀ n, p ≤ n → n < q → hold (stepB l p q x) n = x) := by
 obtain ⟨h1, h2⟩ := h
 have habove : ∀ n, p ≤ n → hold l n = -1 := fun n hn => hold_above h1 (by omega)
 unfold stepB
 by_cases hx1 : x = -1
 ·rw [if_pos hx1]
  exact ⟨⟨h1, by omega⟩, fun _ _ => rfl, fun n hn _ => by rw [habove n hn, hx1]⟩
 ·rw [if_neg hx1]
  by_cases hm : l ≠ [] ∧ lastE 0 (-1) l = (p, x)
  ·rw [if_pos hm]
   obtain ⟨hne, hl⟩ := hm
   obtain ⟨l', b, rfl⟩ : ∃ l' b, l = l' ++ [b] := ⟨l.dropLast, l.getLast hne, (List.dropLast_concat_getLast hne).symm⟩
   rw [lastE_snoc] at hl h2
   have hbt : b.t = p := congrArg Prod.fst hl
   have hbc : b.c = x := congrArg Prod.snd hl
   obtain ⟨g1, g2⟩ := okF_snoc.1 h1
   obtain ⟨k1, k2, k3, k4, _⟩ := okF_cons.1 g2
   have eg : ((l' ++ [b]).getD ((l' ++ [b]).length - 1) Blo.z) = b := by
    rw [List.getD_eq_getElem?_getD, List.length_append]
    simp
   rw [List.dropLast_concat, eg]
   refine ⟨⟨okF_snoc.2 ⟨g1, okF_cons.2 ⟨⟨k1.1, by show b.f < q; omega, hq⟩, ⟨by show 0 ≤ x; omega, hx.2⟩, k3, by rw [← hbc]; exact k4, rfl⟩⟩, by rw [lastE_snoc]; exact Int.le_refl _⟩, fun n hn => ?_, fun n hn hq' => ?_⟩
   ·have e1 : hold [⟨b.f, q, x⟩] n = hold [b] n := by
     rw [hold_cons, hold_cons]
     by_cases hf : b.f ≤ n
     ·rw [if_pos (show b.f ≤ n ∧ n < q by omega), if_pos (show b.f ≤ n ∧ n < b.t by omega), hbc]
     ·rw [if_neg (show ¬ (b.f ≤ n ∧ n < q) by omega), if_neg (by omega)]
    rw [hold_app g1, hold_app g1, e1]
   ·have hz : hold l' n = -1 := hold_above g1 (by omega)
    rw [hold_app g1, if_pos hz, hold_cons, if_pos (show b.f ≤ n ∧ n < q by omega)]
  ·rw [if_neg hm]
   have hk : okF (lastE 0 (-1) l).1 (lastE 0 (-1) l).2 [⟨p, q, x⟩] = true := by
    refine okF_cons.2 ⟨⟨h0, hpq, hq⟩, ⟨by show 0 ≤ x; omega, hx.2⟩, h2, fun ⟨e1, e2⟩ => ?_, rfl⟩
    have e1 : p = (lastE 0 (-1) l).1 := e1
    have e2 : x = (lastE 0 (-1) l).2 := e2
    refine hm ⟨fun hn => ?_, by rw [e1, e2]⟩
    subst hn
    exact hx1 e2
   refine ⟨⟨okF_snoc.2 ⟨h1, hk⟩, by rw [lastE_snoc]; exact Int.le_refl _⟩, fun n hn => ?_, fun n hn hq' => ?_⟩
   ·have e1 : hold [⟨p, q, x⟩] n = -1 := by rw [hold_cons, if_neg (show ¬ (p ≤ n ∧ n < q) by omega)]; rfl
    rw [hold_app h1, e1]
    split
    ·rename_i e; exact e.symm
    ·rfl
   ·rw [hold_app h1, habove n hn, if_pos rfl, hold_cons, if_pos (show p ≤ n ∧ n < q by omega)]
theorem upto_nil : Upto [] 0 := ⟨rfl, Int.le_refl _⟩
theorem nodup_sub_len {α : Type} [DecidableEq α] : ∀ {l m : List α}, l.Nodup → (∀ x ∈ l, x ∈ m) → l.length ≤ m.length
 | [], m, _, _ => Nat.zero_le _
 | x :: l, m, hn, h => by
  have hx := h x List.mem_cons_self
  rw [List.nodup_cons] at hn
  have := nodup_sub_len (l := l) (m := m.erase x) hn.2 fun y hy => (List.mem_erase_of_ne (fun e => hn.1 (by rw [← e]; exact hy))).2 (h y (List.mem_cons_of_mem _ hy))
  rw [List.length_erase_of_mem hx] at this
  have h0 : 0 < m.length := List.length_pos_of_mem hx
  simp only [List.length_cons]; omega
theorem froms_ge : ∀ {l : List Blo} {p c : Int}, okF p c l = true → ∀ b ∈ l, p ≤ b.f
 | [], p, c, _, b, hb => by cases hb
 | a :: l, p, c, h, b, hb => by
  obtain ⟨h1, h2, h3, _, h4⟩ := okF_cons.1 h
  rcases List.mem_cons.1 hb with rfl | hb
  ·exact h3
  ·have := froms_ge h4 b hb; omega
theorem froms_nodup : ∀ {l : List Blo} {p c : Int}, okF p c l = true → (l.map Blo.f).Nodup
 | [], p, c, _ => List.nodup_nil
 | a :: l, p, c, h => by
  obtain ⟨h1, h2, h3, _, h4⟩ := okF_cons.1 h
  rw [List.map_cons, List.nodup_cons]
  refine ⟨fun hm => ?_, froms_nodup h4⟩
  obtain ⟨b, hb, e⟩ := List.mem_map.1 hm
  have := froms_ge h4 b hb
  omega
theorem start_of : ∀ {l : List Blo} {p c : Int}, okF p c l = true → ∀ b ∈ l, hold l b.f = b.c ∧ (b.f = p ∨ hold l (b.f - 1) ≠ b.c)
 | [], p, c, _, b, hb => by cases hb
 | a :: l, p, c, h, b, hb => by
  obtain ⟨h1, h2, h3, h5, h4⟩ := okF_cons.1 h
  rcases List.mem_cons.1 hb with rfl | hb
  ·refine ⟨by rw [hold_cons, if_pos (by omega)], ?_⟩
   by_cases e : b.f = p
   ·exact .inl e
   ·refine .inr ?_
    rw [hold_cons, if_neg (by omega), hold_below h4 (by omega)]; omega
  ·obtain ⟨g1, g2⟩ := start_of h4 b hb
   have hge := froms_ge h4 b hb
   have hbc : 0 ≤ b.c := by
    have : ∀ {l : List Blo} {p c : Int}, okF p c l = true → ∀ b ∈ l, 0 ≤ b.c := by
     intro l
     induction l with
     | nil => intro p c _ b hb; cases hb
     | cons a l ih =>
      intro p c h b hb
      obtain ⟨_, k2, _, _, k4⟩ := okF_cons.1 h
      rcases List.mem_cons.1 hb with rfl | hb
      ·exact k2.1
      ·exact ih k4 b hb
    exact this h4 b hb
   refine ⟨by rw [hold_cons, if_neg (by omega)]; exact g1, .inr ?_⟩
   by_cases e : b.f = a.t
   ·rw [hold_cons, if_pos (by omega)]
    intro e2
    have := hold_edge h4 (by omega)
    rw [← e, g1] at this
    exact this e2.symm
   ·rw [hold_cons, if_neg (by omega)]
    exact g2.resolve_left e
theorem start_mem : ∀ {l : List Blo} {p c : Int}, okF p c l = true → ∀ n : Int, hold l n ≠ -1 → hold l (n - 1) ≠ hold l n → n ∈ l.map Blo.f
 | [], p, c, _, n, h, _ => absurd rfl h
 | a :: l, p, c, h, n, h1, h2 => by
  obtain ⟨k1, k2, k3, k5, k4⟩ := okF_cons.1 h
  by_cases hin : a.f ≤ n ∧ n < a.t
  ·by_cases e : n = a.f
   ·rw [e]; exact List.mem_cons_self
   ·rw [hold_cons, hold_cons, if_pos (by omega), if_pos hin] at h2
    exact absurd rfl h2
  ·have e1 : hold (a :: l) n = hold l n := by rw [hold_cons, if_neg hin]
   rw [e1] at h1 h2
   have hat : a.t ≤ n := by
    refine Int.not_lt.1 fun hlt => h1 (hold_below k4 hlt)
   rw [List.map_cons]
   refine List.mem_cons_of_mem _ ?_
   by_cases e : n = a.t
   ·refine start_mem k4 n h1 ?_
    rw [hold_below k4 (by omega)]
    exact fun e => h1 e.symm
   ·rw [hold_cons, if_neg (by omega)] at h2
    exact start_mem k4 n h1 h2
theorem give_len {l m : List Blo} {f t k : Int} (hf : 0 ≤ f) (hl : okF 0 (-1) l = true) (hm : okF 0 (-1) m = true) (h : ∀ n, 0 ≤ n → n < 100000000 → hold m n = if f ≤ n ∧ n < t then k else hold l n) : m.length ≤ l.length + 2 := by
 have h1 : (m.map Blo.f).length ≤ (f :: t :: l.map Blo.f).length := nodup_sub_len (froms_nodup hm) fun n hn => by
  obtain ⟨b, hb, rfl⟩ := List.mem_map.1 hn
  obtain ⟨g1, g2⟩ := start_of hm b hb
  have hb0 := froms_ge hm b hb
  have hbr : b.f < 100000000 ∧ 0 ≤ b.c := by
   have : ∀ {l : List Blo} {p c : Int}, okF p c l = true → ∀ b ∈ l, b.f < 100000000 ∧ 0 ≤ b.c := by
    intro l
    induction l with
    | nil => intro p c _ b hb; cases hb
    | cons a l ih =>
     intro p c h b hb
     obtain ⟨k1, k2, _, _, k4⟩ := okF_cons.1 h
     rcases List.mem_cons.1 hb with rfl | hb
     ·exact ⟨by omega, k2.1⟩
     ·exact ih k4 b hb
   exact this hm b hb
  by_cases e1 : b.f = f
  ·rw [e1]; exact List.mem_cons_self
  ·by_cases e2 : b.f = t
   ·rw [e2]; exact List.mem_cons_of_mem _ List.mem_cons_self
   ·refine List.mem_cons_of_mem _ (List.mem_cons_of_mem _ ?_)
    have a1 := h b.f hb0 hbr.1
    rw [g1] at a1
    by_cases e0 : b.f = 0
    ·by_cases hin : f ≤ b.f ∧ b.f < t
     ·exfalso; omega
     ·rw [if_neg hin] at a1
      refine start_mem hl b.f (by omega) ?_
      rw [hold_below hl (by omega)]; omega
    ·have g3 := g2.resolve_left e0
     have a2 := h (b.f - 1) (by omega) (by omega)
     rw [a2] at g3
     by_cases hin : f ≤ b.f ∧ b.f < t
     ·rw [if_pos hin] at a1
      rw [if_pos (by omega)] at g3
      exact absurd a1.symm g3
     ·rw [if_neg hin] at a1
      rw [if_neg (by omega)] at g3
      exact start_mem hl b.f (by omega) (by rw [← a1]; exact g3)
 simp only [List.length_map, List.length_cons] at h1
 omega
end Go.Proofs.Ytnfnkohkcmkddaa
namespace Go.Proofs.Ytnfnkohkcmkddaa
open Go.RowKit Go.PW
set_option linter.unusedVariables false
set_option linter.unusedSimpArgs false
set_option maxRecDepth 4000
theorem pick16_ok (c n : Int) (w0 : World) (hc1 : -9223372036854775808 ≤ c) (hc2 : c ≤ 9223372036854775807) (hn : 0 < n) (hn2 : n ≤ 9223372036854775807) :
  Ret Try.prog 7 #[iv c, iv n] w0 fun v w => v = iv (pick c n) ∧ Ext No w0 w := by
 refine ret_of Try.func7 rfl Try.ntmps7 (lb rfl) fun a hfr => ?_
 have hfr : Fr 13 [(0, _), (1, _)] [] a := hfr
 have hst : St No w0 [] w0 := St.init w0
 refine wc_seq_region fun K1 hK1 => ?_
 refine wla hfr rfl fun a hfr => ?_
 refine wl_nil (hK1 _ _ ?_)
 refine wc_seq_k fun K2 hK2 => ?_
 refine wc_seq_region fun K3 hK3 => ?_
 refine wlm hfr rfl fun a hfr => ?_
 refine wlv hfr (v_lt rfl rfl) fun a hfr => ?_
 refine wl_nil (hK3 _ _ ?_)
 refine wc_cond_d hfr rfl (fun hc1 => ?_) (fun hc1 => ?_)
 ·rw [decide_eq_true hc1] at hfr
  refine wc_region ?_
  refine wlm hfr rfl fun a hfr => ?_
  refine wlv hfr (v_add rfl rfl ⟨by omega, by omega⟩) fun a hfr => ?_
  refine wlv hfr (v_neg rfl (by omega) (by omega)) fun a hfr => wla hfr rfl fun a hfr => ?_
  refine wl_nil ?_
  refine hK2 _ _ ?_
  refine wc_seq_region fun K4 hK4 => ?_
  refine wlm hfr rfl fun a hfr => wlm hfr rfl fun a hfr => ?_
  refine wlv hfr (v_rem rfl rfl (by omega) (by omega)) fun a hfr => wla hfr rfl fun a hfr => ?_
  refine wl_nil (hK4 _ _ ?_)
  refine wc_ret ?_
  refine fin_ret hfr Try.results7 (resAre_tmp rfl resAre_nil) ?_
  exact ⟨by simp only [retv, pick]; congr 2; split <;> simp_all <;> omega, hst.ext⟩
 rw [decide_eq_false hc1] at hfr
 refine wc_skip ?_
 refine hK2 _ _ ?_
 refine wc_seq_region fun K5 hK5 => ?_
 refine wlm hfr rfl fun a hfr => wlm hfr rfl fun a hfr => ?_
 refine wlv hfr (v_rem rfl rfl (by omega) (by omega)) fun a hfr => wla hfr rfl fun a hfr => ?_
 refine wl_nil (hK5 _ _ ?_)
 refine wc_ret ?_
 refine fin_ret hfr Try.results7 (resAre_tmp rfl resAre_nil) ?_
 exact ⟨by simp only [retv, pick]; congr 2; split <;> simp_all <;> omega, hst.ext⟩
theorem pickr16_ok (c n : Int) (w0 : World) (hc1 : -9223372036854775808 ≤ c) (hc2 : c ≤ 9223372036854775807) (hn : 0 < n) (hn2 : n ≤ 9223372036854775807) :
  Ret Try.prog 28 #[iv c, iv n] w0 fun v w => v = iv (pick c n) ∧ Ext No w0 w := by
 refine ret_of Try.func28 rfl Try.ntmps28 (lb rfl) fun a hfr => ?_
 have hfr : Fr 13 [(0, _), (1, _)] [] a := hfr
 have hst : St No w0 [] w0 := St.init w0
 refine wc_seq_region fun K1 hK1 => ?_
 refine wla hfr rfl fun a hfr => ?_
 refine wl_nil (hK1 _ _ ?_)
 refine wc_seq_k fun K2 hK2 => ?_
 refine wc_seq_region fun K3 hK3 => ?_
 refine wlm hfr rfl fun a hfr => ?_
 refine wlv hfr (v_lt rfl rfl) fun a hfr => ?_
 refine wl_nil (hK3 _ _ ?_)
 refine wc_cond_d hfr rfl (fun hc1 => ?_) (fun hc1 => ?_)
 ·rw [decide_eq_true hc1] at hfr
  refine wc_region ?_
  refine wlm hfr rfl fun a hfr => ?_
  refine wlv hfr (v_add rfl rfl ⟨by omega, by omega⟩) fun a hfr => ?_
  refine wlv hfr (v_neg rfl (by omega) (by omega)) fun a hfr => wla hfr rfl fun a hfr => ?_
  refine wl_nil ?_
  refine hK2 _ _ ?_
  refine wc_seq_region fun K4 hK4 => ?_
  refine wlm hfr rfl fun a hfr => wlm hfr rfl fun a hfr => ?_
  refine wlv hfr (v_rem rfl rfl (by omega) (by omega)) fun a hfr => wla hfr rfl fun a hfr => ?_
  refine wl_nil (hK4 _ _ ?_)
  refine wc_ret ?_
  refine fin_ret hfr Try.results28 (resAre_tmp rfl resAre_nil) ?_
  exact ⟨by simp only [retv, pick]; congr 2; split <;> simp_all <;> omega, hst.ext⟩
 rw [decide_eq_false hc1] at hfr
 refine wc_skip ?_
 refine hK2 _ _ ?_
 refine wc_seq_region fun K5 hK5 => ?_
 refine wlm hfr rfl fun a hfr => wlm hfr rfl fun a hfr => ?_
 refine wlv hfr (v_rem rfl rfl (by omega) (by omega)) fun a hfr => wla hfr rfl fun a hfr => ?_
 refine wl_nil (hK5 _ _ ?_)
 refine wc_ret ?_
 refine fin_ret hfr Try.results28 (resAre_tmp rfl resAre_nil) ?_
 exact ⟨by simp only [retv, pick]; congr 2; split <;> simp_all <;> omega, hst.ext⟩
theorem isIn_ok (n lo hi : Int) (w0 : World) :
  Ret Try.prog 35 #[iv n, iv lo, iv hi] w0 fun v w => v = .bool (isIn n lo hi) ∧ Ext No w0 w := by
 refine ret_of Try.func35 rfl Try.ntmps35 (lb rfl) fun a hfr => ?_
 have hfr : Fr 15 [(0, _), (1, _), (2, _)] [] a := hfr
 have hst : St No w0 [] w0 := St.init w0
 refine wc_seq_region fun K1 hK1 => ?_
 refine wla hfr rfl fun a hfr => ?_
 refine wl_nil (hK1 _ _ ?_)
 refine wc_seq_region fun K2 hK2 => ?_
 refine wlm hfr rfl fun a hfr => wlm hfr rfl fun a hfr => ?_
 refine wlv hfr (v_le rfl rfl) fun a hfr => wlm hfr rfl fun a hfr => ?_
 rcases Decidable.em (lo ≤ n) with hb1 | hb1
 ·rw [decide_eq_true hb1] at hfr
  refine wly hfr (v_move rfl) fun a hfr => wly hfr (v_move rfl) fun a hfr => wly hfr (v_le rfl rfl) fun a hfr => ?_
  refine wlv hfr (v_pick_t rfl rfl) fun a hfr => wla hfr rfl fun a hfr => ?_
  refine wl_nil (hK2 _ _ ?_)
  have hfr : Fr 15 [(0, _), (1, _), (2, _), (6, _)] [] a := hfr.pick [0, 1, 2, 6]
  refine wc_ret ?_
  refine fin_ret hfr Try.results35 (resAre_tmp rfl resAre_nil) ?_
  exact ⟨by simp [retv, isIn, *], hst.ext⟩
 rw [decide_eq_false hb1] at hfr
 refine wln hfr fun a hfr => ?_
 refine wln hfr fun a hfr => ?_
 refine wln hfr fun a hfr => ?_
 refine wlv hfr (v_pick_f rfl rfl) fun a hfr => wla hfr rfl fun a hfr => ?_
 refine wl_nil (hK2 _ _ ?_)
 have hfr : Fr 15 [(0, _), (1, _), (2, _), (6, _)] [] a := hfr.pick [0, 1, 2, 6]
 refine wc_ret ?_
 refine fin_ret hfr Try.results35 (resAre_tmp rfl resAre_nil) ?_
 exact ⟨by simp [retv, isIn, *], hst.ext⟩
theorem areValid_ok (ra rc rs rr : Int) (w0 : World) :
  Ret Try.prog 36 #[.agg #[iv ra, iv rc, iv rs, iv rr]] w0 fun v w => v = .bool (areValid ⟨ra, rc, rs, rr⟩) ∧ Ext No w0 w := by
 refine ret_of Try.func36 rfl Try.ntmps36 (lb rfl) fun a hfr => ?_
 have hfr : Fr 23 [(0, _)] [] a := hfr
 have hst : St No w0 [] w0 := St.init w0
 refine wc_seq_region fun K1 hK1 => ?_
 refine wl_box hfr hst rfl [iv ra, iv rc, iv rs, iv rr] rfl fun a w1 hfr hst => ?_
 refine wla hfr rfl fun a hfr => ?_
 refine wl_nil (hK1 _ _ ?_)
 refine wc_seq_k fun K2 hK2 => ?_
 refine wc_seq_region fun K3 hK3 => ?_
 refine wlv hfr (v_fieldAddr (v := .pointer (some ⟨w0.heap.size, 0, none⟩)) rfl (by kernel_rfl)) fun a hfr => ?_
 refine wlv hfr (v_load_blk1 (hst.get (k := 0) rfl) rfl (Try.isAgg3 _) rfl) fun a hfr => ?_
 refine wlv hfr (v_fieldAddr (v := .pointer (some ⟨w0.heap.size, 2, none⟩)) rfl (by kernel_rfl)) fun a hfr => ?_
 refine wlv hfr (v_load_blk1 (hst.get (k := 0) rfl) rfl (Try.isAgg3 _) rfl) fun a hfr => ?_
 refine wlv hfr (v_fieldAddr (v := .pointer (some ⟨w0.heap.size, 1, none⟩)) rfl (by kernel_rfl)) fun a hfr => ?_
 refine wlv hfr (v_load_blk1 (hst.get (k := 0) rfl) rfl (Try.isAgg3 _) rfl) fun a hfr => ?_
 refine wlv hfr (v_fieldAddr (v := .pointer (some ⟨w0.heap.size, 3, none⟩)) rfl (by kernel_rfl)) fun a hfr => ?_
 refine wlv hfr (v_load_blk1 (hst.get (k := 0) rfl) rfl (Try.isAgg3 _) rfl) fun a hfr => ?_
 refine wl_buildSlice (E := 3) (sz := 1) rfl [[iv ra], [iv rs], [iv rc], [iv rr]] (by kernel_rfl) (by simp) rfl (by decide) (by decide) hfr hst fun a w2 hfr hst => ?_
 refine wlv hfr ((v_len_sl (sT := 50) (hst.ownAt (i := 0) rfl) rfl rfl (Try.runUnderlying50 _)).asi (m' := 4) (by rfl)) fun a hfr => wlm hfr rfl fun a hfr => ?_
 refine wl_nil (hK3 _ _ ?_)
 have hfr : Fr 23 [(0, _), (1, _), (2, _), (13, _), (14, _), (15, _)] [] a := hfr.pick [0, 1, 2, 13, 14, 15]
 refine wc_block ?_
 refine wc_rounds 5 ?_
 refine wr_succ ?_
 refine wc_seq_region fun K4 hK4 => ?_
 refine wlv hfr ((v_lt rfl rfl).asb (b' := true) rfl) fun a hfr => ?_
 refine wl_nil (hK4 _ _ ?_)
 refine wc_seq_k fun K5 hK5 => ?_
 refine wc_cond_t hfr rfl ?_
 refine wc_skip ?_
 refine hK5 _ _ ?_
 refine wc_seq_k fun K6 hK6 => ?_
 refine wc_block ?_
 refine wc_seq_region fun K7 hK7 => ?_
 refine wlv hfr ((v_indexAddr_sl (i := 0) (sT := 50) (hst.ownAt (i := 0) rfl) rfl rfl (Try.runUnderlying50 _) (Try.sizeOf3 _) (by omega) (by simp)).as (v' := slAddr (.slice (some ⟨w1.heap.size, 0, none⟩) 4 4) (0 * 1)) rfl) fun a hfr => ?_
 refine wlv hfr (v_load_sl1 (u := iv ra) (i := 0) (j := 0) (hst.ownAt (i := 0) rfl) (by simp) rfl (Try.isAgg3 _) (by rfl)) fun a hfr => wla hfr rfl fun a hfr => ?_
 refine wl_nil (hK7 _ _ ?_)
 refine wc_seq_region fun K8 hK8 => ?_
 refine wlm hfr rfl fun a hfr => ?_
 refine wl_callp hfr hst Try.call35 rfl (isIn_ok _ _ _ _) fun a w3 hfr hst => ?_
 refine wlv hfr (v_not rfl) fun a hfr => ?_
 refine wl_nil (hK8 _ _ ?_)
 refine wc_cond hfr rfl (fun hc1 => ?_) (fun hc1 => ?_)
 ·rw [hc1] at hfr
  try simp only [qz] at hc1
  refine wc_seq_region fun K9 hK9 => ?_
  refine wla hfr rfl fun a hfr => ?_
  refine wl_nil (hK9 _ _ ?_)
  refine wc_ret ?_
  refine fin_ret hfr Try.results36 (resAre_tmp rfl resAre_nil) ?_
  exact ⟨by simp [retv, areValid, *], hst.ext⟩
 rw [hc1] at hfr
 try simp only [qz] at hc1
 refine wc_skip ?_
 refine hK6 _ _ ?_
 refine wc_region ?_
 refine wlv hfr ((v_add rfl rfl (by decide)).asi (m' := 1) rfl) fun a hfr => wlm hfr rfl fun a hfr => ?_
 refine wl_nil ?_
 refine wr_succ ?_
 refine wc_seq_region fun K10 hK10 => ?_
 refine wlv hfr ((v_lt rfl rfl).asb (b' := true) rfl) fun a hfr => ?_
 refine wl_nil (hK10 _ _ ?_)
 refine wc_seq_k fun K11 hK11 => ?_
 refine wc_cond_t hfr rfl ?_
 refine wc_skip ?_
 refine hK11 _ _ ?_
 refine wc_seq_k fun K12 hK12 => ?_
 refine wc_block ?_
 refine wc_seq_region fun K13 hK13 => ?_
 refine wlv hfr ((v_indexAddr_sl (i := 1) (sT := 50) (hst.ownAt (i := 0) rfl) rfl rfl (Try.runUnderlying50 _) (Try.sizeOf3 _) (by omega) (by simp)).as (v' := slAddr (.slice (some ⟨w1.heap.size, 0, none⟩) 4 4) (1 * 1)) rfl) fun a hfr => ?_
 refine wlv hfr (v_load_sl1 (u := iv rs) (i := 1) (j := 0) (hst.ownAt (i := 0) rfl) (by simp) rfl (Try.isAgg3 _) (by rfl)) fun a hfr => wla hfr rfl fun a hfr => ?_
 refine wl_nil (hK13 _ _ ?_)
 refine wc_seq_region fun K14 hK14 => ?_
 refine wlm hfr rfl fun a hfr => ?_
 refine wl_callp hfr hst Try.call35 rfl (isIn_ok _ _ _ _) fun a w4 hfr hst => ?_
 refine wlv hfr (v_not rfl) fun a hfr => ?_
 refine wl_nil (hK14 _ _ ?_)
 refine wc_cond hfr rfl (fun hc2 => ?_) (fun hc2 => ?_)
 ·rw [hc2] at hfr
  try simp only [qz] at hc2
  refine wc_seq_region fun K15 hK15 => ?_
  refine wla hfr rfl fun a hfr => ?_
  refine wl_nil (hK15 _ _ ?_)
  refine wc_ret ?_
  refine fin_ret hfr Try.results36 (resAre_tmp rfl resAre_nil) ?_
  exact ⟨by simp [retv, areValid, *], hst.ext⟩
 rw [hc2] at hfr
 try simp only [qz] at hc2
 refine wc_skip ?_
 refine hK12 _ _ ?_
 refine wc_region ?_
 refine wlv hfr ((v_add rfl rfl (by decide)).asi (m' := 2) rfl) fun a hfr => wlm hfr rfl fun a hfr => ?_
 refine wl_nil ?_
 refine wr_succ ?_
 refine wc_seq_region fun K16 hK16 => ?_
 refine wlv hfr ((v_lt rfl rfl).asb (b' := true) rfl) fun a hfr => ?_
 refine wl_nil (hK16 _ _ ?_)
 refine wc_seq_k fun K17 hK17 => ?_
 refine wc_cond_t hfr rfl ?_
 refine wc_skip ?_
 refine hK17 _ _ ?_
 refine wc_seq_k fun K18 hK18 => ?_
 refine wc_block ?_
 refine wc_seq_region fun K19 hK19 => ?_
 refine wlv hfr ((v_indexAddr_sl (i := 2) (sT := 50) (hst.ownAt (i := 0) rfl) rfl rfl (Try.runUnderlying50 _) (Try.sizeOf3 _) (by omega) (by simp)).as (v' := slAddr (.slice (some ⟨w1.heap.size, 0, none⟩) 4 4) (2 * 1)) rfl) fun a hfr => ?_
 refine wlv hfr (v_load_sl1 (u := iv rc) (i := 2) (j := 0) (hst.ownAt (i := 0) rfl) (by simp) rfl (Try.isAgg3 _) (by rfl)) fun a hfr => wla hfr rfl fun a hfr => ?_
 refine wl_nil (hK19 _ _ ?_)
 refine wc_seq_region fun K20 hK20 => ?_
 refine wlm hfr rfl fun a hfr => ?_
 refine wl_callp hfr hst Try.call35 rfl (isIn_ok _ _ _ _) fun a w5 hfr hst => ?_
 refine wlv hfr (v_not rfl) fun a hfr => ?_
 refine wl_nil (hK20 _ _ ?_)
 refine wc_cond hfr rfl (fun hc3 => ?_) (fun hc3 => ?_)
 ·rw [hc3] at hfr
  try simp only [qz] at hc3
  refine wc_seq_region fun K21 hK21 => ?_
  refine wla hfr rfl fun a hfr => ?_
  refine wl_nil (hK21 _ _ ?_)
  refine wc_ret ?_
  refine fin_ret hfr Try.results36 (resAre_tmp rfl resAre_nil) ?_
  exact ⟨by simp [retv, areValid, *], hst.ext⟩
 rw [hc3] at hfr
 try simp only [qz] at hc3
 refine wc_skip ?_
 refine hK18 _ _ ?_
 refine wc_region ?_
 refine wlv hfr ((v_add rfl rfl (by decide)).asi (m' := 3) rfl) fun a hfr => wlm hfr rfl fun a hfr => ?_
 refine wl_nil ?_
 refine wr_succ ?_
 refine wc_seq_region fun K22 hK22 => ?_
 refine wlv hfr ((v_lt rfl rfl).asb (b' := true) rfl) fun a hfr => ?_
 refine wl_nil (hK22 _ _ ?_)
 refine wc_seq_k fun K23 hK23 => ?_
 refine wc_cond_t hfr rfl ?_
 refine wc_skip ?_
 refine hK23 _ _ ?_
 refine wc_seq_k fun K24 hK24 => ?_
 refine wc_block ?_
 refine wc_seq_region fun K25 hK25 => ?_
 refine wlv hfr ((v_indexAddr_sl (i := 3) (sT := 50) (hst.ownAt (i := 0) rfl) rfl rfl (Try.runUnderlying50 _) (Try.sizeOf3 _) (by omega) (by simp)).as (v' := slAddr (.slice (some ⟨w1.heap.size, 0, none⟩) 4 4) (3 * 1)) rfl) fun a hfr => ?_
 refine wlv hfr (v_load_sl1 (u := iv rr) (i := 3) (j := 0) (hst.ownAt (i := 0) rfl) (by simp) rfl (Try.isAgg3 _) (by rfl)) fun a hfr => wla hfr rfl fun a hfr => ?_
 refine wl_nil (hK25 _ _ ?_)
 refine wc_seq_region fun K26 hK26 => ?_
 refine wlm hfr rfl fun a hfr => ?_
 refine wl_callp hfr hst Try.call35 rfl (isIn_ok _ _ _ _) fun a w6 hfr hst => ?_
 refine wlv hfr (v_not rfl) fun a hfr => ?_
 refine wl_nil (hK26 _ _ ?_)
 refine wc_cond hfr rfl (fun hc4 => ?_) (fun hc4 => ?_)
 ·rw [hc4] at hfr
  try simp only [qz] at hc4
  refine wc_seq_region fun K27 hK27 => ?_
  refine wla hfr rfl fun a hfr => ?_
  refine wl_nil (hK27 _ _ ?_)
  refine wc_ret ?_
  refine fin_ret hfr Try.results36 (resAre_tmp rfl resAre_nil) ?_
  exact ⟨by simp [retv, areValid, *], hst.ext⟩
 rw [hc4] at hfr
 try simp only [qz] at hc4
 refine wc_skip ?_
 refine hK24 _ _ ?_
 refine wc_region ?_
 refine wlv hfr ((v_add rfl rfl (by decide)).asi (m' := 4) rfl) fun a hfr => wlm hfr rfl fun a hfr => ?_
 refine wl_nil ?_
 refine wr_succ ?_
 refine wc_seq_region fun K28 hK28 => ?_
 refine wlv hfr ((v_lt rfl rfl).asb (b' := false) rfl) fun a hfr => ?_
 refine wl_nil (hK28 _ _ ?_)
 refine wc_seq_k fun K29 hK29 => ?_
 refine wc_cond_f hfr rfl ?_
 refine wc_exit ?_
 refine hK2 _ _ ?_
 refine wc_seq_region fun K30 hK30 => ?_
 refine wla hfr rfl fun a hfr => ?_
 refine wl_nil (hK30 _ _ ?_)
 refine wc_ret ?_
 refine fin_ret hfr Try.results36 (resAre_tmp rfl resAre_nil) ?_
 exact ⟨by simp [retv, areValid, *], hst.ext⟩
theorem isClaim_ok (cl : Clm) (w0 : World) :
  Ret Try.prog 37 #[.agg #[iv cl.number, iv cl.frm, iv cl.to, iv cl.holder, iv cl.asked, .bool cl.backed]] w0 fun v w => v = .bool (isClaim cl) ∧ Ext No w0 w := by
 refine ret_of Try.func37 rfl Try.ntmps37 (lb rfl) fun a hfr => ?_
 have hfr : Fr 33 [(0, _)] [] a := hfr
 have hst : St No w0 [] w0 := St.init w0
 refine wc_seq_region fun K1 hK1 => ?_
 refine wl_box hfr hst rfl [iv cl.number, iv cl.frm, iv cl.to, iv cl.holder, iv cl.asked, .bool cl.backed] rfl fun a w1 hfr hst => ?_
 refine wla hfr rfl fun a hfr => ?_
 refine wl_nil (hK1 _ _ ?_)
 refine wc_seq_region fun K2 hK2 => ?_
 refine wlv hfr (v_fieldAddr (v := .pointer (some ⟨w0.heap.size, 0, none⟩)) rfl (by kernel_rfl)) fun a hfr => ?_
 refine wlv hfr (v_load_blk1 (hst.get (k := 0) rfl) rfl (Try.isAgg3 _) rfl) fun a hfr => ?_
 refine wl_callp hfr hst Try.call35 rfl (isIn_ok _ _ _ _) fun a w2 hfr hst => ?_
 refine wlm hfr rfl fun a hfr => ?_
 rcases Bool.eq_false_or_eq_true (isIn cl.number 0 99999999) with hb1 | hb1
 ·rw [hb1] at hfr
  refine wly hfr (v_fieldAddr (v := .pointer (some ⟨w0.heap.size, 1, none⟩)) rfl (by kernel_rfl)) fun a hfr => wly hfr (v_load_blk1 (hst.get (k := 0) rfl) rfl (Try.isAgg3 _) rfl) fun a hfr => ?_
  refine wl_callpy hfr hst Try.call35 rfl (isIn_ok _ _ _ _) fun a w3 hfr hst => ?_
  refine wlv hfr (v_pick_t rfl rfl) fun a hfr => wlm hfr rfl fun a hfr => ?_
  rcases Bool.eq_false_or_eq_true (isIn cl.frm 0 7) with hb2 | hb2
  ·rw [hb2] at hfr
   refine wly hfr (v_fieldAddr (v := .pointer (some ⟨w0.heap.size, 2, none⟩)) rfl (by kernel_rfl)) fun a hfr => wly hfr (v_load_blk1 (hst.get (k := 0) rfl) rfl (Try.isAgg3 _) rfl) fun a hfr => ?_
   refine wl_callpy hfr hst Try.call35 rfl (isIn_ok _ _ _ _) fun a w4 hfr hst => ?_
   refine wlv hfr (v_pick_t rfl rfl) fun a hfr => wlm hfr rfl fun a hfr => ?_
   rcases Bool.eq_false_or_eq_true (isIn cl.to 0 7) with hb3 | hb3
   ·rw [hb3] at hfr
    refine wly hfr (v_fieldAddr (v := .pointer (some ⟨w0.heap.size, 1, none⟩)) rfl (by kernel_rfl)) fun a hfr => wly hfr (v_load_blk1 (hst.get (k := 0) rfl) rfl (Try.isAgg3 _) rfl) fun a hfr => wly hfr (v_fieldAddr (v := .pointer (some ⟨w0.heap.size, 2, none⟩)) rfl (by kernel_rfl)) fun a hfr => wly hfr (v_load_blk1 (hst.get (k := 0) rfl) rfl (Try.isAgg3 _) rfl) fun a hfr => wly hfr (v_ne rfl rfl) fun a hfr => ?_
    refine wlv hfr (v_pick_t rfl rfl) fun a hfr => wlm hfr rfl fun a hfr => ?_
    rcases (Decidable.em (cl.frm = cl.to)).symm with hb4 | hb4
    ·rw [decide_eq_false hb4] at hfr
     refine wly hfr (v_fieldAddr (v := .pointer (some ⟨w0.heap.size, 3, none⟩)) rfl (by kernel_rfl)) fun a hfr => wly hfr (v_load_blk1 (hst.get (k := 0) rfl) rfl (Try.isAgg3 _) rfl) fun a hfr => ?_
     refine wl_callpy hfr hst Try.call35 rfl (isIn_ok _ _ _ _) fun a w5 hfr hst => ?_
     refine wlv hfr (v_pick_t rfl rfl) fun a hfr => wlm hfr rfl fun a hfr => ?_
     rcases Bool.eq_false_or_eq_true (isIn cl.holder 0 63) with hb5 | hb5
     ·rw [hb5] at hfr
      refine wly hfr (v_fieldAddr (v := .pointer (some ⟨w0.heap.size, 4, none⟩)) rfl (by kernel_rfl)) fun a hfr => wly hfr (v_load_blk1 (hst.get (k := 0) rfl) rfl (Try.isAgg3 _) rfl) fun a hfr => ?_
      refine wl_callpy hfr hst Try.call35 rfl (isIn_ok _ _ _ _) fun a w6 hfr hst => ?_
      refine wlv hfr (v_pick_t rfl rfl) fun a hfr => wla hfr rfl fun a hfr => ?_
      refine wl_nil (hK2 _ _ ?_)
      have hfr : Fr 33 [(0, _), (1, _), (2, _)] [] a := hfr.pick [0, 1, 2]
      refine wc_ret ?_
      refine fin_ret hfr Try.results37 (resAre_tmp rfl resAre_nil) ?_
      exact ⟨by simp [retv, isClaim, *], hst.ext⟩
     rw [hb5] at hfr
     refine wln hfr fun a hfr => ?_
     refine wln hfr fun a hfr => ?_
     refine wln hfr fun a hfr => ?_
     refine wlv hfr (v_pick_f rfl rfl) fun a hfr => wla hfr rfl fun a hfr => ?_
     refine wl_nil (hK2 _ _ ?_)
     have hfr : Fr 33 [(0, _), (1, _), (2, _)] [] a := hfr.pick [0, 1, 2]
     refine wc_ret ?_
     refine fin_ret hfr Try.results37 (resAre_tmp rfl resAre_nil) ?_
     exact ⟨by simp [retv, isClaim, *], hst.ext⟩
    rw [decide_eq_true hb4] at hfr
    refine wln hfr fun a hfr => ?_
    refine wln hfr fun a hfr => ?_
    refine wln hfr fun a hfr => ?_
    refine wlv hfr (v_pick_f rfl rfl) fun a hfr => wlm hfr rfl fun a hfr => ?_
    refine wln hfr fun a hfr => ?_
    refine wln hfr fun a hfr => ?_
    refine wln hfr fun a hfr => ?_
    refine wlv hfr (v_pick_f rfl rfl) fun a hfr => wla hfr rfl fun a hfr => ?_
    refine wl_nil (hK2 _ _ ?_)
    have hfr : Fr 33 [(0, _), (1, _), (2, _)] [] a := hfr.pick [0, 1, 2]
    refine wc_ret ?_
    refine fin_ret hfr Try.results37 (resAre_tmp rfl resAre_nil) ?_
    exact ⟨by simp [retv, isClaim, *], hst.ext⟩
   rw [hb3] at hfr
   refine wln hfr fun a hfr => ?_
   refine wln hfr fun a hfr => ?_
   refine wln hfr fun a hfr => ?_
   refine wln hfr fun a hfr => ?_
   refine wln hfr fun a hfr => ?_
   refine wlv hfr (v_pick_f rfl rfl) fun a hfr => wlm hfr rfl fun a hfr => ?_
   refine wln hfr fun a hfr => ?_
   refine wln hfr fun a hfr => ?_
   refine wln hfr fun a hfr => ?_
   refine wlv hfr (v_pick_f rfl rfl) fun a hfr => wlm hfr rfl fun a hfr => ?_
   refine wln hfr fun a hfr => ?_
   refine wln hfr fun a hfr => ?_
   refine wln hfr fun a hfr => ?_
   refine wlv hfr (v_pick_f rfl rfl) fun a hfr => wla hfr rfl fun a hfr => ?_
   refine wl_nil (hK2 _ _ ?_)
   have hfr : Fr 33 [(0, _), (1, _), (2, _)] [] a := hfr.pick [0, 1, 2]
   refine wc_ret ?_
   refine fin_ret hfr Try.results37 (resAre_tmp rfl resAre_nil) ?_
   exact ⟨by simp [retv, isClaim, *], hst.ext⟩
  rw [hb2] at hfr
  refine wln hfr fun a hfr => ?_
  refine wln hfr fun a hfr => ?_
  refine wln hfr fun a hfr => ?_
  refine wlv hfr (v_pick_f rfl rfl) fun a hfr => wlm hfr rfl fun a hfr => ?_
  refine wln hfr fun a hfr => ?_
  refine wln hfr fun a hfr => ?_
  refine wln hfr fun a hfr => ?_
  refine wln hfr fun a hfr => ?_
  refine wln hfr fun a hfr => ?_
  refine wlv hfr (v_pick_f rfl rfl) fun a hfr => wlm hfr rfl fun a hfr => ?_
  refine wln hfr fun a hfr => ?_
  refine wln hfr fun a hfr => ?_
  refine wln hfr fun a hfr => ?_
  refine wlv hfr (v_pick_f rfl rfl) fun a hfr => wlm hfr rfl fun a hfr => ?_
  refine wln hfr fun a hfr => ?_
  refine wln hfr fun a hfr => ?_
  refine wln hfr fun a hfr => ?_
  refine wlv hfr (v_pick_f rfl rfl) fun a hfr => wla hfr rfl fun a hfr => ?_
  refine wl_nil (hK2 _ _ ?_)
  have hfr : Fr 33 [(0, _), (1, _), (2, _)] [] a := hfr.pick [0, 1, 2]
  refine wc_ret ?_
  refine fin_ret hfr Try.results37 (resAre_tmp rfl resAre_nil) ?_
  exact ⟨by simp [retv, isClaim, *], hst.ext⟩
 rw [hb1] at hfr
 refine wln hfr fun a hfr => ?_
 refine wln hfr fun a hfr => ?_
 refine wln hfr fun a hfr => ?_
 refine wlv hfr (v_pick_f rfl rfl) fun a hfr => wlm hfr rfl fun a hfr => ?_
 refine wln hfr fun a hfr => ?_
 refine wln hfr fun a hfr => ?_
 refine wln hfr fun a hfr => ?_
 refine wlv hfr (v_pick_f rfl rfl) fun a hfr => wlm hfr rfl fun a hfr => ?_
 refine wln hfr fun a hfr => ?_
 refine wln hfr fun a hfr => ?_
 refine wln hfr fun a hfr => ?_
 refine wln hfr fun a hfr => ?_
 refine wln hfr fun a hfr => ?_
 refine wlv hfr (v_pick_f rfl rfl) fun a hfr => wlm hfr rfl fun a hfr => ?_
 refine wln hfr fun a hfr => ?_
 refine wln hfr fun a hfr => ?_
 refine wln hfr fun a hfr => ?_
 refine wlv hfr (v_pick_f rfl rfl) fun a hfr => wlm hfr rfl fun a hfr => ?_
 refine wln hfr fun a hfr => ?_
 refine wln hfr fun a hfr => ?_
 refine wln hfr fun a hfr => ?_
 refine wlv hfr (v_pick_f rfl rfl) fun a hfr => wla hfr rfl fun a hfr => ?_
 refine wl_nil (hK2 _ _ ?_)
 have hfr : Fr 33 [(0, _), (1, _), (2, _)] [] a := hfr.pick [0, 1, 2]
 refine wc_ret ?_
 refine fin_ret hfr Try.results37 (resAre_tmp rfl resAre_nil) ?_
 exact ⟨by simp [retv, isClaim, *], hst.ext⟩
theorem rule_answer_ok (ra rc rs rr : Int) (w0 : World) :
  Ret Try.prog 74 #[.agg #[iv ra, iv rc, iv rs, iv rr]] w0 fun v w => v = iv ra ∧ Ext No w0 w := by
 refine ret_of Try.func74 rfl Try.ntmps74 (lb rfl) fun a hfr => ?_
 have hfr : Fr 5 [(0, _)] [] a := hfr
 have hst : St No w0 [] w0 := St.init w0
 refine wc_seq_region fun K1 hK1 => ?_
 refine wl_box hfr hst rfl [iv ra, iv rc, iv rs, iv rr] rfl fun a w1 hfr hst => ?_
 refine wla hfr rfl fun a hfr => ?_
 refine wl_nil (hK1 _ _ ?_)
 refine wc_seq_region fun K2 hK2 => ?_
 refine wlv hfr (v_fieldAddr (v := .pointer (some ⟨w0.heap.size, 0, none⟩)) rfl (by kernel_rfl)) fun a hfr => ?_
 refine wlv hfr (v_load_blk1 (hst.get (k := 0) rfl) rfl (Try.isAgg3 _) rfl) fun a hfr => wla hfr rfl fun a hfr => ?_
 refine wl_nil (hK2 _ _ ?_)
 refine wc_ret ?_
 refine fin_ret hfr Try.results74 (resAre_tmp rfl resAre_nil) ?_
 exact ⟨by rfl, hst.ext⟩
theorem rule_cooling_ok (ra rc rs rr : Int) (w0 : World) :
  Ret Try.prog 76 #[.agg #[iv ra, iv rc, iv rs, iv rr]] w0 fun v w => v = iv rc ∧ Ext No w0 w := by
 refine ret_of Try.func76 rfl Try.ntmps76 (lb rfl) fun a hfr => ?_
 have hfr : Fr 5 [(0, _)] [] a := hfr
 have hst : St No w0 [] w0 := St.init w0
 refine wc_seq_region fun K1 hK1 => ?_
 refine wl_box hfr hst rfl [iv ra, iv rc, iv rs, iv rr] rfl fun a w1 hfr hst => ?_
 refine wla hfr rfl fun a hfr => ?_
 refine wl_nil (hK1 _ _ ?_)
 refine wc_seq_region fun K2 hK2 => ?_
 refine wlv hfr (v_fieldAddr (v := .pointer (some ⟨w0.heap.size, 1, none⟩)) rfl (by kernel_rfl)) fun a hfr => ?_
 refine wlv hfr (v_load_blk1 (hst.get (k := 0) rfl) rfl (Try.isAgg3 _) rfl) fun a hfr => wla hfr rfl fun a hfr => ?_
 refine wl_nil (hK2 _ _ ?_)
 refine wc_ret ?_
 refine fin_ret hfr Try.results76 (resAre_tmp rfl resAre_nil) ?_
 exact ⟨by rfl, hst.ext⟩
theorem rule_settle_ok (ra rc rs rr : Int) (w0 : World) :
  Ret Try.prog 75 #[.agg #[iv ra, iv rc, iv rs, iv rr]] w0 fun v w => v = iv rs ∧ Ext No w0 w := by
 refine ret_of Try.func75 rfl Try.ntmps75 (lb rfl) fun a hfr => ?_
 have hfr : Fr 5 [(0, _)] [] a := hfr
 have hst : St No w0 [] w0 := St.init w0
 refine wc_seq_region fun K1 hK1 => ?_
 refine wl_box hfr hst rfl [iv ra, iv rc, iv rs, iv rr] rfl fun a w1 hfr hst => ?_
 refine wla hfr rfl fun a hfr => ?_
 refine wl_nil (hK1 _ _ ?_)
 refine wc_seq_region fun K2 hK2 => ?_
 refine wlv hfr (v_fieldAddr (v := .pointer (some ⟨w0.heap.size, 2, none⟩)) rfl (by kernel_rfl)) fun a hfr => ?_
 refine wlv hfr (v_load_blk1 (hst.get (k := 0) rfl) rfl (Try.isAgg3 _) rfl) fun a hfr => wla hfr rfl fun a hfr => ?_
 refine wl_nil (hK2 _ _ ?_)
 refine wc_ret ?_
 refine fin_ret hfr Try.results75 (resAre_tmp rfl resAre_nil) ?_
 exact ⟨by rfl, hst.ext⟩
theorem rule_reverse_ok (ra rc rs rr : Int) (w0 : World) :
  Ret Try.prog 77 #[.agg #[iv ra, iv rc, iv rs, iv rr]] w0 fun v w => v = iv rr ∧ Ext No w0 w := by
 refine ret_of Try.func77 rfl Try.ntmps77 (lb rfl) fun a hfr => ?_
 have hfr : Fr 5 [(0, _)] [] a := hfr
 have hst : St No w0 [] w0 := St.init w0
 refine wc_seq_region fun K1 hK1 => ?_
 refine wl_box hfr hst rfl [iv ra, iv rc, iv rs, iv rr] rfl fun a w1 hfr hst => ?_
 refine wla hfr rfl fun a hfr => ?_
 refine wl_nil (hK1 _ _ ?_)
 refine wc_seq_region fun K2 hK2 => ?_
 refine wlv hfr (v_fieldAddr (v := .pointer (some ⟨w0.heap.size, 3, none⟩)) rfl (by kernel_rfl)) fun a hfr => ?_
 refine wlv hfr (v_load_blk1 (hst.get (k := 0) rfl) rfl (Try.isAgg3 _) rfl) fun a hfr => wla hfr rfl fun a hfr => ?_
 refine wl_nil (hK2 _ _ ?_)
 refine wc_ret ?_
 refine fin_ret hfr Try.results77 (resAre_tmp rfl resAre_nil) ?_
 exact ⟨by rfl, hst.ext⟩
theorem ends_ok (rl : Rul) (cl : Clm) (w0 : World) :
  Ret Try.prog 16 #[.agg #[iv rl.answer, iv rl.cooling, iv rl.settle, iv rl.reverse], .agg #[iv cl.number, iv cl.frm, iv cl.to, iv cl.holder, iv cl.asked, .bool cl.backed]] w0 fun v w => v = (if areValid rl && isClaim cl then .tuple #[iv (ends rl cl), iv 0] else .tuple #[iv 0, iv 160]) ∧ Ext No w0 w := by
 refine ret_of Try.func16 rfl Try.ntmps16 (lb rfl) fun a hfr => ?_
 have hfr : Fr 29 [(0, _), (1, _)] [] a := hfr
 have hst : St No w0 [] w0 := St.init w0
 refine wc_seq_region fun K1 hK1 => ?_
 refine wl_box hfr hst rfl [iv rl.answer, iv rl.cooling, iv rl.settle, iv rl.reverse] rfl fun a w1 hfr hst => ?_
 refine wl_box hfr hst rfl [iv cl.number, iv cl.frm, iv cl.to, iv cl.holder, iv cl.asked, .bool cl.backed] rfl fun a w2 hfr hst => ?_
 refine wla hfr rfl fun a hfr => wla hfr rfl fun a hfr => ?_
 refine wl_nil (hK1 _ _ ?_)
 refine wc_seq_k fun K2 hK2 => ?_
 refine wc_seq_region fun K3 hK3 => ?_
 refine wlv hfr (v_load_all (hst.get (k := 1) rfl) rfl (Try.isAgg31 _) (Try.sizeOf31 _)) fun a hfr => ?_
 refine wl_callp hfr hst Try.call36 rfl (areValid_ok _ _ _ _ _) fun a w3 hfr hst => ?_
 refine wlv hfr (v_not rfl) fun a hfr => wlm hfr rfl fun a hfr => ?_
 rcases Bool.eq_false_or_eq_true (!(areValid rl)) with hb1 | hb1
 ·rw [hb1] at hfr
  try simp only [qz] at hb1
  refine wln hfr fun a hfr => ?_
  refine wln hfr fun a hfr => ?_
  refine wln hfr fun a hfr => ?_
  refine wlv hfr (v_pick_t rfl rfl) fun a hfr => ?_
  refine wl_nil (hK3 _ _ ?_)
  have hfr : Fr 29 [(0, _), (1, _), (2, _), (3, _), (4, _), (5, _), (13, _)] [] a := hfr.pick [0, 1, 2, 3, 4, 5, 13]
  refine wc_cond_t hfr rfl ?_
  refine wc_seq_region fun K4 hK4 => ?_
  refine wla hfr rfl fun a hfr => wla hfr rfl fun a hfr => ?_
  refine wl_nil (hK4 _ _ ?_)
  refine wc_ret ?_
  refine fin_ret hfr Try.results16 (resAre_tmp rfl (resAre_tmp rfl resAre_nil)) ?_
  exact ⟨by simp_all [retv, ends], hst.ext⟩
 rw [hb1] at hfr
 try simp only [qz] at hb1
 have hhb1 := areValid_le hb1
 refine wly hfr (v_load_all (hst.get (k := 0) rfl) rfl (Try.isAgg33 _) (Try.sizeOf33 _)) fun a hfr => ?_
 refine wl_callpy hfr hst Try.call37 rfl (isClaim_ok cl _) fun a w4 hfr hst => ?_
 refine wly hfr (v_not rfl) fun a hfr => ?_
 refine wlv hfr (v_pick_f rfl rfl) fun a hfr => ?_
 refine wl_nil (hK3 _ _ ?_)
 have hfr : Fr 29 [(0, _), (1, _), (2, _), (3, _), (4, _), (5, _), (13, _)] [] a := hfr.pick [0, 1, 2, 3, 4, 5, 13]
 refine wc_cond hfr rfl (fun hc2 => ?_) (fun hc2 => ?_)
 ·rw [hc2] at hfr
  try simp only [qz] at hc2
  refine wc_seq_region fun K5 hK5 => ?_
  refine wla hfr rfl fun a hfr => wla hfr rfl fun a hfr => ?_
  refine wl_nil (hK5 _ _ ?_)
  refine wc_ret ?_
  refine fin_ret hfr Try.results16 (resAre_tmp rfl (resAre_tmp rfl resAre_nil)) ?_
  exact ⟨by simp_all [retv, ends], hst.ext⟩
 rw [hc2] at hfr
 try simp only [qz] at hc2
 have hhc2 := isClaim_le hc2
 refine wc_skip ?_
 refine hK2 _ _ ?_
 refine wc_seq_region fun K6 hK6 => ?_
 refine wlv hfr (v_fieldAddr (v := .pointer (some ⟨w1.heap.size, 4, none⟩)) rfl (by kernel_rfl)) fun a hfr => ?_
 refine wlv hfr (v_load_blk1 (hst.get (k := 0) rfl) rfl (Try.isAgg3 _) rfl) fun a hfr => ?_
 refine wlv hfr (v_fieldAddr (v := .pointer (some ⟨w0.heap.size, 0, none⟩)) rfl (by kernel_rfl)) fun a hfr => ?_
 refine wlv hfr (v_load_blk1 (hst.get (k := 1) rfl) rfl (Try.isAgg3 _) rfl) fun a hfr => ?_
 refine wlv hfr (v_add rfl rfl ⟨by omega, by omega⟩) fun a hfr => ?_
 refine wlv hfr (v_sub rfl rfl ⟨by omega, by omega⟩) fun a hfr => ?_
 refine wlv hfr (v_fieldAddr (v := .pointer (some ⟨w0.heap.size, 2, none⟩)) rfl (by kernel_rfl)) fun a hfr => ?_
 refine wlv hfr (v_load_blk1 (hst.get (k := 1) rfl) rfl (Try.isAgg3 _) rfl) fun a hfr => ?_
 refine wlv hfr (v_add rfl rfl ⟨by omega, by omega⟩) fun a hfr => ?_
 refine wlv hfr (v_fieldAddr (v := .pointer (some ⟨w0.heap.size, 1, none⟩)) rfl (by kernel_rfl)) fun a hfr => ?_
 refine wlv hfr (v_load_blk1 (hst.get (k := 1) rfl) rfl (Try.isAgg3 _) rfl) fun a hfr => ?_
 refine wlv hfr (v_add rfl rfl ⟨by omega, by omega⟩) fun a hfr => ?_
 refine wlv hfr (v_fieldAddr (v := .pointer (some ⟨w0.heap.size, 3, none⟩)) rfl (by kernel_rfl)) fun a hfr => ?_
 refine wlv hfr (v_load_blk1 (hst.get (k := 1) rfl) rfl (Try.isAgg3 _) rfl) fun a hfr => ?_
 refine wlv hfr (v_add rfl rfl ⟨by omega, by omega⟩) fun a hfr => wla hfr rfl fun a hfr => wla hfr rfl fun a hfr => ?_
 refine wl_nil (hK6 _ _ ?_)
 have hfr : Fr 29 [(0, _), (1, _), (2, _), (3, _), (13, _), (4, _), (5, _)] [] a := hfr.pick [0, 1, 2, 3, 13, 4, 5]
 refine wc_ret ?_
 refine fin_ret hfr Try.results16 (resAre_tmp rfl (resAre_tmp rfl resAre_nil)) ?_
 exact ⟨by simp_all [retv, ends], hst.ext⟩
end Go.Proofs.Ytnfnkohkcmkddaa
namespace Go.Proofs.Ytnfnkohkcmkddaa
open Go.RowKit Go.PW
set_option linter.unusedVariables false
set_option linter.unusedSimpArgs false
set_option maxRecDepth 4000
set_option maxHeartbeats 4000000 in
theorem valid1_ok (ev0 : Evt) (bb : Nat) (last : Int) (w0 : World) (hb : (blk bb [iv last] 3).ok w0) :
  Ret Try.prog 39 #[.agg #[iv ev0.kind, iv ev0.at_, iv ev0.reason], .pointer (some ⟨bb, 0, none⟩)] w0 fun v w => v = .bool (badEvt last ev0) ∧ Ext (· = bb) w0 w ∧ (blk bb [iv ev0.at_] 3).ok w := by
 refine ret_of Try.func39 rfl Try.ntmps39 (lb rfl) fun a hfr => ?_
 have hfr : Fr 37 [(0, _), (1, _)] [] a := hfr
 have hst : St (· = bb) w0 [blk bb [iv last] 3] w0 := St.one hb
 refine wc_seq_region fun K1 hK1 => ?_
 refine wl_box hfr hst rfl [iv ev0.kind, iv ev0.at_, iv ev0.reason] rfl fun a w1 hfr hst => ?_
 refine wla hfr rfl fun a hfr => ?_
 refine wl_nil (hK1 _ _ ?_)
 refine wc_seq_region fun K2 hK2 => ?_
 refine wlv hfr (v_load_blk1 (hst.get (k := 1) rfl) rfl (Try.isAgg3 _) rfl) fun a hfr => wla hfr rfl fun a hfr => ?_
 refine wl_nil (hK2 _ _ ?_)
 refine wc_seq_region fun K3 hK3 => ?_
 refine wlv hfr (v_fieldAddr (v := .pointer (some ⟨w0.heap.size, 1, none⟩)) rfl (by kernel_rfl)) fun a hfr => ?_
 refine wlv hfr (v_load_blk1 (hst.get (k := 0) rfl) rfl (Try.isAgg3 _) rfl) fun a hfr => ?_
 refine wl_sto 1 hfr hst [iv ev0.at_] rfl (Try.sizeOf3 _) fun a w2 hfr hst => ?_
 refine wl_nil (hK3 _ _ ?_)
 refine wc_seq_region fun K4 hK4 => ?_
 refine wla hfr rfl fun a hfr => wla hfr rfl fun a hfr => ?_
 refine wl_nil (hK4 _ _ ?_)
 refine wc_seq_k fun K5 hK5 => ?_
 refine wc_seq_region fun K6 hK6 => ?_
 refine wlv hfr (v_fieldAddr (v := .pointer (some ⟨w0.heap.size, 0, none⟩)) rfl (by kernel_rfl)) fun a hfr => ?_
 refine wlv hfr (v_load_blk1 (hst.get (k := 0) rfl) rfl (Try.isAgg3 _) rfl) fun a hfr => ?_
 refine wlv hfr (v_eq rfl rfl) fun a hfr => wlm hfr rfl fun a hfr => ?_
 rcases Decidable.em (ev0.kind = 2) with hb1 | hb1
 ·rw [decide_eq_true hb1] at hfr
  refine wln hfr fun a hfr => ?_
  refine wln hfr fun a hfr => ?_
  refine wln hfr fun a hfr => ?_
  refine wlv hfr (v_pick_t rfl rfl) fun a hfr => ?_
  refine wl_nil (hK6 _ _ ?_)
  have hfr : Fr 37 [(0, _), (1, _), (2, _), (3, _), (7, _), (4, _), (8, _), (9, _), (5, _), (6, _), (17, _)] [] a := hfr.pick [0, 1, 2, 3, 7, 4, 8, 9, 5, 6, 17]
  refine wc_cond_t hfr rfl ?_
  refine wc_region ?_
  refine wla hfr rfl fun a hfr => wla hfr rfl fun a hfr => ?_
  refine wl_nil ?_
  refine hK5 _ _ ?_
  refine wc_seq_region fun K7 hK7 => ?_
  refine wlv hfr (v_fieldAddr (v := .pointer (some ⟨w0.heap.size, 0, none⟩)) rfl (by kernel_rfl)) fun a hfr => ?_
  refine wlv hfr (v_load_blk1 (hst.get (k := 0) rfl) rfl (Try.isAgg3 _) rfl) fun a hfr => ?_
  refine wl_callp hfr hst Try.call35 rfl (isIn_ok _ _ _ _) fun a w3 hfr hst => ?_
  refine wlv hfr (v_not rfl) fun a hfr => wlm hfr rfl fun a hfr => ?_
  rcases Bool.eq_false_or_eq_true (!(isIn ev0.kind 1 6)) with hb2 | hb2
  ·rw [hb2] at hfr
   try simp only [qz] at hb2
   refine wln hfr fun a hfr => ?_
   refine wln hfr fun a hfr => ?_
   refine wln hfr fun a hfr => ?_
   refine wln hfr fun a hfr => ?_
   refine wln hfr fun a hfr => ?_
   refine wlv hfr (v_pick_t rfl rfl) fun a hfr => wlm hfr rfl fun a hfr => ?_
   refine wln hfr fun a hfr => ?_
   refine wln hfr fun a hfr => ?_
   refine wln hfr fun a hfr => ?_
   refine wln hfr fun a hfr => ?_
   refine wln hfr fun a hfr => ?_
   refine wln hfr fun a hfr => ?_
   refine wlv hfr (v_pick_t rfl rfl) fun a hfr => wla hfr rfl fun a hfr => ?_
   refine wl_nil (hK7 _ _ ?_)
   have hfr : Fr 37 [(0, _), (1, _), (2, _), (7, _), (4, _), (8, _), (9, _), (17, _), (5, _), (6, _), (3, _)] [] a := hfr.pick [0, 1, 2, 7, 4, 8, 9, 17, 5, 6, 3]
   refine wc_ret ?_
   refine fin_ret hfr Try.results39 (resAre_tmp rfl resAre_nil) ?_
   exact ⟨by simp_all [retv, badEvt], hst.ext, hst.get (k := 1) rfl⟩
  rw [hb2] at hfr
  try simp only [qz] at hb2
  refine wly hfr (v_fieldAddr (v := .pointer (some ⟨w0.heap.size, 1, none⟩)) rfl (by kernel_rfl)) fun a hfr => wly hfr (v_load_blk1 (hst.get (k := 0) rfl) rfl (Try.isAgg3 _) rfl) fun a hfr => wly hfr (v_move rfl) fun a hfr => ?_
  refine wl_callpy hfr hst Try.call35 rfl (isIn_ok _ _ _ _) fun a w4 hfr hst => ?_
  refine wly hfr (v_not rfl) fun a hfr => ?_
  refine wlv hfr (v_pick_f rfl rfl) fun a hfr => wlm hfr rfl fun a hfr => ?_
  rcases Bool.eq_false_or_eq_true (!(isIn ev0.at_ last 20000000)) with hb3 | hb3
  ·rw [hb3] at hfr
   try simp only [qz] at hb3
   refine wln hfr fun a hfr => ?_
   refine wln hfr fun a hfr => ?_
   refine wln hfr fun a hfr => ?_
   refine wln hfr fun a hfr => ?_
   refine wln hfr fun a hfr => ?_
   refine wln hfr fun a hfr => ?_
   refine wlv hfr (v_pick_t rfl rfl) fun a hfr => wla hfr rfl fun a hfr => ?_
   refine wl_nil (hK7 _ _ ?_)
   have hfr : Fr 37 [(0, _), (1, _), (2, _), (7, _), (4, _), (8, _), (9, _), (17, _), (5, _), (6, _), (3, _)] [] a := hfr.pick [0, 1, 2, 7, 4, 8, 9, 17, 5, 6, 3]
   refine wc_ret ?_
   refine fin_ret hfr Try.results39 (resAre_tmp rfl resAre_nil) ?_
   exact ⟨by simp_all [retv, badEvt], hst.ext, hst.get (k := 1) rfl⟩
  rw [hb3] at hfr
  try simp only [qz] at hb3
  refine wly hfr (v_fieldAddr (v := .pointer (some ⟨w0.heap.size, 2, none⟩)) rfl (by kernel_rfl)) fun a hfr => wly hfr (v_load_blk1 (hst.get (k := 0) rfl) rfl (Try.isAgg3 _) rfl) fun a hfr => wly hfr (v_move rfl) fun a hfr => wly hfr (v_move rfl) fun a hfr => ?_
  refine wl_callpy hfr hst Try.call35 rfl (isIn_ok _ _ _ _) fun a w5 hfr hst => ?_
  refine wly hfr (v_not rfl) fun a hfr => ?_
  refine wlv hfr (v_pick_f rfl rfl) fun a hfr => wla hfr rfl fun a hfr => ?_
  refine wl_nil (hK7 _ _ ?_)
  have hfr : Fr 37 [(0, _), (1, _), (2, _), (7, _), (4, _), (8, _), (9, _), (17, _), (5, _), (6, _), (3, _)] [] a := hfr.pick [0, 1, 2, 7, 4, 8, 9, 17, 5, 6, 3]
  refine wc_ret ?_
  refine fin_ret hfr Try.results39 (resAre_tmp rfl resAre_nil) ?_
  exact ⟨by simp_all [retv, badEvt], hst.ext, hst.get (k := 1) rfl⟩
 rw [decide_eq_false hb1] at hfr
 refine wly hfr (v_fieldAddr (v := .pointer (some ⟨w0.heap.size, 0, none⟩)) rfl (by kernel_rfl)) fun a hfr => wly hfr (v_load_blk1 (hst.get (k := 0) rfl) rfl (Try.isAgg3 _) rfl) fun a hfr => wly hfr (v_eq rfl rfl) fun a hfr => ?_
 refine wlv hfr (v_pick_f rfl rfl) fun a hfr => ?_
 refine wl_nil (hK6 _ _ ?_)
 have hfr : Fr 37 [(0, _), (1, _), (2, _), (3, _), (7, _), (4, _), (8, _), (9, _), (5, _), (6, _), (17, _)] [] a := hfr.pick [0, 1, 2, 3, 7, 4, 8, 9, 5, 6, 17]
 refine wc_cond_d hfr rfl (fun hc4 => ?_) (fun hc4 => ?_)
 ·rw [decide_eq_true hc4] at hfr
  refine wc_region ?_
  refine wla hfr rfl fun a hfr => wla hfr rfl fun a hfr => ?_
  refine wl_nil ?_
  refine hK5 _ _ ?_
  refine wc_seq_region fun K8 hK8 => ?_
  refine wlv hfr (v_fieldAddr (v := .pointer (some ⟨w0.heap.size, 0, none⟩)) rfl (by kernel_rfl)) fun a hfr => ?_
  refine wlv hfr (v_load_blk1 (hst.get (k := 0) rfl) rfl (Try.isAgg3 _) rfl) fun a hfr => ?_
  refine wl_callp hfr hst Try.call35 rfl (isIn_ok _ _ _ _) fun a w6 hfr hst => ?_
  refine wlv hfr (v_not rfl) fun a hfr => wlm hfr rfl fun a hfr => ?_
  rcases Bool.eq_false_or_eq_true (!(isIn ev0.kind 1 6)) with hb5 | hb5
  ·rw [hb5] at hfr
   try simp only [qz] at hb5
   refine wln hfr fun a hfr => ?_
   refine wln hfr fun a hfr => ?_
   refine wln hfr fun a hfr => ?_
   refine wln hfr fun a hfr => ?_
   refine wln hfr fun a hfr => ?_
   refine wlv hfr (v_pick_t rfl rfl) fun a hfr => wlm hfr rfl fun a hfr => ?_
   refine wln hfr fun a hfr => ?_
   refine wln hfr fun a hfr => ?_
   refine wln hfr fun a hfr => ?_
   refine wln hfr fun a hfr => ?_
   refine wln hfr fun a hfr => ?_
   refine wln hfr fun a hfr => ?_
   refine wlv hfr (v_pick_t rfl rfl) fun a hfr => wla hfr rfl fun a hfr => ?_
   refine wl_nil (hK8 _ _ ?_)
   have hfr : Fr 37 [(0, _), (1, _), (2, _), (7, _), (4, _), (8, _), (9, _), (17, _), (5, _), (6, _), (3, _)] [] a := hfr.pick [0, 1, 2, 7, 4, 8, 9, 17, 5, 6, 3]
   refine wc_ret ?_
   refine fin_ret hfr Try.results39 (resAre_tmp rfl resAre_nil) ?_
   exact ⟨by simp_all [retv, badEvt], hst.ext, hst.get (k := 1) rfl⟩
  rw [hb5] at hfr
  try simp only [qz] at hb5
  refine wly hfr (v_fieldAddr (v := .pointer (some ⟨w0.heap.size, 1, none⟩)) rfl (by kernel_rfl)) fun a hfr => wly hfr (v_load_blk1 (hst.get (k := 0) rfl) rfl (Try.isAgg3 _) rfl) fun a hfr => wly hfr (v_move rfl) fun a hfr => ?_
  refine wl_callpy hfr hst Try.call35 rfl (isIn_ok _ _ _ _) fun a w7 hfr hst => ?_
  refine wly hfr (v_not rfl) fun a hfr => ?_
  refine wlv hfr (v_pick_f rfl rfl) fun a hfr => wlm hfr rfl fun a hfr => ?_
  rcases Bool.eq_false_or_eq_true (!(isIn ev0.at_ last 20000000)) with hb6 | hb6
  ·rw [hb6] at hfr
   try simp only [qz] at hb6
   refine wln hfr fun a hfr => ?_
   refine wln hfr fun a hfr => ?_
   refine wln hfr fun a hfr => ?_
   refine wln hfr fun a hfr => ?_
   refine wln hfr fun a hfr => ?_
   refine wln hfr fun a hfr => ?_
   refine wlv hfr (v_pick_t rfl rfl) fun a hfr => wla hfr rfl fun a hfr => ?_
   refine wl_nil (hK8 _ _ ?_)
   have hfr : Fr 37 [(0, _), (1, _), (2, _), (7, _), (4, _), (8, _), (9, _), (17, _), (5, _), (6, _), (3, _)] [] a := hfr.pick [0, 1, 2, 7, 4, 8, 9, 17, 5, 6, 3]
   refine wc_ret ?_
   refine fin_ret hfr Try.results39 (resAre_tmp rfl resAre_nil) ?_
   exact ⟨by simp_all [retv, badEvt], hst.ext, hst.get (k := 1) rfl⟩
  rw [hb6] at hfr
  try simp only [qz] at hb6
  refine wly hfr (v_fieldAddr (v := .pointer (some ⟨w0.heap.size, 2, none⟩)) rfl (by kernel_rfl)) fun a hfr => wly hfr (v_load_blk1 (hst.get (k := 0) rfl) rfl (Try.isAgg3 _) rfl) fun a hfr => wly hfr (v_move rfl) fun a hfr => wly hfr (v_move rfl) fun a hfr => ?_
  refine wl_callpy hfr hst Try.call35 rfl (isIn_ok _ _ _ _) fun a w8 hfr hst => ?_
  refine wly hfr (v_not rfl) fun a hfr => ?_
  refine wlv hfr (v_pick_f rfl rfl) fun a hfr => wla hfr rfl fun a hfr => ?_
  refine wl_nil (hK8 _ _ ?_)
  have hfr : Fr 37 [(0, _), (1, _), (2, _), (7, _), (4, _), (8, _), (9, _), (17, _), (5, _), (6, _), (3, _)] [] a := hfr.pick [0, 1, 2, 7, 4, 8, 9, 17, 5, 6, 3]
  refine wc_ret ?_
  refine fin_ret hfr Try.results39 (resAre_tmp rfl resAre_nil) ?_
  exact ⟨by simp_all [retv, badEvt], hst.ext, hst.get (k := 1) rfl⟩
 rw [decide_eq_false hc4] at hfr
 refine wc_skip ?_
 refine hK5 _ _ ?_
 refine wc_seq_region fun K9 hK9 => ?_
 refine wlv hfr (v_fieldAddr (v := .pointer (some ⟨w0.heap.size, 0, none⟩)) rfl (by kernel_rfl)) fun a hfr => ?_
 refine wlv hfr (v_load_blk1 (hst.get (k := 0) rfl) rfl (Try.isAgg3 _) rfl) fun a hfr => ?_
 refine wl_callp hfr hst Try.call35 rfl (isIn_ok _ _ _ _) fun a w9 hfr hst => ?_
 refine wlv hfr (v_not rfl) fun a hfr => wlm hfr rfl fun a hfr => ?_
 rcases Bool.eq_false_or_eq_true (!(isIn ev0.kind 1 6)) with hb7 | hb7
 ·rw [hb7] at hfr
  try simp only [qz] at hb7
  refine wln hfr fun a hfr => ?_
  refine wln hfr fun a hfr => ?_
  refine wln hfr fun a hfr => ?_
  refine wln hfr fun a hfr => ?_
  refine wln hfr fun a hfr => ?_
  refine wlv hfr (v_pick_t rfl rfl) fun a hfr => wlm hfr rfl fun a hfr => ?_
  refine wln hfr fun a hfr => ?_
  refine wln hfr fun a hfr => ?_
  refine wln hfr fun a hfr => ?_
  refine wln hfr fun a hfr => ?_
  refine wln hfr fun a hfr => ?_
  refine wln hfr fun a hfr => ?_
  refine wlv hfr (v_pick_t rfl rfl) fun a hfr => wla hfr rfl fun a hfr => ?_
  refine wl_nil (hK9 _ _ ?_)
  have hfr : Fr 37 [(0, _), (1, _), (2, _), (7, _), (4, _), (8, _), (9, _), (5, _), (6, _), (17, _), (3, _)] [] a := hfr.pick [0, 1, 2, 7, 4, 8, 9, 5, 6, 17, 3]
  refine wc_ret ?_
  refine fin_ret hfr Try.results39 (resAre_tmp rfl resAre_nil) ?_
  exact ⟨by simp_all [retv, badEvt], hst.ext, hst.get (k := 1) rfl⟩
 rw [hb7] at hfr
 try simp only [qz] at hb7
 refine wly hfr (v_fieldAddr (v := .pointer (some ⟨w0.heap.size, 1, none⟩)) rfl (by kernel_rfl)) fun a hfr => wly hfr (v_load_blk1 (hst.get (k := 0) rfl) rfl (Try.isAgg3 _) rfl) fun a hfr => wly hfr (v_move rfl) fun a hfr => ?_
 refine wl_callpy hfr hst Try.call35 rfl (isIn_ok _ _ _ _) fun a w10 hfr hst => ?_
 refine wly hfr (v_not rfl) fun a hfr => ?_
 refine wlv hfr (v_pick_f rfl rfl) fun a hfr => wlm hfr rfl fun a hfr => ?_
 rcases Bool.eq_false_or_eq_true (!(isIn ev0.at_ last 20000000)) with hb8 | hb8
 ·rw [hb8] at hfr
  try simp only [qz] at hb8
  refine wln hfr fun a hfr => ?_
  refine wln hfr fun a hfr => ?_
  refine wln hfr fun a hfr => ?_
  refine wln hfr fun a hfr => ?_
  refine wln hfr fun a hfr => ?_
  refine wln hfr fun a hfr => ?_
  refine wlv hfr (v_pick_t rfl rfl) fun a hfr => wla hfr rfl fun a hfr => ?_
  refine wl_nil (hK9 _ _ ?_)
  have hfr : Fr 37 [(0, _), (1, _), (2, _), (7, _), (4, _), (8, _), (9, _), (5, _), (6, _), (17, _), (3, _)] [] a := hfr.pick [0, 1, 2, 7, 4, 8, 9, 5, 6, 17, 3]
  refine wc_ret ?_
  refine fin_ret hfr Try.results39 (resAre_tmp rfl resAre_nil) ?_
  exact ⟨by simp_all [retv, badEvt], hst.ext, hst.get (k := 1) rfl⟩
 rw [hb8] at hfr
 try simp only [qz] at hb8
 refine wly hfr (v_fieldAddr (v := .pointer (some ⟨w0.heap.size, 2, none⟩)) rfl (by kernel_rfl)) fun a hfr => wly hfr (v_load_blk1 (hst.get (k := 0) rfl) rfl (Try.isAgg3 _) rfl) fun a hfr => wly hfr (v_move rfl) fun a hfr => wly hfr (v_move rfl) fun a hfr => ?_
 refine wl_callpy hfr hst Try.call35 rfl (isIn_ok _ _ _ _) fun a w11 hfr hst => ?_
 refine wly hfr (v_not rfl) fun a hfr => ?_
 refine wlv hfr (v_pick_f rfl rfl) fun a hfr => wla hfr rfl fun a hfr => ?_
 refine wl_nil (hK9 _ _ ?_)
 have hfr : Fr 37 [(0, _), (1, _), (2, _), (7, _), (4, _), (8, _), (9, _), (5, _), (6, _), (17, _), (3, _)] [] a := hfr.pick [0, 1, 2, 7, 4, 8, 9, 5, 6, 17, 3]
 refine wc_ret ?_
 refine fin_ret hfr Try.results39 (resAre_tmp rfl resAre_nil) ?_
 exact ⟨by simp_all [retv, badEvt], hst.ext, hst.get (k := 1) rfl⟩
theorem indexFuncEvt_ok {M : Nat → Prop} {wb : World} {H : List Ent} {sv : Value} {els : List (List Value)} {caps : List Value} {g : FuncId} (p : Nat → Bool) (ev_ : Nat → Value) (J : Nat → Ent → Prop) (e0 : Ent) (w0 : World)
  (hen : ∀ args w, (callFunc g args).run Try.prog w = .ok (.enter g args) w) (hs : ∀ e w, St M wb (e :: H) w → SlAt w sv 3 els)
  (hev : ∀ k (h : k < els.length), .agg (els[k]).toArray = ev_ k) (hJ0 : J 0 e0) (hst : St M wb (e0 :: H) w0)
  (hcl : ∀ k e w, k < els.length → J k e → e.ok w → (∀ b, e.foot b → b < w.heap.size) → Ret Try.prog g ([ev_ k] ++ caps).toArray w fun v w' => v = .bool (p k) ∧ ∃ e', Ext e.foot w w' ∧ e'.ok w' ∧ (∀ b, e'.foot b → b < w'.heap.size ∧ (e.foot b ∨ w.heap.size ≤ b)) ∧ J (k + 1) e') :
  Ret Try.prog 65 #[sv, .func (.func g) #[] caps.toArray] w0 fun v w => v = iv (fstIdx p els.length) ∧ ∃ k e', J k e' ∧ St M wb (e' :: H) w := by
 have hsl := (hs _ _ hst).le
 refine ret_of Try.func65 rfl Try.ntmps65 (lb rfl) fun a hfr => ?_
 have hfr : Fr 19 [(0, _), (1, _)] [] a := hfr
 refine wc_seq_region fun K1 hK1 => ?_
 refine wla hfr rfl fun a hfr => ?_
 refine wl_nil (hK1 _ _ ?_)
 refine wc_seq_k fun K2 hK2 => ?_
 refine wc_seq_region fun K3 hK3 => ?_
 refine wlm hfr rfl fun a hfr => ?_
 refine wlv hfr (v_len_sl (sT := 34) (hs _ _ hst) rfl rfl (Try.runUnderlying34 _)) fun a hfr => wlm hfr rfl fun a hfr => ?_
 refine wl_nil (hK3 _ _ ?_)
 refine wc_block ?_
 refine wc_loop (fun m a w => ∃ (k : Nat) (e : Ent), m = els.length - k ∧ (k ≤ els.length) ∧ (∀ j, j < k → p j = false) ∧ (J k e) ∧ Fr 19 [(0, sv), (1, .func (.func g) #[] caps.toArray), (6, sv), (7, iv els.length), (8, iv (k : Int))] [] a ∧ St M wb (e :: H) w) _ ⟨0, e0, rfl, Nat.zero_le _, (by intro j hj; omega), hJ0, hfr.pick [0, 1, 6, 7, 8], hst⟩ ?_
 rintro _ a w1 ⟨k, e, rfl, hk, hp, hJ, hfr, hst⟩
 refine wc_seq_region fun K4 hK4 => ?_
 refine wlv hfr (v_lt rfl rfl) fun a hfr => ?_
 refine wl_nil (hK4 _ _ ?_)
 refine wc_seq_k fun K5 hK5 => ?_
 refine wc_cond_d hfr rfl (fun hc1 => ?_) (fun hc1 => ?_)
 ·rw [decide_eq_true hc1] at hfr
  refine wc_skip ?_
  refine hK5 _ _ ?_
  refine wc_seq_k fun K6 hK6 => ?_
  refine wc_block ?_
  refine wc_seq_region fun K7 hK7 => ?_
  refine wlm hfr rfl fun a hfr => wla hfr rfl fun a hfr => ?_
  refine wl_nil (hK7 _ _ ?_)
  refine wc_seq_region fun K8 hK8 => ?_
  refine wlm hfr rfl fun a hfr => wlm hfr rfl fun a hfr => wlm hfr rfl fun a hfr => ?_
  refine wlv hfr ((v_indexAddr_sl (i := (k : Int)) (sT := 34) (hs _ _ hst) rfl rfl (Try.runUnderlying34 _) (Try.sizeOf39 _) (by omega) (by omega)).as (v' := slAddr sv (k * 3)) rfl) fun a hfr => ?_
  refine wlv hfr ((v_load_sl (hs _ _ hst) (i := k) (by omega) rfl (Try.isAgg39 _) (Try.sizeOf39 _)).as (v' := ev_ k) (hev k (by omega))) fun a hfr => ?_
  refine wl_r (r_callv (cap := caps) rfl hen rfl (hcl k _ _ (by omega) hJ (hst.get (k := 0) rfl) (fun b hb => hst.lt (k := 0) rfl hb))) rfl rfl hfr fun a v w2 hR hfr => ?_
  obtain ⟨rfl, e1, hx, hok, hft, hJ1⟩ := hR
  have hst := hst.exchange (k := 0) rfl hx hok hft
  have hst : St M wb (e1 :: H) w2 := hst
  refine wl_nil (hK8 _ _ ?_)
  refine wc_cond hfr rfl (fun hc2 => ?_) (fun hc2 => ?_)
  ·rw [hc2] at hfr
   refine wc_seq_region fun K9 hK9 => ?_
   refine wlm hfr rfl fun a hfr => wla hfr rfl fun a hfr => ?_
   refine wl_nil (hK9 _ _ ?_)
   refine wc_ret ?_
   refine fin_ret hfr Try.results65 (resAre_tmp rfl resAre_nil) ?_
   exact ⟨by rw [fstIdx_some (k := k) (by omega) hp (by assumption)]; rfl, _, _, hJ1, hst⟩
  rw [hc2] at hfr
  refine wc_skip ?_
  refine hK6 _ _ ?_
  refine wc_region ?_
  refine wlv hfr (v_add rfl rfl ⟨by omega, by omega⟩) fun a hfr => wlm hfr rfl fun a hfr => ?_
  refine wl_nil ?_
  refine ⟨_, ?_, k + 1, e1, rfl, (by omega), (by intro j hj; by_cases h : j = k; (subst h; assumption); exact hp j (by omega)), hJ1, hfr.pick [0, 1, 6, 7, 8], hst⟩
  omega
 rw [decide_eq_false hc1] at hfr
 refine wc_exit ?_
 refine hK2 _ _ ?_
 refine wc_seq_region fun K10 hK10 => ?_
 refine wla hfr rfl fun a hfr => ?_
 refine wl_nil (hK10 _ _ ?_)
 refine wc_ret ?_
 refine fin_ret hfr Try.results65 (resAre_tmp rfl resAre_nil) ?_
 have hkl : k = els.length := by omega
 subst hkl
 exact ⟨by rw [fstIdx_none hp]; rfl, _, _, hJ, hst⟩
theorem containsFuncEvt_ok {M : Nat → Prop} {wb : World} {H : List Ent} {sv : Value} {els : List (List Value)} {caps : List Value} {g : FuncId} (p : Nat → Bool) (ev_ : Nat → Value) (J : Nat → Ent → Prop) (e0 : Ent) (w0 : World)
  (hen : ∀ args w, (callFunc g args).run Try.prog w = .ok (.enter g args) w) (hs : ∀ e w, St M wb (e :: H) w → SlAt w sv 3 els)
  (hev : ∀ k (h : k < els.length), .agg (els[k]).toArray = ev_ k) (hJ0 : J 0 e0) (hst : St M wb (e0 :: H) w0)
  (hcl : ∀ k e w, k < els.length → J k e → e.ok w → (∀ b, e.foot b → b < w.heap.size) → Ret Try.prog g ([ev_ k] ++ caps).toArray w fun v w' => v = .bool (p k) ∧ ∃ e', Ext e.foot w w' ∧ e'.ok w' ∧ (∀ b, e'.foot b → b < w'.heap.size ∧ (e.foot b ∨ w.heap.size ≤ b)) ∧ J (k + 1) e') :
  Ret Try.prog 40 #[sv, .func (.func g) #[] caps.toArray] w0 fun v w => v = .bool ((List.range els.length).any p) ∧ ∃ k e', J k e' ∧ St M wb (e' :: H) w := by
 refine ret_of Try.func40 rfl Try.ntmps40 (lb rfl) fun a hfr => ?_
 have hfr : Fr 9 [(0, _), (1, _)] [] a := hfr
 refine wc_seq_region fun K1 hK1 => ?_
 refine wla hfr rfl fun a hfr => ?_
 refine wl_nil (hK1 _ _ ?_)
 refine wc_seq_region fun K2 hK2 => ?_
 refine wlm hfr rfl fun a hfr => wlm hfr rfl fun a hfr => ?_
 refine wl_r (r_call Try.call65 rfl (indexFuncEvt_ok p ev_ J e0 _ hen hs hev hJ0 hst hcl)) rfl rfl hfr fun a v w1 hR hfr => ?_
 obtain ⟨rfl, kk, e1, hJ1, hst⟩ := hR
 refine wlv hfr (v_ge rfl rfl) fun a hfr => wla hfr rfl fun a hfr => ?_
 refine wl_nil (hK2 _ _ ?_)
 refine wc_ret ?_
 refine fin_ret hfr Try.results40 (resAre_tmp rfl resAre_nil) ?_
 exact ⟨by rw [fstIdx_any]; rfl, _, _, hJ1, hst⟩
theorem valid_ok (rl : Rul) (cl : Clm) (sv : Value) (l : List Evt) (w0 : World) (hsv : SlAt w0 sv 3 (l.map Evt.cells)) :
  Ret Try.prog 22 #[.agg #[iv rl.answer, iv rl.cooling, iv rl.settle, iv rl.reverse], .agg #[iv cl.number, iv cl.frm, iv cl.to, iv cl.holder, iv cl.asked, .bool cl.backed], sv] w0 fun v w => v = .bool (valid rl cl l) ∧ Ext No w0 w := by
 refine ret_of Try.func22 rfl Try.ntmps22 (lb rfl) fun a hfr => ?_
 have hfr : Fr 29 [(0, _), (1, _), (2, _)] [] a := hfr
 have hst : St No w0 [] w0 := St.init w0
 refine wc_seq_region fun K1 hK1 => ?_
 refine wl_box hfr hst rfl [iv rl.answer, iv rl.cooling, iv rl.settle, iv rl.reverse] rfl fun a w1 hfr hst => ?_
 refine wl_box hfr hst rfl [iv cl.number, iv cl.frm, iv cl.to, iv cl.holder, iv cl.asked, .bool cl.backed] rfl fun a w2 hfr hst => ?_
 refine wla hfr rfl fun a hfr => ?_
 refine wl_nil (hK1 _ _ ?_)
 refine wc_seq_k fun K2 hK2 => ?_
 refine wc_seq_region fun K3 hK3 => ?_
 refine wlv hfr (v_load_all (hst.get (k := 1) rfl) rfl (Try.isAgg31 _) (Try.sizeOf31 _)) fun a hfr => ?_
 refine wl_callp hfr hst Try.call36 rfl (areValid_ok _ _ _ _ _) fun a w3 hfr hst => ?_
 refine wlv hfr (v_not rfl) fun a hfr => wlm hfr rfl fun a hfr => ?_
 rcases Bool.eq_false_or_eq_true (!(areValid rl)) with hb1 | hb1
 ·rw [hb1] at hfr
  try simp only [qz] at hb1
  refine wln hfr fun a hfr => ?_
  refine wln hfr fun a hfr => ?_
  refine wln hfr fun a hfr => ?_
  refine wlv hfr (v_pick_t rfl rfl) fun a hfr => wlm hfr rfl fun a hfr => ?_
  refine wln hfr fun a hfr => ?_
  refine wln hfr fun a hfr => ?_
  refine wln hfr fun a hfr => ?_
  refine wlv hfr (v_pick_t rfl rfl) fun a hfr => ?_
  refine wl_nil (hK3 _ _ ?_)
  have hfr : Fr 29 [(0, _), (1, _), (2, _), (3, _), (4, _), (6, _), (21, _)] [] a := hfr.pick [0, 1, 2, 3, 4, 6, 21]
  refine wc_cond_t hfr rfl ?_
  refine wc_seq_region fun K4 hK4 => ?_
  refine wla hfr rfl fun a hfr => ?_
  refine wl_nil (hK4 _ _ ?_)
  refine wc_ret ?_
  refine fin_ret hfr Try.results22 (resAre_tmp rfl resAre_nil) ?_
  exact ⟨by simp_all [retv, valid] <;> omega, hst.ext⟩
 rw [hb1] at hfr
 try simp only [qz] at hb1
 have hhb1 := areValid_le hb1
 refine wly hfr (v_load_all (hst.get (k := 0) rfl) rfl (Try.isAgg33 _) (Try.sizeOf33 _)) fun a hfr => ?_
 refine wl_callpy hfr hst Try.call37 rfl (isClaim_ok cl _) fun a w4 hfr hst => ?_
 refine wly hfr (v_not rfl) fun a hfr => ?_
 refine wlv hfr (v_pick_f rfl rfl) fun a hfr => wlm hfr rfl fun a hfr => ?_
 rcases Bool.eq_false_or_eq_true (!(isClaim cl)) with hb2 | hb2
 ·rw [hb2] at hfr
  try simp only [qz] at hb2
  refine wln hfr fun a hfr => ?_
  refine wln hfr fun a hfr => ?_
  refine wln hfr fun a hfr => ?_
  refine wlv hfr (v_pick_t rfl rfl) fun a hfr => ?_
  refine wl_nil (hK3 _ _ ?_)
  have hfr : Fr 29 [(0, _), (1, _), (2, _), (3, _), (4, _), (6, _), (21, _)] [] a := hfr.pick [0, 1, 2, 3, 4, 6, 21]
  refine wc_cond_t hfr rfl ?_
  refine wc_seq_region fun K5 hK5 => ?_
  refine wla hfr rfl fun a hfr => ?_
  refine wl_nil (hK5 _ _ ?_)
  refine wc_ret ?_
  refine fin_ret hfr Try.results22 (resAre_tmp rfl resAre_nil) ?_
  exact ⟨by simp_all [retv, valid] <;> omega, hst.ext⟩
 rw [hb2] at hfr
 try simp only [qz] at hb2
 have hhb2 := isClaim_le hb2
 refine wly hfr (v_move rfl) fun a hfr => wly hfr ((v_len_sl (sT := 34) (hst.arg hsv) rfl rfl (Try.runUnderlying34 _)).asi (m' := (l.length : Int)) (by simp)) fun a hfr => wly hfr (v_gt rfl rfl) fun a hfr => ?_
 refine wlv hfr (v_pick_f rfl rfl) fun a hfr => ?_
 refine wl_nil (hK3 _ _ ?_)
 have hfr : Fr 29 [(0, _), (1, _), (2, _), (3, _), (4, _), (6, _), (21, _)] [] a := hfr.pick [0, 1, 2, 3, 4, 6, 21]
 refine wc_cond_d hfr rfl (fun hc3 => ?_) (fun hc3 => ?_)
 ·rw [decide_eq_true hc3] at hfr
  refine wc_seq_region fun K6 hK6 => ?_
  refine wla hfr rfl fun a hfr => ?_
  refine wl_nil (hK6 _ _ ?_)
  refine wc_ret ?_
  refine fin_ret hfr Try.results22 (resAre_tmp rfl resAre_nil) ?_
  exact ⟨by simp_all [retv, valid] <;> omega, hst.ext⟩
 rw [decide_eq_false hc3] at hfr
 refine wc_skip ?_
 refine hK2 _ _ ?_
 refine wc_seq_region fun K7 hK7 => ?_
 refine wlv hfr (v_fieldAddr (v := .pointer (some ⟨w1.heap.size, 4, none⟩)) rfl (by kernel_rfl)) fun a hfr => ?_
 refine wlv hfr (v_load_blk1 (hst.get (k := 0) rfl) rfl (Try.isAgg3 _) rfl) fun a hfr => ?_
 refine wl_alloc hfr hst (Try.zeroValue3 _) [iv 0] rfl fun a w5 hfr hst => ?_
 refine wl_sto 0 hfr hst [iv cl.asked] rfl (Try.sizeOf3 _) fun a w6 hfr hst => ?_
 refine wl_nil (hK7 _ _ ?_)
 refine wc_seq_region fun K8 hK8 => ?_
 refine wlv hfr (v_makeFunc rfl rfl) fun a hfr => wla hfr rfl fun a hfr => ?_
 refine wl_nil (hK8 _ _ ?_)
 refine wc_seq_region fun K9 hK9 => ?_
 refine wlm hfr rfl fun a hfr => wlm hfr rfl fun a hfr => ?_
 refine wl_r (r_call Try.call40 rfl (containsFuncEvt_ok (M := No) (wb := w0) (H := [blk w1.heap.size [iv cl.number, iv cl.frm, iv cl.to, iv cl.holder, iv cl.asked, .bool cl.backed] 33, blk w0.heap.size [iv rl.answer, iv rl.cooling, iv rl.settle, iv rl.reverse] 31]) (els := l.map Evt.cells) (caps := [.pointer (some ⟨w4.heap.size, 0, none⟩)]) (g := 39) (fun k => badEvt (lastAt cl.asked l k) (l.getD k ⟨0, 0, 0⟩)) (fun k => .agg (l.getD k ⟨0, 0, 0⟩).cells.toArray) (fun k e => e = blk w4.heap.size [iv (lastAt cl.asked l k)] 3) _ w6 Try.call39 (fun e w h => h.arg hsv) (fun k hk => by simp at hk; simp [hk]) rfl hst ?_)) rfl rfl hfr ?_
 ·rintro k _ w hk rfl hok _
  simp only [List.length_map] at hk
  refine (valid1_ok (l.getD k ⟨0, 0, 0⟩) _ (lastAt cl.asked l k) w hok).mono fun v w' ⟨h1, h2, h3⟩ => ⟨h1, _, h2, h3, fun b hb => ?_, rfl⟩
  cases hb; exact ⟨(Array.getElem?_eq_some_iff.1 h3).1, .inl rfl⟩
 rintro a v w7 ⟨rfl, kk, _, rfl, hst⟩ hfr
 rw [List.length_map, anyBad_range] at hfr
 refine wlv hfr (v_not rfl) fun a hfr => wla hfr rfl fun a hfr => ?_
 refine wl_nil (hK9 _ _ ?_)
 refine wc_ret ?_
 refine fin_ret hfr Try.results22 (resAre_tmp rfl resAre_nil) ?_
 exact ⟨by simp_all [retv, valid] <;> omega, hst.ext⟩
end Go.Proofs.Ytnfnkohkcmkddaa
namespace Go.Proofs.Ytnfnkohkcmkddaa
open Go.RowKit Go.PW
set_option linter.unusedVariables false
set_option linter.unusedSimpArgs false
set_option maxRecDepth 4000
def duesKV : List (Value × Value) := [(iv 1, .agg #[.func (.func 74) #[] #[], iv 3]), (iv 2, .agg #[.func (.func 75) #[] #[], iv 3]), (iv 3, .agg #[.func (.func 76) #[] #[], iv 4]), (iv 4, .agg #[.func (.func 77) #[] #[], iv 5])]
theorem dues_ok (w0 : World) :
  Ret Try.prog 58 #[] w0 (MemR w0 (fun b : Nat => .map (some b)) (fun b => [mapE b duesKV]) (fun _ => True)) := by
 refine ret_of Try.func58 rfl Try.ntmps58 (lb rfl) fun a hfr => ?_
 have hfr : Fr 7 [] [] a := hfr
 have hst : St No w0 [] w0 := St.init w0
 refine wc_seq_region fun K1 hK1 => ?_
 refine wla hfr rfl fun a hfr => ?_
 refine wl_nil (hK1 _ _ ?_)
 refine wc_seq_region fun K2 hK2 => ?_
 refine wl_makeMap hfr hst (by decide) fun a w1 hfr hst => ?_
 refine wlv hfr (v_build (v := .agg #[.func (.func 74) #[] #[], iv 3]) rfl (by kernel_rfl)) fun a hfr => ?_
 refine wl_insert (Kt := 3) (Et := 117) (es := #[]) (clock := 0) 0 hfr hst rfl rfl rfl rfl Try.underlying90 (by kernel_rfl) (by kernel_rfl) (H' := [obj w0.heap.size (.map #[{ key := iv 1, val := .agg #[.func (.func 74) #[] #[], iv 3], born := 0 }] 1)]) rfl fun a w2 hfr hst => ?_
 refine wlv hfr (v_build (v := .agg #[.func (.func 75) #[] #[], iv 3]) rfl (by kernel_rfl)) fun a hfr => ?_
 refine wl_insert (Kt := 3) (Et := 117) (es := #[{ key := iv 1, val := .agg #[.func (.func 74) #[] #[], iv 3], born := 0 }]) (clock := 1) 0 hfr hst rfl rfl rfl rfl Try.underlying90 (by kernel_rfl) (by kernel_rfl) (H' := [obj w0.heap.size (.map #[{ key := iv 1, val := .agg #[.func (.func 74) #[] #[], iv 3], born := 0 }, { key := iv 2, val := .agg #[.func (.func 75) #[] #[], iv 3], born := 1 }] 2)]) rfl fun a w3 hfr hst => ?_
 refine wlv hfr (v_build (v := .agg #[.func (.func 76) #[] #[], iv 4]) rfl (by kernel_rfl)) fun a hfr => ?_
 refine wl_insert (Kt := 3) (Et := 117) (es := #[{ key := iv 1, val := .agg #[.func (.func 74) #[] #[], iv 3], born := 0 }, { key := iv 2, val := .agg #[.func (.func 75) #[] #[], iv 3], born := 1 }]) (clock := 2) 0 hfr hst rfl rfl rfl rfl Try.underlying90 (by kernel_rfl) (by kernel_rfl) (H' := [obj w0.heap.size (.map #[{ key := iv 1, val := .agg #[.func (.func 74) #[] #[], iv 3], born := 0 }, { key := iv 2, val := .agg #[.func (.func 75) #[] #[], iv 3], born := 1 }, { key := iv 3, val := .agg #[.func (.func 76) #[] #[], iv 4], born := 2 }] 3)]) rfl fun a w4 hfr hst => ?_
 refine wlv hfr (v_build (v := .agg #[.func (.func 77) #[] #[], iv 5]) rfl (by kernel_rfl)) fun a hfr => ?_
 refine wl_insert (Kt := 3) (Et := 117) (es := #[{ key := iv 1, val := .agg #[.func (.func 74) #[] #[], iv 3], born := 0 }, { key := iv 2, val := .agg #[.func (.func 75) #[] #[], iv 3], born := 1 }, { key := iv 3, val := .agg #[.func (.func 76) #[] #[], iv 4], born := 2 }]) (clock := 3) 0 hfr hst rfl rfl rfl rfl Try.underlying90 (by kernel_rfl) (by kernel_rfl) (H' := [obj w0.heap.size (.map #[{ key := iv 1, val := .agg #[.func (.func 74) #[] #[], iv 3], born := 0 }, { key := iv 2, val := .agg #[.func (.func 75) #[] #[], iv 3], born := 1 }, { key := iv 3, val := .agg #[.func (.func 76) #[] #[], iv 4], born := 2 }, { key := iv 4, val := .agg #[.func (.func 77) #[] #[], iv 5], born := 3 }] 4)]) rfl fun a w5 hfr hst => ?_
 refine wlm hfr rfl fun a hfr => wla hfr rfl fun a hfr => ?_
 refine wl_nil (hK2 _ _ ?_)
 have hfr : Fr 7 [(0, _)] [] a := hfr.pick [0]
 refine wc_ret ?_
 refine fin_ret hfr Try.results58 (resAre_tmp rfl resAre_nil) ?_
 have hst : St No w0 [mapE _ duesKV] w5 := hst.toMap 0 rfl rfl rfl
 exact ⟨_, rfl, trivial, hst.ext, St.out (E := [mapE _ duesKV]) (H := []) hst⟩
def effKV : Nat → Value × Value
 | 2 => (.agg #[iv 1, iv 1], iv 3)
 | 4 => (.agg #[iv 2, iv 1], iv 2)
 | 6 => (.agg #[iv 3, iv 2], iv 3)
 | 8 => (.agg #[iv 4, iv 2], iv 6)
 | 10 => (.agg #[iv 5, iv 1], iv 7)
 | 12 => (.agg #[iv 5, iv 2], iv 7)
 | 14 => (.agg #[iv 5, iv 3], iv 7)
 | 16 => (.agg #[iv 6, iv 4], iv 8)
 | _ => (undef, undef)
def effAll : List (Value × Value) := [2, 4, 6, 8, 10, 12, 14, 16].map effKV
def noEnt : Ent := ⟨fun _ => False, fun _ => True, fun _ _ _ h => h⟩
def effG (D : List Nat) (V : Nat → Value) (e : Ent) : Prop :=
 (∀ i ∈ D, i < 17) ∧ ((0 ∉ D ∧ (∀ i ∈ D, i % 2 = 1) ∧ e = noEnt) ∨ (0 ∈ D ∧ ∃ b, V 0 = .map (some b) ∧ e = mapE b ((D.filter fun i => decide (i % 2 = 0) && decide (i ≠ 0)).map effKV)))
theorem eqCause (a b c d : Int) (w : World) : (Op.equal 131 (.agg #[iv a, iv b]) (.agg #[iv c, iv d])).run Try.prog w = .ok (decide (a = c) && decide (b = d)) w := by
 unfold Op.equal Op.maxDepth
 obtain ⟨dd, hd⟩ : ∃ dd, 10000 = dd + 1 + 1 := ⟨9998, rfl⟩
 rw [hd, run_equalIn_struct w (dd + 1) 131 _ _ (by kernel_rfl) (by kernel_rfl)]
 simp only [Program.fieldsOf, Try.underlying131, Op.eqFields]
 simp [part, Try.isAgg3, Op.equalIn, run_underlying Try.underlying3]
 by_cases h1 : a = c <;> by_cases h2 : b = d <;> simp [h1, h2]
theorem effKV_key {i : Nat} (h : i < 17) (h2 : i % 2 = 0) (h0 : i ≠ 0) : ∃ x y, (effKV i).1 = .agg #[iv x, iv y] := by
 match i, h with
 | 0, _ => exact absurd rfl h0
 | 1, _ => simp at h2
 | 2, _ => exact ⟨_, _, rfl⟩
 | 3, _ => simp at h2
 | 4, _ => exact ⟨_, _, rfl⟩
 | 5, _ => simp at h2
 | 6, _ => exact ⟨_, _, rfl⟩
 | 7, _ => simp at h2
 | 8, _ => exact ⟨_, _, rfl⟩
 | 9, _ => simp at h2
 | 10, _ => exact ⟨_, _, rfl⟩
 | 11, _ => simp at h2
 | 12, _ => exact ⟨_, _, rfl⟩
 | 13, _ => simp at h2
 | 14, _ => exact ⟨_, _, rfl⟩
 | 15, _ => simp at h2
 | 16, _ => exact ⟨_, _, rfl⟩
 | i + 17, h => exact absurd h (by omega)
theorem effKV_ne {i j : Nat} (hi : i < 17) (hj : j < 17) (hi2 : i % 2 = 0) (hj2 : j % 2 = 0) (hi0 : i ≠ 0) (hj0 : j ≠ 0) (hne : i ≠ j) (x y : Int) (h : (effKV i).1 = .agg #[iv x, iv y]) : isAgg2 x y (effKV j).1 = false := by
 have key : ((List.range 17).all fun i => (List.range 17).all fun j => decide (i % 2 = 1) || decide (j % 2 = 1) || decide (i = 0) || decide (j = 0) || decide (i = j) || !(match (effKV i).1 with | .agg ⟨[.int .i64 x, .int .i64 y]⟩ => isAgg2 x y (effKV j).1 | _ => true)) = true := by kernel_rfl
 have h1 := List.all_eq_true.1 (List.all_eq_true.1 key i (List.mem_range.2 hi)) j (List.mem_range.2 hj)
 rw [h] at h1
 simpa [hi0, hj0, hne, hi2, hj2] using h1
set_option maxHeartbeats 4000000 in
theorem effects_ok (w0 : World) :
  Ret Try.prog 59 #[] w0 (MemR w0 (fun b : Nat => .map (some b)) (fun b => [mapE b effAll]) (fun _ => True)) := by
 refine ret_of Try.func59 rfl Try.ntmps59 (lb rfl) fun a hfr => ?_
 have hfr : Fr 11 [] [] a := hfr
 have hst : St No w0 [] w0 := St.init w0
 refine wc_seq_region fun K1 hK1 => ?_
 refine wla hfr rfl fun a hfr => ?_
 refine wl_nil (hK1 _ _ ?_)
 refine wc_seq_k fun K2 hK2 => ?_
 refine wc_of_dr ?_
 refine wc_phases_mod (M := No) (w0 := w0) (e0 := noEnt) 17 [[], [], [0, 1], [], [0, 3], [], [0, 5], [], [0, 7], [], [0, 9], [], [0, 11], [], [0, 13], [], [0, 15]] [0, 2, 4, 6, 8, 10, 12, 14, 16] (by kernel_rfl) (by kernel_rfl) (fun i => match i with | 0 => fun v E => (∃ b, v = .map (some b)) ∧ E = [] | 1 => pv (.agg #[iv 1, iv 1]) | 2 => pv undef | 3 => pv (.agg #[iv 2, iv 1]) | 4 => pv undef | 5 => pv (.agg #[iv 3, iv 2]) | 6 => pv undef | 7 => pv (.agg #[iv 4, iv 2]) | 8 => pv undef | 9 => pv (.agg #[iv 5, iv 1]) | 10 => pv undef | 11 => pv (.agg #[iv 5, iv 2]) | 12 => pv undef | 13 => pv (.agg #[iv 5, iv 3]) | 14 => pv undef | 15 => pv (.agg #[iv 6, iv 4]) | 16 => pv undef | _ => fun _ _ => False) ?_ effG ?_ ?_ hfr (H := []) ?_ ?_ ?_ ?_
 ·intro i v E hd hR
  match i with
  | 0 => exact absurd hd (by simp [opAt])
  | 1 => exact absurd hd (by simp [opAt])
  | 2 => exact hR.1.symm
  | 3 => exact absurd hd (by simp [opAt])
  | 4 => exact hR.1.symm
  | 5 => exact absurd hd (by simp [opAt])
  | 6 => exact hR.1.symm
  | 7 => exact absurd hd (by simp [opAt])
  | 8 => exact hR.1.symm
  | 9 => exact absurd hd (by simp [opAt])
  | 10 => exact hR.1.symm
  | 11 => exact absurd hd (by simp [opAt])
  | 12 => exact hR.1.symm
  | 13 => exact absurd hd (by simp [opAt])
  | 14 => exact hR.1.symm
  | 15 => exact absurd hd (by simp [opAt])
  | 16 => exact hR.1.symm
  | i + 17 => exact hR.elim
 ·exact fun _ => ⟨by simp, .inl ⟨by simp, by simp, rfl⟩⟩
 ·rintro i D V V' e hi hm hV ⟨hlt, hor⟩
  have hodd : i % 2 = 1 := by simp at hm; omega
  refine ⟨by simpa using ⟨hi, hlt⟩, ?_⟩
  rcases hor with ⟨h0, h1, rfl⟩ | ⟨h0, b, h1, rfl⟩
  ·exact .inl ⟨by simp [h0]; omega, by simpa using ⟨hodd, h1⟩, rfl⟩
  ·exact .inr ⟨by simp [h0], b, (hV 0 h0).trans h1, by rw [List.filter_cons_of_neg (by simp; omega)]⟩
 ·exact ⟨hst.ext, by intro e he; rw [List.mem_singleton] at he; subst he; exact ⟨trivial, fun k hk => hk.elim⟩, List.pairwise_singleton _ _⟩
 ·intro i hi hm V E w hR D e hp hG hni hst
  match i, hi with
  | 0, _ => exact absurd (by simp) hm
  | 1, _ => exact OpV.g (v_build (v := .agg #[iv 1, iv 1]) rfl (by kernel_rfl))
  | 2, _ => exact absurd (by simp) hm
  | 3, _ => exact OpV.g (v_build (v := .agg #[iv 2, iv 1]) rfl (by kernel_rfl))
  | 4, _ => exact absurd (by simp) hm
  | 5, _ => exact OpV.g (v_build (v := .agg #[iv 3, iv 2]) rfl (by kernel_rfl))
  | 6, _ => exact absurd (by simp) hm
  | 7, _ => exact OpV.g (v_build (v := .agg #[iv 4, iv 2]) rfl (by kernel_rfl))
  | 8, _ => exact absurd (by simp) hm
  | 9, _ => exact OpV.g (v_build (v := .agg #[iv 5, iv 1]) rfl (by kernel_rfl))
  | 10, _ => exact absurd (by simp) hm
  | 11, _ => exact OpV.g (v_build (v := .agg #[iv 5, iv 2]) rfl (by kernel_rfl))
  | 12, _ => exact absurd (by simp) hm
  | 13, _ => exact OpV.g (v_build (v := .agg #[iv 5, iv 3]) rfl (by kernel_rfl))
  | 14, _ => exact absurd (by simp) hm
  | 15, _ => exact OpV.g (v_build (v := .agg #[iv 6, iv 4]) rfl (by kernel_rfl))
  | 16, _ => exact absurd (by simp) hm
  | i + 17, h => exact absurd h (by omega)
 ·intro i hi hm V E w hR D e hp hG hni hst
  match i, hi with
  | 0, _ =>
   obtain ⟨hlt, hor⟩ := hG
   rcases hor with ⟨h0, h1, rfl⟩ | ⟨h0, _⟩
   ·refine r_makeMap.mono ?_
    rintro v w' ⟨rfl, rfl⟩
    refine ⟨mapE w.heap.size [], Ext.alloc _ _ _, mapE_nil w, fun b hb => by cases hb; exact ⟨by simp, .inr (Nat.le_refl _)⟩, ⟨⟨_, rfl⟩, rfl⟩, fun V' hV' hv => ⟨by simpa using hlt, .inr ⟨by simp, _, hv, ?_⟩⟩⟩
    rw [List.filter_cons_of_neg (by simp), List.filter_eq_nil_iff.2 (fun i hi => by have := h1 i hi; simp; omega)]; rfl
   ·exact absurd h0 hni
  | 1, _ => exact absurd hm (by decide)
  | 2, _ =>
   obtain ⟨hlt, hor⟩ := hG
   have h0D : 0 ∈ D := hp 0 (by simp)
   rcases hor with ⟨h0, _⟩ | ⟨_, b, hV0, rfl⟩
   ·exact absurd h0D h0
   ·have hk : V 1 = .agg #[iv 1, iv 1] := (hR 1 (by simp)).1.symm
    have hmap := hst.get (k := 0) rfl
    have hmem : ∀ x ∈ (D.filter fun i => decide (i % 2 = 0) && decide (i ≠ 0)).map effKV, ∃ j, j ∈ D ∧ j < 17 ∧ j % 2 = 0 ∧ j ≠ 0 ∧ x = effKV j := by
     intro x hx
     obtain ⟨j, hj, rfl⟩ := List.mem_map.1 hx
     obtain ⟨hj1, hj2⟩ := List.mem_filter.1 hj
     simp at hj2
     exact ⟨j, hj1, hlt j hj1, hj2.1, hj2.2, rfl⟩
    obtain ⟨o, ho1, ho2⟩ := run_insert_ask (P := Try.prog) (w := w) (T := 91) (Kt := 131) (Et := 3) (k := .agg #[iv 1, iv 1]) (v := iv 3) (q := isAgg2 1 1) hmap Try.underlying91
     (fun es i hes => ⟨_, Try.runUnderlying131 w, by cases es with | nil => exact absurd rfl hes | cons e es => rfl⟩) ⟨_, Try.runUnderlying131 w⟩ (fun b => by kernel_rfl)
     (fun x hx => by obtain ⟨j, _, h1, h2, h3, rfl⟩ := hmem x hx; obtain ⟨x1, x2, hx⟩ := effKV_key h1 h2 h3; rw [hx, eqCause]; rfl)
     (List.find?_eq_none.2 fun x hx => by obtain ⟨j, hjD, h1, h2, h3, rfl⟩ := hmem x hx; rw [effKV_ne (i := 2) (by decide) h1 (by decide) h2 (by decide) h3 (fun e => hni (e ▸ hjD)) _ _ rfl]; simp)
    have hb := hst.lt (k := 0) (b := b) rfl rfl
    refine (r_insert (u := .map (some b)) (k := .agg #[iv 1, iv 1]) (v := iv 3) ?_ ?_ rfl ho1).mono ?_
    ·show some (V 0) = _; rw [hV0]
    ·show some (V 1) = _; rw [hk]
    ·rintro v w' ⟨rfl, rfl⟩
     refine ⟨mapE b (effKV 2 :: (D.filter fun i => decide (i % 2 = 0) && decide (i ≠ 0)).map effKV), (Ext.putObj (M := (mapE b _).foot) rfl _ _), ho2, fun b' hb' => by cases hb'; exact ⟨by simpa using hb, .inl rfl⟩, ⟨rfl, rfl⟩, fun V' hV' _ => ⟨by simpa using hlt, .inr ⟨by simp [h0D], b, (hV' 0 h0D).trans hV0, ?_⟩⟩⟩
     rw [List.filter_cons_of_pos (by decide), List.map_cons]
  | 3, _ => exact absurd hm (by decide)
  | 4, _ =>
   obtain ⟨hlt, hor⟩ := hG
   have h0D : 0 ∈ D := hp 0 (by simp)
   rcases hor with ⟨h0, _⟩ | ⟨_, b, hV0, rfl⟩
   ·exact absurd h0D h0
   ·have hk : V 3 = .agg #[iv 2, iv 1] := (hR 3 (by simp)).1.symm
    have hmap := hst.get (k := 0) rfl
    have hmem : ∀ x ∈ (D.filter fun i => decide (i % 2 = 0) && decide (i ≠ 0)).map effKV, ∃ j, j ∈ D ∧ j < 17 ∧ j % 2 = 0 ∧ j ≠ 0 ∧ x = effKV j := by
     intro x hx
     obtain ⟨j, hj, rfl⟩ := List.mem_map.1 hx
     obtain ⟨hj1, hj2⟩ := List.mem_filter.1 hj
     simp at hj2
     exact ⟨j, hj1, hlt j hj1, hj2.1, hj2.2, rfl⟩
    obtain ⟨o, ho1, ho2⟩ := run_insert_ask (P := Try.prog) (w := w) (T := 91) (Kt := 131) (Et := 3) (k := .agg #[iv 2, iv 1]) (v := iv 2) (q := isAgg2 2 1) hmap Try.underlying91
     (fun es i hes => ⟨_, Try.runUnderlying131 w, by cases es with | nil => exact absurd rfl hes | cons e es => rfl⟩) ⟨_, Try.runUnderlying131 w⟩ (fun b => by kernel_rfl)
     (fun x hx => by obtain ⟨j, _, h1, h2, h3, rfl⟩ := hmem x hx; obtain ⟨x1, x2, hx⟩ := effKV_key h1 h2 h3; rw [hx, eqCause]; rfl)
     (List.find?_eq_none.2 fun x hx => by obtain ⟨j, hjD, h1, h2, h3, rfl⟩ := hmem x hx; rw [effKV_ne (i := 4) (by decide) h1 (by decide) h2 (by decide) h3 (fun e => hni (e ▸ hjD)) _ _ rfl]; simp)
    have hb := hst.lt (k := 0) (b := b) rfl rfl
    refine (r_insert (u := .map (some b)) (k := .agg #[iv 2, iv 1]) (v := iv 2) ?_ ?_ rfl ho1).mono ?_
    ·show some (V 0) = _; rw [hV0]
    ·show some (V 3) = _; rw [hk]
    ·rintro v w' ⟨rfl, rfl⟩
     refine ⟨mapE b (effKV 4 :: (D.filter fun i => decide (i % 2 = 0) && decide (i ≠ 0)).map effKV), (Ext.putObj (M := (mapE b _).foot) rfl _ _), ho2, fun b' hb' => by cases hb'; exact ⟨by simpa using hb, .inl rfl⟩, ⟨rfl, rfl⟩, fun V' hV' _ => ⟨by simpa using hlt, .inr ⟨by simp [h0D], b, (hV' 0 h0D).trans hV0, ?_⟩⟩⟩
     rw [List.filter_cons_of_pos (by decide), List.map_cons]
  | 5, _ => exact absurd hm (by decide)
  | 6, _ =>
   obtain ⟨hlt, hor⟩ := hG
   have h0D : 0 ∈ D := hp 0 (by simp)
   rcases hor with ⟨h0, _⟩ | ⟨_, b, hV0, rfl⟩
   ·exact absurd h0D h0
   ·have hk : V 5 = .agg #[iv 3, iv 2] := (hR 5 (by simp)).1.symm
    have hmap := hst.get (k := 0) rfl
    have hmem : ∀ x ∈ (D.filter fun i => decide (i % 2 = 0) && decide (i ≠ 0)).map effKV, ∃ j, j ∈ D ∧ j < 17 ∧ j % 2 = 0 ∧ j ≠ 0 ∧ x = effKV j := by
     intro x hx
     obtain ⟨j, hj, rfl⟩ := List.mem_map.1 hx
     obtain ⟨hj1, hj2⟩ := List.mem_filter.1 hj
     simp at hj2
     exact ⟨j, hj1, hlt j hj1, hj2.1, hj2.2, rfl⟩
    obtain ⟨o, ho1, ho2⟩ := run_insert_ask (P := Try.prog) (w := w) (T := 91) (Kt := 131) (Et := 3) (k := .agg #[iv 3, iv 2]) (v := iv 3) (q := isAgg2 3 2) hmap Try.underlying91
     (fun es i hes => ⟨_, Try.runUnderlying131 w, by cases es with | nil => exact absurd rfl hes | cons e es => rfl⟩) ⟨_, Try.runUnderlying131 w⟩ (fun b => by kernel_rfl)
     (fun x hx => by obtain ⟨j, _, h1, h2, h3, rfl⟩ := hmem x hx; obtain ⟨x1, x2, hx⟩ := effKV_key h1 h2 h3; rw [hx, eqCause]; rfl)
     (List.find?_eq_none.2 fun x hx => by obtain ⟨j, hjD, h1, h2, h3, rfl⟩ := hmem x hx; rw [effKV_ne (i := 6) (by decide) h1 (by decide) h2 (by decide) h3 (fun e => hni (e ▸ hjD)) _ _ rfl]; simp)
    have hb := hst.lt (k := 0) (b := b) rfl rfl
    refine (r_insert (u := .map (some b)) (k := .agg #[iv 3, iv 2]) (v := iv 3) ?_ ?_ rfl ho1).mono ?_
    ·show some (V 0) = _; rw [hV0]
    ·show some (V 5) = _; rw [hk]
    ·rintro v w' ⟨rfl, rfl⟩
     refine ⟨mapE b (effKV 6 :: (D.filter fun i => decide (i % 2 = 0) && decide (i ≠ 0)).map effKV), (Ext.putObj (M := (mapE b _).foot) rfl _ _), ho2, fun b' hb' => by cases hb'; exact ⟨by simpa using hb, .inl rfl⟩, ⟨rfl, rfl⟩, fun V' hV' _ => ⟨by simpa using hlt, .inr ⟨by simp [h0D], b, (hV' 0 h0D).trans hV0, ?_⟩⟩⟩
     rw [List.filter_cons_of_pos (by decide), List.map_cons]
  | 7, _ => exact absurd hm (by decide)
  | 8, _ =>
   obtain ⟨hlt, hor⟩ := hG
   have h0D : 0 ∈ D := hp 0 (by simp)
   rcases hor with ⟨h0, _⟩ | ⟨_, b, hV0, rfl⟩
   ·exact absurd h0D h0
   ·have hk : V 7 = .agg #[iv 4, iv 2] := (hR 7 (by simp)).1.symm
    have hmap := hst.get (k := 0) rfl
    have hmem : ∀ x ∈ (D.filter fun i => decide (i % 2 = 0) && decide (i ≠ 0)).map effKV, ∃ j, j ∈ D ∧ j < 17 ∧ j % 2 = 0 ∧ j ≠ 0 ∧ x = effKV j := by
     intro x hx
     obtain ⟨j, hj, rfl⟩ := List.mem_map.1 hx
     obtain ⟨hj1, hj2⟩ := List.mem_filter.1 hj
     simp at hj2
     exact ⟨j, hj1, hlt j hj1, hj2.1, hj2.2, rfl⟩
    obtain ⟨o, ho1, ho2⟩ := run_insert_ask (P := Try.prog) (w := w) (T := 91) (Kt := 131) (Et := 3) (k := .agg #[iv 4, iv 2]) (v := iv 6) (q := isAgg2 4 2) hmap Try.underlying91
     (fun es i hes => ⟨_, Try.runUnderlying131 w, by cases es with | nil => exact absurd rfl hes | cons e es => rfl⟩) ⟨_, Try.runUnderlying131 w⟩ (fun b => by kernel_rfl)
     (fun x hx => by obtain ⟨j, _, h1, h2, h3, rfl⟩ := hmem x hx; obtain ⟨x1, x2, hx⟩ := effKV_key h1 h2 h3; rw [hx, eqCause]; rfl)
     (List.find?_eq_none.2 fun x hx => by obtain ⟨j, hjD, h1, h2, h3, rfl⟩ := hmem x hx; rw [effKV_ne (i := 8) (by decide) h1 (by decide) h2 (by decide) h3 (fun e => hni (e ▸ hjD)) _ _ rfl]; simp)
    have hb := hst.lt (k := 0) (b := b) rfl rfl
    refine (r_insert (u := .map (some b)) (k := .agg #[iv 4, iv 2]) (v := iv 6) ?_ ?_ rfl ho1).mono ?_
    ·show some (V 0) = _; rw [hV0]
    ·show some (V 7) = _; rw [hk]
    ·rintro v w' ⟨rfl, rfl⟩
     refine ⟨mapE b (effKV 8 :: (D.filter fun i => decide (i % 2 = 0) && decide (i ≠ 0)).map effKV), (Ext.putObj (M := (mapE b _).foot) rfl _ _), ho2, fun b' hb' => by cases hb'; exact ⟨by simpa using hb, .inl rfl⟩, ⟨rfl, rfl⟩, fun V' hV' _ => ⟨by simpa using hlt, .inr ⟨by simp [h0D], b, (hV' 0 h0D).trans hV0, ?_⟩⟩⟩
     rw [List.filter_cons_of_pos (by decide), List.map_cons]
  | 9, _ => exact absurd hm (by decide)
  | 10, _ =>
   obtain ⟨hlt, hor⟩ := hG
   have h0D : 0 ∈ D := hp 0 (by simp)
   rcases hor with ⟨h0, _⟩ | ⟨_, b, hV0, rfl⟩
   ·exact absurd h0D h0
   ·have hk : V 9 = .agg #[iv 5, iv 1] := (hR 9 (by simp)).1.symm
    have hmap := hst.get (k := 0) rfl
    have hmem : ∀ x ∈ (D.filter fun i => decide (i % 2 = 0) && decide (i ≠ 0)).map effKV, ∃ j, j ∈ D ∧ j < 17 ∧ j % 2 = 0 ∧ j ≠ 0 ∧ x = effKV j := by
     intro x hx
     obtain ⟨j, hj, rfl⟩ := List.mem_map.1 hx
     obtain ⟨hj1, hj2⟩ := List.mem_filter.1 hj
     simp at hj2
     exact ⟨j, hj1, hlt j hj1, hj2.1, hj2.2, rfl⟩
    obtain ⟨o, ho1, ho2⟩ := run_insert_ask (P := Try.prog) (w := w) (T := 91) (Kt := 131) (Et := 3) (k := .agg #[iv 5, iv 1]) (v := iv 7) (q := isAgg2 5 1) hmap Try.underlying91
     (fun es i hes => ⟨_, Try.runUnderlying131 w, by cases es with | nil => exact absurd rfl hes | cons e es => rfl⟩) ⟨_, Try.runUnderlying131 w⟩ (fun b => by kernel_rfl)
     (fun x hx => by obtain ⟨j, _, h1, h2, h3, rfl⟩ := hmem x hx; obtain ⟨x1, x2, hx⟩ := effKV_key h1 h2 h3; rw [hx, eqCause]; rfl)
     (List.find?_eq_none.2 fun x hx => by obtain ⟨j, hjD, h1, h2, h3, rfl⟩ := hmem x hx; rw [effKV_ne (i := 10) (by decide) h1 (by decide) h2 (by decide) h3 (fun e => hni (e ▸ hjD)) _ _ rfl]; simp)
    have hb := hst.lt (k := 0) (b := b) rfl rfl
    refine (r_insert (u := .map (some b)) (k := .agg #[iv 5, iv 1]) (v := iv 7) ?_ ?_ rfl ho1).mono ?_
    ·show some (V 0) = _; rw [hV0]
    ·show some (V 9) = _; rw [hk]
    ·rintro v w' ⟨rfl, rfl⟩
     refine ⟨mapE b (effKV 10 :: (D.filter fun i => decide (i % 2 = 0) && decide (i ≠ 0)).map effKV), (Ext.putObj (M := (mapE b _).foot) rfl _ _), ho2, fun b' hb' => by cases hb'; exact ⟨by simpa using hb, .inl rfl⟩, ⟨rfl, rfl⟩, fun V' hV' _ => ⟨by simpa using hlt, .inr ⟨by simp [h0D], b, (hV' 0 h0D).trans hV0, ?_⟩⟩⟩
     rw [List.filter_cons_of_pos (by decide), List.map_cons]
  | 11, _ => exact absurd hm (by decide)
  | 12, _ =>
   obtain ⟨hlt, hor⟩ := hG
   have h0D : 0 ∈ D := hp 0 (by simp)
   rcases hor with ⟨h0, _⟩ | ⟨_, b, hV0, rfl⟩
   ·exact absurd h0D h0
   ·have hk : V 11 = .agg #[iv 5, iv 2] := (hR 11 (by simp)).1.symm
    have hmap := hst.get (k := 0) rfl
    have hmem : ∀ x ∈ (D.filter fun i => decide (i % 2 = 0) && decide (i ≠ 0)).map effKV, ∃ j, j ∈ D ∧ j < 17 ∧ j % 2 = 0 ∧ j ≠ 0 ∧ x = effKV j := by
     intro x hx
     obtain ⟨j, hj, rfl⟩ := List.mem_map.1 hx
     obtain ⟨hj1, hj2⟩ := List.mem_filter.1 hj
     simp at hj2
     exact ⟨j, hj1, hlt j hj1, hj2.1, hj2.2, rfl⟩
    obtain ⟨o, ho1, ho2⟩ := run_insert_ask (P := Try.prog) (w := w) (T := 91) (Kt := 131) (Et := 3) (k := .agg #[iv 5, iv 2]) (v := iv 7) (q := isAgg2 5 2) hmap Try.underlying91
     (fun es i hes => ⟨_, Try.runUnderlying131 w, by cases es with | nil => exact absurd rfl hes | cons e es => rfl⟩) ⟨_, Try.runUnderlying131 w⟩ (fun b => by kernel_rfl)
     (fun x hx => by obtain ⟨j, _, h1, h2, h3, rfl⟩ := hmem x hx; obtain ⟨x1, x2, hx⟩ := effKV_key h1 h2 h3; rw [hx, eqCause]; rfl)
     (List.find?_eq_none.2 fun x hx => by obtain ⟨j, hjD, h1, h2, h3, rfl⟩ := hmem x hx; rw [effKV_ne (i := 12) (by decide) h1 (by decide) h2 (by decide) h3 (fun e => hni (e ▸ hjD)) _ _ rfl]; simp)
    have hb := hst.lt (k := 0) (b := b) rfl rfl
    refine (r_insert (u := .map (some b)) (k := .agg #[iv 5, iv 2]) (v := iv 7) ?_ ?_ rfl ho1).mono ?_
    ·show some (V 0) = _; rw [hV0]
    ·show some (V 11) = _; rw [hk]
    ·rintro v w' ⟨rfl, rfl⟩
     refine ⟨mapE b (effKV 12 :: (D.filter fun i => decide (i % 2 = 0) && decide (i ≠ 0)).map effKV), (Ext.putObj (M := (mapE b _).foot) rfl _ _), ho2, fun b' hb' => by cases hb'; exact ⟨by simpa using hb, .inl rfl⟩, ⟨rfl, rfl⟩, fun V' hV' _ => ⟨by simpa using hlt, .inr ⟨by simp [h0D], b, (hV' 0 h0D).trans hV0, ?_⟩⟩⟩
     rw [List.filter_cons_of_pos (by decide), List.map_cons]
  | 13, _ => exact absurd hm (by decide)
  | 14, _ =>
   obtain ⟨hlt, hor⟩ := hG
   have h0D : 0 ∈ D := hp 0 (by simp)
   rcases hor with ⟨h0, _⟩ | ⟨_, b, hV0, rfl⟩
   ·exact absurd h0D h0
   ·have hk : V 13 = .agg #[iv 5, iv 3] := (hR 13 (by simp)).1.symm
    have hmap := hst.get (k := 0) rfl
    have hmem : ∀ x ∈ (D.filter fun i => decide (i % 2 = 0) && decide (i ≠ 0)).map effKV, ∃ j, j ∈ D ∧ j < 17 ∧ j % 2 = 0 ∧ j ≠ 0 ∧ x = effKV j := by
     intro x hx
     obtain ⟨j, hj, rfl⟩ := List.mem_map.1 hx
     obtain ⟨hj1, hj2⟩ := List.mem_filter.1 hj
     simp at hj2
     exact ⟨j, hj1, hlt j hj1, hj2.1, hj2.2, rfl⟩
    obtain ⟨o, ho1, ho2⟩ := run_insert_ask (P := Try.prog) (w := w) (T := 91) (Kt := 131) (Et := 3) (k := .agg #[iv 5, iv 3]) (v := iv 7) (q := isAgg2 5 3) hmap Try.underlying91
     (fun es i hes => ⟨_, Try.runUnderlying131 w, by cases es with | nil => exact absurd rfl hes | cons e es => rfl⟩) ⟨_, Try.runUnderlying131 w⟩ (fun b => by kernel_rfl)
     (fun x hx => by obtain ⟨j, _, h1, h2, h3, rfl⟩ := hmem x hx; obtain ⟨x1, x2, hx⟩ := effKV_key h1 h2 h3; rw [hx, eqCause]; rfl)
     (List.find?_eq_none.2 fun x hx => by obtain ⟨j, hjD, h1, h2, h3, rfl⟩ := hmem x hx; rw [effKV_ne (i := 14) (by decide) h1 (by decide) h2 (by decide) h3 (fun e => hni (e ▸ hjD)) _ _ rfl]; simp)
    have hb := hst.lt (k := 0) (b := b) rfl rfl
    refine (r_insert (u := .map (some b)) (k := .agg #[iv 5, iv 3]) (v := iv 7) ?_ ?_ rfl ho1).mono ?_
    ·show some (V 0) = _; rw [hV0]
    ·show some (V 13) = _; rw [hk]
    ·rintro v w' ⟨rfl, rfl⟩
     refine ⟨mapE b (effKV 14 :: (D.filter fun i => decide (i % 2 = 0) && decide (i ≠ 0)).map effKV), (Ext.putObj (M := (mapE b _).foot) rfl _ _), ho2, fun b' hb' => by cases hb'; exact ⟨by simpa using hb, .inl rfl⟩, ⟨rfl, rfl⟩, fun V' hV' _ => ⟨by simpa using hlt, .inr ⟨by simp [h0D], b, (hV' 0 h0D).trans hV0, ?_⟩⟩⟩
     rw [List.filter_cons_of_pos (by decide), List.map_cons]
  | 15, _ => exact absurd hm (by decide)
  | 16, _ =>
   obtain ⟨hlt, hor⟩ := hG
   have h0D : 0 ∈ D := hp 0 (by simp)
   rcases hor with ⟨h0, _⟩ | ⟨_, b, hV0, rfl⟩
   ·exact absurd h0D h0
   ·have hk : V 15 = .agg #[iv 6, iv 4] := (hR 15 (by simp)).1.symm
    have hmap := hst.get (k := 0) rfl
    have hmem : ∀ x ∈ (D.filter fun i => decide (i % 2 = 0) && decide (i ≠ 0)).map effKV, ∃ j, j ∈ D ∧ j < 17 ∧ j % 2 = 0 ∧ j ≠ 0 ∧ x = effKV j := by
     intro x hx
     obtain ⟨j, hj, rfl⟩ := List.mem_map.1 hx
     obtain ⟨hj1, hj2⟩ := List.mem_filter.1 hj
     simp at hj2
     exact ⟨j, hj1, hlt j hj1, hj2.1, hj2.2, rfl⟩
    obtain ⟨o, ho1, ho2⟩ := run_insert_ask (P := Try.prog) (w := w) (T := 91) (Kt := 131) (Et := 3) (k := .agg #[iv 6, iv 4]) (v := iv 8) (q := isAgg2 6 4) hmap Try.underlying91
     (fun es i hes => ⟨_, Try.runUnderlying131 w, by cases es with | nil => exact absurd rfl hes | cons e es => rfl⟩) ⟨_, Try.runUnderlying131 w⟩ (fun b => by kernel_rfl)
     (fun x hx => by obtain ⟨j, _, h1, h2, h3, rfl⟩ := hmem x hx; obtain ⟨x1, x2, hx⟩ := effKV_key h1 h2 h3; rw [hx, eqCause]; rfl)
     (List.find?_eq_none.2 fun x hx => by obtain ⟨j, hjD, h1, h2, h3, rfl⟩ := hmem x hx; rw [effKV_ne (i := 16) (by decide) h1 (by decide) h2 (by decide) h3 (fun e => hni (e ▸ hjD)) _ _ rfl]; simp)
    have hb := hst.lt (k := 0) (b := b) rfl rfl
    refine (r_insert (u := .map (some b)) (k := .agg #[iv 6, iv 4]) (v := iv 8) ?_ ?_ rfl ho1).mono ?_
    ·show some (V 0) = _; rw [hV0]
    ·show some (V 15) = _; rw [hk]
    ·rintro v w' ⟨rfl, rfl⟩
     refine ⟨mapE b (effKV 16 :: (D.filter fun i => decide (i % 2 = 0) && decide (i ≠ 0)).map effKV), (Ext.putObj (M := (mapE b _).foot) rfl _ _), ho2, fun b' hb' => by cases hb'; exact ⟨by simpa using hb, .inl rfl⟩, ⟨rfl, rfl⟩, fun V' hV' _ => ⟨by simpa using hlt, .inr ⟨by simp [h0D], b, (hV' 0 h0D).trans hV0, ?_⟩⟩⟩
     rw [List.filter_cons_of_pos (by decide), List.map_cons]
  | i + 17, h => exact absurd h (by omega)
 rintro D V E e a w1 hD ⟨_, hor⟩ hR hfr hst
 rcases hor with ⟨h0, _⟩ | ⟨_, b, hV0, rfl⟩
 ·exact absurd (hD.mem_iff.2 (by simp)) h0
 have hperm : ((D.filter fun i => decide (i % 2 = 0) && decide (i ≠ 0)).map effKV).Perm effAll := by
  have h1 := (hD.filter fun i => decide (i % 2 = 0) && decide (i ≠ 0)).map effKV
  exact h1
 have hfr : Fr 11 [(1, _)] [] a := hfr.pick [1]
 rw [hV0] at hfr
 have hst : St No w0 [mapE b _] w1 := hst.mask [true]
 have hst : St No w0 [mapE b effAll] w1 := hst.exchange (k := 0) (e := mapE b _) (e' := mapE b effAll) rfl (Ext.refl _ _) (by obtain ⟨es, cl, h1, h2⟩ := hst.get (k := 0) rfl; exact ⟨es, cl, h1, h2.trans hperm⟩) (fun k hk => ⟨hst.lt (k := 0) rfl hk, .inl hk⟩)
 refine wlm hfr rfl fun a hfr => wla hfr rfl fun a hfr => ?_
 refine wl_nil ?_
 refine hK2 _ _ ?_
 refine wc_ret ?_
 refine fin_ret hfr Try.results59 (resAre_tmp rfl resAre_nil) ?_
 exact ⟨_, rfl, trivial, hst.ext, St.out (E := [mapE b effAll]) (H := []) hst⟩
end Go.Proofs.Ytnfnkohkcmkddaa
namespace Go.Proofs.Ytnfnkohkcmkddaa
open Go.RowKit Go.PW
set_option linter.unusedVariables false
set_option linter.unusedSimpArgs false
set_option maxRecDepth 4000
def dueFun (s : Int) : Value := if s = 1 then .func (.func 74) #[] #[] else if s = 2 then .func (.func 75) #[] #[] else if s = 3 then .func (.func 76) #[] #[] else .func (.func 77) #[] #[]
theorem look_dues_1 {b : Nat} {w : World} (hm : (mapE b duesKV).ok w) : (Instr.lookup 90 (.map (some b)) (iv 1) true).run Try.prog w = .ok (.tuple #[.agg #[.func (.func 74) #[] #[], iv 3], .bool true]) w :=
 run_lookup_int hm Try.underlying90 Try.underlying3 (Try.zeroValue117 _) (by simp [duesKV]) (lb rfl) true
theorem look_dues_2 {b : Nat} {w : World} (hm : (mapE b duesKV).ok w) : (Instr.lookup 90 (.map (some b)) (iv 2) true).run Try.prog w = .ok (.tuple #[.agg #[.func (.func 75) #[] #[], iv 3], .bool true]) w :=
 run_lookup_int hm Try.underlying90 Try.underlying3 (Try.zeroValue117 _) (by simp [duesKV]) (lb rfl) true
theorem look_dues_3 {b : Nat} {w : World} (hm : (mapE b duesKV).ok w) : (Instr.lookup 90 (.map (some b)) (iv 3) true).run Try.prog w = .ok (.tuple #[.agg #[.func (.func 76) #[] #[], iv 4], .bool true]) w :=
 run_lookup_int hm Try.underlying90 Try.underlying3 (Try.zeroValue117 _) (by simp [duesKV]) (lb rfl) true
theorem look_dues_4 {b : Nat} {w : World} (hm : (mapE b duesKV).ok w) : (Instr.lookup 90 (.map (some b)) (iv 4) true).run Try.prog w = .ok (.tuple #[.agg #[.func (.func 77) #[] #[], iv 5], .bool true]) w :=
 run_lookup_int hm Try.underlying90 Try.underlying3 (Try.zeroValue117 _) (by simp [duesKV]) (lb rfl) true
theorem look_dues_no {b : Nat} {s : Int} {w : World} (hm : (mapE b duesKV).ok w) (h : dueSec ⟨0, 0, 0, 0⟩ s = none) : (Instr.lookup 90 (.map (some b)) (iv s) true).run Try.prog w = .ok (.tuple #[.agg #[.nilFunc, iv 0], .bool false]) w := by
 have hs : s ≠ 1 ∧ s ≠ 2 ∧ s ≠ 3 ∧ s ≠ 4 := by
  refine ⟨?_, ?_, ?_, ?_⟩ <;> rintro rfl <;> simp [dueSec] at h
 have hn : ∀ x ∈ duesKV, isInt .i64 s x.1 = false := by simp [duesKV, isInt, hs]
 refine (run_lookup_int hm Try.underlying90 Try.underlying3 (Try.zeroValue117 _) (by simp [duesKV]) ?_ true).trans ?_
 ·rw [List.filter_eq_nil_iff.2 (fun x hx => by simp [hn x hx])]; simp
 ·rw [List.find?_eq_none.2 (fun x hx => by simp [hn x hx])]; rfl
theorem look_dues_f {b : Nat} {s : Int} {w : World} (hm : (mapE b duesKV).ok w) (h : s = 1 ∨ s = 2 ∨ s = 3 ∨ s = 4) : (Instr.lookup 90 (.map (some b)) (iv s) false).run Try.prog w = .ok (.agg #[dueFun s, iv (dueNext s)]) w := by
 rcases h with rfl | rfl | rfl | rfl <;> exact run_lookup_int hm Try.underlying90 Try.underlying3 (Try.zeroValue117 _) (by simp [duesKV]) (lb rfl) false
theorem eff_find (k s : Int) : (effAll.find? fun x => isAgg2 k s x.1).map (·.2) = (effect k s).map fun n => iv n := by
 simp only [effAll, effKV, List.map_cons, List.map_nil, List.find?_cons, isAgg2, effect]
 by_cases h1 : k = 1
 ·subst h1; by_cases h : s = 1 <;> simp [h]
 by_cases h2 : k = 2
 ·subst h2; by_cases h : s = 1 <;> simp [h]
 by_cases h3 : k = 3
 ·subst h3; by_cases h : s = 2 <;> simp [h]
 by_cases h4 : k = 4
 ·subst h4; by_cases h : s = 2 <;> simp [h]
 by_cases h5 : k = 5
 ·subst h5; by_cases h : s = 1 <;> by_cases h' : s = 2 <;> by_cases h'' : s = 3 <;> simp_all
 by_cases h6 : k = 6
 ·subst h6; by_cases h : s = 4 <;> simp [h]
 simp [h1, h2, h3, h4, h5, h6]
theorem eff_one (k s : Int) : (effAll.filter fun x => isAgg2 k s x.1).length ≤ 1 := by
 simp only [effAll, effKV, List.map_cons, List.map_nil, List.filter_cons, isAgg2]
 by_cases h1 : k = 1
 ·subst h1; by_cases h : s = 1 <;> simp [h]
 by_cases h2 : k = 2
 ·subst h2; by_cases h : s = 1 <;> simp [h]
 by_cases h3 : k = 3
 ·subst h3; by_cases h : s = 2 <;> simp [h]
 by_cases h4 : k = 4
 ·subst h4; by_cases h : s = 2 <;> simp [h]
 by_cases h5 : k = 5
 ·subst h5; by_cases h : s = 1 <;> by_cases h' : s = 2 <;> by_cases h'' : s = 3 <;> simp_all
 by_cases h6 : k = 6
 ·subst h6; by_cases h : s = 4 <;> simp [h]
 simp [h1, h2, h3, h4, h5, h6]
theorem eff_keys : ∀ x ∈ effAll, ∃ c d, x.1 = .agg #[iv c, iv d] := by
 intro x hx
 simp only [effAll, effKV, List.map_cons, List.map_nil, List.mem_cons, List.not_mem_nil, or_false] at hx
 rcases hx with rfl | rfl | rfl | rfl | rfl | rfl | rfl | rfl <;> exact ⟨_, _, rfl⟩
theorem look_eff {b : Nat} {k s : Int} {w : World} (hm : (mapE b effAll).ok w) : (Instr.lookup 91 (.map (some b)) (.agg #[iv k, iv s]) true).run Try.prog w = .ok (.tuple #[iv ((effect k s).getD 0), .bool (effect k s).isSome]) w := by
 refine (run_lookup_ask (Kt := 131) (Et := 3) (q := isAgg2 k s) hm Try.underlying91 (Try.zeroValue3 _) (by simp [effAll]) (fun es i hes => ⟨_, Try.runUnderlying131 w, by cases es with | nil => exact absurd rfl hes | cons e es => rfl⟩) (fun b => by kernel_rfl) (fun x hx => by obtain ⟨c, d, h⟩ := eff_keys x hx; rw [h, eqCause]; rfl) (eff_one k s) true).trans ?_
 rw [eff_find, if_pos rfl]
 cases effect k s <;> rfl
structure Mach where
 bm : Nat
 dm : Nat
 em : Nat
def machBlk (x : Mach) (rl : Rul) (cl : Clm) (v : Value) : Ent := blk x.bm [iv rl.answer, iv rl.cooling, iv rl.settle, iv rl.reverse, iv cl.number, iv cl.frm, iv cl.to, iv cl.holder, iv cl.asked, .bool cl.backed, .map (some x.dm), .map (some x.em), v] 93
def machEnts (x : Mach) (rl : Rul) (cl : Clm) (v : Value) : List Ent := [machBlk x rl cl v, mapE x.dm duesKV, mapE x.em effAll]
theorem open_ok (rl : Rul) (cl : Clm) (sv : Value) (l : List Evt) (w0 : World) (hsv : SlAt w0 sv 3 (l.map Evt.cells)) (hv : valid rl cl l = true) :
  Ret Try.prog 33 #[.agg #[iv rl.answer, iv rl.cooling, iv rl.settle, iv rl.reverse], .agg #[iv cl.number, iv cl.frm, iv cl.to, iv cl.holder, iv cl.asked, .bool cl.backed], sv] w0 (MemR w0 (fun x : Mach => .tuple #[.pointer (some ⟨x.bm, 0, none⟩), iv 0]) (fun x => machEnts x rl cl (.slice none 0 0)) (fun _ => True)) := by
 refine ret_of Try.func33 rfl Try.ntmps33 (lb rfl) fun a hfr => ?_
 have hfr : Fr 19 [(0, _), (1, _), (2, _)] [] a := hfr
 have hst : St No w0 [] w0 := St.init w0
 refine wc_seq_region fun K1 hK1 => ?_
 refine wl_box hfr hst rfl [iv rl.answer, iv rl.cooling, iv rl.settle, iv rl.reverse] rfl fun a w1 hfr hst => ?_
 refine wl_box hfr hst rfl [iv cl.number, iv cl.frm, iv cl.to, iv cl.holder, iv cl.asked, .bool cl.backed] rfl fun a w2 hfr hst => ?_
 refine wla hfr rfl fun a hfr => wla hfr rfl fun a hfr => ?_
 refine wl_nil (hK1 _ _ ?_)
 refine wc_seq_k fun K2 hK2 => ?_
 refine wc_seq_region fun K3 hK3 => ?_
 refine wlv hfr (v_load_all (hst.get (k := 1) rfl) rfl (Try.isAgg31 _) (Try.sizeOf31 _)) fun a hfr => ?_
 refine wlv hfr (v_load_all (hst.get (k := 0) rfl) rfl (Try.isAgg33 _) (Try.sizeOf33 _)) fun a hfr => wlm hfr rfl fun a hfr => ?_
 refine wl_callp hfr hst Try.call22 rfl ((hv ▸ valid_ok rl cl sv l _ (hst.arg hsv) : Ret Try.prog 22 _ _ fun v w => v = .bool true ∧ _)) fun a w3 hfr hst => ?_
 refine wlv hfr ((v_not rfl).asb (b' := false) rfl) fun a hfr => ?_
 refine wl_nil (hK3 _ _ ?_)
 refine wc_cond_f hfr rfl ?_
 refine wc_skip ?_
 refine hK2 _ _ ?_
 refine wc_seq_k fun K4 hK4 => ?_
 refine wc_of_dr ?_
 have hfr : Fr 19 [(0, _), (1, _), (2, _), (3, _), (4, _), (6, _), (7, _), (8, _), (9, _), (10, _), (11, _), (12, _)] [] a := hfr.pick [0, 1, 2, 3, 4, 6, 7, 8, 9, 10, 11, 12]
 refine wc_phases' 4 [[], [], [], []] (fun i => match i with | 0 => pv (.agg #[iv rl.answer, iv rl.cooling, iv rl.settle, iv rl.reverse]) | 1 => pv (.agg #[iv cl.number, iv cl.frm, iv cl.to, iv cl.holder, iv cl.asked, .bool cl.backed]) | 2 => pm (fun b : Nat => .map (some b)) (fun b => [mapE b duesKV]) (fun _ => True) | 3 => pm (fun b : Nat => .map (some b)) (fun b => [mapE b effAll]) (fun _ => True) | _ => fun _ _ => False) hfr hst (by kernel_rfl) (by kernel_rfl) ?_ ?_
 ·intro i hi
  match i, hi with
  | 0, _ =>
   intro w hst
   exact OpV.g (v_load_all (hst.get (k := 1) rfl) rfl (Try.isAgg31 _) (Try.sizeOf31 _))
  | 1, _ =>
   intro w hst
   exact OpV.g (v_load_all (hst.get (k := 0) rfl) rfl (Try.isAgg33 _) (Try.sizeOf33 _))
  | 2, _ =>
   intro w hst
   exact g_callm Try.call58 rfl (dues_ok _)
  | 3, _ =>
   intro w hst
   exact g_callm Try.call59 rfl (effects_ok _)
 rintro _ _ ⟨rfl, rfl⟩ _ _ ⟨rfl, rfl⟩ _ _ ⟨b_d, rfl, -, rfl⟩ _ _ ⟨b_e, rfl, -, rfl⟩ a w4 hfr hst
 have hfr : Fr 19 [(13, _), (14, _), (15, _), (16, _), (0, _), (1, _), (2, _), (3, _), (4, _), (6, _), (7, _), (8, _), (9, _), (10, _), (11, _), (12, _)] [] a := hfr
 have hst : St No w0 [_, _, _, _] w4 := hst
 refine wlv hfr (v_build (v := .agg #[iv rl.answer, iv rl.cooling, iv rl.settle, iv rl.reverse, iv cl.number, iv cl.frm, iv cl.to, iv cl.holder, iv cl.asked, .bool cl.backed, .map (some b_d), .map (some b_e), .slice none 0 0]) rfl (by kernel_rfl)) fun a hfr => ?_
 refine wl_box hfr hst rfl [iv rl.answer, iv rl.cooling, iv rl.settle, iv rl.reverse, iv cl.number, iv cl.frm, iv cl.to, iv cl.holder, iv cl.asked, .bool cl.backed, .map (some b_d), .map (some b_e), .slice none 0 0] rfl fun a w5 hfr hst => ?_
 refine wla hfr rfl fun a hfr => wla hfr rfl fun a hfr => ?_
 refine wl_nil ?_
 refine hK4 _ _ ?_
 have hfr : Fr 19 [(0, _), (1, _), (2, _), (3, _), (4, _), (8, _), (9, _), (10, _), (11, _), (12, _), (6, _), (7, _)] [] a := hfr.pick [0, 1, 2, 3, 4, 8, 9, 10, 11, 12, 6, 7]
 refine wc_ret ?_
 refine fin_ret hfr Try.results33 (resAre_tmp rfl (resAre_tmp rfl resAre_nil)) ?_
 exact ⟨⟨w4.heap.size, b_d, b_e⟩, rfl, trivial, hst.ext, St.out (E := machEnts ⟨w4.heap.size, b_d, b_e⟩ rl cl (.slice none 0 0)) (H := [blk w1.heap.size [iv cl.number, iv cl.frm, iv cl.to, iv cl.holder, iv cl.asked, .bool cl.backed] 33, blk w0.heap.size [iv rl.answer, iv rl.cooling, iv rl.settle, iv rl.reverse] 31]) hst⟩
theorem St_keepm {w0 w : World} {H : List Ent} {b : Nat} {kvs : List (Value × Value)} (hst : St No w0 H w) (h : (mapE b kvs).ok w0) : (mapE b kvs).ok w :=
 hst.keep h fun k hk => by obtain ⟨es, cl, h1, _⟩ := h; cases hk; exact (Array.getElem?_eq_some_iff.1 h1).1
theorem begins_1 (rl : Rul) (cl : Clm) (x : Mach) (v : Value) (since : Int) (w0 : World) (hm : (machBlk x rl cl v).ok w0) (hd : (mapE x.dm duesKV).ok w0) (hr : areValid rl = true) (h0 : 0 ≤ since) (h1 : since ≤ 30000000) :
  Ret Try.prog 61 #[.pointer (some ⟨x.bm, 0, none⟩), iv 1, iv since] w0 fun v w => v = (begins rl 1 since).val ∧ Ext No w0 w := by
 have hr := areValid_le hr
 refine ret_of Try.func61 rfl Try.ntmps61 (lb rfl) fun a hfr => ?_
 have hfr : Fr 34 [(0, _), (1, _), (2, _)] [] a := hfr
 have hst : St No w0 [] w0 := St.init w0
 refine wc_seq_region fun K1 hK1 => ?_
 refine wl_alloc hfr hst (Try.zeroValue54 _) [iv 0, iv 0, iv 0] rfl fun a w1 hfr hst => ?_
 refine wl_nil (hK1 _ _ ?_)
 refine wc_seq_region fun K2 hK2 => ?_
 refine wlm hfr rfl fun a hfr => wlm hfr rfl fun a hfr => ?_
 refine wlv hfr (v_build (v := .agg #[iv 1, iv since, iv (-1)]) rfl (by kernel_rfl)) fun a hfr => ?_
 refine wl_alloc hfr hst (Try.zeroValue54 _) [iv 0, iv 0, iv 0] rfl fun a w2 hfr hst => ?_
 refine wl_sto 0 hfr hst [iv 1, iv since, iv (-1)] rfl (Try.sizeOf54 _) fun a w3 hfr hst => ?_
 refine wl_nil (hK2 _ _ ?_)
 refine wc_seq_k fun K3 hK3 => ?_
 refine wc_seq_region fun K4 hK4 => ?_
 refine wlm hfr rfl fun a hfr => ?_
 refine wlv hfr (v_nilCheck rfl) fun a hfr => ?_
 refine wlv hfr (v_fieldAddr (v := .pointer (some ⟨x.bm, 10, none⟩)) rfl (by kernel_rfl)) fun a hfr => ?_
 refine wlv hfr (v_load_blk1 (hst.keepb hm) rfl (Try.isAgg90 _) rfl) fun a hfr => wlm hfr rfl fun a hfr => ?_
 refine wlv hfr (v_lookup rfl rfl (look_dues_1 (St_keepm hst hd))) fun a hfr => wlm hfr rfl fun a hfr => ?_
 refine wlv hfr (v_extract rfl rfl) fun a hfr => ?_
 refine wlv hfr (v_extract rfl rfl) fun a hfr => ?_
 refine wl_alloc hfr hst (Try.zeroValue117 _) [.nilFunc, iv 0] rfl fun a w4 hfr hst => ?_
 refine wl_sto 0 hfr hst [.func (.func 74) #[] #[], iv 3] rfl (Try.sizeOf117 _) fun a w5 hfr hst => ?_
 refine wla hfr rfl fun a hfr => ?_
 refine wl_nil (hK4 _ _ ?_)
 have hfr : Fr 34 [(0, _), (1, _), (2, _), (6, _), (10, _), (11, _), (12, _), (7, _), (8, _), (9, _)] [] a := hfr.pick [0, 1, 2, 6, 10, 11, 12, 7, 8, 9]
 refine wc_seq_region fun K5 hK5 => ?_
 refine wlm hfr rfl fun a hfr => ?_
 refine wl_nil (hK5 _ _ ?_)
 refine wc_cond_t hfr rfl ?_
 refine wc_of_dr ?_
 have hfr : Fr 34 [(0, _), (1, _), (2, _), (6, _), (10, _), (11, _), (12, _), (7, _), (8, _), (9, _), (22, _)] [] a := hfr.pick [0, 1, 2, 6, 10, 11, 12, 7, 8, 9, 22]
 refine wc_phases' 9 [[], [], [1], [], [3], [4], [5], [2, 6], [0, 7]] (fun i => match i with | 0 => pv (iv since) | 1 => pv (.pointer (some ⟨w3.heap.size, 0, none⟩)) | 2 => pv (.func (.func 74) #[] #[]) | 3 => pv (.pointer (some ⟨x.bm, 0, none⟩)) | 4 => pv (.pointer (some ⟨x.bm, 0, none⟩)) | 5 => pv (.pointer (some ⟨x.bm, 0, none⟩)) | 6 => pv (.agg #[iv rl.answer, iv rl.cooling, iv rl.settle, iv rl.reverse]) | 7 => pv (iv rl.answer) | 8 => pv (iv (since + rl.answer)) | _ => fun _ _ => False) hfr hst (by kernel_rfl) (by kernel_rfl) ?_ ?_
 ·intro i hi
  match i, hi with
  | 0, _ =>
   intro w hst
   exact OpV.g (v_move rfl)
  | 1, _ =>
   intro w hst
   exact OpV.g (v_fieldAddr (v := .pointer (some ⟨w3.heap.size, 0, none⟩)) rfl (by kernel_rfl))
  | 2, _ =>
   rintro _ _ ⟨rfl, rfl⟩
   intro w hst
   exact OpV.g (v_load_blk1 (hst.get (k := 0) rfl) rfl (Try.isAgg115 _) rfl)
  | 3, _ =>
   intro w hst
   exact OpV.g (v_move rfl)
  | 4, _ =>
   rintro _ _ ⟨rfl, rfl⟩
   intro w hst
   exact OpV.g (v_nilCheck rfl)
  | 5, _ =>
   rintro _ _ ⟨rfl, rfl⟩
   intro w hst
   exact OpV.g (v_fieldAddr (v := .pointer (some ⟨x.bm, 0, none⟩)) rfl (by kernel_rfl))
  | 6, _ =>
   rintro _ _ ⟨rfl, rfl⟩
   intro w hst
   exact OpV.g (v_load_blk (ds := [iv rl.answer, iv rl.cooling, iv rl.settle, iv rl.reverse]) (hst.keepb hm) rfl (Try.isAgg89 _) (Try.sizeOf89 _) rfl)
  | 7, _ =>
   rintro _ _ ⟨rfl, rfl⟩ _ _ ⟨rfl, rfl⟩
   intro w hst
   exact g_callvp rfl Try.call74 rfl (rule_answer_ok _ _ _ _ _)
  | 8, _ =>
   rintro _ _ ⟨rfl, rfl⟩ _ _ ⟨rfl, rfl⟩
   intro w hst
   exact OpV.g (v_add rfl rfl ⟨by omega, by omega⟩)
 rintro _ _ ⟨rfl, rfl⟩ _ _ ⟨rfl, rfl⟩ _ _ ⟨rfl, rfl⟩ _ _ ⟨rfl, rfl⟩ _ _ ⟨rfl, rfl⟩ _ _ ⟨rfl, rfl⟩ _ _ ⟨rfl, rfl⟩ _ _ ⟨rfl, rfl⟩ _ _ ⟨rfl, rfl⟩ a w6 hfr hst
 have hfr : Fr 34 [(23, _), (24, _), (25, _), (26, _), (27, _), (28, _), (29, _), (30, _), (31, _), (0, _), (1, _), (2, _), (6, _), (10, _), (11, _), (12, _), (7, _), (8, _), (9, _), (22, _)] [] a := hfr
 have hst : St No w0 [_, _, _] w6 := hst
 refine wlv hfr (v_fieldAddr (v := .pointer (some ⟨w1.heap.size, 2, none⟩)) rfl (by kernel_rfl)) fun a hfr => ?_
 refine wl_sto 1 hfr hst [iv 1, iv since, iv (since + rl.answer)] rfl (Try.sizeOf3 _) fun a w7 hfr hst => ?_
 refine wl_nil ?_
 refine hK3 _ _ ?_
 have hfr : Fr 34 [(0, _), (1, _), (2, _), (6, _), (10, _), (11, _), (12, _), (7, _), (8, _), (9, _), (22, _)] [] a := hfr.pick [0, 1, 2, 6, 10, 11, 12, 7, 8, 9, 22]
 refine wc_seq_region fun K6 hK6 => ?_
 refine wlv hfr (v_load_all (hst.get (k := 1) rfl) rfl (Try.isAgg54 _) (Try.sizeOf54 _)) fun a hfr => ?_
 refine wl_sto 2 hfr hst [iv 1, iv since, iv (since + rl.answer)] rfl (Try.sizeOf54 _) fun a w8 hfr hst => ?_
 refine wl_nil (hK6 _ _ ?_)
 refine wc_ret ?_
 refine fin_ret hfr Try.results61 (resAre_cell rfl (res_all (hst.get (k := 2) rfl) (Try.isAgg54 _) (Try.sizeOf54 _)) resAre_nil) ?_
 exact ⟨by rfl, hst.ext⟩
theorem begins_2 (rl : Rul) (cl : Clm) (x : Mach) (v : Value) (since : Int) (w0 : World) (hm : (machBlk x rl cl v).ok w0) (hd : (mapE x.dm duesKV).ok w0) (hr : areValid rl = true) (h0 : 0 ≤ since) (h1 : since ≤ 30000000) :
  Ret Try.prog 61 #[.pointer (some ⟨x.bm, 0, none⟩), iv 2, iv since] w0 fun v w => v = (begins rl 2 since).val ∧ Ext No w0 w := by
 have hr := areValid_le hr
 refine ret_of Try.func61 rfl Try.ntmps61 (lb rfl) fun a hfr => ?_
 have hfr : Fr 34 [(0, _), (1, _), (2, _)] [] a := hfr
 have hst : St No w0 [] w0 := St.init w0
 refine wc_seq_region fun K1 hK1 => ?_
 refine wl_alloc hfr hst (Try.zeroValue54 _) [iv 0, iv 0, iv 0] rfl fun a w1 hfr hst => ?_
 refine wl_nil (hK1 _ _ ?_)
 refine wc_seq_region fun K2 hK2 => ?_
 refine wlm hfr rfl fun a hfr => wlm hfr rfl fun a hfr => ?_
 refine wlv hfr (v_build (v := .agg #[iv 2, iv since, iv (-1)]) rfl (by kernel_rfl)) fun a hfr => ?_
 refine wl_alloc hfr hst (Try.zeroValue54 _) [iv 0, iv 0, iv 0] rfl fun a w2 hfr hst => ?_
 refine wl_sto 0 hfr hst [iv 2, iv since, iv (-1)] rfl (Try.sizeOf54 _) fun a w3 hfr hst => ?_
 refine wl_nil (hK2 _ _ ?_)
 refine wc_seq_k fun K3 hK3 => ?_
 refine wc_seq_region fun K4 hK4 => ?_
 refine wlm hfr rfl fun a hfr => ?_
 refine wlv hfr (v_nilCheck rfl) fun a hfr => ?_
 refine wlv hfr (v_fieldAddr (v := .pointer (some ⟨x.bm, 10, none⟩)) rfl (by kernel_rfl)) fun a hfr => ?_
 refine wlv hfr (v_load_blk1 (hst.keepb hm) rfl (Try.isAgg90 _) rfl) fun a hfr => wlm hfr rfl fun a hfr => ?_
 refine wlv hfr (v_lookup rfl rfl (look_dues_2 (St_keepm hst hd))) fun a hfr => wlm hfr rfl fun a hfr => ?_
 refine wlv hfr (v_extract rfl rfl) fun a hfr => ?_
 refine wlv hfr (v_extract rfl rfl) fun a hfr => ?_
 refine wl_alloc hfr hst (Try.zeroValue117 _) [.nilFunc, iv 0] rfl fun a w4 hfr hst => ?_
 refine wl_sto 0 hfr hst [.func (.func 75) #[] #[], iv 3] rfl (Try.sizeOf117 _) fun a w5 hfr hst => ?_
 refine wla hfr rfl fun a hfr => ?_
 refine wl_nil (hK4 _ _ ?_)
 have hfr : Fr 34 [(0, _), (1, _), (2, _), (6, _), (10, _), (11, _), (12, _), (7, _), (8, _), (9, _)] [] a := hfr.pick [0, 1, 2, 6, 10, 11, 12, 7, 8, 9]
 refine wc_seq_region fun K5 hK5 => ?_
 refine wlm hfr rfl fun a hfr => ?_
 refine wl_nil (hK5 _ _ ?_)
 refine wc_cond_t hfr rfl ?_
 refine wc_of_dr ?_
 have hfr : Fr 34 [(0, _), (1, _), (2, _), (6, _), (10, _), (11, _), (12, _), (7, _), (8, _), (9, _), (22, _)] [] a := hfr.pick [0, 1, 2, 6, 10, 11, 12, 7, 8, 9, 22]
 refine wc_phases' 9 [[], [], [1], [], [3], [4], [5], [2, 6], [0, 7]] (fun i => match i with | 0 => pv (iv since) | 1 => pv (.pointer (some ⟨w3.heap.size, 0, none⟩)) | 2 => pv (.func (.func 75) #[] #[]) | 3 => pv (.pointer (some ⟨x.bm, 0, none⟩)) | 4 => pv (.pointer (some ⟨x.bm, 0, none⟩)) | 5 => pv (.pointer (some ⟨x.bm, 0, none⟩)) | 6 => pv (.agg #[iv rl.answer, iv rl.cooling, iv rl.settle, iv rl.reverse]) | 7 => pv (iv rl.settle) | 8 => pv (iv (since + rl.settle)) | _ => fun _ _ => False) hfr hst (by kernel_rfl) (by kernel_rfl) ?_ ?_
 ·intro i hi
  match i, hi with
  | 0, _ =>
   intro w hst
   exact OpV.g (v_move rfl)
  | 1, _ =>
   intro w hst
   exact OpV.g (v_fieldAddr (v := .pointer (some ⟨w3.heap.size, 0, none⟩)) rfl (by kernel_rfl))
  | 2, _ =>
   rintro _ _ ⟨rfl, rfl⟩
   intro w hst
   exact OpV.g (v_load_blk1 (hst.get (k := 0) rfl) rfl (Try.isAgg115 _) rfl)
  | 3, _ =>
   intro w hst
   exact OpV.g (v_move rfl)
  | 4, _ =>
   rintro _ _ ⟨rfl, rfl⟩
   intro w hst
   exact OpV.g (v_nilCheck rfl)
  | 5, _ =>
   rintro _ _ ⟨rfl, rfl⟩
   intro w hst
   exact OpV.g (v_fieldAddr (v := .pointer (some ⟨x.bm, 0, none⟩)) rfl (by kernel_rfl))
  | 6, _ =>
   rintro _ _ ⟨rfl, rfl⟩
   intro w hst
   exact OpV.g (v_load_blk (ds := [iv rl.answer, iv rl.cooling, iv rl.settle, iv rl.reverse]) (hst.keepb hm) rfl (Try.isAgg89 _) (Try.sizeOf89 _) rfl)
  | 7, _ =>
   rintro _ _ ⟨rfl, rfl⟩ _ _ ⟨rfl, rfl⟩
   intro w hst
   exact g_callvp rfl Try.call75 rfl (rule_settle_ok _ _ _ _ _)
  | 8, _ =>
   rintro _ _ ⟨rfl, rfl⟩ _ _ ⟨rfl, rfl⟩
   intro w hst
   exact OpV.g (v_add rfl rfl ⟨by omega, by omega⟩)
 rintro _ _ ⟨rfl, rfl⟩ _ _ ⟨rfl, rfl⟩ _ _ ⟨rfl, rfl⟩ _ _ ⟨rfl, rfl⟩ _ _ ⟨rfl, rfl⟩ _ _ ⟨rfl, rfl⟩ _ _ ⟨rfl, rfl⟩ _ _ ⟨rfl, rfl⟩ _ _ ⟨rfl, rfl⟩ a w6 hfr hst
 have hfr : Fr 34 [(23, _), (24, _), (25, _), (26, _), (27, _), (28, _), (29, _), (30, _), (31, _), (0, _), (1, _), (2, _), (6, _), (10, _), (11, _), (12, _), (7, _), (8, _), (9, _), (22, _)] [] a := hfr
 have hst : St No w0 [_, _, _] w6 := hst
 refine wlv hfr (v_fieldAddr (v := .pointer (some ⟨w1.heap.size, 2, none⟩)) rfl (by kernel_rfl)) fun a hfr => ?_
 refine wl_sto 1 hfr hst [iv 2, iv since, iv (since + rl.settle)] rfl (Try.sizeOf3 _) fun a w7 hfr hst => ?_
 refine wl_nil ?_
 refine hK3 _ _ ?_
 have hfr : Fr 34 [(0, _), (1, _), (2, _), (6, _), (10, _), (11, _), (12, _), (7, _), (8, _), (9, _), (22, _)] [] a := hfr.pick [0, 1, 2, 6, 10, 11, 12, 7, 8, 9, 22]
 refine wc_seq_region fun K6 hK6 => ?_
 refine wlv hfr (v_load_all (hst.get (k := 1) rfl) rfl (Try.isAgg54 _) (Try.sizeOf54 _)) fun a hfr => ?_
 refine wl_sto 2 hfr hst [iv 2, iv since, iv (since + rl.settle)] rfl (Try.sizeOf54 _) fun a w8 hfr hst => ?_
 refine wl_nil (hK6 _ _ ?_)
 refine wc_ret ?_
 refine fin_ret hfr Try.results61 (resAre_cell rfl (res_all (hst.get (k := 2) rfl) (Try.isAgg54 _) (Try.sizeOf54 _)) resAre_nil) ?_
 exact ⟨by rfl, hst.ext⟩
theorem begins_3 (rl : Rul) (cl : Clm) (x : Mach) (v : Value) (since : Int) (w0 : World) (hm : (machBlk x rl cl v).ok w0) (hd : (mapE x.dm duesKV).ok w0) (hr : areValid rl = true) (h0 : 0 ≤ since) (h1 : since ≤ 30000000) :
  Ret Try.prog 61 #[.pointer (some ⟨x.bm, 0, none⟩), iv 3, iv since] w0 fun v w => v = (begins rl 3 since).val ∧ Ext No w0 w := by
 have hr := areValid_le hr
 refine ret_of Try.func61 rfl Try.ntmps61 (lb rfl) fun a hfr => ?_
 have hfr : Fr 34 [(0, _), (1, _), (2, _)] [] a := hfr
 have hst : St No w0 [] w0 := St.init w0
 refine wc_seq_region fun K1 hK1 => ?_
 refine wl_alloc hfr hst (Try.zeroValue54 _) [iv 0, iv 0, iv 0] rfl fun a w1 hfr hst => ?_
 refine wl_nil (hK1 _ _ ?_)
 refine wc_seq_region fun K2 hK2 => ?_
 refine wlm hfr rfl fun a hfr => wlm hfr rfl fun a hfr => ?_
 refine wlv hfr (v_build (v := .agg #[iv 3, iv since, iv (-1)]) rfl (by kernel_rfl)) fun a hfr => ?_
 refine wl_alloc hfr hst (Try.zeroValue54 _) [iv 0, iv 0, iv 0] rfl fun a w2 hfr hst => ?_
 refine wl_sto 0 hfr hst [iv 3, iv since, iv (-1)] rfl (Try.sizeOf54 _) fun a w3 hfr hst => ?_
 refine wl_nil (hK2 _ _ ?_)
 refine wc_seq_k fun K3 hK3 => ?_
 refine wc_seq_region fun K4 hK4 => ?_
 refine wlm hfr rfl fun a hfr => ?_
 refine wlv hfr (v_nilCheck rfl) fun a hfr => ?_
 refine wlv hfr (v_fieldAddr (v := .pointer (some ⟨x.bm, 10, none⟩)) rfl (by kernel_rfl)) fun a hfr => ?_
 refine wlv hfr (v_load_blk1 (hst.keepb hm) rfl (Try.isAgg90 _) rfl) fun a hfr => wlm hfr rfl fun a hfr => ?_
 refine wlv hfr (v_lookup rfl rfl (look_dues_3 (St_keepm hst hd))) fun a hfr => wlm hfr rfl fun a hfr => ?_
 refine wlv hfr (v_extract rfl rfl) fun a hfr => ?_
 refine wlv hfr (v_extract rfl rfl) fun a hfr => ?_
 refine wl_alloc hfr hst (Try.zeroValue117 _) [.nilFunc, iv 0] rfl fun a w4 hfr hst => ?_
 refine wl_sto 0 hfr hst [.func (.func 76) #[] #[], iv 4] rfl (Try.sizeOf117 _) fun a w5 hfr hst => ?_
 refine wla hfr rfl fun a hfr => ?_
 refine wl_nil (hK4 _ _ ?_)
 have hfr : Fr 34 [(0, _), (1, _), (2, _), (6, _), (10, _), (11, _), (12, _), (7, _), (8, _), (9, _)] [] a := hfr.pick [0, 1, 2, 6, 10, 11, 12, 7, 8, 9]
 refine wc_seq_region fun K5 hK5 => ?_
 refine wlm hfr rfl fun a hfr => ?_
 refine wl_nil (hK5 _ _ ?_)
 refine wc_cond_t hfr rfl ?_
 refine wc_of_dr ?_
 have hfr : Fr 34 [(0, _), (1, _), (2, _), (6, _), (10, _), (11, _), (12, _), (7, _), (8, _), (9, _), (22, _)] [] a := hfr.pick [0, 1, 2, 6, 10, 11, 12, 7, 8, 9, 22]
 refine wc_phases' 9 [[], [], [1], [], [3], [4], [5], [2, 6], [0, 7]] (fun i => match i with | 0 => pv (iv since) | 1 => pv (.pointer (some ⟨w3.heap.size, 0, none⟩)) | 2 => pv (.func (.func 76) #[] #[]) | 3 => pv (.pointer (some ⟨x.bm, 0, none⟩)) | 4 => pv (.pointer (some ⟨x.bm, 0, none⟩)) | 5 => pv (.pointer (some ⟨x.bm, 0, none⟩)) | 6 => pv (.agg #[iv rl.answer, iv rl.cooling, iv rl.settle, iv rl.reverse]) | 7 => pv (iv rl.cooling) | 8 => pv (iv (since + rl.cooling)) | _ => fun _ _ => False) hfr hst (by kernel_rfl) (by kernel_rfl) ?_ ?_
 ·intro i hi
  match i, hi with
  | 0, _ =>
   intro w hst
   exact OpV.g (v_move rfl)
  | 1, _ =>
   intro w hst
   exact OpV.g (v_fieldAddr (v := .pointer (some ⟨w3.heap.size, 0, none⟩)) rfl (by kernel_rfl))
  | 2, _ =>
   rintro _ _ ⟨rfl, rfl⟩
   intro w hst
   exact OpV.g (v_load_blk1 (hst.get (k := 0) rfl) rfl (Try.isAgg115 _) rfl)
  | 3, _ =>
   intro w hst
   exact OpV.g (v_move rfl)
  | 4, _ =>
   rintro _ _ ⟨rfl, rfl⟩
   intro w hst
   exact OpV.g (v_nilCheck rfl)
  | 5, _ =>
   rintro _ _ ⟨rfl, rfl⟩
   intro w hst
   exact OpV.g (v_fieldAddr (v := .pointer (some ⟨x.bm, 0, none⟩)) rfl (by kernel_rfl))
  | 6, _ =>
   rintro _ _ ⟨rfl, rfl⟩
   intro w hst
   exact OpV.g (v_load_blk (ds := [iv rl.answer, iv rl.cooling, iv rl.settle, iv rl.reverse]) (hst.keepb hm) rfl (Try.isAgg89 _) (Try.sizeOf89 _) rfl)
  | 7, _ =>
   rintro _ _ ⟨rfl, rfl⟩ _ _ ⟨rfl, rfl⟩
   intro w hst
   exact g_callvp rfl Try.call76 rfl (rule_cooling_ok _ _ _ _ _)
  | 8, _ =>
   rintro _ _ ⟨rfl, rfl⟩ _ _ ⟨rfl, rfl⟩
   intro w hst
   exact OpV.g (v_add rfl rfl ⟨by omega, by omega⟩)
 rintro _ _ ⟨rfl, rfl⟩ _ _ ⟨rfl, rfl⟩ _ _ ⟨rfl, rfl⟩ _ _ ⟨rfl, rfl⟩ _ _ ⟨rfl, rfl⟩ _ _ ⟨rfl, rfl⟩ _ _ ⟨rfl, rfl⟩ _ _ ⟨rfl, rfl⟩ _ _ ⟨rfl, rfl⟩ a w6 hfr hst
 have hfr : Fr 34 [(23, _), (24, _), (25, _), (26, _), (27, _), (28, _), (29, _), (30, _), (31, _), (0, _), (1, _), (2, _), (6, _), (10, _), (11, _), (12, _), (7, _), (8, _), (9, _), (22, _)] [] a := hfr
 have hst : St No w0 [_, _, _] w6 := hst
 refine wlv hfr (v_fieldAddr (v := .pointer (some ⟨w1.heap.size, 2, none⟩)) rfl (by kernel_rfl)) fun a hfr => ?_
 refine wl_sto 1 hfr hst [iv 3, iv since, iv (since + rl.cooling)] rfl (Try.sizeOf3 _) fun a w7 hfr hst => ?_
 refine wl_nil ?_
 refine hK3 _ _ ?_
 have hfr : Fr 34 [(0, _), (1, _), (2, _), (6, _), (10, _), (11, _), (12, _), (7, _), (8, _), (9, _), (22, _)] [] a := hfr.pick [0, 1, 2, 6, 10, 11, 12, 7, 8, 9, 22]
 refine wc_seq_region fun K6 hK6 => ?_
 refine wlv hfr (v_load_all (hst.get (k := 1) rfl) rfl (Try.isAgg54 _) (Try.sizeOf54 _)) fun a hfr => ?_
 refine wl_sto 2 hfr hst [iv 3, iv since, iv (since + rl.cooling)] rfl (Try.sizeOf54 _) fun a w8 hfr hst => ?_
 refine wl_nil (hK6 _ _ ?_)
 refine wc_ret ?_
 refine fin_ret hfr Try.results61 (resAre_cell rfl (res_all (hst.get (k := 2) rfl) (Try.isAgg54 _) (Try.sizeOf54 _)) resAre_nil) ?_
 exact ⟨by rfl, hst.ext⟩
theorem begins_4 (rl : Rul) (cl : Clm) (x : Mach) (v : Value) (since : Int) (w0 : World) (hm : (machBlk x rl cl v).ok w0) (hd : (mapE x.dm duesKV).ok w0) (hr : areValid rl = true) (h0 : 0 ≤ since) (h1 : since ≤ 30000000) :
  Ret Try.prog 61 #[.pointer (some ⟨x.bm, 0, none⟩), iv 4, iv since] w0 fun v w => v = (begins rl 4 since).val ∧ Ext No w0 w := by
 have hr := areValid_le hr
 refine ret_of Try.func61 rfl Try.ntmps61 (lb rfl) fun a hfr => ?_
 have hfr : Fr 34 [(0, _), (1, _), (2, _)] [] a := hfr
 have hst : St No w0 [] w0 := St.init w0
 refine wc_seq_region fun K1 hK1 => ?_
 refine wl_alloc hfr hst (Try.zeroValue54 _) [iv 0, iv 0, iv 0] rfl fun a w1 hfr hst => ?_
 refine wl_nil (hK1 _ _ ?_)
 refine wc_seq_region fun K2 hK2 => ?_
 refine wlm hfr rfl fun a hfr => wlm hfr rfl fun a hfr => ?_
 refine wlv hfr (v_build (v := .agg #[iv 4, iv since, iv (-1)]) rfl (by kernel_rfl)) fun a hfr => ?_
 refine wl_alloc hfr hst (Try.zeroValue54 _) [iv 0, iv 0, iv 0] rfl fun a w2 hfr hst => ?_
 refine wl_sto 0 hfr hst [iv 4, iv since, iv (-1)] rfl (Try.sizeOf54 _) fun a w3 hfr hst => ?_
 refine wl_nil (hK2 _ _ ?_)
 refine wc_seq_k fun K3 hK3 => ?_
 refine wc_seq_region fun K4 hK4 => ?_
 refine wlm hfr rfl fun a hfr => ?_
 refine wlv hfr (v_nilCheck rfl) fun a hfr => ?_
 refine wlv hfr (v_fieldAddr (v := .pointer (some ⟨x.bm, 10, none⟩)) rfl (by kernel_rfl)) fun a hfr => ?_
 refine wlv hfr (v_load_blk1 (hst.keepb hm) rfl (Try.isAgg90 _) rfl) fun a hfr => wlm hfr rfl fun a hfr => ?_
 refine wlv hfr (v_lookup rfl rfl (look_dues_4 (St_keepm hst hd))) fun a hfr => wlm hfr rfl fun a hfr => ?_
 refine wlv hfr (v_extract rfl rfl) fun a hfr => ?_
 refine wlv hfr (v_extract rfl rfl) fun a hfr => ?_
 refine wl_alloc hfr hst (Try.zeroValue117 _) [.nilFunc, iv 0] rfl fun a w4 hfr hst => ?_
 refine wl_sto 0 hfr hst [.func (.func 77) #[] #[], iv 5] rfl (Try.sizeOf117 _) fun a w5 hfr hst => ?_
 refine wla hfr rfl fun a hfr => ?_
 refine wl_nil (hK4 _ _ ?_)
 have hfr : Fr 34 [(0, _), (1, _), (2, _), (6, _), (10, _), (11, _), (12, _), (7, _), (8, _), (9, _)] [] a := hfr.pick [0, 1, 2, 6, 10, 11, 12, 7, 8, 9]
 refine wc_seq_region fun K5 hK5 => ?_
 refine wlm hfr rfl fun a hfr => ?_
 refine wl_nil (hK5 _ _ ?_)
 refine wc_cond_t hfr rfl ?_
 refine wc_of_dr ?_
 have hfr : Fr 34 [(0, _), (1, _), (2, _), (6, _), (10, _), (11, _), (12, _), (7, _), (8, _), (9, _), (22, _)] [] a := hfr.pick [0, 1, 2, 6, 10, 11, 12, 7, 8, 9, 22]
 refine wc_phases' 9 [[], [], [1], [], [3], [4], [5], [2, 6], [0, 7]] (fun i => match i with | 0 => pv (iv since) | 1 => pv (.pointer (some ⟨w3.heap.size, 0, none⟩)) | 2 => pv (.func (.func 77) #[] #[]) | 3 => pv (.pointer (some ⟨x.bm, 0, none⟩)) | 4 => pv (.pointer (some ⟨x.bm, 0, none⟩)) | 5 => pv (.pointer (some ⟨x.bm, 0, none⟩)) | 6 => pv (.agg #[iv rl.answer, iv rl.cooling, iv rl.settle, iv rl.reverse]) | 7 => pv (iv rl.reverse) | 8 => pv (iv (since + rl.reverse)) | _ => fun _ _ => False) hfr hst (by kernel_rfl) (by kernel_rfl) ?_ ?_
 ·intro i hi
  match i, hi with
  | 0, _ =>
   intro w hst
   exact OpV.g (v_move rfl)
  | 1, _ =>
   intro w hst
   exact OpV.g (v_fieldAddr (v := .pointer (some ⟨w3.heap.size, 0, none⟩)) rfl (by kernel_rfl))
  | 2, _ =>
   rintro _ _ ⟨rfl, rfl⟩
   intro w hst
   exact OpV.g (v_load_blk1 (hst.get (k := 0) rfl) rfl (Try.isAgg115 _) rfl)
  | 3, _ =>
   intro w hst
   exact OpV.g (v_move rfl)
  | 4, _ =>
   rintro _ _ ⟨rfl, rfl⟩
   intro w hst
   exact OpV.g (v_nilCheck rfl)
  | 5, _ =>
   rintro _ _ ⟨rfl, rfl⟩
   intro w hst
   exact OpV.g (v_fieldAddr (v := .pointer (some ⟨x.bm, 0, none⟩)) rfl (by kernel_rfl))
  | 6, _ =>
   rintro _ _ ⟨rfl, rfl⟩
   intro w hst
   exact OpV.g (v_load_blk (ds := [iv rl.answer, iv rl.cooling, iv rl.settle, iv rl.reverse]) (hst.keepb hm) rfl (Try.isAgg89 _) (Try.sizeOf89 _) rfl)
  | 7, _ =>
   rintro _ _ ⟨rfl, rfl⟩ _ _ ⟨rfl, rfl⟩
   intro w hst
   exact g_callvp rfl Try.call77 rfl (rule_reverse_ok _ _ _ _ _)
  | 8, _ =>
   rintro _ _ ⟨rfl, rfl⟩ _ _ ⟨rfl, rfl⟩
   intro w hst
   exact OpV.g (v_add rfl rfl ⟨by omega, by omega⟩)
 rintro _ _ ⟨rfl, rfl⟩ _ _ ⟨rfl, rfl⟩ _ _ ⟨rfl, rfl⟩ _ _ ⟨rfl, rfl⟩ _ _ ⟨rfl, rfl⟩ _ _ ⟨rfl, rfl⟩ _ _ ⟨rfl, rfl⟩ _ _ ⟨rfl, rfl⟩ _ _ ⟨rfl, rfl⟩ a w6 hfr hst
 have hfr : Fr 34 [(23, _), (24, _), (25, _), (26, _), (27, _), (28, _), (29, _), (30, _), (31, _), (0, _), (1, _), (2, _), (6, _), (10, _), (11, _), (12, _), (7, _), (8, _), (9, _), (22, _)] [] a := hfr
 have hst : St No w0 [_, _, _] w6 := hst
 refine wlv hfr (v_fieldAddr (v := .pointer (some ⟨w1.heap.size, 2, none⟩)) rfl (by kernel_rfl)) fun a hfr => ?_
 refine wl_sto 1 hfr hst [iv 4, iv since, iv (since + rl.reverse)] rfl (Try.sizeOf3 _) fun a w7 hfr hst => ?_
 refine wl_nil ?_
 refine hK3 _ _ ?_
 have hfr : Fr 34 [(0, _), (1, _), (2, _), (6, _), (10, _), (11, _), (12, _), (7, _), (8, _), (9, _), (22, _)] [] a := hfr.pick [0, 1, 2, 6, 10, 11, 12, 7, 8, 9, 22]
 refine wc_seq_region fun K6 hK6 => ?_
 refine wlv hfr (v_load_all (hst.get (k := 1) rfl) rfl (Try.isAgg54 _) (Try.sizeOf54 _)) fun a hfr => ?_
 refine wl_sto 2 hfr hst [iv 4, iv since, iv (since + rl.reverse)] rfl (Try.sizeOf54 _) fun a w8 hfr hst => ?_
 refine wl_nil (hK6 _ _ ?_)
 refine wc_ret ?_
 refine fin_ret hfr Try.results61 (resAre_cell rfl (res_all (hst.get (k := 2) rfl) (Try.isAgg54 _) (Try.sizeOf54 _)) resAre_nil) ?_
 exact ⟨by rfl, hst.ext⟩
theorem begins_no (s : Int) (hn : dueSec ⟨0, 0, 0, 0⟩ s = none) (rl : Rul) (cl : Clm) (x : Mach) (v : Value) (since : Int) (w0 : World) (hm : (machBlk x rl cl v).ok w0) (hd : (mapE x.dm duesKV).ok w0) (hr : areValid rl = true) (h0 : 0 ≤ since) (h1 : since ≤ 30000000) :
  Ret Try.prog 61 #[.pointer (some ⟨x.bm, 0, none⟩), iv s, iv since] w0 fun v w => v = .agg #[iv s, iv since, iv (-1)] ∧ Ext No w0 w := by
 refine ret_of Try.func61 rfl Try.ntmps61 (lb rfl) fun a hfr => ?_
 have hfr : Fr 34 [(0, _), (1, _), (2, _)] [] a := hfr
 have hst : St No w0 [] w0 := St.init w0
 refine wc_seq_region fun K1 hK1 => ?_
 refine wl_alloc hfr hst (Try.zeroValue54 _) [iv 0, iv 0, iv 0] rfl fun a w1 hfr hst => ?_
 refine wl_nil (hK1 _ _ ?_)
 refine wc_seq_region fun K2 hK2 => ?_
 refine wlm hfr rfl fun a hfr => wlm hfr rfl fun a hfr => ?_
 refine wlv hfr (v_build (v := .agg #[iv s, iv since, iv (-1)]) rfl (by kernel_rfl)) fun a hfr => ?_
 refine wl_alloc hfr hst (Try.zeroValue54 _) [iv 0, iv 0, iv 0] rfl fun a w2 hfr hst => ?_
 refine wl_sto 0 hfr hst [iv s, iv since, iv (-1)] rfl (Try.sizeOf54 _) fun a w3 hfr hst => ?_
 refine wl_nil (hK2 _ _ ?_)
 refine wc_seq_k fun K3 hK3 => ?_
 refine wc_seq_region fun K4 hK4 => ?_
 refine wlm hfr rfl fun a hfr => ?_
 refine wlv hfr (v_nilCheck rfl) fun a hfr => ?_
 refine wlv hfr (v_fieldAddr (v := .pointer (some ⟨x.bm, 10, none⟩)) rfl (by kernel_rfl)) fun a hfr => ?_
 refine wlv hfr (v_load_blk1 (hst.keepb hm) rfl (Try.isAgg90 _) rfl) fun a hfr => wlm hfr rfl fun a hfr => ?_
 refine wlv hfr (v_lookup rfl rfl (look_dues_no (St_keepm hst hd) hn)) fun a hfr => wlm hfr rfl fun a hfr => ?_
 refine wlv hfr (v_extract rfl rfl) fun a hfr => ?_
 refine wlv hfr (v_extract rfl rfl) fun a hfr => ?_
 refine wl_alloc hfr hst (Try.zeroValue117 _) [.nilFunc, iv 0] rfl fun a w4 hfr hst => ?_
 refine wl_sto 0 hfr hst [.nilFunc, iv 0] rfl (Try.sizeOf117 _) fun a w5 hfr hst => ?_
 refine wla hfr rfl fun a hfr => ?_
 refine wl_nil (hK4 _ _ ?_)
 have hfr : Fr 34 [(0, _), (1, _), (2, _), (6, _), (10, _), (11, _), (12, _), (7, _), (8, _), (9, _)] [] a := hfr.pick [0, 1, 2, 6, 10, 11, 12, 7, 8, 9]
 refine wc_seq_region fun K5 hK5 => ?_
 refine wlm hfr rfl fun a hfr => ?_
 refine wl_nil (hK5 _ _ ?_)
 refine wc_cond_f hfr rfl ?_
 refine wc_skip ?_
 refine hK3 _ _ ?_
 refine wc_seq_region fun K6 hK6 => ?_
 refine wlv hfr (v_load_all (hst.get (k := 1) rfl) rfl (Try.isAgg54 _) (Try.sizeOf54 _)) fun a hfr => ?_
 refine wl_sto 2 hfr hst [iv s, iv since, iv (-1)] rfl (Try.sizeOf54 _) fun a w6 hfr hst => ?_
 refine wl_nil (hK6 _ _ ?_)
 refine wc_ret ?_
 refine fin_ret hfr Try.results61 (resAre_cell rfl (res_all (hst.get (k := 2) rfl) (Try.isAgg54 _) (Try.sizeOf54 _)) resAre_nil) ?_
 exact ⟨by rfl, hst.ext⟩
theorem begins_ok (s : Int) (rl : Rul) (cl : Clm) (x : Mach) (v : Value) (since : Int) (w0 : World) (hm : (machBlk x rl cl v).ok w0) (hd : (mapE x.dm duesKV).ok w0) (hr : areValid rl = true) (h0 : 0 ≤ since) (h1 : since ≤ 30000000) : Ret Try.prog 61 #[.pointer (some ⟨x.bm, 0, none⟩), iv s, iv since] w0 fun v w => v = (begins rl s since).val ∧ Ext No w0 w := by
 by_cases h : s = 1
 ·subst h; exact begins_1 rl cl x v since w0 hm hd hr h0 h1
 by_cases h : s = 2
 ·subst h; exact begins_2 rl cl x v since w0 hm hd hr h0 h1
 by_cases h : s = 3
 ·subst h; exact begins_3 rl cl x v since w0 hm hd hr h0 h1
 by_cases h : s = 4
 ·subst h; exact begins_4 rl cl x v since w0 hm hd hr h0 h1
 have hv : (begins rl s since).val = .agg #[iv s, iv since, iv (-1)] := by simp [begins, dueSec, Stt.val, *]
 rw [hv]
 exact begins_no s (by simp [dueSec, *]) rl cl x v since w0 hm hd hr h0 h1
theorem after_ok (s : Int) (ev : Evt) (rl : Rul) (cl : Clm) (x : Mach) (v : Value) (w0 : World) (hm : (machBlk x rl cl v).ok w0) (he : (mapE x.em effAll).ok w0) :
  Ret Try.prog 63 #[.pointer (some ⟨x.bm, 0, none⟩), iv s, .agg #[iv ev.kind, iv ev.at_, iv ev.reason]] w0 fun v w => v = .tuple #[iv (after cl.backed s ev).1, .bool (after cl.backed s ev).2] ∧ Ext No w0 w := by
 refine ret_of Try.func63 rfl Try.ntmps63 (lb rfl) fun a hfr => ?_
 have hfr : Fr 39 [(0, _), (1, _), (2, _)] [] a := hfr
 have hst : St No w0 [] w0 := St.init w0
 refine wc_seq_region fun K1 hK1 => ?_
 refine wl_box hfr hst rfl [iv ev.kind, iv ev.at_, iv ev.reason] rfl fun a w1 hfr hst => ?_
 refine wla hfr rfl fun a hfr => wla hfr rfl fun a hfr => ?_
 refine wl_nil (hK1 _ _ ?_)
 refine wc_seq_k fun K2 hK2 => ?_
 refine wc_of_dr ?_
 have hfr : Fr 39 [(0, _), (1, _), (2, _), (5, _), (6, _), (7, _)] [] a := hfr.pick [0, 1, 2, 5, 6, 7]
 refine wc_phases' 13 [[], [0], [1], [2], [], [4], [], [5, 6], [3, 7], [8], [9], [9], [10]] (fun i => match i with | 0 => pv (.pointer (some ⟨x.bm, 0, none⟩)) | 1 => pv (.pointer (some ⟨x.bm, 0, none⟩)) | 2 => pv (.pointer (some ⟨x.bm, 11, none⟩)) | 3 => pv (.map (some x.em)) | 4 => pv (.pointer (some ⟨w0.heap.size, 0, none⟩)) | 5 => pv (iv ev.kind) | 6 => pv (iv s) | 7 => pv (.agg #[iv ev.kind, iv s]) | 8 => pv (.tuple #[iv ((effect ev.kind s).getD 0), .bool ((effect ev.kind s).isSome)]) | 9 => pv (.tuple #[iv ((effect ev.kind s).getD 0), .bool ((effect ev.kind s).isSome)]) | 10 => pv (iv ((effect ev.kind s).getD 0)) | 11 => pv (.bool ((effect ev.kind s).isSome)) | 12 => pv (iv ((effect ev.kind s).getD 0)) | _ => fun _ _ => False) hfr hst (by kernel_rfl) (by kernel_rfl) ?_ ?_
 ·intro i hi
  match i, hi with
  | 0, _ =>
   intro w hst
   exact OpV.g (v_move rfl)
  | 1, _ =>
   rintro _ _ ⟨rfl, rfl⟩
   intro w hst
   exact OpV.g (v_nilCheck rfl)
  | 2, _ =>
   rintro _ _ ⟨rfl, rfl⟩
   intro w hst
   exact OpV.g (v_fieldAddr (v := .pointer (some ⟨x.bm, 11, none⟩)) rfl (by kernel_rfl))
  | 3, _ =>
   rintro _ _ ⟨rfl, rfl⟩
   intro w hst
   exact OpV.g (v_load_blk1 (hst.keepb hm) rfl (Try.isAgg91 _) rfl)
  | 4, _ =>
   intro w hst
   exact OpV.g (v_fieldAddr (v := .pointer (some ⟨w0.heap.size, 0, none⟩)) rfl (by kernel_rfl))
  | 5, _ =>
   rintro _ _ ⟨rfl, rfl⟩
   intro w hst
   exact OpV.g (v_load_blk1 (hst.get (k := 0) rfl) rfl (Try.isAgg3 _) rfl)
  | 6, _ =>
   intro w hst
   exact OpV.g (v_move rfl)
  | 7, _ =>
   rintro _ _ ⟨rfl, rfl⟩ _ _ ⟨rfl, rfl⟩
   intro w hst
   exact OpV.g (v_build (v := .agg #[iv ev.kind, iv s]) rfl (by kernel_rfl))
  | 8, _ =>
   rintro _ _ ⟨rfl, rfl⟩ _ _ ⟨rfl, rfl⟩
   intro w hst
   exact OpV.g (v_lookup rfl rfl (look_eff (St_keepm hst he)))
  | 9, _ =>
   rintro _ _ ⟨rfl, rfl⟩
   intro w hst
   exact OpV.g (v_move rfl)
  | 10, _ =>
   rintro _ _ ⟨rfl, rfl⟩
   intro w hst
   exact OpV.g (v_extract rfl rfl)
  | 11, _ =>
   rintro _ _ ⟨rfl, rfl⟩
   intro w hst
   exact OpV.g (v_extract rfl rfl)
  | 12, _ =>
   rintro _ _ ⟨rfl, rfl⟩
   intro w hst
   exact OpV.g (v_assign rfl)
  | i + 13, h => exact absurd h (by omega)
 rintro _ _ ⟨rfl, rfl⟩ _ _ ⟨rfl, rfl⟩ _ _ ⟨rfl, rfl⟩ _ _ ⟨rfl, rfl⟩ _ _ ⟨rfl, rfl⟩ _ _ ⟨rfl, rfl⟩ _ _ ⟨rfl, rfl⟩ _ _ ⟨rfl, rfl⟩ _ _ ⟨rfl, rfl⟩ _ _ ⟨rfl, rfl⟩ _ _ ⟨rfl, rfl⟩ _ _ ⟨rfl, rfl⟩ _ _ ⟨rfl, rfl⟩ a w2 hfr hst
 have hfr : Fr 39 [(11, _), (12, _), (13, _), (14, _), (15, _), (16, _), (17, _), (18, _), (19, _), (10, _), (20, _), (21, _), (8, _), (0, _), (1, _), (2, _), (5, _), (6, _), (7, _)] [] a := hfr
 have hst : St No w0 [_] w2 := hst
 refine wla hfr rfl fun a hfr => ?_
 refine wl_nil ?_
 refine hK2 _ _ ?_
 have hfr : Fr 39 [(0, _), (1, _), (2, _), (5, _), (6, _), (7, _), (8, _), (9, _)] [] a := hfr.pick [0, 1, 2, 5, 6, 7, 8, 9]
 refine wc_seq_k fun K3 hK3 => ?_
 refine wc_seq_region fun K4 hK4 => ?_
 refine wlv hfr (v_fieldAddr (v := .pointer (some ⟨w0.heap.size, 2, none⟩)) rfl (by kernel_rfl)) fun a hfr => ?_
 refine wlv hfr (v_load_blk1 (hst.get (k := 0) rfl) rfl (Try.isAgg3 _) rfl) fun a hfr => ?_
 refine wlv hfr (v_eq rfl rfl) fun a hfr => ?_
 refine wl_nil (hK4 _ _ ?_)
 refine wc_cond_d hfr rfl (fun hc1 => ?_) (fun hc1 => ?_)
 ·rw [decide_eq_true hc1] at hfr
  refine wc_seq_k fun K5 hK5 => ?_
  refine wc_seq_region fun K6 hK6 => ?_
  refine wlv hfr (v_fieldAddr (v := .pointer (some ⟨w0.heap.size, 0, none⟩)) rfl (by kernel_rfl)) fun a hfr => ?_
  refine wlv hfr (v_load_blk1 (hst.get (k := 0) rfl) rfl (Try.isAgg3 _) rfl) fun a hfr => ?_
  refine wlv hfr (v_eq rfl rfl) fun a hfr => ?_
  refine wl_nil (hK6 _ _ ?_)
  refine wc_cond_d hfr rfl (fun hc2 => ?_) (fun hc2 => ?_)
  ·rw [decide_eq_true hc2] at hfr
   refine wc_region ?_
   refine wla hfr rfl fun a hfr => ?_
   refine wl_nil ?_
   refine hK5 _ _ ?_
   refine wc_region ?_
   refine wlm hfr rfl fun a hfr => wlm hfr rfl fun a hfr => ?_
   rcases Bool.eq_false_or_eq_true ((effect ev.kind s).isSome) with hb3 | hb3
   ·rw [hb3] at hfr
    refine wly hfr (v_move rfl) fun a hfr => wly hfr (v_nilCheck rfl) fun a hfr => wly hfr (v_fieldAddr (v := .pointer (some ⟨x.bm, 4, none⟩)) rfl (by kernel_rfl)) fun a hfr => wly hfr (v_fieldAddr (v := .pointer (some ⟨x.bm, 9, none⟩)) rfl (by kernel_rfl)) fun a hfr => wly hfr (v_load_blk1 (hst.keepb hm) rfl (Try.isAgg4 _) rfl) fun a hfr => wly hfr (v_not rfl) fun a hfr => ?_
    refine wlv hfr (v_pick_t rfl rfl) fun a hfr => wla hfr rfl fun a hfr => ?_
    refine wl_nil ?_
    refine hK3 _ _ ?_
    have hfr : Fr 39 [(0, _), (1, _), (2, _), (5, _), (6, _), (7, _), (22, _), (23, _), (24, _), (25, _), (26, _), (27, _), (8, _), (9, _)] [] a := hfr.pick [0, 1, 2, 5, 6, 7, 22, 23, 24, 25, 26, 27, 8, 9]
    refine wc_seq_region fun K7 hK7 => ?_
    refine wlm hfr rfl fun a hfr => wlm hfr rfl fun a hfr => wla hfr rfl fun a hfr => wla hfr rfl fun a hfr => ?_
    refine wl_nil (hK7 _ _ ?_)
    refine wc_ret ?_
    refine fin_ret hfr Try.results63 (resAre_tmp rfl (resAre_tmp rfl resAre_nil)) ?_
    exact ⟨by simp_all [retv, after], hst.ext⟩
   rw [hb3] at hfr
   refine wln hfr fun a hfr => ?_
   refine wln hfr fun a hfr => ?_
   refine wln hfr fun a hfr => ?_
   refine wln hfr fun a hfr => ?_
   refine wln hfr fun a hfr => ?_
   refine wln hfr fun a hfr => ?_
   refine wlv hfr (v_pick_f rfl rfl) fun a hfr => wla hfr rfl fun a hfr => ?_
   refine wl_nil ?_
   refine hK3 _ _ ?_
   have hfr : Fr 39 [(0, _), (1, _), (2, _), (5, _), (6, _), (7, _), (22, _), (23, _), (24, _), (25, _), (26, _), (27, _), (8, _), (9, _)] [] a := hfr.pick [0, 1, 2, 5, 6, 7, 22, 23, 24, 25, 26, 27, 8, 9]
   refine wc_seq_region fun K8 hK8 => ?_
   refine wlm hfr rfl fun a hfr => wlm hfr rfl fun a hfr => wla hfr rfl fun a hfr => wla hfr rfl fun a hfr => ?_
   refine wl_nil (hK8 _ _ ?_)
   refine wc_ret ?_
   refine fin_ret hfr Try.results63 (resAre_tmp rfl (resAre_tmp rfl resAre_nil)) ?_
   exact ⟨by simp_all [retv, after], hst.ext⟩
  rw [decide_eq_false hc2] at hfr
  refine wc_skip ?_
  refine hK5 _ _ ?_
  refine wc_region ?_
  refine wlm hfr rfl fun a hfr => wlm hfr rfl fun a hfr => ?_
  rcases Bool.eq_false_or_eq_true ((effect ev.kind s).isSome) with hb4 | hb4
  ·rw [hb4] at hfr
   refine wly hfr (v_move rfl) fun a hfr => wly hfr (v_nilCheck rfl) fun a hfr => wly hfr (v_fieldAddr (v := .pointer (some ⟨x.bm, 4, none⟩)) rfl (by kernel_rfl)) fun a hfr => wly hfr (v_fieldAddr (v := .pointer (some ⟨x.bm, 9, none⟩)) rfl (by kernel_rfl)) fun a hfr => wly hfr (v_load_blk1 (hst.keepb hm) rfl (Try.isAgg4 _) rfl) fun a hfr => wly hfr (v_not rfl) fun a hfr => ?_
   refine wlv hfr (v_pick_t rfl rfl) fun a hfr => wla hfr rfl fun a hfr => ?_
   refine wl_nil ?_
   refine hK3 _ _ ?_
   have hfr : Fr 39 [(0, _), (1, _), (2, _), (5, _), (6, _), (7, _), (8, _), (22, _), (23, _), (24, _), (25, _), (26, _), (27, _), (9, _)] [] a := hfr.pick [0, 1, 2, 5, 6, 7, 8, 22, 23, 24, 25, 26, 27, 9]
   refine wc_seq_region fun K9 hK9 => ?_
   refine wlm hfr rfl fun a hfr => wlm hfr rfl fun a hfr => wla hfr rfl fun a hfr => wla hfr rfl fun a hfr => ?_
   refine wl_nil (hK9 _ _ ?_)
   refine wc_ret ?_
   refine fin_ret hfr Try.results63 (resAre_tmp rfl (resAre_tmp rfl resAre_nil)) ?_
   exact ⟨by simp_all [retv, after], hst.ext⟩
  rw [hb4] at hfr
  refine wln hfr fun a hfr => ?_
  refine wln hfr fun a hfr => ?_
  refine wln hfr fun a hfr => ?_
  refine wln hfr fun a hfr => ?_
  refine wln hfr fun a hfr => ?_
  refine wln hfr fun a hfr => ?_
  refine wlv hfr (v_pick_f rfl rfl) fun a hfr => wla hfr rfl fun a hfr => ?_
  refine wl_nil ?_
  refine hK3 _ _ ?_
  have hfr : Fr 39 [(0, _), (1, _), (2, _), (5, _), (6, _), (7, _), (8, _), (22, _), (23, _), (24, _), (25, _), (26, _), (27, _), (9, _)] [] a := hfr.pick [0, 1, 2, 5, 6, 7, 8, 22, 23, 24, 25, 26, 27, 9]
  refine wc_seq_region fun K10 hK10 => ?_
  refine wlm hfr rfl fun a hfr => wlm hfr rfl fun a hfr => wla hfr rfl fun a hfr => wla hfr rfl fun a hfr => ?_
  refine wl_nil (hK10 _ _ ?_)
  refine wc_ret ?_
  refine fin_ret hfr Try.results63 (resAre_tmp rfl (resAre_tmp rfl resAre_nil)) ?_
  exact ⟨by simp_all [retv, after], hst.ext⟩
 rw [decide_eq_false hc1] at hfr
 refine wc_skip ?_
 refine hK3 _ _ ?_
 refine wc_seq_region fun K11 hK11 => ?_
 refine wlm hfr rfl fun a hfr => wlm hfr rfl fun a hfr => wla hfr rfl fun a hfr => wla hfr rfl fun a hfr => ?_
 refine wl_nil (hK11 _ _ ?_)
 refine wc_ret ?_
 refine fin_ret hfr Try.results63 (resAre_tmp rfl (resAre_tmp rfl resAre_nil)) ?_
 exact ⟨by simp_all [retv, after], hst.ext⟩
end Go.Proofs.Ytnfnkohkcmkddaa
namespace Go.Proofs.Ytnfnkohkcmkddaa
open Go.RowKit Go.PW
set_option linter.unusedVariables false
set_option linter.unusedSimpArgs false
set_option maxRecDepth 4000
def encS (s : Stt) : List Value := [s.val]
def NxS (pre : List Stt) (x : Stt) : Prop := pre.length < 200
theorem alone_ok {M : Nat → Prop} {w0 : World} {er : Ent} (rl : Rul) (cl : Clm) (x : Mach) (vd : Value) (lp bn by_ bp : Nat) (J Jx : List Stt → Ent → Prop) (hY : Rounds Try.prog M w0 lp encS NxS J Jx) (u : Int) (now0 : Stt) (pre : List Stt) (e0 : Ent) (ws : World)
  (hr : areValid rl = true) (hso : Sound rl now0) (hJ : J pre e0) (hpl : pre.length + 4 < 200) (hst : St M w0 [e0, blk bn [iv now0.state, iv now0.since, iv now0.next] 54, blk by_ [.func (.yield lp) #[] #[]] 113, blk bp [.pointer (some ⟨x.bm, 0, none⟩)] 83, blk x.bm [iv rl.answer, iv rl.cooling, iv rl.settle, iv rl.reverse, iv cl.number, iv cl.frm, iv cl.to, iv cl.holder, iv cl.asked, .bool cl.backed, .map (some x.dm), .map (some x.em), vd] 93, mapE x.dm duesKV, er] ws) :
  Ret Try.prog 62 #[iv u, .pointer (some ⟨bn, 0, none⟩), .pointer (some ⟨bp, 0, none⟩), .pointer (some ⟨by_, 0, none⟩)] ws fun v w => ∃ y e1, v = .bool y ∧ (y = true → J (pre ++ alone rl u now0) e1 ∧ St M w0 [e1, blk bn [iv ((lastOf now0 (alone rl u now0)).state), iv ((lastOf now0 (alone rl u now0)).since), iv ((lastOf now0 (alone rl u now0)).next)] 54, blk by_ [.func (.yield lp) #[] #[]] 113, blk bp [.pointer (some ⟨x.bm, 0, none⟩)] 83, blk x.bm [iv rl.answer, iv rl.cooling, iv rl.settle, iv rl.reverse, iv cl.number, iv cl.frm, iv cl.to, iv cl.holder, iv cl.asked, .bool cl.backed, .map (some x.dm), .map (some x.em), vd] 93, mapE x.dm duesKV, er] w) ∧ (y = false → ∃ (p1 p2 : List Stt) (now1 : Stt), alone rl u now0 = p1 ++ p2 ∧ Jx (pre ++ p1) e1 ∧ St M w0 [e1, blk bn [iv now1.state, iv now1.since, iv now1.next] 54, blk by_ [.func (.yield lp) #[] #[]] 113, blk bp [.pointer (some ⟨x.bm, 0, none⟩)] 83, blk x.bm [iv rl.answer, iv rl.cooling, iv rl.settle, iv rl.reverse, iv cl.number, iv cl.frm, iv cl.to, iv cl.holder, iv cl.asked, .bool cl.backed, .map (some x.dm), .map (some x.em), vd] 93, mapE x.dm duesKV, er] w) := by
 refine ret_of Try.func62 rfl Try.ntmps62 (lb rfl) fun a hfr => ?_
 have hfr : Fr 31 [(0, _), (1, _), (2, _), (3, _)] [] a := hfr
 skip
 refine wc_seq_region fun K1 hK1 => ?_
 refine wla hfr rfl fun a hfr => ?_
 refine wl_nil (hK1 _ _ ?_)
 refine wc_seq_k fun K2 hK2 => ?_
 refine wc_block ?_
 refine wc_loop (fun m a w => ∃ (n : Nat) (nw : Stt) (e : Ent) (dn : List Stt), m = 0 + n ∧ (alone rl u now0 = dn ++ aloneF n rl u nw) ∧ (lastOf now0 dn = nw) ∧ (Sound rl nw) ∧ (rank nw.state ≤ n) ∧ (dn.length + n ≤ 4) ∧ (J (pre ++ dn) e) ∧ Fr 31 [(0, iv u), (1, .pointer (some ⟨bn, 0, none⟩)), (2, .pointer (some ⟨bp, 0, none⟩)), (3, .pointer (some ⟨by_, 0, none⟩))] [] a ∧ St M w0 [e, blk bn [iv nw.state, iv nw.since, iv nw.next] 54, blk by_ [.func (.yield lp) #[] #[]] 113, blk bp [.pointer (some ⟨x.bm, 0, none⟩)] 83, blk x.bm [iv rl.answer, iv rl.cooling, iv rl.settle, iv rl.reverse, iv cl.number, iv cl.frm, iv cl.to, iv cl.holder, iv cl.asked, .bool cl.backed, .map (some x.dm), .map (some x.em), vd] 93, mapE x.dm duesKV, er] w) _ ⟨4, now0, e0, [], rfl, rfl, rfl, hso, (Nat.le_trans (rank_le _) (by decide)), (by simp), (by simpa using hJ), hfr.pick [0, 1, 2, 3], hst⟩ ?_
 rintro _ a w1 ⟨n, nw, e, dn, rfl, hal, hla, hso, hrk, hln, hJ, hfr, hst⟩
 refine wc_seq_k fun K3 hK3 => ?_
 refine wc_seq_region fun K4 hK4 => ?_
 refine wlv hfr (v_fieldAddr (v := .pointer (some ⟨bn, 2, none⟩)) rfl (by kernel_rfl)) fun a hfr => ?_
 refine wlv hfr (v_load_blk1 (hst.get (k := 1) rfl) rfl (Try.isAgg3 _) rfl) fun a hfr => ?_
 refine wlv hfr (v_ge rfl rfl) fun a hfr => wlm hfr rfl fun a hfr => ?_
 rcases Decidable.em (0 ≤ nw.next) with hb1 | hb1
 ·rw [decide_eq_true hb1] at hfr
  have hstep := hso.step hr hb1
  obtain ⟨hs1, hs2, hs3, hs4, hs5, hs6⟩ := (hso.next hr).resolve_left (by omega)
  obtain ⟨n, rfl⟩ : ∃ n1, n = n1 + 1 := ⟨n - 1, by omega⟩
  refine wly hfr (v_fieldAddr (v := .pointer (some ⟨bn, 2, none⟩)) rfl (by kernel_rfl)) fun a hfr => wly hfr (v_load_blk1 (hst.get (k := 1) rfl) rfl (Try.isAgg3 _) rfl) fun a hfr => wly hfr (v_move rfl) fun a hfr => wly hfr (v_le rfl rfl) fun a hfr => ?_
  refine wlv hfr (v_pick_t rfl rfl) fun a hfr => ?_
  refine wl_nil (hK4 _ _ ?_)
  have hfr : Fr 31 [(0, _), (1, _), (2, _), (3, _), (14, _)] [] a := hfr.pick [0, 1, 2, 3, 14]
  refine wc_cond_d hfr rfl (fun hc2 => ?_) (fun hc2 => ?_)
  ·rw [decide_eq_true hc2] at hfr
   refine wc_skip ?_
   refine hK3 _ _ ?_
   refine wc_block ?_
   refine wc_seq_k fun K5 hK5 => ?_
   refine wc_of_dr ?_
   have hfr : Fr 31 [(0, _), (1, _), (2, _), (3, _), (14, _)] [] a := hfr.pick [0, 1, 2, 3, 14]
   refine wc_phases' 12 [[], [], [1], [2], [3], [], [5], [4, 6], [7], [], [9], [0, 8, 10]] (fun i => match i with | 0 => pv (.pointer (some ⟨x.bm, 0, none⟩)) | 1 => pv (.pointer (some ⟨x.bm, 0, none⟩)) | 2 => pv (.pointer (some ⟨x.bm, 0, none⟩)) | 3 => pv (.pointer (some ⟨x.bm, 10, none⟩)) | 4 => pv (.map (some x.dm)) | 5 => pv (.pointer (some ⟨bn, 0, none⟩)) | 6 => pv (iv nw.state) | 7 => pv (.agg #[dueFun nw.state, iv (dueNext nw.state)]) | 8 => pv (iv (dueNext nw.state)) | 9 => pv (.pointer (some ⟨bn, 2, none⟩)) | 10 => pv (iv nw.next) | 11 => pv (.agg #[iv ((begins rl (dueNext nw.state) nw.next).state), iv ((begins rl (dueNext nw.state) nw.next).since), iv ((begins rl (dueNext nw.state) nw.next).next)]) | _ => fun _ _ => False) hfr hst (by kernel_rfl) (by kernel_rfl) ?_ ?_
   ·intro i hi
    match i, hi with
    | 0, _ =>
     intro w hst
     exact OpV.g (v_load_blk1 (hst.get (k := 3) rfl) rfl (Try.isAgg83 _) rfl)
    | 1, _ =>
     intro w hst
     exact OpV.g (v_load_blk1 (hst.get (k := 3) rfl) rfl (Try.isAgg83 _) rfl)
    | 2, _ =>
     rintro _ _ ⟨rfl, rfl⟩
     intro w hst
     exact OpV.g (v_nilCheck rfl)
    | 3, _ =>
     rintro _ _ ⟨rfl, rfl⟩
     intro w hst
     exact OpV.g (v_fieldAddr (v := .pointer (some ⟨x.bm, 10, none⟩)) rfl (by kernel_rfl))
    | 4, _ =>
     rintro _ _ ⟨rfl, rfl⟩
     intro w hst
     exact OpV.g (v_load_blk1 (hst.get (k := 4) rfl) rfl (Try.isAgg90 _) rfl)
    | 5, _ =>
     intro w hst
     exact OpV.g (v_fieldAddr (v := .pointer (some ⟨bn, 0, none⟩)) rfl (by kernel_rfl))
    | 6, _ =>
     rintro _ _ ⟨rfl, rfl⟩
     intro w hst
     exact OpV.g (v_load_blk1 (hst.get (k := 1) rfl) rfl (Try.isAgg3 _) rfl)
    | 7, _ =>
     rintro _ _ ⟨rfl, rfl⟩ _ _ ⟨rfl, rfl⟩
     intro w hst
     exact OpV.g (v_lookup rfl rfl (look_dues_f (hst.get (k := 5) rfl) hs1))
    | 8, _ =>
     rintro _ _ ⟨rfl, rfl⟩
     intro w hst
     exact OpV.g (v_field (v := iv (dueNext nw.state)) rfl (by kernel_rfl))
    | 9, _ =>
     intro w hst
     exact OpV.g (v_fieldAddr (v := .pointer (some ⟨bn, 2, none⟩)) rfl (by kernel_rfl))
    | 10, _ =>
     rintro _ _ ⟨rfl, rfl⟩
     intro w hst
     exact OpV.g (v_load_blk1 (hst.get (k := 1) rfl) rfl (Try.isAgg3 _) rfl)
    | 11, _ =>
     rintro _ _ ⟨rfl, rfl⟩ _ _ ⟨rfl, rfl⟩ _ _ ⟨rfl, rfl⟩
     intro w hst
     exact g_callp Try.call61 rfl (begins_ok (dueNext nw.state) rl cl x vd nw.next _ (hst.get (k := 4) rfl) (hst.get (k := 5) rfl) hr (by omega) (by omega))
    | i + 12, h => exact absurd h (by omega)
   rintro _ _ ⟨rfl, rfl⟩ _ _ ⟨rfl, rfl⟩ _ _ ⟨rfl, rfl⟩ _ _ ⟨rfl, rfl⟩ _ _ ⟨rfl, rfl⟩ _ _ ⟨rfl, rfl⟩ _ _ ⟨rfl, rfl⟩ _ _ ⟨rfl, rfl⟩ _ _ ⟨rfl, rfl⟩ _ _ ⟨rfl, rfl⟩ _ _ ⟨rfl, rfl⟩ _ _ ⟨rfl, rfl⟩ a w2 hfr hst
   have hfr : Fr 31 [(15, _), (16, _), (17, _), (18, _), (19, _), (20, _), (21, _), (22, _), (23, _), (24, _), (25, _), (26, _), (0, _), (1, _), (2, _), (3, _), (14, _)] [] a := hfr
   have hst : St M w0 [_, _, _, _, _, _, _] w2 := hst
   refine wl_sto 1 hfr hst [iv ((begins rl (dueNext nw.state) nw.next).state), iv ((begins rl (dueNext nw.state) nw.next).since), iv ((begins rl (dueNext nw.state) nw.next).next)] rfl (Try.sizeOf54 _) fun a w3 hfr hst => ?_
   refine wl_nil ?_
   refine hK5 _ _ ?_
   have hfr : Fr 31 [(0, _), (1, _), (2, _), (3, _), (14, _)] [] a := hfr.pick [0, 1, 2, 3, 14]
   refine wc_seq_region fun K6 hK6 => ?_
   refine wlv hfr (v_load_blk1 (hst.get (k := 2) rfl) rfl (Try.isAgg113 _) rfl) fun a hfr => ?_
   refine wlv hfr (v_load_all (hst.get (k := 1) rfl) rfl (Try.isAgg54 _) (Try.sizeOf54 _)) fun a hfr => ?_
   refine wl_r (r_yield rfl rfl (hY.yield (pre := pre ++ dn) (x := begins rl (dueNext nw.state) nw.next) (by simp only [NxS, List.length_append]; omega) hJ (hst.only (i := 0) rfl))) rfl rfl hfr fun a v w4 hR hfr => ?_
   obtain ⟨y3, e4, rfl, hx, hok, hft, hJt, hJf⟩ := hR
   have hst := hst.exchange (k := 0) rfl hx hok hft
   have hst : St M w0 [e4, blk bn [iv ((begins rl (dueNext nw.state) nw.next).state), iv ((begins rl (dueNext nw.state) nw.next).since), iv ((begins rl (dueNext nw.state) nw.next).next)] 54, blk by_ [.func (.yield lp) #[] #[]] 113, blk bp [.pointer (some ⟨x.bm, 0, none⟩)] 83, blk x.bm [iv rl.answer, iv rl.cooling, iv rl.settle, iv rl.reverse, iv cl.number, iv cl.frm, iv cl.to, iv cl.holder, iv cl.asked, .bool cl.backed, .map (some x.dm), .map (some x.em), vd] 93, mapE x.dm duesKV, er] w4 := hst
   clear hx hok hft
   refine wlv hfr (v_not rfl) fun a hfr => ?_
   refine wl_nil (hK6 _ _ ?_)
   refine wc_cond hfr rfl (fun hc5 => ?_) (fun hc5 => ?_)
   ·rw [hc5] at hfr
    try simp only [qz] at hc5
    refine wc_seq_region fun K7 hK7 => ?_
    refine wla hfr rfl fun a hfr => ?_
    refine wl_nil (hK7 _ _ ?_)
    refine wc_ret ?_
    refine fin_ret hfr Try.results62 (resAre_tmp rfl resAre_nil) ?_
    refine ⟨false, _, rfl, fun h => (by cases h), fun _ => ⟨dn ++ [begins rl (dueNext nw.state) nw.next], aloneF n rl u (begins rl (dueNext nw.state) nw.next), _, ?_, ?_, hst⟩⟩
    ·rw [hal, aloneF_pos (by assumption) (by assumption)]; simp
    ·rw [← List.append_assoc]; exact hJf (by assumption)
   rw [hc5] at hfr
   try simp only [qz] at hc5
   have hJ := hJt hc5
   refine wc_skip ?_
   refine ⟨_, ?_, n, begins rl (dueNext nw.state) nw.next, e4, dn ++ [begins rl (dueNext nw.state) nw.next], rfl, (by rw [hal, aloneF_pos (by assumption) (by assumption)]; simp), (by rw [lastOf_append, lastOf_cons]; rfl), hstep.1, (by simp only [begins]; omega), (by simp; omega), (by rw [← List.append_assoc]; exact hJ), hfr.pick [0, 1, 2, 3], hst⟩
   omega
  rw [decide_eq_false hc2] at hfr
  refine wc_exit ?_
  refine hK2 _ _ ?_
  refine wc_seq_region fun K8 hK8 => ?_
  refine wla hfr rfl fun a hfr => ?_
  refine wl_nil (hK8 _ _ ?_)
  refine wc_ret ?_
  refine fin_ret hfr Try.results62 (resAre_tmp rfl resAre_nil) ?_
  rw [aloneF_neg (now := nw) (u := u) (r := rl) (by omega), List.append_nil] at hal
  exact ⟨true, _, rfl, fun _ => ⟨by rw [hal]; exact hJ, by rw [hal, hla]; exact hst⟩, fun h => by cases h⟩
 rw [decide_eq_false hb1] at hfr
 refine wln hfr fun a hfr => ?_
 refine wln hfr fun a hfr => ?_
 refine wln hfr fun a hfr => ?_
 refine wln hfr fun a hfr => ?_
 refine wlv hfr (v_pick_f rfl rfl) fun a hfr => ?_
 refine wl_nil (hK4 _ _ ?_)
 have hfr : Fr 31 [(0, _), (1, _), (2, _), (3, _), (14, _)] [] a := hfr.pick [0, 1, 2, 3, 14]
 refine wc_cond_f hfr rfl ?_
 refine wc_exit ?_
 refine hK2 _ _ ?_
 refine wc_seq_region fun K9 hK9 => ?_
 refine wla hfr rfl fun a hfr => ?_
 refine wl_nil (hK9 _ _ ?_)
 refine wc_ret ?_
 refine fin_ret hfr Try.results62 (resAre_tmp rfl resAre_nil) ?_
 rw [aloneF_neg (now := nw) (u := u) (r := rl) (by omega), List.append_nil] at hal
 exact ⟨true, _, rfl, fun _ => ⟨by rw [hal]; exact hJ, by rw [hal, hla]; exact hst⟩, fun h => by cases h⟩
end Go.Proofs.Ytnfnkohkcmkddaa
