import Derived.Test.YtdamipejlfipcaaSl
namespace Go.PW
open Go.RowKit
set_option linter.unusedVariables false
set_option linter.unusedSimpArgs false

/-- A map: what it holds, in whatever order. -/
def mapE (b : Nat) (kvs : List (Value × Value)) : Ent where
  foot k := k = b
  ok w := ∃ es clock, w.heap[b]? = some (.map es clock) ∧ (es.toList.map fun e => (e.key, e.val)).Perm kvs
  stable w w' h ho := by
    obtain ⟨es, clock, h1, h2⟩ := ho
    exact ⟨es, clock, (h b rfl).trans h1, h2⟩

theorem find_filter {α : Type} (p : α → Bool) (l : List α) : l.find? p = (l.filter p).head? := by
  exact (List.head?_filter ..).symm
theorem find_perm {α : Type} {p : α → Bool} {l l' : List α} (h : l.Perm l') (h1 : (l'.filter p).length ≤ 1) : l.find? p = l'.find? p := by
  rw [find_filter, find_filter]
  have hp := h.filter p
  match hf : l'.filter p, h1 with
  | [], _ => rw [hf] at hp; rw [List.perm_nil.1 hp]
  | [x], _ => rw [hf] at hp; rw [List.perm_singleton.1 hp]

section
variable {P : Program} {r : Option Nat} {w w' w0 : World} {M : Nat → Prop} {H : List Ent} {T Kt Et : TypeId} {b : Nat} {kvs : List (Value × Value)} {k v : Value} {L : List (Nat × Value)} {N : Nat} {df : List Deferred}

def isInt (k : IntKind) (n : Int) : Value → Bool
  | .int k' m => decide (k = k') && decide (n = m)
  | _ => false

theorem findNow_int {kd : IntKind} {s : Int} : ∀ (es : List MapEntry) (i : Nat), (∀ e ∈ es, ∃ n, e.key = .int kd n) → ∃ rr, Instr.findNow (.int kd) (.int kd s) es i = some rr ∧ rr.map (·.2) = (es.find? fun e => isInt kd s e.key).map (·.val) := by
  intro es
  induction es with
  | nil => intro i _; exact ⟨none, rfl, rfl⟩
  | cons e es ih =>
    intro i h
    obtain ⟨n, hn⟩ := h e (by simp)
    by_cases hs : s = n
    · exact ⟨some (i, e.val), by simp [Instr.findNow, Instr.sameNow, hn, hs], by simp [List.find?_cons, hn, isInt, hs]⟩
    · obtain ⟨rr, h1, h2⟩ := ih (i + 1) (fun e he => h e (by simp [he]))
      refine ⟨rr, ?_, ?_⟩
      · simp only [Instr.findNow, Instr.sameNow, hn]
        have : (s == n) = false := by simp [hs]
        simp [this, h1]
      · rw [h2, List.find?_cons]
        have : isInt kd s e.key = false := by simp [isInt, hn, hs]
        rw [this]

theorem findAsking_eq {q : Value → Bool} : ∀ (es : List MapEntry) (i : Nat), (∀ e ∈ es, (Op.equal Kt k e.key).run P w = .ok (q e.key) w) → ∃ rr, (Instr.findAsking Kt k es i).run P w = .ok rr w ∧ rr.map (·.2) = (es.find? fun e => q e.key).map (·.val) := by
  intro es
  induction es with
  | nil => intro i _; exact ⟨none, rfl, rfl⟩
  | cons e es ih =>
    intro i h
    have he := h e (by simp)
    by_cases hq : q e.key = true
    · exact ⟨some (i, e.val), by simp [Instr.findAsking, he, hq], by simp [List.find?_cons, hq]⟩
    · obtain ⟨rr, h1, h2⟩ := ih (i + 1) (fun e he => h e (by simp [he]))
      refine ⟨rr, by simp [Instr.findAsking, he, hq, h1], ?_⟩
      rw [h2, List.find?_cons]
      simp [hq]

def lookOk (x : Option Value) (z : Value) : Value := .tuple #[x.getD z, .bool x.isSome]

theorem perm_mem {es : Array MapEntry} (h : (es.toList.map fun e => (e.key, e.val)).Perm kvs) : ∀ e ∈ es.toList, (e.key, e.val) ∈ kvs := fun e he => h.mem_iff.1 (List.mem_map_of_mem he)
theorem perm_find {es : Array MapEntry} (h : (es.toList.map fun e => (e.key, e.val)).Perm kvs) {q : Value → Bool} (h1 : (kvs.filter fun x => q x.1).length ≤ 1) : (es.toList.find? fun e => q e.key).map (·.val) = (kvs.find? fun x => q x.1).map (·.2) := by
  rw [← find_perm h h1, List.find?_map, Option.map_map]
  rfl

/-- m[k], the keys integers. -/
theorem run_lookup_int {kd : IntKind} {s : Int} {z : Value} (hm : (mapE b kvs).ok w) (hT : P.underlying T = some (.map Kt Et)) (hK : P.underlying Kt = some (.int kd)) (hz : (zeroValue Et).run P w = .ok z w) (hk : ∀ x ∈ kvs, ∃ n, x.1 = .int kd n)
    (h1 : (kvs.filter fun x => isInt kd s x.1).length ≤ 1) (ok : Bool) :
    (Instr.lookup T (.map (some b)) (.int kd s) ok).run P w = .ok (if ok then lookOk ((kvs.find? fun x => isInt kd s x.1).map (·.2)) z else ((kvs.find? fun x => isInt kd s x.1).map (·.2)).getD z) w := by
  obtain ⟨es, clock, hb, hp⟩ := hm
  have hg : (getObj b).run P w = .ok (.map es clock) w := by simp [getObj, Sem.run, hb]
  obtain ⟨rr, hr1, hr2⟩ := findNow_int (kd := kd) (s := s) es.toList 0 (fun e he => hk _ (perm_mem hp e he))
  rw [perm_find hp h1] at hr2
  rw [← hr2]
  have hc : (Instr.checkKey es.isEmpty (9999 + 1) Kt (.int kd s)).run P w = .ok () w := by
    unfold Instr.checkKey
    rw [Sem.run_bind, run_underlying hK]; rfl
  rw [show 9999 + 1 = 10000 from rfl] at hc
  simp only [Instr.lookup, Sem.run_bind, run_underlying hT, Result.andThen_ok, hg, Sem.run_pure, hc, Instr.findKey, run_underlying hK, hr1]
  cases rr with
  | none => cases ok <;> simp [hz, lookOk]
  | some x => obtain ⟨i, v⟩ := x; cases ok <;> simp [lookOk]

/-- m[k], the keys not plain. -/
theorem run_lookup_ask {q : Value → Bool} {z : Value} (hm : (mapE b kvs).ok w) (hT : P.underlying T = some (.map Kt Et)) (hz : (zeroValue Et).run P w = .ok z w) (hne : kvs ≠ [])
    (hnow : ∀ (es : List MapEntry) (i : Nat), es ≠ [] → ∃ d, (underlying Kt).run P w = .ok d w ∧ Instr.findNow d k es i = none) (hck : ∀ b : Bool, (Instr.checkKey b 10000 Kt k).run P w = .ok () w)
    (heq : ∀ x ∈ kvs, (Op.equal Kt k x.1).run P w = .ok (q x.1) w) (h1 : (kvs.filter fun x => q x.1).length ≤ 1) (ok : Bool) :
    (Instr.lookup T (.map (some b)) k ok).run P w = .ok (if ok then lookOk ((kvs.find? fun x => q x.1).map (·.2)) z else ((kvs.find? fun x => q x.1).map (·.2)).getD z) w := by
  obtain ⟨es, clock, hb, hp⟩ := hm
  have hg : (getObj b).run P w = .ok (.map es clock) w := by simp [getObj, Sem.run, hb]
  obtain ⟨rr, hr1, hr2⟩ := findAsking_eq (P := P) (w := w) (Kt := Kt) (k := k) (q := q) es.toList 0 (fun e he => heq _ (perm_mem hp e he))
  rw [perm_find hp h1] at hr2
  rw [← hr2]
  have hes : es.toList ≠ [] := fun h => by
    rw [h] at hp; exact hne (List.nil_perm.1 hp)
  obtain ⟨d, hd1, hd2⟩ := hnow es.toList 0 hes
  simp only [Instr.lookup, Sem.run_bind, run_underlying hT, Result.andThen_ok, hg, Sem.run_pure, hck, Instr.findKey, hd1, hd2, hr1]
  cases rr with
  | none => cases ok <;> simp [hz, lookOk]
  | some x => obtain ⟨i, v⟩ := x; cases ok <;> simp [lookOk]

theorem v_lookup {x y : Operand} {dst : Option Tmp} {ty : TypeId} {pos : String} {af : Array Edge} {gd : Option (Nat × Bool)} {ok : Bool} {u : Value} (hx : ev L x = some u) (hy : ev L y = some k) (hr : (Instr.lookup T u k ok).run P w = .ok v w) :
    OpV P ⟨dst, .lookup T x y ok, ty, pos, af, gd⟩ L w v :=
  ⟨rfl, fun N df a h => by simp only [execOp, h.eval hx, h.eval hy, Sem.run_bind, hr, Result.andThen_ok]; rfl⟩

/-- A new key. -/
theorem run_update_new {es : Array MapEntry} {clock : Nat} (hb : w.heap[b]? = some (.map es clock)) (hT : P.underlying T = some (.map Kt Et)) (hck : (Instr.checkKey false 10000 Kt k).run P w = .ok () w) (hf : (Instr.findKey Kt k es.toList).run P w = .ok none w) :
    (Instr.mapUpdate T (.map (some b)) k v).run P w = .ok () (w.putObj b (.map (es.push { key := k, val := v, born := clock }) (clock + 1))) := by
  have hg : (getObj b).run P w = .ok (.map es clock) w := by simp [getObj, Sem.run, hb]
  simp only [Instr.mapUpdate, Sem.run_bind, run_underlying hT, Result.andThen_ok, hg, hck, hf]
  simp [setObj, Sem.run, hb, World.putObj]

/-- A struct of two integers. -/
def isAgg2 (x y : Int) : Value → Bool
  | .agg ⟨[.int .i64 m, .int .i64 n]⟩ => decide (x = m) && decide (y = n)
  | _ => false

/-- A key that is not there yet, the keys not plain. -/
theorem run_insert_ask {q : Value → Bool} (hm : (mapE b kvs).ok w) (hT : P.underlying T = some (.map Kt Et))
    (hnow : ∀ (es : List MapEntry) (i : Nat), es ≠ [] → ∃ d, (underlying Kt).run P w = .ok d w ∧ Instr.findNow d k es i = none) (hnow0 : ∃ d, (underlying Kt).run P w = .ok d w) (hck : ∀ b : Bool, (Instr.checkKey b 10000 Kt k).run P w = .ok () w)
    (heq : ∀ x ∈ kvs, (Op.equal Kt k x.1).run P w = .ok (q x.1) w) (h0 : kvs.find? (fun x => q x.1) = none) :
    ∃ o, (Instr.mapUpdate T (.map (some b)) k v).run P w = .ok () (w.putObj b o) ∧ (mapE b ((k, v) :: kvs)).ok (w.putObj b o) := by
  obtain ⟨es, clock, hb, hp⟩ := hm
  have hf : (Instr.findKey Kt k es.toList).run P w = .ok none w := by
    obtain ⟨rr, hr1, hr2⟩ := findAsking_eq (P := P) (w := w) (Kt := Kt) (k := k) (q := q) es.toList 0 (fun e he => heq _ (perm_mem hp e he))
    rw [perm_find hp (by rw [find_filter] at h0; rw [List.head?_eq_none_iff.1 h0]; simp), h0] at hr2
    have hrr : rr = none := by cases rr with | none => rfl | some x => simp at hr2
    subst hrr
    by_cases hes : es.toList = []
    · obtain ⟨d, hd⟩ := hnow0
      rw [hes]
      simp [Instr.findKey, hd, Instr.findNow]
    · obtain ⟨d, hd1, hd2⟩ := hnow es.toList 0 hes
      simp [Instr.findKey, hd1, hd2, hr1]
  refine ⟨_, run_update_new hb hT (hck false) hf, es.push { key := k, val := v, born := clock }, clock + 1, World.putObj_heap_same (Array.getElem?_eq_some_iff.1 hb).1, ?_⟩
  simp only [Array.toList_push, List.map_append, List.map_cons, List.map_nil]
  exact (List.perm_append_comm).trans (hp.cons _)

theorem r_insert {x y c : Operand} {dst : Option Tmp} {ty : TypeId} {pos : String} {af : Array Edge} {gd : Option (Nat × Bool)} {u : Value} (hx : ev L x = some u) (hy : ev L y = some k) (hc : ev L c = some v) (hr : (Instr.mapUpdate T u k v).run P w = .ok () w') :
    OpR P r ⟨dst, .insert T x y c, ty, pos, af, gd⟩ L w fun v' w'' => v' = undef ∧ w'' = w' :=
  fun N df a h => opk_skip rfl (w' := w') (by simp only [execOp, h.eval hx, h.eval hy, h.eval hc, Sem.run_bind, hr, Result.andThen_ok, Sem.run_pure]) ⟨undef, rfl, rfl, rfl⟩
theorem r_makeMap {dst : Option Tmp} {ty : TypeId} {pos : String} {af : Array Edge} {gd : Option (Nat × Bool)} :
    OpR P r ⟨dst, .makeMap T none, ty, pos, af, gd⟩ L w fun v' w'' => v' = .map (some w.heap.size) ∧ w'' = w.alloc (.map #[] 0) :=
  fun N df a h => opk_value rfl (v := .map (some w.heap.size)) (w' := w.alloc (.map #[] 0)) (by simp only [execOp]; rfl) ⟨_, rfl, rfl, rfl⟩
theorem mapE_nil (w : World) : (mapE w.heap.size []).ok (w.alloc (.map #[] 0)) := ⟨#[], 0, World.alloc_heap_new w _, by simp⟩

section state
variable {ops : Array Oper} {K : Act → World → Prop} {rest : List Oper} {a : Act} {d : Nat} {ty : TypeId} {pos : String} {af : Array Edge} {x y c : Operand}
theorem wl_makeMap (hfr : Fr N L df a) (hst : St M w0 H w) (hd : d < N) (k : ∀ a w', Fr N ((d, .map (some w.heap.size)) :: L) df a → St M w0 (obj w.heap.size (.map #[] 0) :: H) w' → WL P r ops K rest a w') :
    WL P r ops K (⟨some d, .makeMap T none, ty, pos, af, none⟩ :: rest) a w :=
  wl_r r_makeMap rfl (decide_eq_true hd) hfr fun a v' w' ⟨h1, h2⟩ hf => by subst h1; subst h2; exact k _ _ hf (hst.alloc _)
theorem wl_insert (i : Nat) {es : Array MapEntry} {clock : Nat} {H' : List Ent} (hfr : Fr N L df a) (hst : St M w0 H w) (hx : ev L x = some (.map (some b))) (hy : ev L y = some k) (hc : ev L c = some v) (hi : H[i]? = some (obj b (.map es clock)))
    (hT : P.underlying T = some (.map Kt Et)) (hck : (Instr.checkKey false 10000 Kt k).run P w = .ok () w) (hf : (Instr.findKey Kt k es.toList).run P w = .ok none w) (hH : H.set i (obj b (.map (es.push { key := k, val := v, born := clock }) (clock + 1))) = H')
    (kk : ∀ a w', Fr N L df a → St M w0 H' w' → WL P r ops K rest a w') : WL P r ops K (⟨none, .insert T x y c, ty, pos, af, none⟩ :: rest) a w :=
  wl_r (r_insert hx hy hc (run_update_new (hst.get hi) hT hck hf)) rfl rfl hfr fun a v' w' ⟨h1, h2⟩ hf => by
    subst h2; subst hH
    exact kk _ _ hf (hst.exchange hi (Ext.putObj (M := (· = b)) rfl w _) (World.putObj_heap_same (hst.lt hi (b := b) rfl)) (fun k hk => by cases hk; exact ⟨by simpa using hst.lt hi (b := b) rfl, .inl rfl⟩))
/-- A map laid entry by entry, seen as what it holds. -/
theorem St.toMap (i : Nat) {es : Array MapEntry} {clock : Nat} {H' : List Ent} {kvs : List (Value × Value)} (hst : St M w0 H w) (hi : H[i]? = some (obj b (.map es clock))) (hk : (es.toList.map fun e => (e.key, e.val)) = kvs) (hH : H.set i (mapE b kvs) = H') : St M w0 H' w := by
  subst hH
  exact hst.exchange hi (Ext.refl _ _) ⟨es, clock, hst.get hi, hk ▸ List.Perm.refl _⟩ (fun k hk => by cases hk; exact ⟨hst.lt hi (b := b) rfl, .inl rfl⟩)
end state
end
end Go.PW
