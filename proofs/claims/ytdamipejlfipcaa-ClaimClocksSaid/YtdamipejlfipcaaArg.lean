import Derived.Test.YtdamipejlfipcaaSeg
import Derived.OpenShut
import Derived.ChangeOld
import Derived.Below
import Derived.Carry
import Derived.SizedLaws
namespace Go.PW
open Go.RowKit Go.ChangeShapes Go.WideShapes Go.ChangeAt
set_option linter.unusedVariables false

/-! ### arguments, opened -/
def i64 (n : Int) : Prop := -9223372036854775808 ≤ n ∧ n ≤ 9223372036854775807
section
variable {H : Type} {enc : TypeId × Value → H} {P : Program} {w : World} {base : Nat} {spare : Nat → Bool} {held : Bool} {fuel : Nat} {t e : TypeId} {cs : List Value} {x : DataW H × List MemPlace} {α : Type}

theorem i64_wf {n : Int} (h : (Lit.int .i64 n).wf = true) : i64 n := by
  simp [Lit.wf, IntKind.min, IntKind.max, IntKind.signed, IntKind.bits] at h
  exact h
theorem wf_i64 {n : Int} (h : i64 n) : (Lit.int .i64 n).wf = true := by
  simp [Lit.wf, IntKind.min, IntKind.max, IntKind.signed, IntKind.bits]
  exact h
/-- Cells that read as integers. -/
def IntCell (c : List Value) : Prop := ∃ n, c = [.int .i64 n] ∧ i64 n
theorem trod_i64 (ht : P.underlying t = some (.int .i64)) (h : DataW.trod enc P w base spare held fuel t cs = some x) : IntCell cs := by
  obtain ⟨n, rfl, _, hw⟩ := DataW.trod_int ht h
  exact ⟨n, rfl, i64_wf hw⟩
theorem list_of {p : Nat → α → Prop} : ∀ (n : Nat), (∀ i, i < n → ∃ a, p i a) → ∃ xs : List α, xs.length = n ∧ ∀ i (h : i < xs.length), p i xs[i]
  | 0, _ => ⟨[], rfl, fun i h => absurd h (by simp)⟩
  | n + 1, h => by
    obtain ⟨xs, hl, hp⟩ := list_of n fun i hi => h i (by omega)
    obtain ⟨a, ha⟩ := h n (by omega)
    refine ⟨xs ++ [a], by simp [hl], fun i hi => ?_⟩
    rw [List.getElem_append]
    split
    · exact hp i (by assumption)
    · rename_i hn
      have : i = n := by simp at hi; omega
      subst this
      simpa using ha
/-- Integers, one by one. -/
theorem ints_of (n : Nat) (hl : cs.length = n) (h : ∀ i, i < n → IntCell ((cs.drop i).take 1)) : ∃ zs : List Int, zs.length = n ∧ cs = zs.map (fun z => .int .i64 z) ∧ ∀ z ∈ zs, i64 z := by
  obtain ⟨zs, hz, hp⟩ := list_of (p := fun i z => (cs.drop i).take 1 = [.int .i64 z] ∧ i64 z) n h
  refine ⟨zs, hz, ?_, fun z hm => ?_⟩
  · refine List.ext_getElem (by simp [hl, hz]) fun i h1 h2 => ?_
    have := (hp i (by omega)).1
    rw [List.drop_eq_getElem_cons h1, List.take_succ_cons] at this
    injection this with h3 _
    simpa using h3
  · obtain ⟨i, hi, rfl⟩ := List.getElem_of_mem hm
    exact (hp i hi).2
theorem trod_ints (n : Nat) (ht : P.underlying t = some (.array n e)) (he : P.underlying e = some (.int .i64)) (hc : P.cellsOf e = 1) (h : DataW.trod enc P w base spare held fuel t cs = some x) (hl : cs.length = n) :
    ∃ zs : List Int, zs.length = n ∧ cs = zs.map (fun z => .int .i64 z) ∧ ∀ z ∈ zs, i64 z := by
  obtain ⟨xs, m, rfl, rfl, hlen, hxs, hel⟩ := DataW.trod_array ht h
  refine ints_of n hl fun i hi => ?_
  have := hel i hi
  rw [hc, Nat.mul_one, List.getElem?_eq_getElem (by omega)] at this
  exact trod_i64 he this

theorem cells_plain {b off n : Nat} {ds : List Value} (h : w.cells? base ⟨b, off, none⟩ n = some ds) : ds.length = n ∧ ∀ j v, ds[j]? = some v → w.cell? ⟨b, off + j, none⟩ = some v := by
  obtain ⟨_, hl, hc⟩ := World.cells?_some h
  refine ⟨hl, fun j v hj => ?_⟩
  have hjn : j < n := by have := (List.getElem?_eq_some_iff.1 hj).1; omega
  have := hc j hjn
  rw [addr_add, hj] at this
  exact this

/-- What it takes is not more than a machine's memory. -/
def Wt (P : Program) (t : TypeId) (d : DataW H) : Prop := ∀ n ∈ d.weights P t, n ≤ reachBytes
theorem wt_all {ds : List (DataW H)} {d : DataW H} (hd : d ∈ ds) : ∀ n ∈ d.weights P t, n ∈ DataW.weightsAll P t ds := by
  induction ds with
  | nil => cases hd
  | cons a ds ih =>
    intro n hn
    simp only [DataW.weightsAll, List.mem_append]
    rcases List.mem_cons.1 hd with rfl | hd
    · exact .inl hn
    · exact .inr (ih hd n hn)
theorem wt_arg {ts : List TypeId} {ds : List (DataW H)} (h : (DataW.weightsEach P ts ds).all (· ≤ reachBytes) = true) {j : Nat} {d : DataW H} (ht : ts[j]? = some t) (hd : ds[j]? = some d) : Wt P t d := by
  intro n hn
  have := List.all_eq_true.1 h n (DataW.weights_mem_each ht hd n hn)
  simpa using this

/-- A slice that came in: its elements, each of which can be read. -/
theorem trod_sl {v : Value} {r : Reach} {b0 : Nat} (sz : Nat) (ht : P.underlying t = some (.slice e)) (hc : P.cellsOf e = sz) (hs : 0 < sz) (hby : 0 < P.bytesOf e) (hok : Cell.okWide P w r b0 t v) (hw : Wt P t x.1) (h : DataW.trod enc P w base spare held fuel t [v] = some x) :
    ∃ els : List (List Value), SlAt w v sz els ∧ ∀ i (hi : i < els.length), ∃ n y, DataW.trod enc P w base spare held n e els[i] = some y ∧ Wt P e y.1 := by
  rcases DataW.trod_slice ht h with ⟨h0, _⟩ | ⟨a, len, cap, elems, rest, n, _, hv, hx, hb, hl, hm, hlen, hel, _, _⟩
  · cases h0
    exact ⟨[], slAt_nil _ _, fun i hi => absurd hi (by simp)⟩
  · cases hv
    have hok2 : len ≤ cap ∧ (cap : Int) ≤ IntKind.i64.max ∧ w.has P r b0 a e cap := by
      simpa [Cell.okWide, Cell.ok, ht] using hok
    obtain ⟨b, off, spot⟩ := a
    obtain ⟨_, hspot, row, cells, hsh, _⟩ := hok2.2.2
    simp only at hspot hsh
    subst hspot
    have hlt : b < w.heap.size := by
      unfold World.shape? at hsh
      cases hh : w.heap[b]? with
      | none => rw [hh] at hsh; cases hsh
      | some o => exact (Array.getElem?_eq_some_iff.1 hh).1
    have hbg : elems.length ≤ big := by
      have h1 := hw ((elems.length + rest.length) * P.bytesOf e) (by rw [hx]; simp [DataW.weights, ht])
      have h2 := reachBytes_lt
      have h3 : elems.length * 1 ≤ (elems.length + rest.length) * P.bytesOf e := Nat.mul_le_mul (by omega) hby
      unfold big; omega
    have hwe : ∀ y ∈ elems, Wt P e y.1 := by
      intro y hy n hn
      refine hw n ?_
      rw [hx]
      simp only [DataW.weights, ht, List.mem_cons, List.mem_append]
      exact .inr (.inl (wt_all (List.mem_map.2 ⟨y, hy, rfl⟩) n hn))
    have each : ∀ i, i < len → ∃ ds : List Value, (ds.length = sz ∧ ∀ j v, ds[j]? = some v → w.cell? ⟨b, off + i * sz + j, none⟩ = some v) ∧ ∃ n y, DataW.trod enc P w base spare held n e ds = some y ∧ Wt P e y.1 := by
      intro i hi
      have h1 := hel i hi
      rw [List.getElem?_eq_getElem (by omega), hc, addr_add] at h1
      cases hcs : w.cells? base ⟨b, off + i * sz, none⟩ sz with
      | none => rw [hcs] at h1; simp at h1
      | some ds =>
        rw [hcs] at h1
        simp only [Option.bind_some] at h1
        exact ⟨ds, cells_plain hcs, n, _, h1, hwe _ (List.getElem_mem _)⟩
    obtain ⟨els, hel2, hp⟩ := list_of len each
    have h1 : ∀ d ∈ els, d.length = sz := by
      intro d hd
      obtain ⟨i, hi, rfl⟩ := List.getElem_of_mem hd
      exact (hp i hi).1.1
    refine ⟨els, ⟨h1, by omega, .inr ⟨b, off, cap, by rw [hel2], by omega, hlt, ?_⟩⟩, fun i hi => (hp i hi).2⟩
    intro j v hj
    have hjl := (List.getElem?_eq_some_iff.1 hj).1
    rw [flat_len h1] at hjl
    have hi : j / sz < els.length := Nat.div_lt_of_lt_mul (by rw [Nat.mul_comm]; exact hjl)
    have := (hp (j / sz) hi).1.2 (j % sz) v (by
      rw [← flat_get h1 hi, List.getElem?_take, if_pos (Nat.mod_lt _ hs), List.getElem?_drop, Nat.div_add_mod' j sz]
      exact hj)
    rw [Nat.add_assoc, Nat.div_add_mod' j sz] at this
    exact this
/-- .. as a list of data. -/
theorem sl_map {v : Value} {sz : Nat} {els : List (List Value)} {f : α → List Value} {q : α → Prop} (h : SlAt w v sz els) (hp : ∀ i (hi : i < els.length), ∃ a, els[i] = f a ∧ q a) : ∃ xs : List α, SlAt w v sz (xs.map f) ∧ ∀ a ∈ xs, q a := by
  obtain ⟨xs, hl, hx⟩ := list_of (p := fun i a => els[i]? = some (f a) ∧ q a) els.length fun i hi => by
    obtain ⟨a, h1, h2⟩ := hp i hi
    exact ⟨a, by rw [List.getElem?_eq_getElem hi, h1], h2⟩
  have e : els = xs.map f := by
    refine List.ext_getElem (by simp [hl]) fun i h1 h2 => ?_
    have := (hx i (by omega)).1
    rw [List.getElem?_eq_getElem h1] at this
    simpa using this
  refine ⟨xs, e ▸ h, fun a ha => ?_⟩
  obtain ⟨i, hi, rfl⟩ := List.getElem_of_mem ha
  exact (hx i hi).2
/-- A cell of an argument by value. -/
theorem okWide_cell {r : Reach} {b0 : Nat} {v : Value} (hag : (match P.underlying t with | some (.struct _) | some (.array _ _) => true | _ => false) = true) (h : Value.okWide P w r b0 t v) : ∃ cs : Array Value, v = .agg cs ∧ cs.size = P.cellsOf t ∧ Row.okWide P w r b0 t cs := by
  unfold Value.okWide at h
  split at h
  · exact h
  · exact h
  · rename_i h1 h2
    split at hag
    · rename_i fs hf; exact absurd hf (h1 fs)
    · rename_i n e hf; exact absurd hf (h2 n e)
    · cases hag
theorem row_cell {r : Reach} {b0 i : Nat} {u : TypeId} {cs : Array Value} {ts : List TypeId} {v : Value} (hts : P.cellTypes P.depth t = some ts) (hu : ts[i % ts.length]? = some u) (h : Row.okWide P w r b0 t cs) (hv : cs[i]? = some v) : Cell.okWide P w r b0 u v := by
  obtain ⟨ts', h1, _, h3⟩ := h
  rw [hts] at h1
  cases h1
  obtain ⟨u', h4, h5⟩ := h3 i v hv
  rw [hu] at h4
  cases h4
  exact h5
theorem okWide_one {r : Reach} {b0 : Nat} {v : Value} (hag : (match P.underlying t with | some (.struct _) | some (.array _ _) => true | _ => false) = false) (h : Value.okWide P w r b0 t v) : Cell.okWide P w r b0 t v := by
  unfold Value.okWide at h
  split at h
  · rename_i fs hf; rw [hf] at hag; cases hag
  · rename_i n e hf; rw [hf] at hag; cases hag
  · exact h
theorem trod_field {fs : Array Field} (i : Nat) (f : Field) (ht : P.underlying t = some (.struct fs)) (hw : Wt P t x.1) (h : DataW.trod enc P w base spare held fuel t cs = some x) (hf : fs[i]? = some f) :
    ∃ n y, DataW.trod enc P w base spare held n f.type ((cs.drop f.offset).take (P.cellsOf f.type)) = some y ∧ Wt P f.type y.1 := by
  obtain ⟨xs, n, rfl, rfl, hlen, hxs, hel⟩ := DataW.trod_struct ht h
  have := hel i f hf
  have hi : i < xs.length := by rw [hxs]; exact (Array.getElem?_eq_some_iff.1 hf).1
  rw [List.getElem?_eq_getElem hi] at this
  refine ⟨n, _, this, fun q hq => hw q ?_⟩
  simp only [DataW.weights, ht]
  exact DataW.weights_mem_each (j := i) (by simpa using ⟨f, hf, rfl⟩) (by simp [List.getElem?_eq_getElem hi]) q hq
end
end Go.PW
