import Derived.Test.YtdamipejlfipcaaRange
namespace Go.PW
open Go.RowKit
set_option linter.unusedVariables false

/-- More than any list here is long. -/
def big : Nat := 281474976710656
theorem big_eq : big = 281474976710656 := rfl

/-- The first index below n at which p says yes; -1 where there is none. -/
def fstIdx (p : Nat → Bool) (n : Nat) : Int := match (List.range n).find? p with | some k => k | none => -1
theorem fstIdx_none {p : Nat → Bool} {n : Nat} (h : ∀ j, j < n → p j = false) : fstIdx p n = -1 := by
  have : (List.range n).find? p = none := List.find?_eq_none.2 fun x hx => by rw [h x (List.mem_range.1 hx)]; simp
  rw [fstIdx, this]
theorem fstIdx_some {p : Nat → Bool} {n k : Nat} (hk : k < n) (h : ∀ j, j < k → p j = false) (hp : p k = true) : fstIdx p n = k := by
  have : (List.range n).find? p = some k := by
    rw [List.find?_range_eq_some]
    exact ⟨hp, List.mem_range.2 hk, fun j hj => by rw [h j hj]; rfl⟩
  rw [fstIdx, this]
theorem fstIdx_any {p : Nat → Bool} {n : Nat} : decide (0 ≤ fstIdx p n) = (List.range n).any p := by
  unfold fstIdx
  cases h : (List.range n).find? p with
  | some k =>
    have h1 := List.find?_some h
    have h2 := List.mem_of_find?_eq_some h
    have : (List.range n).any p = true := List.any_eq_true.2 ⟨k, h2, h1⟩
    rw [this]; simp
  | none =>
    have h1 := List.find?_eq_none.1 h
    have : (List.range n).any p = false := List.any_eq_false.2 h1
    rw [this]; simp

/-- v is a slice whose elements are els, of sz cells each: it can be read. -/
def SlAt (w : World) (v : Value) (sz : Nat) (els : List (List Value)) : Prop :=
  (∀ e ∈ els, e.length = sz) ∧ els.length ≤ big ∧
  ((v = .slice none 0 0 ∧ els = []) ∨ ∃ b off cap, v = .slice (some ⟨b, off, none⟩) els.length cap ∧ els.length ≤ cap ∧ b < w.heap.size ∧ CellsAt w b off els.flatten)

def slBlk : Value → Option Nat
  | .slice (some a) _ _ => some a.block
  | _ => none
def slAddr (v : Value) (k : Nat) : Value :=
  match v with
  | .slice (some a) _ _ => .pointer (some ⟨a.block, a.off + k, none⟩)
  | _ => .pointer none
def slLen : Value → Nat
  | .slice _ n _ => n
  | _ => 0

/-- A slice that can be read, for an entry or a fact of the beginning. -/
def sl (v : Value) (sz : Nat) (els : List (List Value)) : Ent where
  foot k := slBlk v = some k
  ok w := SlAt w v sz els
  stable w w' h ho := by
    obtain ⟨h1, h2, h3⟩ := ho
    refine ⟨h1, h2, ?_⟩
    rcases h3 with h3 | ⟨b, off, cap, rfl, hc, hb, hcells⟩
    · exact .inl h3
    · have hs := h b rfl
      refine .inr ⟨b, off, cap, rfl, hc, ?_, hcells.stable hs⟩
      rcases Nat.lt_or_ge b w'.heap.size with hlt | hge
      · exact hlt
      · rw [Array.getElem?_eq_none hge, Array.getElem?_eq_getElem hb] at hs; cases hs

/-- A slice of the call's own: from its block's head; it may be appended to. -/
def own (v : Value) (E : TypeId) (sz : Nat) (els : List (List Value)) : Ent where
  foot k := v.ownBlock = some k
  ok w := (∀ e ∈ els, e.length = sz) ∧ els.length ≤ big ∧ w.ownsRow 0 E sz v els.length els.flatten
  stable w w' h ho := by
    obtain ⟨h1, h2, h3, h4⟩ := ho
    refine ⟨h1, h2, h3, ?_⟩
    rcases h4 with h4 | ⟨g, cap, cur, rfl, hb, hg, rest⟩
    · exact .inl h4
    · exact .inr ⟨g, cap, cur, rfl, hb, (h g rfl).trans hg, rest⟩

section
variable {P : Program} {r : Option Nat} {ops : Array Oper} {K : Act → World → Prop} {rest : List Oper} {a : Act} {w w' w0 : World} {M : Nat → Prop} {H : List Ent}
variable {N : Nat} {L : List (Nat × Value)} {df : List Deferred} {d : Nat} {dst : Option Tmp} {ty : TypeId} {pos : String} {af : Array Edge} {gd : Option (Nat × Bool)} {o : Oper}
variable {v u : Value} {sz : Nat} {els els' : List (List Value)} {E T T' : TypeId} {x y : Operand}

theorem slAt_nil (w : World) (sz : Nat) : SlAt w (.slice none 0 0) sz [] := ⟨by simp, by simp, .inl ⟨rfl, rfl⟩⟩
theorem own_nil (w : World) (E : TypeId) (sz : Nat) : (own (.slice none 0 0) E sz []).ok w := ⟨by simp, by simp, World.ownsRow_nil w 0 E sz⟩
theorem own_slAt (h : (own v E sz els).ok w) : SlAt w v sz els := by
  obtain ⟨h1, h2, h3⟩ := h
  refine ⟨h1, h2, ?_⟩
  rcases h3.2 with ⟨hv, hn⟩ | ⟨g, cap, cur, hv, _, hg, hc, _⟩
  · exact .inl ⟨hv, List.eq_nil_of_length_eq_zero hn⟩
  · refine .inr ⟨g, 0, cap, hv, hc, (Array.getElem?_eq_some_iff.1 hg).1, fun j u hu => ?_⟩
    have := h3.cells (g := g) (by rw [hv]; rfl) j u hu
    rwa [addr_add] at this
theorem SlAt.len (h : SlAt w v sz els) : slLen v = els.length := by
  rcases h.2.2 with ⟨rfl, rfl⟩ | ⟨b, off, cap, rfl, _⟩ <;> rfl
theorem SlAt.le (h : SlAt w v sz els) : els.length ≤ 281474976710656 := h.2.1
theorem SlAt.lt (h : SlAt w v sz els) : ∀ k, slBlk v = some k → k < w.heap.size := by
  intro k hk
  rcases h.2.2 with ⟨rfl, rfl⟩ | ⟨b, off, cap, rfl, _, hb, _⟩
  · cases hk
  · cases hk; exact hb
theorem SlAt.ext (h : SlAt w v sz els) (hx : Ext M w w') (hm : ∀ k, slBlk v = some k → ¬ M k) : SlAt w' v sz els :=
  (sl v sz els).stable w w' (fun k hk => hx.same k (h.lt k hk) (hm k hk)) h
theorem SlAt.grow (h : SlAt w v sz els) (hx : Ext No w w') : SlAt w' v sz els := h.ext hx fun _ _ h => h
/-- An argument, later on. -/
theorem St.arg (hst : St No w0 H w) (h : SlAt w0 v sz els) : SlAt w v sz els := h.grow hst.ext
theorem St.ownAt {i : Nat} (hst : St M w0 H w) (hi : H[i]? = some (own v E sz els)) : SlAt w v sz els := own_slAt (hst.get hi)

theorem flat_get {els : List (List Value)} (h1 : ∀ e ∈ els, e.length = sz) {i : Nat} (hi : i < els.length) : (els.flatten.drop (i * sz)).take sz = els[i] := by
  induction els generalizing i with
  | nil => simp at hi
  | cons e els ih =>
    have he := h1 e (by simp)
    cases i with
    | zero =>
      simp only [Nat.zero_mul, List.drop_zero, List.flatten_cons, List.getElem_cons_zero]
      rw [← he, List.take_left]
    | succ i =>
      simp only [List.flatten_cons, List.getElem_cons_succ]
      have e1 : (i + 1) * sz = e.length + i * sz := by rw [he]; rw [Nat.succ_mul]; omega
      rw [e1, ← List.drop_drop, List.drop_left]
      exact ih (fun e he => h1 e (by simp [he])) (by simpa using hi)

theorem flat_len {els : List (List Value)} (h1 : ∀ e ∈ els, e.length = sz) : els.flatten.length = els.length * sz := by
  induction els with
  | nil => simp
  | cons e els ih =>
    rw [List.flatten_cons, List.length_append, ih (fun e he => h1 e (by simp [he])), h1 e (by simp), List.length_cons, Nat.succ_mul, Nat.add_comm]

theorem SlAt.at (h : SlAt w v sz els) {i : Nat} (hi : i < els.length) : ∃ b off cap, v = .slice (some ⟨b, off, none⟩) els.length cap ∧ CellsAt w b (off + i * sz) els[i] := by
  rcases h.2.2 with ⟨_, rfl⟩ | ⟨b, off, cap, hv, _, _, hc⟩
  · simp at hi
  · exact ⟨b, off, cap, hv, hc.sub (flat_get h.1 hi)⟩

/-- x[i], its address. -/
theorem v_indexAddr_sl {i : Int} {sT : TypeId} (h : SlAt w v sz els) (hx : ev L x = some v) (hy : ev L y = some (.int .i64 i)) (hu : (underlying T).run P w = .ok (.slice E) w) (hs : (sizeOf E).run P w = .ok sz w) (h0 : 0 ≤ i) (hi : i.toNat < els.length) :
    OpV P ⟨dst, .indexAddr T x y, ty, pos, af, gd⟩ L w (slAddr v (i.toNat * sz)) := by
  obtain ⟨b, off, cap, rfl, _⟩ := h.at hi
  refine v_indexAddr hx hy ?_
  have hlt : i < (els.length : Int) := by omega
  simp only [Instr.indexAt, asIntOf, Sem.run_bind, Sem.run_pure, Result.andThen_ok, hu]
  simp only [h0, hlt, and_self, if_true]
  simp [hs, addr_add, slAddr]
/-- A field of x[i], its address. -/
theorem v_fieldAddr_sl {k j f : Nat} (h : SlAt w v sz els) {i : Nat} (hi : i < els.length) (hx : ev L x = some (slAddr v k)) (hr : ∀ b off, (Instr.fieldAt T (.pointer (some ⟨b, off, none⟩)) f).run P w = .ok (.pointer (some ⟨b, off + j, none⟩)) w) :
    OpV P ⟨dst, .fieldAddr T x f, ty, pos, af, gd⟩ L w (slAddr v (k + j)) := by
  obtain ⟨b, off, cap, rfl, _⟩ := h.at hi
  refine v_fieldAddr hx ?_
  rw [slAddr, hr, slAddr, Nat.add_assoc]
/-- x[i], whole. -/
theorem v_load_sl {i : Nat} (h : SlAt w v sz els) (hi : i < els.length) (hx : ev L x = some (slAddr v (i * sz))) (hagg : (isAgg T).run P w = .ok true w) (hs : (sizeOf T).run P w = .ok sz w) :
    OpV P ⟨dst, .load T x, ty, pos, af, gd⟩ L w (.agg (els[i]).toArray) := by
  obtain ⟨b, off, cap, rfl, hc⟩ := h.at hi
  exact v_load_agg hx hagg (by rw [h.1 _ (List.getElem_mem hi)]; exact hs) hc
/-- One cell of x[i]. -/
theorem v_load_sl1 {i j : Nat} (h : SlAt w v sz els) (hi : i < els.length) (hx : ev L x = some (slAddr v (i * sz + j))) (hagg : (isAgg T).run P w = .ok false w) (hj : (els[i])[j]? = some u) :
    OpV P ⟨dst, .load T x, ty, pos, af, gd⟩ L w u := by
  obtain ⟨b, off, cap, rfl, hc⟩ := h.at hi
  refine v_load_one (b := b) (off := off + (i * sz + j)) hx hagg fun k u' hk => ?_
  cases k with
  | zero =>
    have := hc j u hj
    simp at hk; subst hk
    rwa [Nat.add_assoc] at this
  | succ k => simp at hk
/-- A part of x[i] (a struct within it). -/
theorem v_load_slp {i j : Nat} {ds : List Value} (h : SlAt w v sz els) (hi : i < els.length) (hx : ev L x = some (slAddr v (i * sz + j))) (hagg : (isAgg T).run P w = .ok true w) (hs : (sizeOf T).run P w = .ok ds.length w) (hj : ((els[i]).drop j).take ds.length = ds) :
    OpV P ⟨dst, .load T x, ty, pos, af, gd⟩ L w (.agg ds.toArray) := by
  obtain ⟨b, off, cap, rfl, hc⟩ := h.at hi
  exact v_load_agg (b := b) (off := off + (i * sz + j)) hx hagg hs (by have := hc.sub hj; rwa [Nat.add_assoc] at this)

theorem v_len_sl {ats : Array TypeId} {sT : TypeId} (h : SlAt w v sz els) (hx : ev L x = some v) (hat : ats[0]? = some sT) (hu : (underlying sT).run P w = .ok (.slice E) w) :
    OpV P ⟨dst, .call { callee := .builtin .len, args := #[x], argTypes := ats }, ty, pos, af, gd⟩ L w (.int .i64 els.length) := by
  refine v_builtin (xs := [x]) (vs := [v]) (by simp [evs, hx]) ?_
  have hl := h.len
  rcases h.2.2 with ⟨rfl, rfl⟩ | ⟨b, off, cap, rfl, _⟩
  · simp [builtin, Builtin.len_, hat, hu, goInt]
  · simp [builtin, Builtin.len_, hat, hu, goInt]

/-- A slice's literal. -/
theorem wl_buildSlice {n : Nat} {xs : List (Nat × Operand)} {vs : List (Nat × Value)} (hx : evp L xs = some vs) (els : List (List Value)) (hr : (Instr.buildSlice T n vs.toArray).run P w = .ok (.slice (some ⟨w.heap.size, 0, none⟩) n n) (w.alloc (.cells els.flatten.toArray E)))
    (hsz : ∀ e ∈ els, e.length = sz) (hn : els.length = n) (hbig : n ≤ big) (hd : d < N) (hfr : Fr N L df a) (hst : St M w0 H w)
    (k : ∀ a w', Fr N ((d, .slice (some ⟨w.heap.size, 0, none⟩) n n) :: L) df a → St M w0 (own (.slice (some ⟨w.heap.size, 0, none⟩) n n) E sz els :: H) w' → WL P r ops K rest a w') :
    WL P r ops K (⟨some d, .buildSlice T n xs.toArray, ty, pos, af, none⟩ :: rest) a w := by
  refine wl_op rfl (opk_value rfl (v := .slice (some ⟨w.heap.size, 0, none⟩) n n) (w' := w.alloc (.cells els.flatten.toArray E)) ?_ (k _ _ (hfr.put hd _) ?_))
  · have e : (xs.toArray.map fun (i, x) => (i, a.eval x)) = vs.toArray := by rw [List.map_toArray]; exact congrArg _ (hfr.evalp hx)
    simp only [execOp, e, Sem.run_bind, hr, Result.andThen_ok]; rfl
  · have hflat : els.flatten.length = n * sz := by rw [← hn]; exact flat_len hsz
    refine hst.push (Ext.alloc _ _ _) ⟨hsz, by omega, by rw [hn]; exact hflat, .inr ⟨w.heap.size, n, _, by rw [hn], Nat.zero_le _, World.alloc_heap_new w _, by omega, by simp only [maxLen]; unfold big at hbig; omega, by simpa using hflat, by rw [hn, ← hflat, List.toList_toArray, List.take_length]⟩⟩ ?_
    intro k hk
    have : w.heap.size = k := by simpa [own, Value.ownBlock] using hk
    subst this; simp

/-- Where an appended slice lies: where it lay, or in a new block. -/
theorem append_block {n m c : Nat} {xs news : List Value} {sT : TypeId} {inf : TypeInfo} {z v' : Value} {b off : Nat} (ht : P.underlying sT = some (.slice E)) (hinf : P.info? E = some inf) (hz : inf.zero = some z) (hsize : inf.size = sz)
    (hown : w.ownsRow 0 E sz v n xs) (hl : news.length = m * sz) (hnews : ∀ j u, news[j]? = some u → w.cell? ((Addr.mk b off none).add j) = some u) (h1 : ∀ u ∈ news, u.oneCell' = true)
    (hm : 0 < m) (h63 : n + m ≤ maxLen) (hbytes : (n + m) * inf.bytes ≤ 140737488355328) (hr : (Builtin.append_ #[sT, sT] ty #[v, .slice (some ⟨b, off, none⟩) m c]).run P w = .ok v' w') :
    v'.ownBlock = v.ownBlock ∨ v'.ownBlock = some w.heap.size := by
  subst hsize
  rcases hown.2 with ⟨rfl, rfl⟩ | ⟨g, cap, cur, rfl, _, hg, hnc, hcm, hcs, htake⟩
  · rw [run_append_nil (P := P) w sT ty E inf z ht hinf hz _ m c news hl hnews hm (by simp only [maxLen] at h63; omega) (by have hb := hbytes; simp only [Nat.zero_add] at hb; omega)] at hr
    cases hr; exact .inr rfl
  · by_cases hroom : n + m ≤ cap
    · have hfit : n * inf.size + news.length ≤ cur.size := by rw [hl, hcs, ← Nat.add_mul]; exact Nat.mul_le_mul_right _ hroom
      rw [run_append_room (P := P) w sT ty E inf ht hinf g n cap cur hg _ m c news hl hnews h1 hroom hfit] at hr
      cases hr; exact .inl rfl
    · rw [run_append_grow (P := P) w sT ty E inf z ht hinf hz ⟨g, 0, none⟩ n cap xs hown.1 (hown.cells (g := g) rfl) _ m c news hl hnews (by omega) (by simp only [maxLen] at h63; omega) (growslice_fits (by omega) hbytes)] at hr
      cases hr; exact .inr rfl

/-- append(s, t..), s of the call's own (or nil). -/
theorem r_append {sT : TypeId} {inf : TypeInfo} {z : Value} (hok : (own v E sz els).ok w) (hx : ev L x = some v) (hy : ev L y = some u) (hu : SlAt w u sz els') (hne : els' ≠ [])
    (ht : P.underlying sT = some (.slice E)) (hinf : P.info? E = some inf) (hz : inf.zero = some z) (hsize : inf.size = sz) (hzs : z.cells.size = sz) (hsz : 0 < sz) (hone : ∀ e ∈ els', ∀ u ∈ e, u.oneCell' = true)
    (hbytes : (els.length + els'.length) * inf.bytes ≤ 140737488355328) (hbig : els.length + els'.length ≤ big) {dst : Option Tmp} {gd : Option (Nat × Bool)} :
    OpR P r ⟨dst, .call { callee := .builtin .append, args := #[x, y], argTypes := #[sT, sT] }, ty, pos, af, gd⟩ L w fun v' w' =>
      Ext (own v E sz els).foot w w' ∧ (own v' E sz (els ++ els')).ok w' ∧ (∀ g, (own v' E sz (els ++ els')).foot g → g < w'.heap.size ∧ ((own v E sz els).foot g ∨ w.heap.size ≤ g)) ∧ (v' = .slice none 0 0 → False) := by
  obtain ⟨h1, h2, h3⟩ := hok
  obtain ⟨b, off, cap, hub, hcells⟩ : ∃ b off cap, u = .slice (some ⟨b, off, none⟩) els'.length cap ∧ CellsAt w b off els'.flatten := by
    rcases hu.2.2 with ⟨_, h⟩ | ⟨b, off, cap, h1, _, _, h2⟩
    · exact absurd h hne
    · exact ⟨b, off, cap, h1, h2⟩
  subst hub
  have hfl : els'.flatten.length = els'.length * sz := flat_len hu.1
  have hfl1 := h3.1
  obtain ⟨v', w', hr, h4, h5, h6⟩ := run_append_own (P := P) w 0 sT ty E inf z sz inf.bytes ht hinf hz hsize rfl hzs hsz v els.length els.flatten h3 ⟨b, off, none⟩ els'.length cap els'.flatten hfl
    (fun j u hj => by rw [addr_add]; exact hcells j u hj) (fun u hu => by obtain ⟨e, he, hue⟩ := List.mem_flatten.1 hu; exact hone e he u hue) (by simp only [maxLen]; unfold big at hbig; omega) hbytes (Nat.zero_le _)
  intro N df a hfr
  refine opk_value rfl (v := v') (w' := w') ?_ ⟨v', rfl, ?_, ⟨fun e he => ?_, by simp; omega, by simpa using h4⟩, ?_, ?_⟩
  · simp only [execOp, resolve, invoke, builtin, Sem.run_bind, Sem.run_pure, Result.andThen_ok, List.map_toArray, List.map_cons, List.map_nil, hfr.eval hx, hfr.eval hy, hr]
  · exact ⟨h5.os, h5.tape, h5.output, h5.size, fun k hk hn => h5.block k hk (fun e => hn e.symm)⟩
  · rcases List.mem_append.1 he with he | he
    · exact h1 e he
    · exact hu.1 e he
  · intro g hg
    have hlt := h4.lt g hg
    refine ⟨hlt.2, ?_⟩
    have hb := append_block (P := P) (ty := ty) ht hinf hz hsize h3 hfl (fun j u hj => by rw [addr_add]; exact hcells j u hj) (fun u hu => by obtain ⟨e, he, hue⟩ := List.mem_flatten.1 hu; exact hone e he u hue)
      (by cases els' with | nil => exact absurd rfl hne | cons => simp) (by simp only [maxLen]; unfold big at hbig; omega) hbytes hr
    have hg' : v'.ownBlock = some g := hg
    rcases hb with hb | hb
    · exact .inl (by show v.ownBlock = some g; rw [← hb]; exact hg')
    · rw [hg'] at hb; cases hb; exact .inr (Nat.le_refl _)
  · intro hv
    have := h6.1 hv
    have hl : els'.length = 0 := this.2
    exact hne (List.eq_nil_of_length_eq_zero hl)
theorem wl_append {i : Nat} {sT : TypeId} {inf : TypeInfo} {z : Value} {b off m c : Nat} (hi : H[i]? = some (own v E sz els)) (hx : ev L x = some v) (hy : ev L y = some u) (hu : SlAt w u sz els') (hne : els' ≠ [])
    (ht : P.underlying sT = some (.slice E)) (hinf : P.info? E = some inf) (hz : inf.zero = some z) (hsize : inf.size = sz) (hzs : z.cells.size = sz) (hsz : 0 < sz) (hone : ∀ e ∈ els', ∀ u ∈ e, u.oneCell' = true)
    (hbytes : (els.length + els'.length) * inf.bytes ≤ 140737488355328) (hbig : els.length + els'.length ≤ big) (hd : d < N) (hfr : Fr N L df a) (hst : St M w0 H w)
    (k : ∀ a w' v', Fr N ((d, v') :: L) df a → St M w0 (H.set i (own v' E sz (els ++ els'))) w' → (v' = .slice none 0 0 → False) → WL P r ops K rest a w') :
    WL P r ops K (⟨some d, .call { callee := .builtin .append, args := #[x, y], argTypes := #[sT, sT] }, ty, pos, af, none⟩ :: rest) a w :=
  wl_r (r_append (hst.get hi) hx hy hu hne ht hinf hz hsize hzs hsz hone hbytes hbig) rfl (decide_eq_true hd) hfr fun a v' w' ⟨h1, h2, h3, h4⟩ h => k _ _ v' h (hst.exchange hi h1 h2 h3) h4
theorem SlAt.cells {w : World} {v : Value} {sz : Nat} {els : List (List Value)} (h : SlAt w v sz els) : v.cells = #[v] := by
  rcases h.2.2 with ⟨h, _⟩ | ⟨b, off, cap, h, _⟩ <;> subst h <;> rfl
theorem wl_store_sl {E T : TypeId} {x y : Operand} {ty : TypeId} {pos : String} {af : Array Edge} {cs ds : List Value} {H' : List Ent} {off b sz : Nat} {u : Value} {els : List (List Value)} (i : Nat) (hfr : Fr N L df a) (hst : St M w0 H w) (hs : SlAt w u sz els) (hx : ev L x = some (.pointer (some ⟨b, off, none⟩))) (hy : ev L y = some u) (hi : H[i]? = some (blk b cs E))
    (hsz : (sizeOf T).run P w = .ok 1 w) (hfit : off + 1 ≤ cs.length) (hds : splice cs off [u] = ds) (hH : H.set i (blk b ds E) = H')
    (k : ∀ a w', Fr N L df a → St M w0 H' w' → WL P r ops K rest a w') :
    WL P r ops K (⟨none, .store T x y, ty, pos, af, none⟩ :: rest) a w := by
  have hc := hs.cells
  exact wl_store i hfr hst hx hy hi (by rw [hc]; exact hsz) (by rcases hs.2.2 with ⟨h, _⟩ | ⟨b, off, cap, h, _⟩ <;> subst h <;> rfl) (by rw [hc]; exact hfit) (by rw [hc]; exact hds) hH k
theorem St.nil_own {E : TypeId} {sz : Nat} (h : St M w0 H w) : St M w0 (own (Value.slice none 0 0) E sz [] :: H) w :=
  ⟨h.ext, fun e he => by
    rcases List.mem_cons.1 he with rfl | he
    · exact ⟨own_nil w E sz, fun k hk => by cases hk⟩
    · exact h.ok e he, List.Pairwise.cons (fun e he k hk => by cases hk) h.dis⟩

theorem g_buildSlice {n : Nat} {xs : List (Nat × Operand)} {vs : List (Nat × Value)} (hx : evp L xs = some vs) (els : List (List Value)) (hr : ∀ w : World, (Instr.buildSlice T n vs.toArray).run P w = .ok (.slice (some ⟨w.heap.size, 0, none⟩) n n) (w.alloc (.cells els.flatten.toArray E)))
    (hsz : ∀ e ∈ els, e.length = sz) (hn : els.length = n) (hbig : n ≤ big) :
    OpR P r ⟨dst, .buildSlice T n xs.toArray, ty, pos, af, gd⟩ L w (GrowR w (pm (fun b : Nat => .slice (some ⟨b, 0, none⟩) n n) (fun b => [own (.slice (some ⟨b, 0, none⟩) n n) E sz els]) fun _ => True)) := by
  intro N df a hfr
  refine opk_value rfl (v := .slice (some ⟨w.heap.size, 0, none⟩) n n) (w' := w.alloc (.cells els.flatten.toArray E)) ?_ ⟨_, rfl, Ext.alloc _ _ _, _, ⟨w.heap.size, rfl, trivial, rfl⟩, entsIn_one ?_ ?_⟩
  · have e : (xs.toArray.map fun (i, x) => (i, a.eval x)) = vs.toArray := by rw [List.map_toArray]; exact congrArg _ (hfr.evalp hx)
    simp only [execOp, e, Sem.run_bind, hr, Result.andThen_ok]; rfl
  · have hflat : els.flatten.length = n * sz := by rw [← hn]; exact flat_len hsz
    exact ⟨hsz, by omega, by rw [hn]; exact hflat, .inr ⟨w.heap.size, n, _, by rw [hn], Nat.zero_le _, World.alloc_heap_new w _, by omega, by simp only [maxLen]; unfold big at hbig; omega, by simpa using hflat, by rw [hn, ← hflat, List.toList_toArray, List.take_length]⟩⟩
  · intro k hk
    have : w.heap.size = k := by simpa [own, Value.ownBlock] using hk
    subst this; simp

theorem v_min2 {m n : Int} {at1 at2 : TypeId} (hx : ev L x = some (.int .i64 m)) (hy : ev L y = some (.int .i64 n)) :
    OpV P ⟨dst, .call { callee := .builtin .min, args := #[x, y], argTypes := #[at1, at2] }, ty, pos, af, gd⟩ L w (.int .i64 (min m n)) :=
  v_builtin (xs := [x, y]) (vs := [.int .i64 m, .int .i64 n]) (by simp [evs, hx, hy]) (by
    have e : (if n < m then n else m) = min m n := by rw [Int.min_def]; split <;> split <;> omega
    simp [builtin, Builtin.min_, Builtin.min2, e])
theorem v_max2 {m n : Int} {at1 at2 : TypeId} (hx : ev L x = some (.int .i64 m)) (hy : ev L y = some (.int .i64 n)) :
    OpV P ⟨dst, .call { callee := .builtin .max, args := #[x, y], argTypes := #[at1, at2] }, ty, pos, af, gd⟩ L w (.int .i64 (max m n)) :=
  v_builtin (xs := [x, y]) (vs := [.int .i64 m, .int .i64 n]) (by simp [evs, hx, hy]) (by
    have e : (if m < n then n else m) = max m n := by rw [Int.max_def]; split <;> split <;> omega
    simp [builtin, Builtin.max_, Builtin.max2, e])
end
end Go.PW
