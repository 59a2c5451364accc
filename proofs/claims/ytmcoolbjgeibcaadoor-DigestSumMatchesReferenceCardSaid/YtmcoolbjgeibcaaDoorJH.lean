/- Texts joined: Chn, LawC, LawP. -/
import Derived.Test.YtmcoolbjgeibcaaDoorJB
import Derived.Test.YtmcoolbjgeibcaaDoorJG
/- A drawn region in which a slice is made and appended to twice. -/
namespace Go.PW
open Go.RowKit
set_option linter.unusedVariables false
set_option linter.unusedSimpArgs false
section
variable {P : Program} {r : Option Nat} {K : Act → World → Prop} {a : Act} {w w0 : World} {M : Nat → Prop} {H : List Ent}
variable {N : Nat} {L : List (Nat × Value)} {df : List Deferred}
theorem g_makeSlice {T ty : TypeId} {pos : String} {af : Array Edge} {gd : Option (Nat × Bool)} {dst : Option Tmp} {x y : Operand} {n : Nat} {lv cv : Value} {E : TypeId} {sz : Nat} (hx : ev L x = some lv) (hy : ev L y = some cv) (els : List (List Value)) (hr : ∀ w : World, (Instr.makeSlice T lv cv).run P w = .ok (.slice (some ⟨w.heap.size, 0, none⟩) n n) (w.alloc (.cells els.flatten.toArray E)))
    (hsz : ∀ e ∈ els, e.length = sz) (hn : els.length = n) (hbig : n ≤ big) :
    OpR P r ⟨dst, .makeSlice T x y, ty, pos, af, gd⟩ L w (GrowR w (pm (fun b : Nat => .slice (some ⟨b, 0, none⟩) n n) (fun b => [own (.slice (some ⟨b, 0, none⟩) n n) E sz els]) fun _ => True)) := by
  intro N df a hfr
  refine opk_value rfl (v := .slice (some ⟨w.heap.size, 0, none⟩) n n) (w' := w.alloc (.cells els.flatten.toArray E)) ?_ ⟨_, rfl, Ext.alloc _ _ _, _, ⟨w.heap.size, rfl, trivial, rfl⟩, entsIn_one ?_ ?_⟩
  · simp only [execOp, hfr.eval hx, hfr.eval hy, Sem.run_bind, hr, Result.andThen_ok]; rfl
  · have hflat : els.flatten.length = n * sz := by rw [← hn]; exact flat_len hsz
    exact ⟨hsz, by omega, by rw [hn]; exact hflat, .inr ⟨w.heap.size, n, _, (0, 0), by rw [hn], World.alloc_heap_new w _, .inl rfl, by omega, by simp only [maxLen]; unfold big at hbig; omega, by simpa using hflat, by rw [hn, ← hflat, List.toList_toArray, List.take_length]⟩⟩
  · intro k hk
    have : w.heap.size = k := by simpa [own, Value.ownBlock] using hk
    subst this; simp
/-- As the operation i: it turns the entry that the operation pc has made. -/
def HopC (P : Program) (r : Option Nat) (M : Nat → Prop) (w0 : World) (pc : Nat) (e0 e1 : Value → Ent) (H : List Ent) (L : List (Nat × Value)) (l : List Oper) (R : Nat → Value → List Ent → Prop) (i : Nat) : List Nat → List (Nat × Value) → List Ent → Value → Prop
  | [], Lv, Es, u => ∀ w, St M w0 (e0 u :: (Es ++ H)) w → OpR P r (opAt l i) (Lv ++ L) w (fun v w' => Ext (e0 u).foot w w' ∧ (e1 v).ok w' ∧ (∀ b, (e1 v).foot b → b < w'.heap.size ∧ ((e0 u).foot b ∨ w.heap.size ≤ b)) ∧ R i v [])
  | p :: ps, Lv, Es, u => ∀ v E, R p v E → HopC P r M w0 pc e0 e1 H L l R i ps (Lv ++ [(dsOf l p, v)]) (Es ++ E) (bif Nat.beq p pc then v else u)
theorem HopC.use {pc : Nat} {e0 e1 : Value → Ent} {l : List Oper} {R : Nat → Value → List Ent → Prop} {i : Nat} {V : Nat → Value} {E : Nat → List Ent} : ∀ {ps : List Nat} {Lv : List (Nat × Value)} {Es : List Ent} {u : Value}, HopC P r M w0 pc e0 e1 H L l R i ps Lv Es u → (∀ p ∈ ps, R p (V p) (E p)) → (pc ∈ ps ∨ u = V pc) →
    ∀ w, St M w0 (e0 (V pc) :: (Es ++ ps.flatMap E ++ H)) w → OpR P r (opAt l i) (Lv ++ ps.map (fun p => (dsOf l p, V p)) ++ L) w (fun v w' => Ext (e0 (V pc)).foot w w' ∧ (e1 v).ok w' ∧ (∀ b, (e1 v).foot b → b < w'.heap.size ∧ ((e0 (V pc)).foot b ∨ w.heap.size ≤ b)) ∧ R i v [])
  | [], Lv, Es, u, h, _, hu, w, hs => by
    rcases hu with hu | hu
    · cases hu
    · subst hu; simpa using h w (by simpa using hs)
  | p :: ps, Lv, Es, u, h, hR, hu, w, hs => by
    have h2 : pc ∈ ps ∨ (bif Nat.beq p pc then V p else u) = V pc := by
      by_cases hp : p = pc
      · subst hp; exact .inr (by simp)
      · rcases hu with hu | hu
        · rcases List.mem_cons.1 hu with h3 | h3
          · exact absurd h3.symm hp
          · exact .inl h3
        · have : Nat.beq p pc = false := by cases hb : Nat.beq p pc with | false => rfl | true => exact absurd (Nat.eq_of_beq_eq_true hb) hp
          exact .inr (by rw [this]; exact hu)
    have := HopC.use (h (V p) (E p) (hR p (by simp))) (fun q hq => hR q (by simp [hq])) h2 w (by simpa using hs)
    simpa using this
theorem OpR.to_own {o : Oper} {f : Nat → Value} {e : Value → Ent} {R : Value → List Ent → Prop} (h : OpR P r o L w (GrowR w (pm f (fun b => [e (f b)]) fun _ => True))) (hR : ∀ v, R v []) : OpR P r o L w (fun v w' => Ext (join []).foot w w' ∧ (e v).ok w' ∧ (∀ b, (e v).foot b → b < w'.heap.size ∧ ((join []).foot b ∨ w.heap.size ≤ b)) ∧ R v []) :=
  OpR.mono h fun v w' ⟨hx, E, ⟨x, hv, _, hE⟩, hin⟩ => by
    subst hv; subst hE
    exact ⟨hx.mono fun _ _ h => h.elim, (hin.1 _ (List.mem_singleton.2 rfl)).1, fun b hb => ⟨((hin.1 _ (List.mem_singleton.2 rfl)).2 b hb).2, .inr ((hin.1 _ (List.mem_singleton.2 rfl)).2 b hb).1⟩, hR _⟩
theorem St.hollow (h : St M w0 H w) : St M w0 (PW.join [] :: H) w := St.join [] H h
theorem wc_phases_chain {l : List Oper} (q0 q1 q2 : Nat) (e1 e2 e3 : Value → Ent) (m : Nat) (ps : List (List Nat)) (R : Nat → Value → List Ent → Prop) (hfr : Fr N L df a) (hst : St M w0 H w)
    (hmix : P.follows .mixedOrders = true) (hok : phOkM l m N (keys L) ps = true) (hds : ((List.range m).all fun i => (opAt l i).dst.isSome) = true) (hqm : q0 < m ∧ q1 < m ∧ q2 < m) (hne : q0 ≠ q1 ∧ q0 ≠ q2 ∧ q1 ≠ q2) (h01 : q0 ∈ ps.getD q1 []) (h12 : q1 ∈ ps.getD q2 []) (hRm : ∀ i v E, R i v E → i < m)
    (hop : ∀ i, i < m → i ≠ q0 → i ≠ q1 → i ≠ q2 → ∀ e, Hop P r M w0 (e :: H) L l R i (ps.getD i []) [] [])
    (hq0 : HopQ P r M w0 (join []) e1 H L l R q0 (ps.getD q0 []) [] [])
    (hq1 : HopC P r M w0 q0 e1 e2 H L l R q1 (ps.getD q1 []) [] [] undef)
    (hq2 : HopC P r M w0 q1 e2 e3 H L l R q2 (ps.getD q2 []) [] [] undef)
    (hk : ∀ vq, HopK P r M w0 (e3 vq :: H) N L df l m (fun i v E => R i v E ∧ (i = q2 → v = vq)) K (List.range m) [] []) : DR P r l.toArray K a w := by
  obtain ⟨hn1, hn2, hn3⟩ := hne
  obtain ⟨hm0, hm1, hm2⟩ := hqm
  have hsome : ∀ i, i < m → (opAt l i).dst.isSome = true := fun i hi => List.all_eq_true.1 hds i (List.mem_range.2 hi)
  have hpsm : ∀ i, i < m → ∀ p ∈ ps.getD i [], p < m := by
    intro i hi p hp
    have hok2 := hok
    simp only [phOkM, Bool.and_eq_true, List.all_eq_true, decide_eq_true_eq, List.mem_range] at hok2
    exact ((hok2.1.1.1.2 i hi).1.2 p hp).2
  have hmap : ∀ (V : Nat → Value) (is : List Nat), (∀ p ∈ is, p < m) → is.map (fun p => (dsv l N p, V p)) = is.map fun p => (dsOf l p, V p) := fun V is h => List.map_congr_left fun p hp => by rw [dsv_eq (hsome p (h p hp))]
  refine wc_phases_mod (M := M) (w0 := w0) (e0 := join []) m ps [q0, q1, q2] hmix hok R (fun i v E hd hR => ?_)
    (fun D V e => (∀ i ∈ D, i < m) ∧ ((q0 ∉ D ∧ q1 ∉ D ∧ q2 ∉ D ∧ e = join []) ∨ (q0 ∈ D ∧ q1 ∉ D ∧ q2 ∉ D ∧ e = e1 (V q0)) ∨ (q0 ∈ D ∧ q1 ∈ D ∧ q2 ∉ D ∧ e = e2 (V q1)) ∨ (q0 ∈ D ∧ q1 ∈ D ∧ q2 ∈ D ∧ e = e3 (V q2))))
    (fun V => ⟨by simp, .inl ⟨by simp, by simp, by simp, rfl⟩⟩) ?_ hfr hst.hollow ?_ ?_ ?_
  · have := hsome i (hRm i v E hR)
    rw [hd] at this; cases this
  · rintro i D V V' e him hmq hV ⟨hlt, hor⟩
    simp only [List.mem_cons, List.not_mem_nil, or_false, not_or] at hmq
    obtain ⟨i0, i1, i2⟩ := hmq
    refine ⟨by simpa using ⟨him, hlt⟩, ?_⟩
    rcases hor with ⟨a0, a1, a2, rfl⟩ | ⟨a0, a1, a2, rfl⟩ | ⟨a0, a1, a2, rfl⟩ | ⟨a0, a1, a2, rfl⟩
    · exact .inl ⟨by simp [a0, Ne.symm i0], by simp [a1, Ne.symm i1], by simp [a2, Ne.symm i2], rfl⟩
    · exact .inr (.inl ⟨by simp [a0], by simp [a1, Ne.symm i1], by simp [a2, Ne.symm i2], by rw [hV q0 a0]⟩)
    · exact .inr (.inr (.inl ⟨by simp [a0], by simp [a1], by simp [a2, Ne.symm i2], by rw [hV q1 a1]⟩))
    · exact .inr (.inr (.inr ⟨by simp [a0], by simp [a1], by simp [a2], by rw [hV q2 a2]⟩))
  · intro i him hmq V E w hR D e hp hG hni hs
    rw [hmap V _ (hpsm i him)]
    simp only [List.mem_cons, List.not_mem_nil, or_false, not_or] at hmq
    have := Hop.use (V := V) (E := E) (hop i him hmq.1 hmq.2.1 hmq.2.2 e) hR w (by simpa using hs.perm List.perm_middle.symm)
    simpa using this
  · intro i him hmq V E w hR D e hp hG hni hs
    obtain ⟨hlt, hor⟩ := hG
    rw [hmap V _ (hpsm i him)]
    simp only [List.mem_cons, List.not_mem_nil, or_false] at hmq
    rcases hmq with rfl | rfl | rfl
    · have he : e = join [] := by rcases hor with h | h | h | h; exact h.2.2.2; exact absurd h.1 hni; exact absurd h.1 hni; exact absurd h.1 hni
      have hd1 : q1 ∉ D := by rcases hor with h | h | h | h; exact h.2.1; exact absurd h.1 hni; exact absurd h.1 hni; exact absurd h.1 hni
      have hd2 : q2 ∉ D := by rcases hor with h | h | h | h; exact h.2.2.1; exact absurd h.1 hni; exact absurd h.1 hni; exact absurd h.1 hni
      subst he
      have := HopQ.use (V := V) (E := E) hq0 hR w (by simpa using hs)
      refine OpR.mono (by simpa using this) ?_
      rintro v w' ⟨h1, h2, h3, h4⟩
      exact ⟨_, h1, h2, h3, h4, fun V' hV' hv => ⟨by simpa using ⟨him, hlt⟩, .inr (.inl ⟨by simp, by simp [hd1, Ne.symm hn1], by simp [hd2, Ne.symm hn2], by rw [hv]⟩)⟩⟩
    · have h0 : q0 ∈ D := hp q0 h01
      have he : e = e1 (V q0) := by rcases hor with h | h | h | h; exact absurd h0 h.1; exact h.2.2.2; exact absurd h.2.1 hni; exact absurd h.2.1 hni
      have hd2 : q2 ∉ D := by rcases hor with h | h | h | h; exact h.2.2.1; exact h.2.2.1; exact h.2.2.1; exact absurd h.2.1 hni
      subst he
      have := HopC.use (V := V) (E := E) hq1 hR (.inl h01) w (by simpa using hs)
      refine OpR.mono (by simpa using this) ?_
      rintro v w' ⟨h1, h2, h3, h4⟩
      exact ⟨_, h1, h2, h3, h4, fun V' hV' hv => ⟨by simpa using ⟨him, hlt⟩, .inr (.inr (.inl ⟨by simp [h0], by simp, by simp [hd2, Ne.symm hn3], by rw [hv]⟩))⟩⟩
    · have h1D : q1 ∈ D := hp q1 h12
      have he : e = e2 (V q1) := by rcases hor with h | h | h | h; exact absurd h1D h.2.1; exact absurd h1D h.2.1; exact h.2.2.2; exact absurd h.2.2.1 hni
      have h0D : q0 ∈ D := by rcases hor with h | h | h | h; exact absurd h1D h.2.1; exact h.1; exact h.1; exact h.1
      subst he
      have := HopC.use (V := V) (E := E) hq2 hR (.inl h12) w (by simpa using hs)
      refine OpR.mono (by simpa using this) ?_
      rintro v w' ⟨h1, h2, h3, h4⟩
      exact ⟨_, h1, h2, h3, h4, fun V' hV' hv => ⟨by simpa using ⟨him, hlt⟩, .inr (.inr (.inr ⟨by simp [h0D], by simp [h1D], by simp, by rw [hv]⟩))⟩⟩
  · rintro D V E e a w hD ⟨_, hor⟩ hR hf hs
    have hqD : ∀ q, q < m → q ∈ D := fun q hq => hD.mem_iff.2 (List.mem_range.2 hq)
    have he : e = e3 (V q2) := by rcases hor with h | h | h | h; exact absurd (hqD _ hm2) h.2.2.1; exact absurd (hqD _ hm2) h.2.2.1; exact absurd (hqD _ hm2) h.2.2.1; exact h.2.2.2
    subst he
    rw [hmap V _ (fun p hp => List.mem_range.1 hp)] at hf
    exact HopK.use (V := V) (E := E) (hk (V q2)) (fun p hp => ⟨hR p (List.mem_range.1 hp), fun h => by rw [h]⟩) a w (by simpa using hf) (by simpa using hs.perm List.perm_middle.symm)
end
end Go.PW
namespace Go.Proofs.YtmcoolbjgeibcaaDoor
open Go.RowKit Go.PW
set_option linter.unusedVariables false
set_option linter.unusedSimpArgs false
set_option maxRecDepth 4000

theorem heads_strs {l : List By} (hl : ∀ s ∈ l, s.length ≤ 60) : ∀ z ∈ (headsH sha l).1, z.length ≤ 93 := by
  induction hL : l.length generalizing l with
  | zero => obtain rfl : l = [] := List.eq_nil_of_length_eq_zero hL; intro z hz; cases hz
  | succ n ih =>
    rcases List.eq_nil_or_concat l with rfl | ⟨l, x, rfl⟩
    · simp at hL
    · rw [List.concat_eq_append] at *
      intro z hz
      rw [headsH_snoc] at hz
      rcases List.mem_cons.1 hz with rfl | hz
      · have h1 := headsH_32 sha_len l
        have h2 := hl x (by simp)
        simp only [List.length_cons, List.length_append]; omega
      · exact ih (fun s hs => hl s (by simp [hs])) (by simpa using hL) z hz
theorem chain_end {a b : List By} (he : (headsH sha a).2 = (headsH sha b).2) (hne : ¬ a = b) (hc : collH sha (headsH sha a).1 (headsH sha b).1 = false) :
    a.length ≠ b.length ∧ (a.length < b.length → sha ((headsH sha b).1.getD (min (headsH sha a).1.length (headsH sha b).1.length) []) = List.replicate 32 0) ∧ (b.length < a.length → sha ((headsH sha a).1.getD (min (headsH sha a).1.length (headsH sha b).1.length) []) = List.replicate 32 0) := by
  have key : ∀ (l : List By) (n : Nat), l[n]?.map sha = some zero32 → sha (l.getD n []) = List.replicate 32 0 := by
    intro l n h
    rw [List.getD_eq_getElem?_getD]
    cases hq : l[n]? with
    | none => rw [hq] at h; cases h
    | some z => rw [hq] at h; injection h
  rw [headsH_len, headsH_len]
  rcases heads_bind sha_len _ a b rfl he hne with h | ⟨h, h2⟩ | ⟨h, h2⟩
  · rw [← collH_iff] at h; rw [h] at hc; cases hc
  · refine ⟨by omega, fun _ => ?_, fun h3 => by omega⟩
    rw [Nat.min_eq_left (by omega)]; exact key _ _ h2
  · refine ⟨by omega, fun h3 => by omega, fun _ => ?_⟩
    rw [Nat.min_eq_right (by omega)]; exact key _ _ h2

set_option maxHeartbeats 4000000 in
/-- dialtone/dialtonelaw02.DigestChainBinding -/
theorem chain_walk (av bv : Value) (xs ys : List By) (w0 : World) (hav : SlAt w0 av 1 (xs.map fun s => [sv s])) (hbv : SlAt w0 bv 1 (ys.map fun s => [sv s])) (hk0 : (blk 0 (kOf.map wv) 88).ok w0) :
    Ret Tryd.prog 11 #[av, bv] w0 fun v w => v = .bool true ∧ Ext No w0 w := by
  refine ret_of Tryd.func11 rfl Tryd.ntmps11 (Nat.le_of_ble_eq_true rfl) fun a hfr => ?_
  replace hfr : Fr 89 [(0, _), (1, _)] [] a := hfr
  replace hst : St No w0 [] w0 := St.init w0
  refine wc_seq_region fun K1 hK1 => ?_
  refine wl_v hfr (by decide) (v_assign rfl) ?_
  clear hfr
  intro a hfr
  refine wl_nil (hK1 _ _ ?_)
  refine wc_seq_region fun K2 hK2 => ?_
  refine wl_callp hfr hst (by decide) Tryd.call12 rfl (sane_ok _ (hst.keepb hk0)) ?_
  clear hfr hst
  intro a w1 hfr hst
  refine wl_v hfr (by decide) (v_assign rfl) ?_
  clear hfr
  intro a hfr
  refine wl_nil (hK2 _ _ ?_)
  refine wc_seq_region fun K3 hK3 => ?_
  refine wl_v hfr (by decide) (v_move rfl) ?_
  clear hfr
  intro a hfr
  refine wl_callm hfr hst (by decide) Tryd.call13 rfl (few_ok av xs 20 _ (hst.arg hav) (by decide)) ?_
  clear hfr hst
  intro a w2 x2 hp hfr hst
  revert x2 hp hfr hst; rintro v1 hp hfr hst
  clear hp
  replace hst : St No w0 [own v1 9 1 ((fewH xs 20).map fun s => [sv s])] w2 := hst
  refine wl_v hfr (by decide) (v_assign rfl) ?_
  clear hfr
  intro a hfr
  refine wl_nil (hK3 _ _ ?_)
  refine wc_seq_region fun K4 hK4 => ?_
  refine wl_v hfr (by decide) (v_move rfl) ?_
  clear hfr
  intro a hfr
  refine wl_callm hfr hst (by decide) Tryd.call13 rfl (few_ok bv ys 20 _ (hst.arg hbv) (by decide)) ?_
  clear hfr hst
  intro a w3 x4 hp hfr hst
  revert x4 hp hfr hst; rintro v3 hp hfr hst
  clear hp
  replace hst : St No w0 [own v3 9 1 ((fewH ys 20).map fun s => [sv s]), own v1 9 1 ((fewH xs 20).map fun s => [sv s])] w3 := hst
  refine wl_v hfr (by decide) (v_assign rfl) ?_
  clear hfr
  intro a hfr
  refine wl_nil (hK4 _ _ ?_)
  refine wc_seq_region fun K5 hK5 => ?_
  refine wl_v hfr (by decide) (v_move rfl) ?_
  clear hfr
  intro a hfr
  refine wl_callm hfr hst (by decide) Tryd.call38 rfl (heads_ok v1 (fewH xs 20) _ (hst.ownAt (i := 1) rfl) (by rw [few_len]; omega) (fun s h => Nat.le_trans (few_all s h) (by decide)) (hst.keepb hk0)) ?_
  clear hfr hst
  intro a w4 x6 hp hfr hst
  revert x6 hp hfr hst; rintro v5 hp hfr hst
  clear hp
  replace hst : St No w0 [own v5 9 1 ((headsH sha (fewH xs 20)).1.map fun s => [sv s]), own v3 9 1 ((fewH ys 20).map fun s => [sv s]), own v1 9 1 ((fewH xs 20).map fun s => [sv s])] w4 := hst
  refine wl_v hfr (by decide) (v_move rfl) ?_
  clear hfr
  intro a hfr
  refine wl_v hfr (by decide) (v_extract rfl rfl) ?_
  clear hfr
  intro a hfr
  refine wl_v hfr (by decide) (v_extract rfl rfl) ?_
  clear hfr
  intro a hfr
  refine wl_v hfr (by decide) (v_assign rfl) ?_
  clear hfr
  intro a hfr
  refine wl_v hfr (by decide) (v_assign rfl) ?_
  clear hfr
  intro a hfr
  refine wl_nil (hK5 _ _ ?_)
  replace hfr : Fr 89 [(4, _), (5, _), (0, _), (1, _), (6, _), (7, _)] [] a := hfr.pick [4, 5, 0, 1, 6, 7]
  refine wc_seq_region fun K6 hK6 => ?_
  refine wl_v hfr (by decide) (v_move rfl) ?_
  clear hfr
  intro a hfr
  refine wl_callm hfr hst (by decide) Tryd.call38 rfl (heads_ok v3 (fewH ys 20) _ (hst.ownAt (i := 1) rfl) (by rw [few_len]; omega) (fun s h => Nat.le_trans (few_all s h) (by decide)) (hst.keepb hk0)) ?_
  clear hfr hst
  intro a w5 x8 hp hfr hst
  revert x8 hp hfr hst; rintro v7 hp hfr hst
  clear hp
  replace hst : St No w0 [own v7 9 1 ((headsH sha (fewH ys 20)).1.map fun s => [sv s]), own v5 9 1 ((headsH sha (fewH xs 20)).1.map fun s => [sv s]), own v3 9 1 ((fewH ys 20).map fun s => [sv s]), own v1 9 1 ((fewH xs 20).map fun s => [sv s])] w5 := hst
  refine wl_v hfr (by decide) (v_move rfl) ?_
  clear hfr
  intro a hfr
  refine wl_v hfr (by decide) (v_extract rfl rfl) ?_
  clear hfr
  intro a hfr
  refine wl_v hfr (by decide) (v_extract rfl rfl) ?_
  clear hfr
  intro a hfr
  refine wl_v hfr (by decide) (v_assign rfl) ?_
  clear hfr
  intro a hfr
  refine wl_v hfr (by decide) (v_assign rfl) ?_
  clear hfr
  intro a hfr
  refine wl_nil (hK6 _ _ ?_)
  refine wc_seq_region fun K7 hK7 => ?_
  refine wl_v hfr (by decide) (v_move rfl) ?_
  clear hfr
  intro a hfr
  refine wl_v hfr (by decide) (v_move rfl) ?_
  clear hfr
  intro a hfr
  refine wl_callp hfr hst (by decide) Tryd.call18 rfl (sames_ok v1 v3 (fewH xs 20) (fewH ys 20) _ (hst.ownAt (i := 3) rfl) (hst.ownAt (i := 2) rfl)) ?_
  clear hfr hst
  intro a w6 hfr hst
  refine wl_v hfr (by decide) (v_assign rfl) ?_
  clear hfr
  intro a hfr
  refine wl_nil (hK7 _ _ ?_)
  replace hfr : Fr 89 [(4, _), (5, _), (0, _), (6, _), (7, _), (8, _), (9, _), (10, _)] [] a := hfr.pick [4, 5, 0, 6, 7, 8, 9, 10]
  replace hst : St No w0 [_, _, _] w6 := hst.mask [true, true, false, true]
  refine wc_seq_k fun K8 hK8 => ?_
  refine wc_seq_region fun K9 hK9 => ?_
  refine wl_v hfr (by decide) (v_move rfl) ?_
  clear hfr
  intro a hfr
  refine wl_v hfr (by decide) (v_len_str rfl rfl (Tryd.runUnderlying9 _)) ?_
  clear hfr
  intro a hfr
  refine wl_v hfr (by decide) ((v_ne rfl rfl).asb (b' := false) (by rw [headsH_32 sha_len]; rfl)) ?_
  clear hfr
  intro a hfr
  refine wl_v hfr (by decide) (v_move rfl) ?_
  clear hfr
  intro a hfr
  refine wl_vn hfr (by decide) rfl (by decide) rfl rfl ?_
  clear hfr
  intro a hfr
  refine wl_vn hfr (by decide) rfl (by decide) rfl rfl ?_
  clear hfr
  intro a hfr
  refine wl_vn hfr (by decide) rfl (by decide) rfl rfl ?_
  clear hfr
  intro a hfr
  refine wl_v hfr (by decide) (v_pick_f rfl rfl) ?_
  clear hfr
  intro a hfr
  refine wl_v hfr (by decide) (v_move rfl) ?_
  clear hfr
  intro a hfr
  refine wl_vy hfr (by decide) rfl (by decide) rfl (v_move rfl) ?_
  clear hfr
  intro a hfr
  refine wl_vy hfr (by decide) rfl (by decide) rfl (v_move rfl) ?_
  clear hfr
  intro a hfr
  rcases Bool.eq_false_or_eq_true (decide ((fewH xs 20) = (fewH ys 20))) with hb9 | hb9
  · rw [hb9] at hfr
    try simp only [Bool.not_eq_true', Bool.not_eq_false', decide_eq_true_eq, decide_eq_false_iff_not] at hb9
    refine wl_vy hfr (by decide) rfl (by decide) rfl (v_move rfl) ?_
    clear hfr
    intro a hfr
    refine wl_vy hfr (by decide) rfl (by decide) rfl (v_move rfl) ?_
    clear hfr
    intro a hfr
    refine wl_vy hfr (by decide) rfl (by decide) rfl ((v_sne rfl rfl).asb (b' := false) (by rw [hb9]; simp)) ?_
    clear hfr
    intro a hfr
    refine wl_vy hfr (by decide) rfl (by decide) rfl (v_pick_t rfl rfl) ?_
    clear hfr
    intro a hfr
    refine wl_v hfr (by decide) (v_pick_f rfl rfl) ?_
    clear hfr
    intro a hfr
    refine wl_nil (hK9 _ _ ?_)
    replace hfr : Fr 89 [(4, _), (5, _), (6, _), (7, _), (8, _), (9, _), (10, _), (46, _)] [] a := hfr.pick [4, 5, 6, 7, 8, 9, 10, 46]
    replace hst : St No w0 [_, _] w6 := hst.mask [true, true, false]
    refine wc_cond_f hfr rfl ?_
    refine wc_skip ?_
    refine hK8 _ _ ?_
    refine wc_seq_k fun K10 hK10 => ?_
    refine wc_seq_region fun K11 hK11 => ?_
    refine wl_v hfr (by decide) (v_move rfl) ?_
    clear hfr
    intro a hfr
    refine wl_v hfr (by decide) (v_move rfl) ?_
    clear hfr
    intro a hfr
    refine wl_vn hfr (by decide) rfl (by decide) rfl rfl ?_
    clear hfr
    intro a hfr
    refine wl_vn hfr (by decide) rfl (by decide) rfl rfl ?_
    clear hfr
    intro a hfr
    refine wl_vn hfr (by decide) rfl (by decide) rfl rfl ?_
    clear hfr
    intro a hfr
    refine wl_v hfr (by decide) (v_pick_t rfl rfl) ?_
    clear hfr
    intro a hfr
    refine wl_nil (hK11 _ _ ?_)
    replace hfr : Fr 89 [(4, _), (5, _), (6, _), (8, _), (52, _)] [] a := hfr.pick [4, 5, 6, 8, 52]
    refine wc_cond_t hfr rfl ?_
    refine wc_seq_region fun K12 hK12 => ?_
    refine wl_v hfr (by decide) (v_move rfl) ?_
    clear hfr
    intro a hfr
    refine wl_v hfr (by decide) (v_assign rfl) ?_
    clear hfr
    intro a hfr
    refine wl_nil (hK12 _ _ ?_)
    refine wc_ret ?_
    refine fin_ret hfr Tryd.results11 (resAre_tmp rfl resAre_nil) ?_
    exact ⟨rfl, hst.ext⟩
  rw [hb9] at hfr
  try simp only [Bool.not_eq_true', Bool.not_eq_false', decide_eq_true_eq, decide_eq_false_iff_not] at hb9
  refine wl_vn hfr (by decide) rfl (by decide) rfl rfl ?_
  clear hfr
  intro a hfr
  refine wl_vn hfr (by decide) rfl (by decide) rfl rfl ?_
  clear hfr
  intro a hfr
  refine wl_vn hfr (by decide) rfl (by decide) rfl rfl ?_
  clear hfr
  intro a hfr
  refine wl_vy hfr (by decide) rfl (by decide) rfl (v_pick_f rfl rfl) ?_
  clear hfr
  intro a hfr
  refine wl_v hfr (by decide) (v_pick_f rfl rfl) ?_
  clear hfr
  intro a hfr
  refine wl_nil (hK9 _ _ ?_)
  replace hfr : Fr 89 [(4, _), (5, _), (6, _), (7, _), (8, _), (9, _), (10, _), (46, _)] [] a := hfr.pick [4, 5, 6, 7, 8, 9, 10, 46]
  replace hst : St No w0 [_, _] w6 := hst.mask [true, true, false]
  refine wc_cond_f hfr rfl ?_
  refine wc_skip ?_
  refine hK8 _ _ ?_
  refine wc_seq_k fun K13 hK13 => ?_
  refine wc_seq_region fun K14 hK14 => ?_
  refine wl_v hfr (by decide) (v_move rfl) ?_
  clear hfr
  intro a hfr
  refine wl_v hfr (by decide) (v_move rfl) ?_
  clear hfr
  intro a hfr
  refine wl_vy hfr (by decide) rfl (by decide) rfl (v_move rfl) ?_
  clear hfr
  intro a hfr
  refine wl_vy hfr (by decide) rfl (by decide) rfl (v_move rfl) ?_
  clear hfr
  intro a hfr
  refine wl_vy hfr (by decide) rfl (by decide) rfl (v_sne rfl rfl) ?_
  clear hfr
  intro a hfr
  refine wl_v hfr (by decide) (v_pick_f rfl rfl) ?_
  clear hfr
  intro a hfr
  refine wl_nil (hK14 _ _ ?_)
  replace hfr : Fr 89 [(4, _), (5, _), (6, _), (8, _), (52, _)] [] a := hfr.pick [4, 5, 6, 8, 52]
  refine wc_cond hfr rfl (fun hc10 => ?_) (fun hc10 => ?_)
  · rw [hc10] at hfr
    try simp only [Bool.not_eq_true', Bool.not_eq_false', decide_eq_true_eq, decide_eq_false_iff_not] at hc10
    refine wc_seq_region fun K15 hK15 => ?_
    refine wl_v hfr (by decide) (v_move rfl) ?_
    clear hfr
    intro a hfr
    refine wl_v hfr (by decide) (v_assign rfl) ?_
    clear hfr
    intro a hfr
    refine wl_nil (hK15 _ _ ?_)
    refine wc_ret ?_
    refine fin_ret hfr Tryd.results11 (resAre_tmp rfl resAre_nil) ?_
    exact ⟨rfl, hst.ext⟩
  rw [hc10] at hfr
  try simp only [Bool.not_eq_true', Bool.not_eq_false', decide_eq_true_eq, decide_eq_false_iff_not] at hc10
  have heq := hc10
  refine wc_skip ?_
  refine hK13 _ _ ?_
  have hlx := headsH_len sha (fewH xs 20)
  have hly := headsH_len sha (fewH ys 20)
  have hcb1 := of_all (heads_strs (l := (fewH xs 20)) few_all) (by decide)
  have hcb2 := of_all (heads_strs (l := (fewH ys 20)) few_all) (by decide)
  refine wc_seq_region fun K16 hK16 => ?_
  refine wl_v hfr (by decide) (v_move rfl) ?_
  clear hfr
  intro a hfr
  refine wl_v hfr (by decide) (v_assign rfl) ?_
  clear hfr
  intro a hfr
  refine wl_nil (hK16 _ _ ?_)
  refine wc_seq_k fun K17 hK17 => ?_
  refine wc_seq_region fun K18 hK18 => ?_
  refine wl_v hfr (by decide) (v_move rfl) ?_
  clear hfr
  intro a hfr
  refine wl_v hfr (by decide) ((v_len_sl (sT := 22) (hst.ownAt (i := 0) rfl) rfl rfl (Tryd.runUnderlying22 _)).asi (m' := ((headsH sha (fewH ys 20)).1.length : Int)) (by simp)) ?_
  clear hfr
  intro a hfr
  refine wl_v hfr (by decide) (v_move rfl) ?_
  clear hfr
  intro a hfr
  refine wl_v hfr (by decide) ((v_len_sl (sT := 22) (hst.ownAt (i := 1) rfl) rfl rfl (Tryd.runUnderlying22 _)).asi (m' := ((headsH sha (fewH xs 20)).1.length : Int)) (by simp)) ?_
  clear hfr
  intro a hfr
  refine wl_v hfr (by decide) (v_gt rfl rfl) ?_
  clear hfr
  intro a hfr
  refine wl_nil (hK18 _ _ ?_)
  replace hfr : Fr 89 [(4, _), (5, _), (6, _), (8, _), (11, _), (59, _)] [] a := hfr.pick [4, 5, 6, 8, 11, 59]
  refine wc_cond hfr rfl (fun hc11 => ?_) (fun hc11 => ?_)
  · rw [hc11] at hfr
    try simp only [Bool.not_eq_true', Bool.not_eq_false', decide_eq_true_eq, decide_eq_false_iff_not] at hc11
    refine wc_region ?_
    refine wl_v hfr (by decide) (v_move rfl) ?_
    clear hfr
    intro a hfr
    refine wl_v hfr (by decide) (v_assign rfl) ?_
    clear hfr
    intro a hfr
    refine wl_nil ?_
    refine hK17 _ _ ?_
    refine wc_seq_k fun K19 hK19 => ?_
    refine wc_of_dr (by kernel_rfl) (dr_of_wd (by kernel_rfl) fun w7 hxz => ?_)
    replace hst : St No w0 [own v7 9 1 ((headsH sha (fewH ys 20)).1.map fun s => [sv s]), own v5 9 1 ((headsH sha (fewH xs 20)).1.map fun s => [sv s])] w7 := hst.grow hxz
    refine wd_sub (k := 0) 4 [1, 3] hfr (by kernel_rfl) (by kernel_rfl) (by kernel_rfl) (by rfl) ?_
    replace hfr : Fr 89 [(4, _), (5, _), (6, _), (8, _), (59, _), (60, _), (11, _)] [] a := hfr.pick [4, 5, 6, 8, 59, 60, 11]
    refine wc_phases_q [] (fun i => match i with | _ => fun _ _ => False) 4 [[], [0], [], [2]] [v5, .int .i64 ((headsH sha (fewH xs 20)).1.length : Int), v7, .int .i64 ((headsH sha (fewH ys 20)).1.length : Int)] hfr hst (by kernel_rfl) (by kernel_rfl) (by kernel_rfl) ?_ ?_ ?_
    · intro i hi hiq
      match i, hi, hiq with
      | 0, _, _ =>
        intro w hst
        exact OpV.g (v_move rfl)
      | 1, _, _ =>
        intro w hst
        exact OpV.g ((v_len_sl (sT := 22) (hst.ownAt (i := 1) rfl) rfl rfl (Tryd.runUnderlying22 _)).asi (m' := ((headsH sha (fewH xs 20)).1.length : Int)) (by simp))
      | 2, _, _ =>
        intro w hst
        exact OpV.g (v_move rfl)
      | 3, _, _ =>
        intro w hst
        exact OpV.g ((v_len_sl (sT := 22) (hst.ownAt (i := 0) rfl) rfl rfl (Tryd.runUnderlying22 _)).asi (m' := ((headsH sha (fewH ys 20)).1.length : Int)) (by simp))
    · intro i hi
      exact absurd hi (by simp)
    clear hfr hst
    intro  a w8 hfr hst
    replace hfr : Fr 89 [(61, v5), (62, .int .i64 ((headsH sha (fewH xs 20)).1.length : Int)), (63, v7), (64, .int .i64 ((headsH sha (fewH ys 20)).1.length : Int)), (4, _), (5, _), (6, _), (8, _), (59, _), (60, _), (11, _)] [] a := hfr
    refine wl_nil ?_
    refine wd_lin (k := 4) 6 [5] (by kernel_rfl) (by kernel_rfl) (by kernel_rfl) ?_
    refine wl_v hfr (by decide) (v_ne rfl rfl) ?_
    clear hfr
    intro a hfr
    refine wl_v hfr (by decide) (v_move rfl) ?_
    clear hfr
    intro a hfr
    refine wl_nil ?_
    rcases Bool.eq_false_or_eq_true (!decide (((headsH sha (fewH xs 20)).1.length : Int) = ((headsH sha (fewH ys 20)).1.length : Int))) with hb12 | hb12
    · rw [hb12] at hfr
      try simp only [Bool.not_eq_true', Bool.not_eq_false', decide_eq_true_eq, decide_eq_false_iff_not] at hb12
      refine wd_sub (k := 6) 17 [14, 16] hfr (by kernel_rfl) (by kernel_rfl) (by kernel_rfl) (by rfl) ?_
      replace hfr : Fr 89 [(4, _), (5, _), (6, _), (8, _), (59, _), (60, _), (11, _), (61, _), (62, _), (63, _), (64, _), (65, _), (66, _)] [] a := hfr.pick [4, 5, 6, 8, 59, 60, 11, 61, 62, 63, 64, 65, 66]
      refine wc_phases_q [9] (fun i => match i with | 9 => pm (fun b : Nat => .slice (some ⟨b, 0, none⟩) 32 32) (fun b => [own (.slice (some ⟨b, 0, none⟩) 32 32) 5 1 ((List.replicate 32 (0 : UInt8)).map fun b => [yv b])]) (fun _ => True) | _ => fun _ _ => False) 11 [[], [], [1], [], [3], [2, 4], [0, 5], [6], [7], [], [9]] [v7, v5, .int .i64 ((headsH sha (fewH xs 20)).1.length : Int), v7, .int .i64 ((headsH sha (fewH ys 20)).1.length : Int), .int .i64 (min ((headsH sha (fewH xs 20)).1.length : Int) ((headsH sha (fewH ys 20)).1.length : Int)), slAddr v7 ((min (headsH sha (fewH xs 20)).1.length (headsH sha (fewH ys 20)).1.length) * 1), sv ((headsH sha (fewH ys 20)).1.getD (min (headsH sha (fewH xs 20)).1.length (headsH sha (fewH ys 20)).1.length) []), sv (sha ((headsH sha (fewH ys 20)).1.getD (min (headsH sha (fewH xs 20)).1.length (headsH sha (fewH ys 20)).1.length) [])), undef, sv (List.replicate 32 (0 : UInt8))] hfr hst (by kernel_rfl) (by kernel_rfl) (by kernel_rfl) ?_ ?_ ?_
      · intro i hi hiq
        match i, hi, hiq with
        | 0, _, _ =>
          intro w hst
          exact OpV.g (v_move rfl)
        | 1, _, _ =>
          intro w hst
          exact OpV.g (v_move rfl)
        | 2, _, _ =>
          intro w hst
          exact OpV.g ((v_len_sl (sT := 22) (hst.ownAt (i := 1) rfl) rfl rfl (Tryd.runUnderlying22 _)).asi (m' := ((headsH sha (fewH xs 20)).1.length : Int)) (by simp))
        | 3, _, _ =>
          intro w hst
          exact OpV.g (v_move rfl)
        | 4, _, _ =>
          intro w hst
          exact OpV.g ((v_len_sl (sT := 22) (hst.ownAt (i := 0) rfl) rfl rfl (Tryd.runUnderlying22 _)).asi (m' := ((headsH sha (fewH ys 20)).1.length : Int)) (by simp))
        | 5, _, _ =>
          intro w hst
          exact OpV.g (v_min2 rfl rfl)
        | 6, _, _ =>
          intro w hst
          exact OpV.g ((v_indexAddr_sl (i := min ((headsH sha (fewH xs 20)).1.length : Int) ((headsH sha (fewH ys 20)).1.length : Int)) (sT := 22) (hst.ownAt (i := 0) rfl) rfl rfl (Tryd.runUnderlying22 _) (Tryd.sizeOf9 _) (by omega) (by rw [List.length_map]; omega)).as (v' := slAddr v7 ((min (headsH sha (fewH xs 20)).1.length (headsH sha (fewH ys 20)).1.length) * 1)) (by rw [show (min ((headsH sha (fewH xs 20)).1.length : Int) ((headsH sha (fewH ys 20)).1.length : Int)).toNat = (min (headsH sha (fewH xs 20)).1.length (headsH sha (fewH ys 20)).1.length) from by omega]))
        | 7, _, _ =>
          intro w hst
          exact OpV.g (v_load_sl1 (u := sv ((headsH sha (fewH ys 20)).1.getD (min (headsH sha (fewH xs 20)).1.length (headsH sha (fewH ys 20)).1.length) [])) (i := (min (headsH sha (fewH xs 20)).1.length (headsH sha (fewH ys 20)).1.length)) (j := 0) (hst.ownAt (i := 0) rfl) (by rw [List.length_map]; omega) rfl (Tryd.isAgg9 _) (by rw [el_at []]; rfl))
        | 8, _, _ =>
          intro w hst
          exact g_callp Tryd.call30 rfl (sum_ok ((headsH sha (fewH ys 20)).1.getD (min (headsH sha (fewH xs 20)).1.length (headsH sha (fewH ys 20)).1.length) []) _ (hst.keepb hk0) (by first | exact hcb1 _ (by omega) | exact hcb2 _ (by omega)))
        | 9, _, h => exact absurd (by simp) h
        | 10, _, _ =>
          rintro _ _ ⟨b13, rfl, -, rfl⟩
          intro w hst
          exact OpV.g (v_conv_sls (hst.ownAt (i := 0) rfl) rfl Tryd.underlying46 Tryd.underlying5 Tryd.underlying9)
      · intro i hi
        simp only [List.mem_cons, List.not_mem_nil, or_false] at hi
        subst hi
        · intro w hst
          exact g_makeSlice (n := 32) (E := 5) (sz := 1) rfl rfl ((List.replicate 32 (0 : UInt8)).map fun b => [yv b]) (fun _ => by kernel_rfl) (by intro e he; first | (simp at he; simp [he]; done) | (obtain ⟨_, _, rfl⟩ := List.mem_map.1 he; rfl)) (by simp) (by decide)
      clear hfr hst
      rintro _ _ ⟨b13, rfl, -, rfl⟩ a w9 hfr hst
      replace hfr : Fr 89 [(67, v7), (68, v5), (69, .int .i64 ((headsH sha (fewH xs 20)).1.length : Int)), (70, v7), (71, .int .i64 ((headsH sha (fewH ys 20)).1.length : Int)), (72, .int .i64 (min ((headsH sha (fewH xs 20)).1.length : Int) ((headsH sha (fewH ys 20)).1.length : Int))), (73, slAddr v7 ((min (headsH sha (fewH xs 20)).1.length (headsH sha (fewH ys 20)).1.length) * 1)), (74, sv ((headsH sha (fewH ys 20)).1.getD (min (headsH sha (fewH xs 20)).1.length (headsH sha (fewH ys 20)).1.length) [])), (75, sv (sha ((headsH sha (fewH ys 20)).1.getD (min (headsH sha (fewH xs 20)).1.length (headsH sha (fewH ys 20)).1.length) []))), (76, _), (77, sv (List.replicate 32 (0 : UInt8))), (4, _), (5, _), (6, _), (8, _), (59, _), (60, _), (11, _), (61, _), (62, _), (63, _), (64, _), (65, _), (66, _)] [] a := hfr
      replace hst : St No w0 [_, _, _] w9 := hst
      refine wl_nil ?_
      refine wd_lin (k := 17) 20 [19] (by kernel_rfl) (by kernel_rfl) (by kernel_rfl) ?_
      refine wl_vy hfr (by decide) rfl (by decide) rfl (v_seq rfl rfl) ?_
      clear hfr
      intro a hfr
      refine wl_v hfr (by decide) (v_pick_t rfl rfl) ?_
      clear hfr
      intro a hfr
      refine wl_v hfr (by decide) (v_assign rfl) ?_
      clear hfr
      intro a hfr
      refine wl_nil ?_
      refine wd_end (by kernel_rfl) ?_
      refine hK19 _ _ ?_
      replace hfr : Fr 89 [(4, _), (5, _), (6, _), (8, _), (12, _)] [] a := hfr.pick [4, 5, 6, 8, 12]
      replace hst : St No w0 [_, _] w9 := hst.mask [false, true, true]
      refine wc_seq_region fun K20 hK20 => ?_
      refine wl_v hfr (by decide) (v_move rfl) ?_
      clear hfr
      intro a hfr
      refine wl_v hfr (by decide) (v_move rfl) ?_
      clear hfr
      intro a hfr
      refine wl_vy hfr (by decide) rfl (by decide) rfl (v_move rfl) ?_
      clear hfr
      intro a hfr
      refine wl_vy hfr (by decide) rfl (by decide) rfl (v_move rfl) ?_
      clear hfr
      intro a hfr
      refine wl_callpy hfr hst (by decide) rfl (by decide) rfl Tryd.call27 rfl (collide_ok v5 v7 _ _ _ (hst.ownAt (i := 1) rfl) (hst.ownAt (i := 0) rfl) hcb1 hcb2 (hst.keepb hk0)) ?_
      clear hfr hst
      intro a w10 hfr hst
      refine wl_vy hfr (by decide) rfl (by decide) rfl (v_move rfl) ?_
      clear hfr
      intro a hfr
      rcases Bool.eq_false_or_eq_true ((List.range (min (headsH sha (fewH xs 20)).1.length (headsH sha (fewH ys 20)).1.length)).any fun j => decide ((headsH sha (fewH xs 20)).1.getD j [] ≠ (headsH sha (fewH ys 20)).1.getD j []) && decide (sha ((headsH sha (fewH xs 20)).1.getD j []) = sha ((headsH sha (fewH ys 20)).1.getD j []))) with hb14 | hb14
      · rw [hb14] at hfr
        try simp only [Bool.not_eq_true', Bool.not_eq_false', decide_eq_true_eq, decide_eq_false_iff_not] at hb14
        refine wl_vn hfr (by decide) rfl (by decide) rfl rfl ?_
        clear hfr
        intro a hfr
        refine wl_vy hfr (by decide) rfl (by decide) rfl (v_pick_t rfl rfl) ?_
        clear hfr
        intro a hfr
        refine wl_v hfr (by decide) (v_pick_t rfl rfl) ?_
        clear hfr
        intro a hfr
        refine wl_v hfr (by decide) (v_assign rfl) ?_
        clear hfr
        intro a hfr
        refine wl_nil (hK20 _ _ ?_)
        replace hfr : Fr 89 [(4, _)] [] a := hfr.pick [4]
        replace hst : St No w0 [] w10 := hst.mask [false, false]
        refine wc_ret ?_
        refine fin_ret hfr Tryd.results11 (resAre_tmp rfl resAre_nil) ?_
        exact ⟨rfl, hst.ext⟩
      rw [hb14] at hfr
      try simp only [Bool.not_eq_true', Bool.not_eq_false', decide_eq_true_eq, decide_eq_false_iff_not] at hb14
      rw [← coll_dec] at hb14
      have hce := chain_end heq hb9 hb14
      refine wl_vy hfr (by decide) rfl (by decide) rfl (v_move rfl) ?_
      clear hfr
      intro a hfr
      refine wl_vy hfr (by decide) rfl (by decide) rfl (v_pick_f rfl rfl) ?_
      clear hfr
      intro a hfr
      refine wl_v hfr (by decide) (v_pick_t rfl rfl) ?_
      clear hfr
      intro a hfr
      refine wl_v hfr (by decide) (v_assign rfl) ?_
      clear hfr
      intro a hfr
      refine wl_nil (hK20 _ _ ?_)
      replace hfr : Fr 89 [(4, _)] [] a := hfr.pick [4]
      replace hst : St No w0 [] w10 := hst.mask [false, false]
      refine wc_ret ?_
      refine fin_ret hfr Tryd.results11 (resAre_tmp rfl resAre_nil) ?_
      exact ⟨by simp only [retv]; rw [decide_eq_true (by first | exact hce.2.1 (by omega) | exact hce.2.2 (by omega))], hst.ext⟩
    rw [hb12] at hfr
    try simp only [Bool.not_eq_true', Bool.not_eq_false', decide_eq_true_eq, decide_eq_false_iff_not] at hb12
    replace hfr : Fr 89 [(4, .bool false), (5, .bool true), (6, v5), (8, v7), (59, .bool true), (60, v7), (11, v7), (61, v5), (62, .int .i64 ((headsH sha (fewH xs 20)).1.length : Int)), (63, v7), (64, .int .i64 ((headsH sha (fewH ys 20)).1.length : Int)), (65, .bool false), (66, .bool false)] [] a := hfr.pick [4, 5, 6, 8, 59, 60, 11, 61, 62, 63, 64, 65, 66]
    refine wd_skip (k := 6) 17 [14, 16] hfr (by kernel_rfl) (by kernel_rfl) (by kernel_rfl) (by rfl) ?_
    clear hfr
    intro a hfr
    replace hfr : Fr 89 [(67, undef), (68, undef), (69, undef), (70, undef), (71, undef), (72, undef), (73, undef), (74, undef), (75, undef), (76, undef), (77, undef), (4, .bool false), (5, .bool true), (6, v5), (8, v7), (59, .bool true), (60, v7), (11, v7), (61, v5), (62, .int .i64 ((headsH sha (fewH xs 20)).1.length : Int)), (63, v7), (64, .int .i64 ((headsH sha (fewH ys 20)).1.length : Int)), (65, .bool false), (66, .bool false)] [] a := hfr
    refine wd_lin (k := 17) 20 [19] (by kernel_rfl) (by kernel_rfl) (by kernel_rfl) ?_
    refine wl_vn hfr (by decide) rfl (by decide) rfl rfl ?_
    clear hfr
    intro a hfr
    refine wl_v hfr (by decide) (v_pick_f rfl rfl) ?_
    clear hfr
    intro a hfr
    refine wl_v hfr (by decide) (v_assign rfl) ?_
    clear hfr
    intro a hfr
    refine wl_nil ?_
    refine wd_end (by kernel_rfl) ?_
    refine hK19 _ _ ?_
    replace hfr : Fr 89 [(4, _), (5, _), (6, _), (8, _), (12, _)] [] a := hfr.pick [4, 5, 6, 8, 12]
    refine wc_seq_region fun K21 hK21 => ?_
    refine wl_v hfr (by decide) (v_move rfl) ?_
    clear hfr
    intro a hfr
    refine wl_v hfr (by decide) (v_move rfl) ?_
    clear hfr
    intro a hfr
    refine wl_vy hfr (by decide) rfl (by decide) rfl (v_move rfl) ?_
    clear hfr
    intro a hfr
    refine wl_vy hfr (by decide) rfl (by decide) rfl (v_move rfl) ?_
    clear hfr
    intro a hfr
    refine wl_callpy hfr hst (by decide) rfl (by decide) rfl Tryd.call27 rfl (collide_ok v5 v7 _ _ _ (hst.ownAt (i := 1) rfl) (hst.ownAt (i := 0) rfl) hcb1 hcb2 (hst.keepb hk0)) ?_
    clear hfr hst
    intro a w11 hfr hst
    refine wl_vy hfr (by decide) rfl (by decide) rfl (v_move rfl) ?_
    clear hfr
    intro a hfr
    rcases Bool.eq_false_or_eq_true ((List.range (min (headsH sha (fewH xs 20)).1.length (headsH sha (fewH ys 20)).1.length)).any fun j => decide ((headsH sha (fewH xs 20)).1.getD j [] ≠ (headsH sha (fewH ys 20)).1.getD j []) && decide (sha ((headsH sha (fewH xs 20)).1.getD j []) = sha ((headsH sha (fewH ys 20)).1.getD j []))) with hb15 | hb15
    · rw [hb15] at hfr
      try simp only [Bool.not_eq_true', Bool.not_eq_false', decide_eq_true_eq, decide_eq_false_iff_not] at hb15
      refine wl_vn hfr (by decide) rfl (by decide) rfl rfl ?_
      clear hfr
      intro a hfr
      refine wl_vy hfr (by decide) rfl (by decide) rfl (v_pick_t rfl rfl) ?_
      clear hfr
      intro a hfr
      refine wl_v hfr (by decide) (v_pick_t rfl rfl) ?_
      clear hfr
      intro a hfr
      refine wl_v hfr (by decide) (v_assign rfl) ?_
      clear hfr
      intro a hfr
      refine wl_nil (hK21 _ _ ?_)
      replace hfr : Fr 89 [(4, _)] [] a := hfr.pick [4]
      replace hst : St No w0 [] w11 := hst.mask [false, false]
      refine wc_ret ?_
      refine fin_ret hfr Tryd.results11 (resAre_tmp rfl resAre_nil) ?_
      exact ⟨rfl, hst.ext⟩
    rw [hb15] at hfr
    try simp only [Bool.not_eq_true', Bool.not_eq_false', decide_eq_true_eq, decide_eq_false_iff_not] at hb15
    rw [← coll_dec] at hb15
    have hce := chain_end heq hb9 hb15
    exact absurd (show (fewH xs 20).length = (fewH ys 20).length by omega) hce.1
  rw [hc11] at hfr
  try simp only [Bool.not_eq_true', Bool.not_eq_false', decide_eq_true_eq, decide_eq_false_iff_not] at hc11
  refine wc_skip ?_
  refine hK17 _ _ ?_
  refine wc_seq_k fun K22 hK22 => ?_
  refine wc_of_dr (by kernel_rfl) (dr_of_wd (by kernel_rfl) fun w12 hxz => ?_)
  replace hst : St No w0 [own v7 9 1 ((headsH sha (fewH ys 20)).1.map fun s => [sv s]), own v5 9 1 ((headsH sha (fewH xs 20)).1.map fun s => [sv s])] w12 := hst.grow hxz
  refine wd_sub (k := 0) 4 [1, 3] hfr (by kernel_rfl) (by kernel_rfl) (by kernel_rfl) (by rfl) ?_
  replace hfr : Fr 89 [(4, _), (5, _), (6, _), (8, _), (11, _), (59, _)] [] a := hfr.pick [4, 5, 6, 8, 11, 59]
  refine wc_phases_q [] (fun i => match i with | _ => fun _ _ => False) 4 [[], [0], [], [2]] [v5, .int .i64 ((headsH sha (fewH xs 20)).1.length : Int), v7, .int .i64 ((headsH sha (fewH ys 20)).1.length : Int)] hfr hst (by kernel_rfl) (by kernel_rfl) (by kernel_rfl) ?_ ?_ ?_
  · intro i hi hiq
    match i, hi, hiq with
    | 0, _, _ =>
      intro w hst
      exact OpV.g (v_move rfl)
    | 1, _, _ =>
      intro w hst
      exact OpV.g ((v_len_sl (sT := 22) (hst.ownAt (i := 1) rfl) rfl rfl (Tryd.runUnderlying22 _)).asi (m' := ((headsH sha (fewH xs 20)).1.length : Int)) (by simp))
    | 2, _, _ =>
      intro w hst
      exact OpV.g (v_move rfl)
    | 3, _, _ =>
      intro w hst
      exact OpV.g ((v_len_sl (sT := 22) (hst.ownAt (i := 0) rfl) rfl rfl (Tryd.runUnderlying22 _)).asi (m' := ((headsH sha (fewH ys 20)).1.length : Int)) (by simp))
  · intro i hi
    exact absurd hi (by simp)
  clear hfr hst
  intro  a w13 hfr hst
  replace hfr : Fr 89 [(61, v5), (62, .int .i64 ((headsH sha (fewH xs 20)).1.length : Int)), (63, v7), (64, .int .i64 ((headsH sha (fewH ys 20)).1.length : Int)), (4, _), (5, _), (6, _), (8, _), (11, _), (59, _)] [] a := hfr
  refine wl_nil ?_
  refine wd_lin (k := 4) 6 [5] (by kernel_rfl) (by kernel_rfl) (by kernel_rfl) ?_
  refine wl_v hfr (by decide) (v_ne rfl rfl) ?_
  clear hfr
  intro a hfr
  refine wl_v hfr (by decide) (v_move rfl) ?_
  clear hfr
  intro a hfr
  refine wl_nil ?_
  rcases Bool.eq_false_or_eq_true (!decide (((headsH sha (fewH xs 20)).1.length : Int) = ((headsH sha (fewH ys 20)).1.length : Int))) with hb16 | hb16
  · rw [hb16] at hfr
    try simp only [Bool.not_eq_true', Bool.not_eq_false', decide_eq_true_eq, decide_eq_false_iff_not] at hb16
    refine wd_sub (k := 6) 17 [14, 16] hfr (by kernel_rfl) (by kernel_rfl) (by kernel_rfl) (by rfl) ?_
    replace hfr : Fr 89 [(4, _), (5, _), (6, _), (8, _), (11, _), (59, _), (61, _), (62, _), (63, _), (64, _), (65, _), (66, _)] [] a := hfr.pick [4, 5, 6, 8, 11, 59, 61, 62, 63, 64, 65, 66]
    refine wc_phases_q [9] (fun i => match i with | 9 => pm (fun b : Nat => .slice (some ⟨b, 0, none⟩) 32 32) (fun b => [own (.slice (some ⟨b, 0, none⟩) 32 32) 5 1 ((List.replicate 32 (0 : UInt8)).map fun b => [yv b])]) (fun _ => True) | _ => fun _ _ => False) 11 [[], [], [1], [], [3], [2, 4], [0, 5], [6], [7], [], [9]] [v5, v5, .int .i64 ((headsH sha (fewH xs 20)).1.length : Int), v7, .int .i64 ((headsH sha (fewH ys 20)).1.length : Int), .int .i64 (min ((headsH sha (fewH xs 20)).1.length : Int) ((headsH sha (fewH ys 20)).1.length : Int)), slAddr v5 ((min (headsH sha (fewH xs 20)).1.length (headsH sha (fewH ys 20)).1.length) * 1), sv ((headsH sha (fewH xs 20)).1.getD (min (headsH sha (fewH xs 20)).1.length (headsH sha (fewH ys 20)).1.length) []), sv (sha ((headsH sha (fewH xs 20)).1.getD (min (headsH sha (fewH xs 20)).1.length (headsH sha (fewH ys 20)).1.length) [])), undef, sv (List.replicate 32 (0 : UInt8))] hfr hst (by kernel_rfl) (by kernel_rfl) (by kernel_rfl) ?_ ?_ ?_
    · intro i hi hiq
      match i, hi, hiq with
      | 0, _, _ =>
        intro w hst
        exact OpV.g (v_move rfl)
      | 1, _, _ =>
        intro w hst
        exact OpV.g (v_move rfl)
      | 2, _, _ =>
        intro w hst
        exact OpV.g ((v_len_sl (sT := 22) (hst.ownAt (i := 1) rfl) rfl rfl (Tryd.runUnderlying22 _)).asi (m' := ((headsH sha (fewH xs 20)).1.length : Int)) (by simp))
      | 3, _, _ =>
        intro w hst
        exact OpV.g (v_move rfl)
      | 4, _, _ =>
        intro w hst
        exact OpV.g ((v_len_sl (sT := 22) (hst.ownAt (i := 0) rfl) rfl rfl (Tryd.runUnderlying22 _)).asi (m' := ((headsH sha (fewH ys 20)).1.length : Int)) (by simp))
      | 5, _, _ =>
        intro w hst
        exact OpV.g (v_min2 rfl rfl)
      | 6, _, _ =>
        intro w hst
        exact OpV.g ((v_indexAddr_sl (i := min ((headsH sha (fewH xs 20)).1.length : Int) ((headsH sha (fewH ys 20)).1.length : Int)) (sT := 22) (hst.ownAt (i := 1) rfl) rfl rfl (Tryd.runUnderlying22 _) (Tryd.sizeOf9 _) (by omega) (by rw [List.length_map]; omega)).as (v' := slAddr v5 ((min (headsH sha (fewH xs 20)).1.length (headsH sha (fewH ys 20)).1.length) * 1)) (by rw [show (min ((headsH sha (fewH xs 20)).1.length : Int) ((headsH sha (fewH ys 20)).1.length : Int)).toNat = (min (headsH sha (fewH xs 20)).1.length (headsH sha (fewH ys 20)).1.length) from by omega]))
      | 7, _, _ =>
        intro w hst
        exact OpV.g (v_load_sl1 (u := sv ((headsH sha (fewH xs 20)).1.getD (min (headsH sha (fewH xs 20)).1.length (headsH sha (fewH ys 20)).1.length) [])) (i := (min (headsH sha (fewH xs 20)).1.length (headsH sha (fewH ys 20)).1.length)) (j := 0) (hst.ownAt (i := 1) rfl) (by rw [List.length_map]; omega) rfl (Tryd.isAgg9 _) (by rw [el_at []]; rfl))
      | 8, _, _ =>
        intro w hst
        exact g_callp Tryd.call30 rfl (sum_ok ((headsH sha (fewH xs 20)).1.getD (min (headsH sha (fewH xs 20)).1.length (headsH sha (fewH ys 20)).1.length) []) _ (hst.keepb hk0) (by first | exact hcb1 _ (by omega) | exact hcb2 _ (by omega)))
      | 9, _, h => exact absurd (by simp) h
      | 10, _, _ =>
        rintro _ _ ⟨b17, rfl, -, rfl⟩
        intro w hst
        exact OpV.g (v_conv_sls (hst.ownAt (i := 0) rfl) rfl Tryd.underlying46 Tryd.underlying5 Tryd.underlying9)
    · intro i hi
      simp only [List.mem_cons, List.not_mem_nil, or_false] at hi
      subst hi
      · intro w hst
        exact g_makeSlice (n := 32) (E := 5) (sz := 1) rfl rfl ((List.replicate 32 (0 : UInt8)).map fun b => [yv b]) (fun _ => by kernel_rfl) (by intro e he; first | (simp at he; simp [he]; done) | (obtain ⟨_, _, rfl⟩ := List.mem_map.1 he; rfl)) (by simp) (by decide)
    clear hfr hst
    rintro _ _ ⟨b17, rfl, -, rfl⟩ a w14 hfr hst
    replace hfr : Fr 89 [(67, v5), (68, v5), (69, .int .i64 ((headsH sha (fewH xs 20)).1.length : Int)), (70, v7), (71, .int .i64 ((headsH sha (fewH ys 20)).1.length : Int)), (72, .int .i64 (min ((headsH sha (fewH xs 20)).1.length : Int) ((headsH sha (fewH ys 20)).1.length : Int))), (73, slAddr v5 ((min (headsH sha (fewH xs 20)).1.length (headsH sha (fewH ys 20)).1.length) * 1)), (74, sv ((headsH sha (fewH xs 20)).1.getD (min (headsH sha (fewH xs 20)).1.length (headsH sha (fewH ys 20)).1.length) [])), (75, sv (sha ((headsH sha (fewH xs 20)).1.getD (min (headsH sha (fewH xs 20)).1.length (headsH sha (fewH ys 20)).1.length) []))), (76, _), (77, sv (List.replicate 32 (0 : UInt8))), (4, _), (5, _), (6, _), (8, _), (11, _), (59, _), (61, _), (62, _), (63, _), (64, _), (65, _), (66, _)] [] a := hfr
    replace hst : St No w0 [_, _, _] w14 := hst
    refine wl_nil ?_
    refine wd_lin (k := 17) 20 [19] (by kernel_rfl) (by kernel_rfl) (by kernel_rfl) ?_
    refine wl_vy hfr (by decide) rfl (by decide) rfl (v_seq rfl rfl) ?_
    clear hfr
    intro a hfr
    refine wl_v hfr (by decide) (v_pick_t rfl rfl) ?_
    clear hfr
    intro a hfr
    refine wl_v hfr (by decide) (v_assign rfl) ?_
    clear hfr
    intro a hfr
    refine wl_nil ?_
    refine wd_end (by kernel_rfl) ?_
    refine hK22 _ _ ?_
    replace hfr : Fr 89 [(4, _), (5, _), (6, _), (8, _), (12, _)] [] a := hfr.pick [4, 5, 6, 8, 12]
    replace hst : St No w0 [_, _] w14 := hst.mask [false, true, true]
    refine wc_seq_region fun K23 hK23 => ?_
    refine wl_v hfr (by decide) (v_move rfl) ?_
    clear hfr
    intro a hfr
    refine wl_v hfr (by decide) (v_move rfl) ?_
    clear hfr
    intro a hfr
    refine wl_vy hfr (by decide) rfl (by decide) rfl (v_move rfl) ?_
    clear hfr
    intro a hfr
    refine wl_vy hfr (by decide) rfl (by decide) rfl (v_move rfl) ?_
    clear hfr
    intro a hfr
    refine wl_callpy hfr hst (by decide) rfl (by decide) rfl Tryd.call27 rfl (collide_ok v5 v7 _ _ _ (hst.ownAt (i := 1) rfl) (hst.ownAt (i := 0) rfl) hcb1 hcb2 (hst.keepb hk0)) ?_
    clear hfr hst
    intro a w15 hfr hst
    refine wl_vy hfr (by decide) rfl (by decide) rfl (v_move rfl) ?_
    clear hfr
    intro a hfr
    rcases Bool.eq_false_or_eq_true ((List.range (min (headsH sha (fewH xs 20)).1.length (headsH sha (fewH ys 20)).1.length)).any fun j => decide ((headsH sha (fewH xs 20)).1.getD j [] ≠ (headsH sha (fewH ys 20)).1.getD j []) && decide (sha ((headsH sha (fewH xs 20)).1.getD j []) = sha ((headsH sha (fewH ys 20)).1.getD j []))) with hb18 | hb18
    · rw [hb18] at hfr
      try simp only [Bool.not_eq_true', Bool.not_eq_false', decide_eq_true_eq, decide_eq_false_iff_not] at hb18
      refine wl_vn hfr (by decide) rfl (by decide) rfl rfl ?_
      clear hfr
      intro a hfr
      refine wl_vy hfr (by decide) rfl (by decide) rfl (v_pick_t rfl rfl) ?_
      clear hfr
      intro a hfr
      refine wl_v hfr (by decide) (v_pick_t rfl rfl) ?_
      clear hfr
      intro a hfr
      refine wl_v hfr (by decide) (v_assign rfl) ?_
      clear hfr
      intro a hfr
      refine wl_nil (hK23 _ _ ?_)
      replace hfr : Fr 89 [(4, _)] [] a := hfr.pick [4]
      replace hst : St No w0 [] w15 := hst.mask [false, false]
      refine wc_ret ?_
      refine fin_ret hfr Tryd.results11 (resAre_tmp rfl resAre_nil) ?_
      exact ⟨rfl, hst.ext⟩
    rw [hb18] at hfr
    try simp only [Bool.not_eq_true', Bool.not_eq_false', decide_eq_true_eq, decide_eq_false_iff_not] at hb18
    rw [← coll_dec] at hb18
    have hce := chain_end heq hb9 hb18
    refine wl_vy hfr (by decide) rfl (by decide) rfl (v_move rfl) ?_
    clear hfr
    intro a hfr
    refine wl_vy hfr (by decide) rfl (by decide) rfl (v_pick_f rfl rfl) ?_
    clear hfr
    intro a hfr
    refine wl_v hfr (by decide) (v_pick_t rfl rfl) ?_
    clear hfr
    intro a hfr
    refine wl_v hfr (by decide) (v_assign rfl) ?_
    clear hfr
    intro a hfr
    refine wl_nil (hK23 _ _ ?_)
    replace hfr : Fr 89 [(4, _)] [] a := hfr.pick [4]
    replace hst : St No w0 [] w15 := hst.mask [false, false]
    refine wc_ret ?_
    refine fin_ret hfr Tryd.results11 (resAre_tmp rfl resAre_nil) ?_
    exact ⟨by simp only [retv]; rw [decide_eq_true (by first | exact hce.2.1 (by omega) | exact hce.2.2 (by omega))], hst.ext⟩
  rw [hb16] at hfr
  try simp only [Bool.not_eq_true', Bool.not_eq_false', decide_eq_true_eq, decide_eq_false_iff_not] at hb16
  replace hfr : Fr 89 [(4, .bool false), (5, .bool true), (6, v5), (8, v7), (11, v5), (59, .bool false), (61, v5), (62, .int .i64 ((headsH sha (fewH xs 20)).1.length : Int)), (63, v7), (64, .int .i64 ((headsH sha (fewH ys 20)).1.length : Int)), (65, .bool false), (66, .bool false)] [] a := hfr.pick [4, 5, 6, 8, 11, 59, 61, 62, 63, 64, 65, 66]
  refine wd_skip (k := 6) 17 [14, 16] hfr (by kernel_rfl) (by kernel_rfl) (by kernel_rfl) (by rfl) ?_
  clear hfr
  intro a hfr
  replace hfr : Fr 89 [(67, undef), (68, undef), (69, undef), (70, undef), (71, undef), (72, undef), (73, undef), (74, undef), (75, undef), (76, undef), (77, undef), (4, .bool false), (5, .bool true), (6, v5), (8, v7), (11, v5), (59, .bool false), (61, v5), (62, .int .i64 ((headsH sha (fewH xs 20)).1.length : Int)), (63, v7), (64, .int .i64 ((headsH sha (fewH ys 20)).1.length : Int)), (65, .bool false), (66, .bool false)] [] a := hfr
  refine wd_lin (k := 17) 20 [19] (by kernel_rfl) (by kernel_rfl) (by kernel_rfl) ?_
  refine wl_vn hfr (by decide) rfl (by decide) rfl rfl ?_
  clear hfr
  intro a hfr
  refine wl_v hfr (by decide) (v_pick_f rfl rfl) ?_
  clear hfr
  intro a hfr
  refine wl_v hfr (by decide) (v_assign rfl) ?_
  clear hfr
  intro a hfr
  refine wl_nil ?_
  refine wd_end (by kernel_rfl) ?_
  refine hK22 _ _ ?_
  replace hfr : Fr 89 [(4, _), (5, _), (6, _), (8, _), (12, _)] [] a := hfr.pick [4, 5, 6, 8, 12]
  refine wc_seq_region fun K24 hK24 => ?_
  refine wl_v hfr (by decide) (v_move rfl) ?_
  clear hfr
  intro a hfr
  refine wl_v hfr (by decide) (v_move rfl) ?_
  clear hfr
  intro a hfr
  refine wl_vy hfr (by decide) rfl (by decide) rfl (v_move rfl) ?_
  clear hfr
  intro a hfr
  refine wl_vy hfr (by decide) rfl (by decide) rfl (v_move rfl) ?_
  clear hfr
  intro a hfr
  refine wl_callpy hfr hst (by decide) rfl (by decide) rfl Tryd.call27 rfl (collide_ok v5 v7 _ _ _ (hst.ownAt (i := 1) rfl) (hst.ownAt (i := 0) rfl) hcb1 hcb2 (hst.keepb hk0)) ?_
  clear hfr hst
  intro a w16 hfr hst
  refine wl_vy hfr (by decide) rfl (by decide) rfl (v_move rfl) ?_
  clear hfr
  intro a hfr
  rcases Bool.eq_false_or_eq_true ((List.range (min (headsH sha (fewH xs 20)).1.length (headsH sha (fewH ys 20)).1.length)).any fun j => decide ((headsH sha (fewH xs 20)).1.getD j [] ≠ (headsH sha (fewH ys 20)).1.getD j []) && decide (sha ((headsH sha (fewH xs 20)).1.getD j []) = sha ((headsH sha (fewH ys 20)).1.getD j []))) with hb19 | hb19
  · rw [hb19] at hfr
    try simp only [Bool.not_eq_true', Bool.not_eq_false', decide_eq_true_eq, decide_eq_false_iff_not] at hb19
    refine wl_vn hfr (by decide) rfl (by decide) rfl rfl ?_
    clear hfr
    intro a hfr
    refine wl_vy hfr (by decide) rfl (by decide) rfl (v_pick_t rfl rfl) ?_
    clear hfr
    intro a hfr
    refine wl_v hfr (by decide) (v_pick_t rfl rfl) ?_
    clear hfr
    intro a hfr
    refine wl_v hfr (by decide) (v_assign rfl) ?_
    clear hfr
    intro a hfr
    refine wl_nil (hK24 _ _ ?_)
    replace hfr : Fr 89 [(4, _)] [] a := hfr.pick [4]
    replace hst : St No w0 [] w16 := hst.mask [false, false]
    refine wc_ret ?_
    refine fin_ret hfr Tryd.results11 (resAre_tmp rfl resAre_nil) ?_
    exact ⟨rfl, hst.ext⟩
  rw [hb19] at hfr
  try simp only [Bool.not_eq_true', Bool.not_eq_false', decide_eq_true_eq, decide_eq_false_iff_not] at hb19
  rw [← coll_dec] at hb19
  have hce := chain_end heq hb9 hb19
  exact absurd (show (fewH xs 20).length = (fewH ys 20).length by omega) hce.1
end Go.Proofs.YtmcoolbjgeibcaaDoor
namespace Go.Proofs.YtmcoolbjgeibcaaDoor
open Go.RowKit Go.PW
set_option linter.unusedVariables false
set_option linter.unusedSimpArgs false
set_option maxRecDepth 4000

theorem ext_in (lv : Value) (ls : List By) (i : Nat) (w0 : World) (hlv : SlAt w0 lv 1 (ls.map fun s => [sv s])) (hi : i ≤ ls.length) (hln : ls.length ≤ 1000) (hls : ∀ s ∈ ls, s.length ≤ 40000000) (hk0 : (blk 0 (kOf.map wv) 88).ok w0) :
    Ret Tryd.prog 16 #[lv, .int .i64 (i : Int)] w0 (MemR w0 (fun v : Value => .tuple #[v, .int .i64 0]) (fun v => [own v 9 1 ((extH sha ls i).map fun s => [sv s])]) (fun _ => True)) := by
  by_cases h : i = 0
  · subst h
    refine (ext_zero lv ls w0 hlv).mono ?_
    rintro v w ⟨rfl, hx⟩
    exact ⟨.slice none 0 0, rfl, trivial, hx, entsIn_one (own_nil _ _ _) (fun k hk => by cases hk)⟩
  · have := ext_ok lv ls i w0 hlv (by omega) hi hln hls hk0
    rw [extH, if_neg h]; exact this
theorem few_big {xs : List By} {m : Nat} : ∀ s ∈ fewH xs m, s.length ≤ 40000000 := fun s h => Nat.le_trans (few_all s h) (by decide)
theorem snoc_big {xs : List By} {s : By} (h : ∀ s ∈ xs, s.length ≤ 40000000) (hs : s.length ≤ 40000000) : ∀ z ∈ xs ++ [s], z.length ≤ 40000000 := by
  intro z hz; rcases List.mem_append.1 hz with h1 | h1
  · exact h z h1
  · rw [List.mem_singleton.1 h1]; exact hs
theorem binN_of {n : Nat} (h : n ≠ 0) : binN n = Nat.log2 n + 1 := if_neg h
theorem vx_out {root : By} {m n : Int} {p : List By} {old : By} (h : ¬ (0 ≤ m ∧ m ≤ n)) : verifyExtH sha old m root n p = false := vx_bad fun h2 => h ⟨h2.1, h2.2.1⟩
theorem v_out {root s : By} {i n : Int} {p : List By} (h : ¬ (0 ≤ i ∧ i < n)) : verifyH sha root n i s p = false := verify_bad fun h2 => h ⟨h2.1, h2.2.1⟩
theorem ext_short {l : List By} {k : Nat} (h : k ≤ l.length) : (extH sha l k).length ≤ 2 * binN l.length := by
  have := ext_len (S := sha) h
  unfold binN; exact this

theorem binN_le {n : Nat} (h : n ≤ 1000) : binN n ≤ 10 := by
  unfold binN
  split
  · omega
  · have := (Nat.log2_lt (n := n) (k := 10) (by omega)).2 (by omega)
    omega

set_option maxHeartbeats 4000000 in
/-- dialtone/dialtonelaw02.DigestSplit -/
theorem split_walk (s : By) (av : Value) (xs : List By) (w0 : World) (hsl : s.length ≤ 140737488355328) (hav : SlAt w0 av 1 (xs.map fun s => [sv s])) (hk0 : (blk 0 (kOf.map wv) 88).ok w0) :
    Ret Tryd.prog 9 #[av, sv s] w0 fun v w => v = .bool true ∧ Ext No w0 w := by
  refine ret_of Tryd.func9 rfl Tryd.ntmps9 (Nat.le_of_ble_eq_true rfl) fun a hfr => ?_
  replace hfr : Fr 81 [(0, _), (1, _)] [] a := hfr
  replace hst : St No w0 [] w0 := St.init w0
  refine wc_seq_region fun K1 hK1 => ?_
  refine wl_v hfr (by decide) (v_assign rfl) ?_
  clear hfr
  intro a hfr
  refine wl_nil (hK1 _ _ ?_)
  refine wc_seq_region fun K2 hK2 => ?_
  refine wl_callp hfr hst (by decide) Tryd.call12 rfl (sane_ok _ (hst.keepb hk0)) ?_
  clear hfr hst
  intro a w1 hfr hst
  refine wl_v hfr (by decide) (v_assign rfl) ?_
  clear hfr
  intro a hfr
  refine wl_nil (hK2 _ _ ?_)
  refine wc_seq_region fun K3 hK3 => ?_
  refine wl_v hfr (by decide) (v_move rfl) ?_
  clear hfr
  intro a hfr
  refine wl_callm hfr hst (by decide) Tryd.call13 rfl (few_ok av xs 40 _ (hst.arg hav) (by decide)) ?_
  clear hfr hst
  intro a w2 x2 hp hfr hst
  revert x2 hp hfr hst; rintro v1 hp hfr hst
  clear hp
  replace hst : St No w0 [own v1 9 1 ((fewH xs 40).map fun s => [sv s])] w2 := hst
  refine wl_v hfr (by decide) (v_assign rfl) ?_
  clear hfr
  intro a hfr
  refine wl_nil (hK3 _ _ ?_)
  refine wc_seq_region fun K4 hK4 => ?_
  refine wl_v hfr (by decide) (v_move rfl) ?_
  clear hfr
  intro a hfr
  refine wl_v hfr (by decide) (v_move rfl) ?_
  clear hfr
  intro a hfr
  refine wl_v hfr (by decide) (v_len_str rfl rfl (Tryd.runUnderlying9 _)) ?_
  clear hfr
  intro a hfr
  refine wl_v hfr (by decide) (v_min2 rfl rfl) ?_
  clear hfr
  intro a hfr
  refine wl_v hfr (by decide) ((v_slice_str (l := 0) (h := (min s.length 60)) rfl rfl rfl Tryd.underlying9 (.inl ⟨rfl, rfl⟩) (.inr (by rw [show (min (s.length : Int) 60 : Int) = (((min s.length 60) : Nat) : Int) from by omega] <;> rfl)) (by omega) (by first | omega | exact Nat.min_le_left _ _)).as (v' := sv (s.take (min s.length 60))) rfl) ?_
  clear hfr
  intro a hfr
  refine wl_v hfr (by decide) (v_assign rfl) ?_
  clear hfr
  intro a hfr
  refine wl_nil (hK4 _ _ ?_)
  replace hfr : Fr 81 [(4, _), (5, _), (0, _), (1, _)] [] a := hfr.pick [4, 5, 0, 1]
  obtain ⟨sc, scd, scl⟩ : ∃ x, s.take (min s.length 60) = x ∧ x.length ≤ 60 := ⟨_, rfl, by rw [List.length_take]; omega⟩
  rw [scd] at hfr
  refine wc_seq_region fun K5 hK5 => ?_
  refine wl_buildSlice (E := 9) (sz := 1) rfl [] (by kernel_rfl) (by simp) rfl (by decide) (by decide) hfr hst ?_
  clear hfr hst
  intro a w3 hfr hst
  refine wl_v hfr (by decide) (v_move rfl) ?_
  clear hfr
  intro a hfr
  refine wl_append_any (i := 0) (sT := 22) (inf := Tryd.t9) (z := .string (⟨#[]⟩)) rfl rfl rfl (hst.ownAt (i := 1) rfl) Tryd.underlying22 rfl rfl rfl rfl (by decide) (by simp [Value.oneCell', yv, wv, sv]) (by have hby : Tryd.t9.bytes = 16 := rfl; have hfl := few_len xs 40; simp only [big, hby, List.length_append, List.length_map, List.length_cons, List.length_nil]; omega) (by have hby : Tryd.t9.bytes = 16 := rfl; have hfl := few_len xs 40; simp only [big, hby, List.length_append, List.length_map, List.length_cons, List.length_nil]; omega) (by decide) hfr hst ?_
  clear hfr hst
  intro a w4 s3 hfr hst
  refine wl_v hfr (by decide) (v_move rfl) ?_
  clear hfr
  intro a hfr
  refine wl_buildSlice (E := 9) (sz := 1) rfl [[sv sc]] (by kernel_rfl) (by simp) rfl (by decide) (by decide) hfr hst ?_
  clear hfr hst
  intro a w5 hfr hst
  refine wl_append (i := 1) (sT := 22) (inf := Tryd.t9) (z := .string (⟨#[]⟩)) (b := 0) (off := 0) (m := 0) (c := 0) rfl rfl rfl (hst.ownAt (i := 0) rfl) (by simp) Tryd.underlying22 rfl rfl rfl rfl (by decide) (by simp [Value.oneCell', yv, wv, sv]) (by have hby : Tryd.t9.bytes = 16 := rfl; have hfl := few_len xs 40; simp only [big, hby, List.length_append, List.length_map, List.length_cons, List.length_nil]; omega) (by have hby : Tryd.t9.bytes = 16 := rfl; have hfl := few_len xs 40; simp only [big, hby, List.length_append, List.length_map, List.length_cons, List.length_nil]; omega) (by decide) hfr hst fun a w6 s4 hfr hst _ => ?_
  refine wl_v hfr (by decide) (v_assign rfl) ?_
  clear hfr
  intro a hfr
  refine wl_nil (hK5 _ _ ?_)
  replace hfr : Fr 81 [(4, _), (5, _), (0, _), (1, _), (6, _)] [] a := hfr.pick [4, 5, 0, 1, 6]
  replace hst : St No w0 [_, _] w6 := hst.mask [false, true, true]
  rw [show (([]) ++ ((fewH xs 40).map fun s => [sv s])) ++ ([[sv sc]]) = ((fewH xs 40 ++ [sc]).map fun s => [sv s]) from by simp] at hst
  have hlA : (fewH xs 40).length ≤ 40 := by rw [few_len]; omega
  have hlM : (fewH xs 40 ++ [sc]).length = (fewH xs 40).length + 1 := by simp
  have hcA : ∀ s ∈ (fewH xs 40), s.length ≤ 40000000 := few_big
  have hcM : ∀ s ∈ (fewH xs 40 ++ [sc]), s.length ≤ 40000000 := snoc_big hcA (by omega)
  have hvx := verify_ext sha_len (l := (fewH xs 40 ++ [sc])) (m := (fewH xs 40).length) (by omega)
  rw [List.take_left] at hvx
  refine wc_seq_region fun K6 hK6 => ?_
  refine wl_v hfr (by decide) (v_move rfl) ?_
  clear hfr
  intro a hfr
  refine wl_v hfr (by decide) (v_move rfl) ?_
  clear hfr
  intro a hfr
  refine wl_v hfr (by decide) ((v_len_sl (sT := 22) (hst.ownAt (i := 1) rfl) rfl rfl (Tryd.runUnderlying22 _)).asi (m' := ((fewH xs 40).length : Int)) (by simp)) ?_
  clear hfr
  intro a hfr
  refine wl_callm hfr hst (by decide) Tryd.call16 rfl (ext_in s4 (fewH xs 40 ++ [sc]) (fewH xs 40).length _ (hst.ownAt (i := 0) rfl) (by omega) (by omega) (by first | exact hcA | exact hcM) (hst.keepb hk0)) ?_
  clear hfr hst
  intro a w7 x6 hp hfr hst
  revert x6 hp hfr hst; rintro v5 hp hfr hst
  clear hp
  replace hst : St No w0 [own v5 9 1 ((extH sha (fewH xs 40 ++ [sc]) (fewH xs 40).length).map fun s => [sv s]), own s4 9 1 ((fewH xs 40 ++ [sc]).map fun s => [sv s]), own v1 9 1 ((fewH xs 40).map fun s => [sv s])] w7 := hst
  refine wl_v hfr (by decide) (v_move rfl) ?_
  clear hfr
  intro a hfr
  refine wl_v hfr (by decide) (v_extract rfl rfl) ?_
  clear hfr
  intro a hfr
  refine wl_v hfr (by decide) (v_extract rfl rfl) ?_
  clear hfr
  intro a hfr
  refine wl_v hfr (by decide) (v_assign rfl) ?_
  clear hfr
  intro a hfr
  refine wl_v hfr (by decide) (v_assign rfl) ?_
  clear hfr
  intro a hfr
  refine wl_nil (hK6 _ _ ?_)
  replace hfr : Fr 81 [(4, _), (5, _), (0, _), (1, _), (6, _), (7, _), (8, _)] [] a := hfr.pick [4, 5, 0, 1, 6, 7, 8]
  refine wc_seq_k fun K7 hK7 => ?_
  refine wc_seq_region fun K8 hK8 => ?_
  refine wl_v hfr (by decide) (v_move rfl) ?_
  clear hfr
  intro a hfr
  refine wl_v hfr (by decide) ((v_ne rfl rfl).asb (b' := false) rfl) ?_
  clear hfr
  intro a hfr
  refine wl_v hfr (by decide) (v_move rfl) ?_
  clear hfr
  intro a hfr
  refine wl_vy hfr (by decide) rfl (by decide) rfl (v_move rfl) ?_
  clear hfr
  intro a hfr
  refine wl_callpy hfr hst (by decide) rfl (by decide) rfl Tryd.call19 rfl (root_ok v1 (fewH xs 40) _ (hst.ownAt (i := 2) rfl) (by first | omega | (simp only [List.length_take, List.length_drop]; omega)) (by intro k hk; have h := getD_mem (d := []) hk; first | exact hcA _ h | exact hcM _ h | exact hcA _ (List.mem_of_mem_take h) | exact hcM _ (List.mem_of_mem_take h) | exact hcM _ (List.mem_of_mem_drop h)) (hst.keepb hk0)) ?_
  clear hfr hst
  intro a w8 hfr hst
  refine wl_vy hfr (by decide) rfl (by decide) rfl (v_move rfl) ?_
  clear hfr
  intro a hfr
  refine wl_vy hfr (by decide) rfl (by decide) rfl ((v_len_sl (sT := 22) (hst.ownAt (i := 2) rfl) rfl rfl (Tryd.runUnderlying22 _)).asi (m' := ((fewH xs 40).length : Int)) (by simp)) ?_
  clear hfr
  intro a hfr
  refine wl_vy hfr (by decide) rfl (by decide) rfl (v_move rfl) ?_
  clear hfr
  intro a hfr
  refine wl_callpy hfr hst (by decide) rfl (by decide) rfl Tryd.call19 rfl (root_ok s4 (fewH xs 40 ++ [sc]) _ (hst.ownAt (i := 1) rfl) (by first | omega | (simp only [List.length_take, List.length_drop]; omega)) (by intro k hk; have h := getD_mem (d := []) hk; first | exact hcA _ h | exact hcM _ h | exact hcA _ (List.mem_of_mem_take h) | exact hcM _ (List.mem_of_mem_take h) | exact hcM _ (List.mem_of_mem_drop h)) (hst.keepb hk0)) ?_
  clear hfr hst
  intro a w9 hfr hst
  refine wl_vy hfr (by decide) rfl (by decide) rfl (v_move rfl) ?_
  clear hfr
  intro a hfr
  refine wl_vy hfr (by decide) rfl (by decide) rfl ((v_len_sl (sT := 22) (hst.ownAt (i := 1) rfl) rfl rfl (Tryd.runUnderlying22 _)).asi (m' := ((fewH xs 40 ++ [sc]).length : Int)) (by simp)) ?_
  clear hfr
  intro a hfr
  refine wl_vy hfr (by decide) rfl (by decide) rfl (v_move rfl) ?_
  clear hfr
  intro a hfr
  refine wl_callpy hfr hst (by decide) rfl (by decide) rfl Tryd.call23 rfl (ret_b hvx (verifyx_ok _ _ _ _ v5 _ _ (hst.ownAt (i := 0) rfl) (by have := ext_short (l := (fewH xs 40 ++ [sc])) (k := (fewH xs 40).length) (by omega); have := binN_le (n := (fewH xs 40 ++ [sc]).length) (by omega); omega) (by omega) (hst.keepb hk0))) ?_
  clear hfr hst
  intro a w10 hfr hst
  refine wl_vy hfr (by decide) rfl (by decide) rfl ((v_not rfl).asb (b' := false) rfl) ?_
  clear hfr
  intro a hfr
  refine wl_v hfr (by decide) (v_pick_f rfl rfl) ?_
  clear hfr
  intro a hfr
  refine wl_nil (hK8 _ _ ?_)
  replace hfr : Fr 81 [(4, _), (5, _), (0, _), (1, _), (6, _), (45, _)] [] a := hfr.pick [4, 5, 0, 1, 6, 45]
  replace hst : St No w0 [_, _] w10 := hst.mask [false, true, true]
  refine wc_cond_f hfr rfl ?_
  refine wc_skip ?_
  refine hK7 _ _ ?_
  refine wc_seq_k fun K9 hK9 => ?_
  refine wc_seq_region fun K10 hK10 => ?_
  refine wl_v hfr (by decide) (v_move rfl) ?_
  clear hfr
  intro a hfr
  refine wl_v hfr (by decide) ((v_len_sl (sT := 22) (hst.ownAt (i := 1) rfl) rfl rfl (Tryd.runUnderlying22 _)).asi (m' := ((fewH xs 40).length : Int)) (by simp)) ?_
  clear hfr
  intro a hfr
  refine wl_v hfr (by decide) (v_eq rfl rfl) ?_
  clear hfr
  intro a hfr
  refine wl_nil (hK10 _ _ ?_)
  refine wc_cond hfr rfl (fun hc7 => ?_) (fun hc7 => ?_)
  · rw [hc7] at hfr
    try simp only [Bool.not_eq_true', Bool.not_eq_false', decide_eq_true_eq, decide_eq_false_iff_not] at hc7
    have hA0 : (fewH xs 40) = [] := List.eq_nil_of_length_eq_zero (by omega)
    refine wc_seq_region fun K11 hK11 => ?_
    refine wl_v hfr (by decide) (v_move rfl) ?_
    clear hfr
    intro a hfr
    refine wl_v hfr (by decide) (v_move rfl) ?_
    clear hfr
    intro a hfr
    refine wl_vy hfr (by decide) rfl (by decide) rfl (v_move rfl) ?_
    clear hfr
    intro a hfr
    refine wl_callpy hfr hst (by decide) rfl (by decide) rfl Tryd.call19 rfl (root_ok s4 (fewH xs 40 ++ [sc]) _ (hst.ownAt (i := 0) rfl) (by first | omega | (simp only [List.length_take, List.length_drop]; omega)) (by intro k hk; have h := getD_mem (d := []) hk; first | exact hcA _ h | exact hcM _ h | exact hcA _ (List.mem_of_mem_take h) | exact hcM _ (List.mem_of_mem_take h) | exact hcM _ (List.mem_of_mem_drop h)) (hst.keepb hk0)) ?_
    clear hfr hst
    intro a w11 hfr hst
    refine wl_vy hfr (by decide) rfl (by decide) rfl (v_move rfl) ?_
    clear hfr
    intro a hfr
    refine wl_callpy hfr hst (by decide) rfl (by decide) rfl Tryd.call29 rfl (leaf_ok sc _ (by omega) (hst.keepb hk0)) ?_
    clear hfr hst
    intro a w12 hfr hst
    refine wl_vy hfr (by decide) rfl (by decide) rfl ((v_seq rfl rfl).asb (b' := true) (by rw [hA0]; exact decide_eq_true rfl)) ?_
    clear hfr
    intro a hfr
    refine wl_v hfr (by decide) (v_pick_t rfl rfl) ?_
    clear hfr
    intro a hfr
    refine wl_v hfr (by decide) (v_move rfl) ?_
    clear hfr
    intro a hfr
    refine wl_vy hfr (by decide) rfl (by decide) rfl (v_move rfl) ?_
    clear hfr
    intro a hfr
    refine wl_callpy hfr hst (by decide) rfl (by decide) rfl Tryd.call19 rfl (root_ok v1 (fewH xs 40) _ (hst.ownAt (i := 1) rfl) (by first | omega | (simp only [List.length_take, List.length_drop]; omega)) (by intro k hk; have h := getD_mem (d := []) hk; first | exact hcA _ h | exact hcM _ h | exact hcA _ (List.mem_of_mem_take h) | exact hcM _ (List.mem_of_mem_take h) | exact hcM _ (List.mem_of_mem_drop h)) (hst.keepb hk0)) ?_
    clear hfr hst
    intro a w13 hfr hst
    refine wl_callpy hfr hst (by decide) rfl (by decide) rfl Tryd.call30 rfl (sum_ok [] _ (hst.keepb hk0) (by simp)) ?_
    clear hfr hst
    intro a w14 hfr hst
    refine wl_vy hfr (by decide) rfl (by decide) rfl ((v_seq rfl rfl).asb (b' := true) (by rw [hA0]; exact decide_eq_true rfl)) ?_
    clear hfr
    intro a hfr
    refine wl_v hfr (by decide) (v_pick_t rfl rfl) ?_
    clear hfr
    intro a hfr
    refine wl_v hfr (by decide) (v_assign rfl) ?_
    clear hfr
    intro a hfr
    refine wl_nil (hK11 _ _ ?_)
    replace hfr : Fr 81 [(5, _), (6, _), (4, _)] [] a := hfr.pick [5, 6, 4]
    replace hst : St No w0 [_] w14 := hst.mask [true, false]
    refine wc_ret ?_
    refine fin_ret hfr Tryd.results9 (resAre_tmp rfl resAre_nil) ?_
    exact ⟨by rfl, hst.ext⟩
  rw [hc7] at hfr
  try simp only [Bool.not_eq_true', Bool.not_eq_false', decide_eq_true_eq, decide_eq_false_iff_not] at hc7
  refine wc_skip ?_
  refine hK9 _ _ ?_
  refine wc_seq_region fun K12 hK12 => ?_
  refine wl_v hfr (by decide) (v_move rfl) ?_
  clear hfr
  intro a hfr
  refine wl_v hfr (by decide) ((v_len_sl (sT := 22) (hst.ownAt (i := 0) rfl) rfl rfl (Tryd.runUnderlying22 _)).asi (m' := ((fewH xs 40 ++ [sc]).length : Int)) (by simp)) ?_
  clear hfr
  intro a hfr
  refine wl_callp hfr hst (by decide) Tryd.call31 rfl (left02_ok (fewH xs 40 ++ [sc]).length _ (by omega) (by omega)) ?_
  clear hfr hst
  intro a w15 hfr hst
  refine wl_v hfr (by decide) (v_assign rfl) ?_
  clear hfr
  intro a hfr
  refine wl_nil (hK12 _ _ ?_)
  replace hfr : Fr 81 [(4, _), (5, _), (6, _), (9, _)] [] a := hfr.pick [4, 5, 6, 9]
  replace hst : St No w0 [_] w15 := hst.mask [true, false]
  refine wc_seq_k fun K13 hK13 => ?_
  have hlt := lft_lt (n := (fewH xs 40 ++ [sc]).length) (by omega)
  have hlp := lft_pos (fewH xs 40 ++ [sc]).length
  refine wc_of_dr (by kernel_rfl) (dr_of_wd (by kernel_rfl) fun w16 hxz => ?_)
  replace hst : St No w0 [own s4 9 1 ((fewH xs 40 ++ [sc]).map fun s => [sv s])] w16 := hst.grow hxz
  refine wd_lin (k := 0) 2 [1] (by kernel_rfl) (by kernel_rfl) (by kernel_rfl) ?_
  refine wl_v hfr (by decide) (v_move rfl) ?_
  clear hfr
  intro a hfr
  refine wl_v hfr (by decide) (v_move rfl) ?_
  clear hfr
  intro a hfr
  refine wl_nil ?_
  refine wd_sub (k := 2) 11 [7, 10] hfr (by kernel_rfl) (by kernel_rfl) (by kernel_rfl) (by rfl) ?_
  replace hfr : Fr 81 [(4, _), (5, _), (6, _), (9, _), (66, _), (67, _)] [] a := hfr.pick [4, 5, 6, 9, 66, 67]
  refine wc_phases_q [] (fun i => match i with | _ => fun _ _ => False) 9 [[], [0], [], [], [2, 3], [4], [], [], [6, 7]] [s4, sv (rootH sha (fewH xs 40 ++ [sc])), s4, .int .i64 (lft (fewH xs 40 ++ [sc]).length : Int), (cut s4 1 0 ((lft (fewH xs 40 ++ [sc]).length : Int).toNat) (slCap s4)), sv (rootH sha ((fewH xs 40 ++ [sc]).take ((lft (fewH xs 40 ++ [sc]).length : Int).toNat))), s4, .int .i64 (lft (fewH xs 40 ++ [sc]).length : Int), (cut s4 1 ((lft (fewH xs 40 ++ [sc]).length : Int).toNat) (fewH xs 40 ++ [sc]).length (slCap s4))] hfr hst (by kernel_rfl) (by kernel_rfl) (by kernel_rfl) ?_ ?_ ?_
  · intro i hi hiq
    match i, hi, hiq with
    | 0, _, _ =>
      intro w hst
      exact OpV.g (v_move rfl)
    | 1, _, _ =>
      intro w hst
      exact g_callp Tryd.call19 rfl (root_ok s4 (fewH xs 40 ++ [sc]) _ (hst.ownAt (i := 0) rfl) (by first | omega | (simp only [List.length_take, List.length_drop]; omega)) (by intro k hk; have h := getD_mem (d := []) hk; first | exact hcA _ h | exact hcM _ h | exact hcA _ (List.mem_of_mem_take h) | exact hcM _ (List.mem_of_mem_take h) | exact hcM _ (List.mem_of_mem_drop h)) (hst.keepb hk0))
    | 2, _, _ =>
      intro w hst
      exact OpV.g (v_move rfl)
    | 3, _, _ =>
      intro w hst
      exact OpV.g (v_move rfl)
    | 4, _, _ =>
      intro w hst
      exact OpV.g (v_slice_at (l := 0) (h := (lft (fewH xs 40 ++ [sc]).length : Int).toNat) (hst.ownAt (i := 0) rfl) rfl rfl rfl Tryd.underlying22 (by kernel_rfl) (.inl ⟨rfl, rfl⟩) (.inr (by rw [show ((lft (fewH xs 40 ++ [sc]).length : Int) : Int) = (((lft (fewH xs 40 ++ [sc]).length : Int).toNat : Nat) : Int) from by omega] <;> rfl)) (Nat.zero_le _) (by first | (rw [List.length_map]; omega) | (simp <;> omega)))
    | 5, _, _ =>
      intro w hst
      exact g_callp Tryd.call19 rfl (root_ok (cut s4 1 0 ((lft (fewH xs 40 ++ [sc]).length : Int).toNat) (slCap s4)) ((fewH xs 40 ++ [sc]).take ((lft (fewH xs 40 ++ [sc]).length : Int).toNat)) _ ((hst.ownAt (i := 0) rfl).cut0 (h := (lft (fewH xs 40 ++ [sc]).length : Int).toNat) (by first | omega | (rw [List.length_reverse]; omega) | simp | (simp; omega))) (by first | omega | (simp only [List.length_take, List.length_drop]; omega)) (by intro k hk; have h := getD_mem (d := []) hk; first | exact hcA _ h | exact hcM _ h | exact hcA _ (List.mem_of_mem_take h) | exact hcM _ (List.mem_of_mem_take h) | exact hcM _ (List.mem_of_mem_drop h)) (hst.keepb hk0))
    | 6, _, _ =>
      intro w hst
      exact OpV.g (v_move rfl)
    | 7, _, _ =>
      intro w hst
      exact OpV.g (v_move rfl)
    | 8, _, _ =>
      intro w hst
      exact OpV.g (v_slice_at (l := (lft (fewH xs 40 ++ [sc]).length : Int).toNat) (h := (fewH xs 40 ++ [sc]).length) (hst.ownAt (i := 0) rfl) rfl rfl rfl Tryd.underlying22 (by kernel_rfl) (.inr (by rw [show ((lft (fewH xs 40 ++ [sc]).length : Int) : Int) = (((lft (fewH xs 40 ++ [sc]).length : Int).toNat : Nat) : Int) from by omega] <;> rfl)) (.inl ⟨rfl, by simp⟩) (by omega) (by simp))
  · intro i hi
    exact absurd hi (by simp)
  clear hfr hst
  intro  a w17 hfr hst
  replace hfr : Fr 81 [(68, s4), (69, sv (rootH sha (fewH xs 40 ++ [sc]))), (70, s4), (71, .int .i64 (lft (fewH xs 40 ++ [sc]).length : Int)), (72, (cut s4 1 0 ((lft (fewH xs 40 ++ [sc]).length : Int).toNat) (slCap s4))), (73, sv (rootH sha ((fewH xs 40 ++ [sc]).take ((lft (fewH xs 40 ++ [sc]).length : Int).toNat)))), (74, s4), (75, .int .i64 (lft (fewH xs 40 ++ [sc]).length : Int)), (76, (cut s4 1 ((lft (fewH xs 40 ++ [sc]).length : Int).toNat) (fewH xs 40 ++ [sc]).length (slCap s4))), (4, _), (5, _), (6, _), (9, _), (66, _), (67, _)] [] a := hfr
  refine wl_nil ?_
  refine wd_lin (k := 11) 16 [15] (by kernel_rfl) (by kernel_rfl) (by kernel_rfl) ?_
  refine wl_callpy hfr hst (by decide) rfl (by decide) rfl Tryd.call19 rfl (root_ok (cut s4 1 ((lft (fewH xs 40 ++ [sc]).length : Int).toNat) (fewH xs 40 ++ [sc]).length (slCap s4)) ((fewH xs 40 ++ [sc]).drop ((lft (fewH xs 40 ++ [sc]).length : Int).toNat)) _ ((hst.ownAt (i := 0) rfl).cutd (l := (lft (fewH xs 40 ++ [sc]).length : Int).toNat) (by first | omega | (rw [List.length_reverse]; omega) | simp | (simp; omega))) (by first | omega | (simp only [List.length_take, List.length_drop]; omega)) (by intro k hk; have h := getD_mem (d := []) hk; first | exact hcA _ h | exact hcM _ h | exact hcA _ (List.mem_of_mem_take h) | exact hcM _ (List.mem_of_mem_take h) | exact hcM _ (List.mem_of_mem_drop h)) (hst.keepb hk0)) ?_
  clear hfr hst
  intro a w18 hfr hst
  refine wl_callpy hfr hst (by decide) rfl (by decide) rfl Tryd.call32 rfl (node_ok (rootH sha ((fewH xs 40 ++ [sc]).take ((lft (fewH xs 40 ++ [sc]).length : Int).toNat))) (rootH sha ((fewH xs 40 ++ [sc]).drop ((lft (fewH xs 40 ++ [sc]).length : Int).toNat))) _ (by rw [root_len sha_len]; decide) (by rw [root_len sha_len]; decide) (hst.keepb hk0)) ?_
  clear hfr hst
  intro a w19 hfr hst
  refine wl_vy hfr (by decide) rfl (by decide) rfl ((v_seq rfl rfl).asb (b' := true) (by exact decide_eq_true (rootH_two sha (by omega)))) ?_
  clear hfr
  intro a hfr
  refine wl_v hfr (by decide) (v_pick_t rfl rfl) ?_
  clear hfr
  intro a hfr
  refine wl_v hfr (by decide) (v_assign rfl) ?_
  clear hfr
  intro a hfr
  refine wl_nil ?_
  refine wd_end (by kernel_rfl) ?_
  refine hK13 _ _ ?_
  replace hfr : Fr 81 [(4, _)] [] a := hfr.pick [4]
  replace hst : St No w0 [] w19 := hst.mask [false]
  refine wc_ret ?_
  refine fin_ret hfr Tryd.results9 (resAre_tmp rfl resAre_nil) ?_
  exact ⟨by rfl, hst.ext⟩

set_option maxHeartbeats 4000000 in
/-- dialtone/dialtonelaw02.DigestProofAccepted -/
theorem accepted_walk (i : Int) (av : Value) (xs : List By) (w0 : World) (hi : i ≤ 9223372036854775807) (hav : SlAt w0 av 1 (xs.map fun s => [sv s])) (hk0 : (blk 0 (kOf.map wv) 88).ok w0) :
    Ret Tryd.prog 5 #[av, .int .i64 i] w0 fun v w => v = .bool true ∧ Ext No w0 w := by
  refine ret_of Tryd.func5 rfl Tryd.ntmps5 (Nat.le_of_ble_eq_true rfl) fun a hfr => ?_
  replace hfr : Fr 137 [(0, _), (1, _)] [] a := hfr
  replace hst : St No w0 [] w0 := St.init w0
  refine wc_seq_region fun K1 hK1 => ?_
  refine wl_v hfr (by decide) (v_assign rfl) ?_
  clear hfr
  intro a hfr
  refine wl_nil (hK1 _ _ ?_)
  refine wc_seq_region fun K2 hK2 => ?_
  refine wl_callp hfr hst (by decide) Tryd.call12 rfl (sane_ok _ (hst.keepb hk0)) ?_
  clear hfr hst
  intro a w1 hfr hst
  refine wl_v hfr (by decide) (v_assign rfl) ?_
  clear hfr
  intro a hfr
  refine wl_nil (hK2 _ _ ?_)
  refine wc_seq_region fun K3 hK3 => ?_
  refine wl_v hfr (by decide) (v_move rfl) ?_
  clear hfr
  intro a hfr
  refine wl_callm hfr hst (by decide) Tryd.call13 rfl (few_ok av xs 40 _ (hst.arg hav) (by decide)) ?_
  clear hfr hst
  intro a w2 x2 hp hfr hst
  revert x2 hp hfr hst; rintro v1 hp hfr hst
  clear hp
  replace hst : St No w0 [own v1 9 1 ((fewH xs 40).map fun s => [sv s])] w2 := hst
  refine wl_v hfr (by decide) (v_assign rfl) ?_
  clear hfr
  intro a hfr
  refine wl_nil (hK3 _ _ ?_)
  have hlA : (fewH xs 40).length ≤ 40 := by rw [few_len]; omega
  have hcA : ∀ s ∈ (fewH xs 40), s.length ≤ 40000000 := few_big
  refine wc_seq_region fun K4 hK4 => ?_
  refine wl_v hfr (by decide) (v_move rfl) ?_
  clear hfr
  intro a hfr
  refine wl_callp hfr hst (by decide) Tryd.call19 rfl (root_ok v1 (fewH xs 40) _ (hst.ownAt (i := 0) rfl) (by first | omega | (simp only [List.length_take, List.length_drop]; omega)) (by intro k hk; have h := getD_mem (d := []) hk; first | exact hcA _ h | exact hcM _ h | exact hcA _ (List.mem_of_mem_take h) | exact hcM _ (List.mem_of_mem_take h) | exact hcM _ (List.mem_of_mem_drop h)) (hst.keepb hk0)) ?_
  clear hfr hst
  intro a w3 hfr hst
  refine wl_v hfr (by decide) (v_assign rfl) ?_
  clear hfr
  intro a hfr
  refine wl_nil (hK4 _ _ ?_)
  refine wc_seq_k fun K5 hK5 => ?_
  refine wc_seq_region fun K6 hK6 => ?_
  refine wl_v hfr (by decide) (v_assign rfl) ?_
  clear hfr
  intro a hfr
  refine wl_nil (hK6 _ _ ?_)
  refine wc_block ?_
  refine wc_loop (fun m a w => ∃ (k : Nat), m = (fewH xs 40).length - k ∧ (k ≤ (fewH xs 40).length) ∧ Fr 137 [(1, .int .i64 i), (5, .bool true), (0, v1), (6, sv (rootH sha (fewH xs 40))), (7, .int .i64 (k : Int))] [] a ∧ St No w0 [own v1 9 1 ((fewH xs 40).map fun s => [sv s])] w) _ ⟨0, rfl, Nat.zero_le _, hfr.pick [1, 5, 0, 6, 7], hst.select [0] (by decide)⟩ ?_
  rintro _ a w4 ⟨k, rfl, hk, hfr, hst⟩
  refine wc_seq_k fun K7 hK7 => ?_
  refine wc_seq_region fun K8 hK8 => ?_
  refine wl_v hfr (by decide) (v_move rfl) ?_
  clear hfr
  intro a hfr
  refine wl_v hfr (by decide) (v_move rfl) ?_
  clear hfr
  intro a hfr
  refine wl_v hfr (by decide) ((v_len_sl (sT := 22) (hst.ownAt (i := 0) rfl) rfl rfl (Tryd.runUnderlying22 _)).asi (m' := ((fewH xs 40).length : Int)) (by simp)) ?_
  clear hfr
  intro a hfr
  refine wl_v hfr (by decide) (v_lt rfl rfl) ?_
  clear hfr
  intro a hfr
  refine wl_nil (hK8 _ _ ?_)
  refine wc_cond hfr rfl (fun hc3 => ?_) (fun hc3 => ?_)
  · rw [hc3] at hfr
    try simp only [Bool.not_eq_true', Bool.not_eq_false', decide_eq_true_eq, decide_eq_false_iff_not] at hc3
    have hok := verify_proof sha_len (l := (fewH xs 40)) (i := k) (by omega)
    have hpl := proof_short (S := sha) (l := (fewH xs 40)) (i := k) (fun h => by rw [h] at hc3; simp at hc3; omega)
    have hbn := binN_le (n := (fewH xs 40).length) (by omega)
    rw [← binN_of (by omega)] at hpl
    refine wc_skip ?_
    refine hK7 _ _ ?_
    refine wc_seq_k fun K9 hK9 => ?_
    refine wc_block ?_
    refine wc_seq_region fun K10 hK10 => ?_
    refine wl_v hfr (by decide) (v_move rfl) ?_
    clear hfr
    intro a hfr
    refine wl_v hfr (by decide) (v_move rfl) ?_
    clear hfr
    intro a hfr
    refine wl_callm hfr hst (by decide) Tryd.call14 rfl (proof_ok v1 (fewH xs 40) k _ (hst.ownAt (i := 0) rfl) (by omega) (by omega) hcA (hst.keepb hk0)) ?_
    clear hfr hst
    intro a w5 x5 hp hfr hst
    revert x5 hp hfr hst; rintro v4 hp hfr hst
    clear hp
    replace hst : St No w0 [own v4 9 1 ((proofH sha (fewH xs 40) k).map fun s => [sv s]), own v1 9 1 ((fewH xs 40).map fun s => [sv s])] w5 := hst
    refine wl_v hfr (by decide) (v_move rfl) ?_
    clear hfr
    intro a hfr
    refine wl_v hfr (by decide) (v_extract rfl rfl) ?_
    clear hfr
    intro a hfr
    refine wl_v hfr (by decide) (v_extract rfl rfl) ?_
    clear hfr
    intro a hfr
    refine wl_v hfr (by decide) (v_assign rfl) ?_
    clear hfr
    intro a hfr
    refine wl_v hfr (by decide) (v_assign rfl) ?_
    clear hfr
    intro a hfr
    refine wl_nil (hK10 _ _ ?_)
    replace hfr : Fr 137 [(1, _), (5, _), (0, _), (6, _), (7, _), (8, _), (9, _)] [] a := hfr.pick [1, 5, 0, 6, 7, 8, 9]
    refine wc_seq_region fun K11 hK11 => ?_
    refine wl_v hfr (by decide) (v_move rfl) ?_
    clear hfr
    intro a hfr
    refine wl_v hfr (by decide) ((v_ne rfl rfl).asb (b' := false) rfl) ?_
    clear hfr
    intro a hfr
    refine wl_v hfr (by decide) (v_move rfl) ?_
    clear hfr
    intro a hfr
    refine wl_vy hfr (by decide) rfl (by decide) rfl (v_move rfl) ?_
    clear hfr
    intro a hfr
    refine wl_vy hfr (by decide) rfl (by decide) rfl ((v_len_sl (sT := 22) (hst.ownAt (i := 0) rfl) rfl rfl (Tryd.runUnderlying22 _)).asi (m' := ((proofH sha (fewH xs 40) k).length : Int)) (by simp)) ?_
    clear hfr
    intro a hfr
    refine wl_vy hfr (by decide) rfl (by decide) rfl (v_move rfl) ?_
    clear hfr
    intro a hfr
    refine wl_vy hfr (by decide) rfl (by decide) rfl ((v_len_sl (sT := 22) (hst.ownAt (i := 1) rfl) rfl rfl (Tryd.runUnderlying22 _)).asi (m' := ((fewH xs 40).length : Int)) (by simp)) ?_
    clear hfr
    intro a hfr
    refine wl_callpy hfr hst (by decide) rfl (by decide) rfl Tryd.call25 rfl (binary_ok (fewH xs 40).length _ (by omega)) ?_
    clear hfr hst
    intro a w6 hfr hst
    refine wl_vy hfr (by decide) rfl (by decide) rfl ((v_gt rfl rfl).asb (b' := false) (by exact decide_eq_false (by omega))) ?_
    clear hfr
    intro a hfr
    refine wl_v hfr (by decide) (v_pick_f rfl rfl) ?_
    clear hfr
    intro a hfr
    refine wl_v hfr (by decide) (v_move rfl) ?_
    clear hfr
    intro a hfr
    refine wl_vy hfr (by decide) rfl (by decide) rfl (v_move rfl) ?_
    clear hfr
    intro a hfr
    refine wl_vy hfr (by decide) rfl (by decide) rfl (v_move rfl) ?_
    clear hfr
    intro a hfr
    refine wl_vy hfr (by decide) rfl (by decide) rfl ((v_len_sl (sT := 22) (hst.ownAt (i := 1) rfl) rfl rfl (Tryd.runUnderlying22 _)).asi (m' := ((fewH xs 40).length : Int)) (by simp)) ?_
    clear hfr
    intro a hfr
    refine wl_vy hfr (by decide) rfl (by decide) rfl (v_move rfl) ?_
    clear hfr
    intro a hfr
    refine wl_vy hfr (by decide) rfl (by decide) rfl (v_move rfl) ?_
    clear hfr
    intro a hfr
    refine wl_vy hfr (by decide) rfl (by decide) rfl (v_move rfl) ?_
    clear hfr
    intro a hfr
    refine wl_vy hfr (by decide) rfl (by decide) rfl ((v_indexAddr_sl (i := (k : Int)) (sT := 22) (hst.ownAt (i := 1) rfl) rfl rfl (Tryd.runUnderlying22 _) (Tryd.sizeOf9 _) (by omega) (by rw [List.length_map]; omega)).as (v' := slAddr v1 (k * 1)) rfl) ?_
    clear hfr
    intro a hfr
    refine wl_vy hfr (by decide) rfl (by decide) rfl (v_load_sl1 (u := sv ((fewH xs 40).getD k [])) (i := k) (j := 0) (hst.ownAt (i := 1) rfl) (by rw [List.length_map]; omega) rfl (Tryd.isAgg9 _) (by rw [el_at []]; rfl)) ?_
    clear hfr
    intro a hfr
    refine wl_vy hfr (by decide) rfl (by decide) rfl (v_move rfl) ?_
    clear hfr
    intro a hfr
    refine wl_callpy hfr hst (by decide) rfl (by decide) rfl Tryd.call21 rfl (ret_b hok (verify_ok _ _ _ _ v4 (proofH sha (fewH xs 40) k) _ (hst.ownAt (i := 0) rfl) (by first | omega | (simp only [List.length_append, List.length_drop, List.length_cons, List.length_nil]; omega)) (Nat.le_trans (few_all _ (getD_mem (by omega))) (by decide)) (by omega) (hst.keepb hk0))) ?_
    clear hfr hst
    intro a w7 hfr hst
    refine wl_vy hfr (by decide) rfl (by decide) rfl ((v_not rfl).asb (b' := false) rfl) ?_
    clear hfr
    intro a hfr
    refine wl_v hfr (by decide) (v_pick_f rfl rfl) ?_
    clear hfr
    intro a hfr
    refine wl_nil (hK11 _ _ ?_)
    replace hfr : Fr 137 [(1, _), (5, _), (0, _), (6, _), (7, _), (54, _)] [] a := hfr.pick [1, 5, 0, 6, 7, 54]
    replace hst : St No w0 [_] w7 := hst.mask [false, true]
    refine wc_cond_f hfr rfl ?_
    refine wc_skip ?_
    refine hK9 _ _ ?_
    refine wc_region ?_
    refine wl_v hfr (by decide) (v_move rfl) ?_
    clear hfr
    intro a hfr
    refine wl_v hfr (by decide) (v_add rfl rfl ⟨by omega, by omega⟩) ?_
    clear hfr
    intro a hfr
    refine wl_v hfr (by decide) (v_assign rfl) ?_
    clear hfr
    intro a hfr
    refine wl_nil ?_
    refine ⟨_, ?_, k + 1, rfl, (by omega), hfr.pick [1, 5, 0, 6, 7], hst.select [0] (by decide)⟩
    omega
  rw [hc3] at hfr
  try simp only [Bool.not_eq_true', Bool.not_eq_false', decide_eq_true_eq, decide_eq_false_iff_not] at hc3
  refine wc_exit ?_
  refine hK5 _ _ ?_
  refine wc_seq_region fun K12 hK12 => ?_
  refine wl_v hfr (by decide) (v_move rfl) ?_
  clear hfr
  intro a hfr
  refine wl_v hfr (by decide) (v_move rfl) ?_
  clear hfr
  intro a hfr
  rcases Bool.eq_false_or_eq_true (decide (0 ≤ i ∧ i < ((fewH xs 40).length : Int))) with hb6 | hb6
  · try simp only [Bool.not_eq_true', Bool.not_eq_false', decide_eq_true_eq, decide_eq_false_iff_not] at hb6
    obtain ⟨ii, rfl⟩ := Int.eq_ofNat_of_zero_le hb6.1
    have hpl := proof_short (S := sha) (l := (fewH xs 40)) (i := ii) (fun h => by rw [h] at hb6; simp at hb6; omega)
    have hbn := binN_le (n := (fewH xs 40).length) (by omega)
    rw [← binN_of (by omega)] at hpl
    have hlong := verify_other (S := sha) (l := (fewH xs 40)) (i := ii) (s := (fewH xs 40).getD ii []) (q := proofH sha (fewH xs 40) ii ++ [rootH sha (fewH xs 40)]) (by omega) (by simp) (rootH sha (fewH xs 40))
    refine wl_callm hfr hst (by decide) Tryd.call14 rfl (proof_ok v1 (fewH xs 40) ii _ (hst.ownAt (i := 0) rfl) (by omega) (by omega) hcA (hst.keepb hk0)) ?_
    clear hfr hst
    intro a w8 x8 hp hfr hst
    revert x8 hp hfr hst; rintro v7 hp hfr hst
    clear hp
    replace hst : St No w0 [own v7 9 1 ((proofH sha (fewH xs 40) ii).map fun s => [sv s]), own v1 9 1 ((fewH xs 40).map fun s => [sv s])] w8 := hst
    refine wl_v hfr (by decide) (v_move rfl) ?_
    clear hfr
    intro a hfr
    refine wl_v hfr (by decide) (v_extract rfl rfl) ?_
    clear hfr
    intro a hfr
    refine wl_v hfr (by decide) (v_extract rfl rfl) ?_
    clear hfr
    intro a hfr
    refine wl_v hfr (by decide) (v_assign rfl) ?_
    clear hfr
    intro a hfr
    refine wl_v hfr (by decide) (v_assign rfl) ?_
    clear hfr
    intro a hfr
    refine wl_nil (hK12 _ _ ?_)
    replace hfr : Fr 137 [(1, _), (5, _), (0, _), (6, _), (10, _), (11, _)] [] a := hfr.pick [1, 5, 0, 6, 10, 11]
    refine wc_seq_region fun K13 hK13 => ?_
    refine wl_v hfr (by decide) (v_move rfl) ?_
    clear hfr
    intro a hfr
    refine wl_v hfr (by decide) ((v_ge rfl rfl).asb (b' := true) (by exact decide_eq_true (by omega))) ?_
    clear hfr
    intro a hfr
    refine wl_v hfr (by decide) (v_move rfl) ?_
    clear hfr
    intro a hfr
    refine wl_vy hfr (by decide) rfl (by decide) rfl (v_move rfl) ?_
    clear hfr
    intro a hfr
    refine wl_vy hfr (by decide) rfl (by decide) rfl (v_move rfl) ?_
    clear hfr
    intro a hfr
    refine wl_vy hfr (by decide) rfl (by decide) rfl ((v_len_sl (sT := 22) (hst.ownAt (i := 1) rfl) rfl rfl (Tryd.runUnderlying22 _)).asi (m' := ((fewH xs 40).length : Int)) (by simp)) ?_
    clear hfr
    intro a hfr
    refine wl_vy hfr (by decide) rfl (by decide) rfl ((v_lt rfl rfl).asb (b' := true) (by exact decide_eq_true (by omega))) ?_
    clear hfr
    intro a hfr
    refine wl_v hfr (by decide) (v_pick_t rfl rfl) ?_
    clear hfr
    intro a hfr
    refine wl_v hfr (by decide) (v_assign rfl) ?_
    clear hfr
    intro a hfr
    refine wl_nil (hK13 _ _ ?_)
    replace hfr : Fr 137 [(1, _), (5, _), (0, _), (6, _), (10, _), (11, _), (12, _)] [] a := hfr.pick [1, 5, 0, 6, 10, 11, 12]
    refine wc_seq_k fun K14 hK14 => ?_
    refine wc_seq_region fun K15 hK15 => ?_
    refine wl_v hfr (by decide) (v_move rfl) ?_
    clear hfr
    intro a hfr
    refine wl_v hfr (by decide) (v_move rfl) ?_
    clear hfr
    intro a hfr
    refine wl_v hfr (by decide) ((v_eq rfl rfl).asb (b' := true) rfl) ?_
    clear hfr
    intro a hfr
    refine wl_v hfr (by decide) ((v_ne_bool rfl rfl Tryd.underlying4).asb (b' := false) rfl) ?_
    clear hfr
    intro a hfr
    refine wl_v hfr (by decide) (v_move rfl) ?_
    clear hfr
    intro a hfr
    refine wl_vy hfr (by decide) rfl (by decide) rfl (v_move rfl) ?_
    clear hfr
    intro a hfr
    refine wl_vy hfr (by decide) rfl (by decide) rfl ((v_not rfl).asb (b' := false) rfl) ?_
    clear hfr
    intro a hfr
    refine wl_vy hfr (by decide) rfl (by decide) rfl (v_move rfl) ?_
    clear hfr
    intro a hfr
    refine wl_vn hfr (by decide) rfl (by decide) rfl rfl ?_
    clear hfr
    intro a hfr
    refine wl_vn hfr (by decide) rfl (by decide) rfl rfl ?_
    clear hfr
    intro a hfr
    refine wl_vn hfr (by decide) rfl (by decide) rfl rfl ?_
    clear hfr
    intro a hfr
    refine wl_vu hfr (by decide) rfl (by decide) rfl ?_
    clear hfr
    intro a hfr
    refine wl_vu hfr (by decide) rfl (by decide) rfl ?_
    clear hfr
    intro a hfr
    refine wl_vu hfr (by decide) rfl (by decide) rfl ?_
    clear hfr
    intro a hfr
    refine wl_vn hfr (by decide) rfl (by decide) rfl rfl ?_
    clear hfr
    intro a hfr
    refine wl_vy hfr (by decide) rfl (by decide) rfl (v_pick_f rfl rfl) ?_
    clear hfr
    intro a hfr
    refine wl_v hfr (by decide) (v_pick_f rfl rfl) ?_
    clear hfr
    intro a hfr
    refine wl_nil (hK15 _ _ ?_)
    replace hfr : Fr 137 [(1, _), (5, _), (0, _), (6, _), (10, _), (12, _), (85, _)] [] a := hfr.pick [1, 5, 0, 6, 10, 12, 85]
    refine wc_cond_f hfr rfl ?_
    refine wc_skip ?_
    refine hK14 _ _ ?_
    refine wc_seq_k fun K16 hK16 => ?_
    refine wc_seq_region fun K17 hK17 => ?_
    refine wl_v hfr (by decide) (v_move rfl) ?_
    clear hfr
    intro a hfr
    refine wl_v hfr (by decide) ((v_not rfl).asb (b' := false) rfl) ?_
    clear hfr
    intro a hfr
    refine wl_nil (hK17 _ _ ?_)
    refine wc_cond_f hfr rfl ?_
    refine wc_skip ?_
    refine hK16 _ _ ?_
    refine wc_seq_k fun K18 hK18 => ?_
    refine wc_of_dr (by kernel_rfl) (dr_of_wd (by kernel_rfl) fun w9 hxz => ?_)
    replace hst : St No w0 [own v7 9 1 ((proofH sha (fewH xs 40) ii).map fun s => [sv s]), own v1 9 1 ((fewH xs 40).map fun s => [sv s])] w9 := hst.grow hxz
    refine wd_sub (k := 0) 14 [0, 2, 3, 7, 13] hfr (by kernel_rfl) (by kernel_rfl) (by kernel_rfl) (by rfl) ?_
    replace hfr : Fr 137 [(1, _), (5, _), (0, _), (6, _), (10, _), (12, _), (85, _), (86, _), (87, _)] [] a := hfr.pick [1, 5, 0, 6, 10, 12, 85, 86, 87]
    refine wc_phases_chain 8 10 13 (fun v => own v 9 1 ([])) (fun v => own v 9 1 (([]) ++ ((proofH sha (fewH xs 40) ii).map fun s => [sv s]))) (fun v => own v 9 1 ((([]) ++ ((proofH sha (fewH xs 40) ii).map fun s => [sv s])) ++ ([[sv (rootH sha (fewH xs 40))]]))) 14 [[], [], [1], [], [], [], [4, 5], [6], [], [], [8, 9], [], [11], [10, 12]] (fun i => match i with | 0 => pv (sv (rootH sha (fewH xs 40))) | 1 => pv (v1) | 2 => pv (.int .i64 ((fewH xs 40).length : Int)) | 3 => pv (.int .i64 (ii : Int)) | 4 => pv (v1) | 5 => pv (.int .i64 (ii : Int)) | 6 => pv (slAddr v1 (ii * 1)) | 7 => pv (sv ((fewH xs 40).getD ii [])) | 8 => fun v E => E = [] | 9 => pv (v7) | 10 => fun v E => E = [] | 11 => pv (sv (rootH sha (fewH xs 40))) | 12 => pm (fun b : Nat => .slice (some ⟨b, 0, none⟩) 1 1) (fun b => [own (.slice (some ⟨b, 0, none⟩) 1 1) 9 1 [[sv (rootH sha (fewH xs 40))]]]) (fun _ => True) | 13 => fun v E => E = [] | _ => fun _ _ => False) hfr hst (by kernel_rfl) (by kernel_rfl) (by kernel_rfl) (by decide) (by decide) (by decide) (by decide) ?_ ?_ ?_ ?_ ?_ ?_
    · intro i v E h
      match i, h with
      | 0, _ => exact by decide
      | 1, _ => exact by decide
      | 2, _ => exact by decide
      | 3, _ => exact by decide
      | 4, _ => exact by decide
      | 5, _ => exact by decide
      | 6, _ => exact by decide
      | 7, _ => exact by decide
      | 8, _ => exact by decide
      | 9, _ => exact by decide
      | 10, _ => exact by decide
      | 11, _ => exact by decide
      | 12, _ => exact by decide
      | 13, _ => exact by decide
      | i + 14, h => exact h.elim
    · intro i hi h0 h1 h2 e
      match i, hi, h0, h1, h2 with
      | 0, _, _, _, _ =>
        intro w hst
        exact OpV.g (v_move rfl)
      | 1, _, _, _, _ =>
        intro w hst
        exact OpV.g (v_move rfl)
      | 2, _, _, _, _ =>
        rintro _ _ ⟨rfl, rfl⟩
        intro w hst
        exact OpV.g ((v_len_sl (sT := 22) (hst.ownAt (i := 2) rfl) rfl rfl (Tryd.runUnderlying22 _)).asi (m' := ((fewH xs 40).length : Int)) (by simp))
      | 3, _, _, _, _ =>
        intro w hst
        exact OpV.g (v_move rfl)
      | 4, _, _, _, _ =>
        intro w hst
        exact OpV.g (v_move rfl)
      | 5, _, _, _, _ =>
        intro w hst
        exact OpV.g (v_move rfl)
      | 6, _, _, _, _ =>
        rintro _ _ ⟨rfl, rfl⟩ _ _ ⟨rfl, rfl⟩
        intro w hst
        exact OpV.g ((v_indexAddr_sl (i := (ii : Int)) (sT := 22) (hst.ownAt (i := 2) rfl) rfl rfl (Tryd.runUnderlying22 _) (Tryd.sizeOf9 _) (by omega) (by rw [List.length_map]; omega)).as (v' := slAddr v1 (ii * 1)) rfl)
      | 7, _, _, _, _ =>
        rintro _ _ ⟨rfl, rfl⟩
        intro w hst
        exact OpV.g (v_load_sl1 (u := sv ((fewH xs 40).getD ii [])) (i := ii) (j := 0) (hst.ownAt (i := 2) rfl) (by rw [List.length_map]; omega) rfl (Tryd.isAgg9 _) (by rw [el_at []]; rfl))
      | 8, _, h, _, _ => exact absurd rfl h
      | 9, _, _, _, _ =>
        intro w hst
        exact OpV.g (v_move rfl)
      | 10, _, _, h, _ => exact absurd rfl h
      | 11, _, _, _, _ =>
        intro w hst
        exact OpV.g (v_move rfl)
      | 12, _, _, _, _ =>
        rintro _ _ ⟨rfl, rfl⟩
        intro w hst
        exact g_buildSlice (E := 9) (sz := 1) rfl [[sv (rootH sha (fewH xs 40))]] (fun _ => by kernel_rfl) (by simp) rfl (by decide)
      | 13, _, _, _, h => exact absurd rfl h
      | i + 14, h, _, _, _ => exact absurd h (by omega)
    · intro w hst
      exact OpR.to_own (f := fun b : Nat => .slice (some ⟨b, 0, none⟩) 0 0) (e := fun v => own v 9 1 []) (g_buildSlice (E := 9) (sz := 1) rfl [] (fun _ => by kernel_rfl) (by simp) rfl (by decide)) (fun v => rfl)
    · rintro s9 _ rfl _ _ ⟨rfl, rfl⟩
      intro w hst
      replace hst : St No w0 (own s9 9 1 ([]) :: _) w := hst
      exact (r_append_any (hst.get (k := 0) rfl) rfl rfl (hst.ownAt (i := 1) rfl) Tryd.underlying22 (inf := Tryd.t9) (z := .string (⟨#[]⟩)) rfl rfl rfl rfl (by decide) (by simp [Value.oneCell', yv, wv, sv]) (by have hby : Tryd.t9.bytes = 16 := rfl; simp only [big, hby, List.length_append, List.length_map, List.length_cons, List.length_nil]; omega) (by have hby : Tryd.t9.bytes = 16 := rfl; simp only [big, hby, List.length_append, List.length_map, List.length_cons, List.length_nil]; omega)).mono fun v w' ⟨h1, h2, h3⟩ => ⟨h1, h2, h3, rfl⟩
    · rintro s10 _ rfl _ _ ⟨b11, rfl, -, rfl⟩
      intro w hst
      replace hst : St No w0 (own s10 9 1 (([]) ++ ((proofH sha (fewH xs 40) ii).map fun s => [sv s])) :: _) w := hst
      exact (r_append_any (hst.get (k := 0) rfl) rfl rfl (hst.ownAt (i := 1) rfl) Tryd.underlying22 (inf := Tryd.t9) (z := .string (⟨#[]⟩)) rfl rfl rfl rfl (by decide) (by simp [Value.oneCell', yv, wv, sv]) (by have hby : Tryd.t9.bytes = 16 := rfl; simp only [big, hby, List.length_append, List.length_map, List.length_cons, List.length_nil]; omega) (by have hby : Tryd.t9.bytes = 16 := rfl; simp only [big, hby, List.length_append, List.length_map, List.length_cons, List.length_nil]; omega)).mono fun v w' ⟨h1, h2, h3⟩ => ⟨h1, h2, h3, rfl⟩
    clear hfr hst
    rintro vq _ _ ⟨⟨rfl, rfl⟩, -⟩ _ _ ⟨⟨rfl, rfl⟩, -⟩ _ _ ⟨⟨rfl, rfl⟩, -⟩ _ _ ⟨⟨rfl, rfl⟩, -⟩ _ _ ⟨⟨rfl, rfl⟩, -⟩ _ _ ⟨⟨rfl, rfl⟩, -⟩ _ _ ⟨⟨rfl, rfl⟩, -⟩ _ _ ⟨⟨rfl, rfl⟩, -⟩ s9 _ ⟨rfl, -⟩ _ _ ⟨⟨rfl, rfl⟩, -⟩ s10 _ ⟨rfl, -⟩ _ _ ⟨⟨rfl, rfl⟩, -⟩ _ _ ⟨⟨b11, rfl, -, rfl⟩, -⟩ s12 _ ⟨rfl, hvq⟩ a w10 hfr hst
    obtain rfl := hvq rfl
    replace hfr : Fr 137 [(97, _), (98, _), (99, _), (100, _), (101, _), (102, _), (103, _), (104, _), (105, _), (106, _), (107, _), (108, _), (109, _), (110, _), (1, _), (5, _), (0, _), (6, _), (10, _), (12, _), (85, _), (86, _), (87, _)] [] a := hfr
    replace hst : St No w0 [own (.slice (some ⟨b11, 0, none⟩) 1 1) 9 1 ([[sv (rootH sha (fewH xs 40))]]), own s12 9 1 ((([]) ++ ((proofH sha (fewH xs 40) ii).map fun s => [sv s])) ++ ([[sv (rootH sha (fewH xs 40))]])), own v7 9 1 ((proofH sha (fewH xs 40) ii).map fun s => [sv s]), own v1 9 1 ((fewH xs 40).map fun s => [sv s])] w10 := hst
    rw [show (([]) ++ ((proofH sha (fewH xs 40) ii).map fun s => [sv s])) ++ ([[sv (rootH sha (fewH xs 40))]]) = ((proofH sha (fewH xs 40) ii ++ [rootH sha (fewH xs 40)]).map fun s => [sv s]) from by simp] at hst
    refine wl_nil ?_
    refine wd_lin (k := 14) 16 [15] (by kernel_rfl) (by kernel_rfl) (by kernel_rfl) ?_
    refine wl_callp hfr hst (by decide) Tryd.call21 rfl (ret_b hlong (verify_ok _ _ _ _ s12 (proofH sha (fewH xs 40) ii ++ [rootH sha (fewH xs 40)]) _ (hst.ownAt (i := 1) rfl) (by first | omega | (simp only [List.length_append, List.length_drop, List.length_cons, List.length_nil]; omega)) (Nat.le_trans (few_all _ (getD_mem (by omega))) (by decide)) (by omega) (hst.keepb hk0))) ?_
    clear hfr hst
    intro a w11 hfr hst
    refine wl_v hfr (by decide) (v_assign rfl) ?_
    clear hfr
    intro a hfr
    refine wl_nil ?_
    refine wd_end (by kernel_rfl) ?_
    refine hK18 _ _ ?_
    replace hfr : Fr 137 [(1, _), (5, _), (0, _), (6, _), (10, _), (13, _)] [] a := hfr.pick [1, 5, 0, 6, 10, 13]
    replace hst : St No w0 [_, _] w11 := hst.mask [false, false, true, true]
    refine wc_seq_k fun K19 hK19 => ?_
    refine wc_of_dr (by kernel_rfl) (dr_of_wd (by kernel_rfl) fun w12 hxz => ?_)
    replace hst : St No w0 [own v7 9 1 ((proofH sha (fewH xs 40) ii).map fun s => [sv s]), own v1 9 1 ((fewH xs 40).map fun s => [sv s])] w12 := hst.grow hxz
    refine wd_lin (k := 0) 4 [3] (by kernel_rfl) (by kernel_rfl) (by kernel_rfl) ?_
    refine wl_v hfr (by decide) (v_move rfl) ?_
    clear hfr
    intro a hfr
    refine wl_v hfr (by decide) ((v_len_sl (sT := 22) (hst.ownAt (i := 0) rfl) rfl rfl (Tryd.runUnderlying22 _)).asi (m' := ((proofH sha (fewH xs 40) ii).length : Int)) (by simp)) ?_
    clear hfr
    intro a hfr
    refine wl_v hfr (by decide) (v_gt rfl rfl) ?_
    clear hfr
    intro a hfr
    refine wl_v hfr (by decide) (v_move rfl) ?_
    clear hfr
    intro a hfr
    refine wl_nil ?_
    rcases Bool.eq_false_or_eq_true (decide (0 < ((proofH sha (fewH xs 40) ii).length : Int))) with hb13 | hb13
    · rw [hb13] at hfr
      try simp only [Bool.not_eq_true', Bool.not_eq_false', decide_eq_true_eq, decide_eq_false_iff_not] at hb13
      have hshort := verify_other (S := sha) (l := (fewH xs 40)) (i := ii) (s := (fewH xs 40).getD ii []) (q := (proofH sha (fewH xs 40) ii).drop 1) (by omega) (by rw [List.length_drop]; omega) (rootH sha (fewH xs 40))
      refine wd_sub (k := 4) 14 [4, 6, 7, 11, 13] hfr (by kernel_rfl) (by kernel_rfl) (by kernel_rfl) (by rfl) ?_
      replace hfr : Fr 137 [(1, _), (5, _), (0, _), (6, _), (10, _), (13, _), (112, _), (113, _), (114, _), (115, _)] [] a := hfr.pick [1, 5, 0, 6, 10, 13, 112, 113, 114, 115]
      refine wc_phases_q [] (fun i => match i with | _ => fun _ _ => False) 10 [[], [], [1], [], [], [], [4, 5], [6], [], [8]] [sv (rootH sha (fewH xs 40)), v1, .int .i64 ((fewH xs 40).length : Int), .int .i64 (ii : Int), v1, .int .i64 (ii : Int), slAddr v1 (ii * 1), sv ((fewH xs 40).getD ii []), v7, (cut v7 1 1 (proofH sha (fewH xs 40) ii).length (slCap v7))] hfr hst (by kernel_rfl) (by kernel_rfl) (by kernel_rfl) ?_ ?_ ?_
      · intro i hi hiq
        match i, hi, hiq with
        | 0, _, _ =>
          intro w hst
          exact OpV.g (v_move rfl)
        | 1, _, _ =>
          intro w hst
          exact OpV.g (v_move rfl)
        | 2, _, _ =>
          intro w hst
          exact OpV.g ((v_len_sl (sT := 22) (hst.ownAt (i := 1) rfl) rfl rfl (Tryd.runUnderlying22 _)).asi (m' := ((fewH xs 40).length : Int)) (by simp))
        | 3, _, _ =>
          intro w hst
          exact OpV.g (v_move rfl)
        | 4, _, _ =>
          intro w hst
          exact OpV.g (v_move rfl)
        | 5, _, _ =>
          intro w hst
          exact OpV.g (v_move rfl)
        | 6, _, _ =>
          intro w hst
          exact OpV.g ((v_indexAddr_sl (i := (ii : Int)) (sT := 22) (hst.ownAt (i := 1) rfl) rfl rfl (Tryd.runUnderlying22 _) (Tryd.sizeOf9 _) (by omega) (by rw [List.length_map]; omega)).as (v' := slAddr v1 (ii * 1)) rfl)
        | 7, _, _ =>
          intro w hst
          exact OpV.g (v_load_sl1 (u := sv ((fewH xs 40).getD ii [])) (i := ii) (j := 0) (hst.ownAt (i := 1) rfl) (by rw [List.length_map]; omega) rfl (Tryd.isAgg9 _) (by rw [el_at []]; rfl))
        | 8, _, _ =>
          intro w hst
          exact OpV.g (v_move rfl)
        | 9, _, _ =>
          intro w hst
          exact OpV.g (v_slice_at (l := 1) (h := (proofH sha (fewH xs 40) ii).length) (hst.ownAt (i := 0) rfl) rfl rfl rfl Tryd.underlying22 (by kernel_rfl) (.inr rfl) (.inl ⟨rfl, by simp⟩) (by omega) (by simp))
      · intro i hi
        exact absurd hi (by simp)
      clear hfr hst
      intro  a w13 hfr hst
      replace hfr : Fr 137 [(116, sv (rootH sha (fewH xs 40))), (117, v1), (118, .int .i64 ((fewH xs 40).length : Int)), (119, .int .i64 (ii : Int)), (120, v1), (121, .int .i64 (ii : Int)), (122, slAddr v1 (ii * 1)), (123, sv ((fewH xs 40).getD ii [])), (124, v7), (125, (cut v7 1 1 (proofH sha (fewH xs 40) ii).length (slCap v7))), (1, _), (5, _), (0, _), (6, _), (10, _), (13, _), (112, _), (113, _), (114, _), (115, _)] [] a := hfr
      refine wl_nil ?_
      refine wd_lin (k := 14) 17 [16] (by kernel_rfl) (by kernel_rfl) (by kernel_rfl) ?_
      refine wl_callpy hfr hst (by decide) rfl (by decide) rfl Tryd.call21 rfl (ret_b hshort (verify_ok _ _ _ _ (cut v7 1 1 (proofH sha (fewH xs 40) ii).length (slCap v7)) ((proofH sha (fewH xs 40) ii).drop 1) _ ((hst.ownAt (i := 0) rfl).cutd (l := 1) (by first | omega | (rw [List.length_reverse]; omega) | simp | (simp; omega))) (by first | omega | (simp only [List.length_append, List.length_drop, List.length_cons, List.length_nil]; omega)) (Nat.le_trans (few_all _ (getD_mem (by omega))) (by decide)) (by omega) (hst.keepb hk0))) ?_
      clear hfr hst
      intro a w14 hfr hst
      refine wl_v hfr (by decide) (v_pick_t rfl rfl) ?_
      clear hfr
      intro a hfr
      refine wl_v hfr (by decide) (v_assign rfl) ?_
      clear hfr
      intro a hfr
      refine wl_nil ?_
      refine wd_end (by kernel_rfl) ?_
      refine hK19 _ _ ?_
      replace hfr : Fr 137 [(5, _), (13, _), (14, _)] [] a := hfr.pick [5, 13, 14]
      replace hst : St No w0 [] w14 := hst.mask [false, false]
      refine wc_seq_region fun K20 hK20 => ?_
      refine wl_v hfr (by decide) (v_move rfl) ?_
      clear hfr
      intro a hfr
      refine wl_v hfr (by decide) (v_move rfl) ?_
      clear hfr
      intro a hfr
      refine wl_vy hfr (by decide) rfl (by decide) rfl (v_move rfl) ?_
      clear hfr
      intro a hfr
      refine wl_vy hfr (by decide) rfl (by decide) rfl ((v_not rfl).asb (b' := true) rfl) ?_
      clear hfr
      intro a hfr
      refine wl_v hfr (by decide) (v_pick_t rfl rfl) ?_
      clear hfr
      intro a hfr
      refine wl_v hfr (by decide) (v_move rfl) ?_
      clear hfr
      intro a hfr
      refine wl_vy hfr (by decide) rfl (by decide) rfl (v_move rfl) ?_
      clear hfr
      intro a hfr
      refine wl_vy hfr (by decide) rfl (by decide) rfl ((v_not rfl).asb (b' := true) rfl) ?_
      clear hfr
      intro a hfr
      refine wl_v hfr (by decide) (v_pick_t rfl rfl) ?_
      clear hfr
      intro a hfr
      refine wl_v hfr (by decide) (v_assign rfl) ?_
      clear hfr
      intro a hfr
      refine wl_nil (hK20 _ _ ?_)
      replace hfr : Fr 137 [(4, _)] [] a := hfr.pick [4]
      refine wc_ret ?_
      refine fin_ret hfr Tryd.results5 (resAre_tmp rfl resAre_nil) ?_
      exact ⟨by rfl, hst.ext⟩
    rw [hb13] at hfr
    try simp only [Bool.not_eq_true', Bool.not_eq_false', decide_eq_true_eq, decide_eq_false_iff_not] at hb13
    replace hfr : Fr 137 [(1, .int .i64 (ii : Int)), (5, .bool true), (0, v1), (6, sv (rootH sha (fewH xs 40))), (10, v7), (13, .bool false), (112, v7), (113, .int .i64 ((proofH sha (fewH xs 40) ii).length : Int)), (114, .bool false), (115, .bool false)] [] a := hfr.pick [1, 5, 0, 6, 10, 13, 112, 113, 114, 115]
    refine wd_skip (k := 4) 14 [4, 6, 7, 11, 13] hfr (by kernel_rfl) (by kernel_rfl) (by kernel_rfl) (by rfl) ?_
    clear hfr
    intro a hfr
    replace hfr : Fr 137 [(116, undef), (117, undef), (118, undef), (119, undef), (120, undef), (121, undef), (122, undef), (123, undef), (124, undef), (125, undef), (1, .int .i64 (ii : Int)), (5, .bool true), (0, v1), (6, sv (rootH sha (fewH xs 40))), (10, v7), (13, .bool false), (112, v7), (113, .int .i64 ((proofH sha (fewH xs 40) ii).length : Int)), (114, .bool false), (115, .bool false)] [] a := hfr
    refine wd_lin (k := 14) 17 [16] (by kernel_rfl) (by kernel_rfl) (by kernel_rfl) ?_
    refine wl_vn hfr (by decide) rfl (by decide) rfl rfl ?_
    clear hfr
    intro a hfr
    refine wl_v hfr (by decide) (v_pick_f rfl rfl) ?_
    clear hfr
    intro a hfr
    refine wl_v hfr (by decide) (v_assign rfl) ?_
    clear hfr
    intro a hfr
    refine wl_nil ?_
    refine wd_end (by kernel_rfl) ?_
    refine hK19 _ _ ?_
    replace hfr : Fr 137 [(5, _), (13, _), (14, _)] [] a := hfr.pick [5, 13, 14]
    replace hst : St No w0 [] w12 := hst.mask [false, false]
    refine wc_seq_region fun K21 hK21 => ?_
    refine wl_v hfr (by decide) (v_move rfl) ?_
    clear hfr
    intro a hfr
    refine wl_v hfr (by decide) (v_move rfl) ?_
    clear hfr
    intro a hfr
    refine wl_vy hfr (by decide) rfl (by decide) rfl (v_move rfl) ?_
    clear hfr
    intro a hfr
    refine wl_vy hfr (by decide) rfl (by decide) rfl ((v_not rfl).asb (b' := true) rfl) ?_
    clear hfr
    intro a hfr
    refine wl_v hfr (by decide) (v_pick_t rfl rfl) ?_
    clear hfr
    intro a hfr
    refine wl_v hfr (by decide) (v_move rfl) ?_
    clear hfr
    intro a hfr
    refine wl_vy hfr (by decide) rfl (by decide) rfl (v_move rfl) ?_
    clear hfr
    intro a hfr
    refine wl_vy hfr (by decide) rfl (by decide) rfl ((v_not rfl).asb (b' := true) rfl) ?_
    clear hfr
    intro a hfr
    refine wl_v hfr (by decide) (v_pick_t rfl rfl) ?_
    clear hfr
    intro a hfr
    refine wl_v hfr (by decide) (v_assign rfl) ?_
    clear hfr
    intro a hfr
    refine wl_nil (hK21 _ _ ?_)
    replace hfr : Fr 137 [(4, _)] [] a := hfr.pick [4]
    refine wc_ret ?_
    refine fin_ret hfr Tryd.results5 (resAre_tmp rfl resAre_nil) ?_
    exact ⟨by rfl, hst.ext⟩
  try simp only [Bool.not_eq_true', Bool.not_eq_false', decide_eq_true_eq, decide_eq_false_iff_not] at hb6
  have hout := hb6
  refine wl_callp hfr hst (by decide) Tryd.call14 rfl (proof_err v1 (fewH xs 40) i _ (hst.ownAt (i := 0) rfl) (by omega)) ?_
  clear hfr hst
  intro a w15 hfr hst
  refine wl_v hfr (by decide) (v_move rfl) ?_
  clear hfr
  intro a hfr
  refine wl_v hfr (by decide) (v_extract rfl rfl) ?_
  clear hfr
  intro a hfr
  refine wl_v hfr (by decide) (v_extract rfl rfl) ?_
  clear hfr
  intro a hfr
  refine wl_v hfr (by decide) (v_assign rfl) ?_
  clear hfr
  intro a hfr
  refine wl_v hfr (by decide) (v_assign rfl) ?_
  clear hfr
  intro a hfr
  refine wl_nil (hK12 _ _ ?_)
  replace hfr : Fr 137 [(1, _), (5, _), (0, _), (6, _), (10, _), (11, _)] [] a := hfr.pick [1, 5, 0, 6, 10, 11]
  refine wc_seq_region fun K22 hK22 => ?_
  refine wl_v hfr (by decide) (v_move rfl) ?_
  clear hfr
  intro a hfr
  refine wl_v hfr (by decide) (v_ge rfl rfl) ?_
  clear hfr
  intro a hfr
  refine wl_v hfr (by decide) (v_move rfl) ?_
  clear hfr
  intro a hfr
  rcases Bool.eq_false_or_eq_true (decide (0 ≤ i)) with hb14 | hb14
  · rw [hb14] at hfr
    try simp only [Bool.not_eq_true', Bool.not_eq_false', decide_eq_true_eq, decide_eq_false_iff_not] at hb14
    refine wl_vy hfr (by decide) rfl (by decide) rfl (v_move rfl) ?_
    clear hfr
    intro a hfr
    refine wl_vy hfr (by decide) rfl (by decide) rfl (v_move rfl) ?_
    clear hfr
    intro a hfr
    refine wl_vy hfr (by decide) rfl (by decide) rfl ((v_len_sl (sT := 22) (hst.ownAt (i := 0) rfl) rfl rfl (Tryd.runUnderlying22 _)).asi (m' := ((fewH xs 40).length : Int)) (by simp)) ?_
    clear hfr
    intro a hfr
    refine wl_vy hfr (by decide) rfl (by decide) rfl ((v_lt rfl rfl).asb (b' := false) (by exact decide_eq_false (by omega))) ?_
    clear hfr
    intro a hfr
    refine wl_v hfr (by decide) (v_pick_t rfl rfl) ?_
    clear hfr
    intro a hfr
    refine wl_v hfr (by decide) (v_assign rfl) ?_
    clear hfr
    intro a hfr
    refine wl_nil (hK22 _ _ ?_)
    replace hfr : Fr 137 [(1, _), (5, _), (0, _), (6, _), (10, _), (11, _), (12, _)] [] a := hfr.pick [1, 5, 0, 6, 10, 11, 12]
    refine wc_seq_k fun K23 hK23 => ?_
    refine wc_seq_region fun K24 hK24 => ?_
    refine wl_v hfr (by decide) (v_move rfl) ?_
    clear hfr
    intro a hfr
    refine wl_v hfr (by decide) (v_move rfl) ?_
    clear hfr
    intro a hfr
    refine wl_v hfr (by decide) ((v_eq rfl rfl).asb (b' := false) rfl) ?_
    clear hfr
    intro a hfr
    refine wl_v hfr (by decide) ((v_ne_bool rfl rfl Tryd.underlying4).asb (b' := false) rfl) ?_
    clear hfr
    intro a hfr
    refine wl_v hfr (by decide) (v_move rfl) ?_
    clear hfr
    intro a hfr
    refine wl_vy hfr (by decide) rfl (by decide) rfl (v_move rfl) ?_
    clear hfr
    intro a hfr
    refine wl_vy hfr (by decide) rfl (by decide) rfl ((v_not rfl).asb (b' := true) rfl) ?_
    clear hfr
    intro a hfr
    refine wl_vy hfr (by decide) rfl (by decide) rfl (v_move rfl) ?_
    clear hfr
    intro a hfr
    refine wl_vy hfr (by decide) rfl (by decide) rfl (v_move rfl) ?_
    clear hfr
    intro a hfr
    refine wl_vy hfr (by decide) rfl (by decide) rfl ((v_ne rfl rfl).asb (b' := false) rfl) ?_
    clear hfr
    intro a hfr
    refine wl_vy hfr (by decide) rfl (by decide) rfl (v_move rfl) ?_
    clear hfr
    intro a hfr
    refine wl_vy hfr (by decide) rfl (by decide) rfl (v_move rfl) ?_
    clear hfr
    intro a hfr
    refine wl_vy hfr (by decide) rfl (by decide) rfl (v_builtin (v := .int .i64 0) rfl (by kernel_rfl)) ?_
    clear hfr
    intro a hfr
    refine wl_vy hfr (by decide) rfl (by decide) rfl ((v_ne rfl rfl).asb (b' := false) rfl) ?_
    clear hfr
    intro a hfr
    refine wl_vy hfr (by decide) rfl (by decide) rfl (v_pick_f rfl rfl) ?_
    clear hfr
    intro a hfr
    refine wl_vy hfr (by decide) rfl (by decide) rfl (v_pick_t rfl rfl) ?_
    clear hfr
    intro a hfr
    refine wl_v hfr (by decide) (v_pick_f rfl rfl) ?_
    clear hfr
    intro a hfr
    refine wl_nil (hK24 _ _ ?_)
    replace hfr : Fr 137 [(1, _), (5, _), (0, _), (6, _), (10, _), (12, _), (85, _)] [] a := hfr.pick [1, 5, 0, 6, 10, 12, 85]
    refine wc_cond_f hfr rfl ?_
    refine wc_skip ?_
    refine hK23 _ _ ?_
    refine wc_seq_k fun K25 hK25 => ?_
    refine wc_seq_region fun K26 hK26 => ?_
    refine wl_v hfr (by decide) (v_move rfl) ?_
    clear hfr
    intro a hfr
    refine wl_v hfr (by decide) ((v_not rfl).asb (b' := true) rfl) ?_
    clear hfr
    intro a hfr
    refine wl_nil (hK26 _ _ ?_)
    refine wc_cond_t hfr rfl ?_
    refine wc_seq_region fun K27 hK27 => ?_
    refine wl_v hfr (by decide) (v_move rfl) ?_
    clear hfr
    intro a hfr
    refine wl_v hfr (by decide) (v_move rfl) ?_
    clear hfr
    intro a hfr
    refine wl_vy hfr (by decide) rfl (by decide) rfl (v_move rfl) ?_
    clear hfr
    intro a hfr
    refine wl_vy hfr (by decide) rfl (by decide) rfl (v_move rfl) ?_
    clear hfr
    intro a hfr
    refine wl_vy hfr (by decide) rfl (by decide) rfl ((v_len_sl (sT := 22) (hst.ownAt (i := 0) rfl) rfl rfl (Tryd.runUnderlying22 _)).asi (m' := ((fewH xs 40).length : Int)) (by simp)) ?_
    clear hfr
    intro a hfr
    refine wl_vy hfr (by decide) rfl (by decide) rfl (v_move rfl) ?_
    clear hfr
    intro a hfr
    refine wl_callpy hfr hst (by decide) rfl (by decide) rfl Tryd.call21 rfl (ret_b (v_out (s := []) (p := []) (root := rootH sha (fewH xs 40)) hout) (verify_ok _ _ _ _ _ [] _ (slAt_nil _ _) (by decide) (by decide) (by omega) (hst.keepb hk0))) ?_
    clear hfr hst
    intro a w16 hfr hst
    refine wl_vy hfr (by decide) rfl (by decide) rfl ((v_not rfl).asb (b' := true) rfl) ?_
    clear hfr
    intro a hfr
    refine wl_v hfr (by decide) (v_pick_t rfl rfl) ?_
    clear hfr
    intro a hfr
    refine wl_v hfr (by decide) (v_assign rfl) ?_
    clear hfr
    intro a hfr
    refine wl_nil (hK27 _ _ ?_)
    replace hfr : Fr 137 [(1, _), (5, _), (0, _), (6, _), (10, _), (4, _)] [] a := hfr.pick [1, 5, 0, 6, 10, 4]
    refine wc_ret ?_
    refine fin_ret hfr Tryd.results5 (resAre_tmp rfl resAre_nil) ?_
    exact ⟨by rfl, hst.ext⟩
  rw [hb14] at hfr
  try simp only [Bool.not_eq_true', Bool.not_eq_false', decide_eq_true_eq, decide_eq_false_iff_not] at hb14
  refine wl_vn hfr (by decide) rfl (by decide) rfl rfl ?_
  clear hfr
  intro a hfr
  refine wl_vn hfr (by decide) rfl (by decide) rfl rfl ?_
  clear hfr
  intro a hfr
  refine wl_vn hfr (by decide) rfl (by decide) rfl rfl ?_
  clear hfr
  intro a hfr
  refine wl_vn hfr (by decide) rfl (by decide) rfl rfl ?_
  clear hfr
  intro a hfr
  refine wl_v hfr (by decide) (v_pick_f rfl rfl) ?_
  clear hfr
  intro a hfr
  refine wl_v hfr (by decide) (v_assign rfl) ?_
  clear hfr
  intro a hfr
  refine wl_nil (hK22 _ _ ?_)
  replace hfr : Fr 137 [(1, _), (5, _), (0, _), (6, _), (10, _), (11, _), (12, _)] [] a := hfr.pick [1, 5, 0, 6, 10, 11, 12]
  refine wc_seq_k fun K28 hK28 => ?_
  refine wc_seq_region fun K29 hK29 => ?_
  refine wl_v hfr (by decide) (v_move rfl) ?_
  clear hfr
  intro a hfr
  refine wl_v hfr (by decide) (v_move rfl) ?_
  clear hfr
  intro a hfr
  refine wl_v hfr (by decide) ((v_eq rfl rfl).asb (b' := false) rfl) ?_
  clear hfr
  intro a hfr
  refine wl_v hfr (by decide) ((v_ne_bool rfl rfl Tryd.underlying4).asb (b' := false) rfl) ?_
  clear hfr
  intro a hfr
  refine wl_v hfr (by decide) (v_move rfl) ?_
  clear hfr
  intro a hfr
  refine wl_vy hfr (by decide) rfl (by decide) rfl (v_move rfl) ?_
  clear hfr
  intro a hfr
  refine wl_vy hfr (by decide) rfl (by decide) rfl ((v_not rfl).asb (b' := true) rfl) ?_
  clear hfr
  intro a hfr
  refine wl_vy hfr (by decide) rfl (by decide) rfl (v_move rfl) ?_
  clear hfr
  intro a hfr
  refine wl_vy hfr (by decide) rfl (by decide) rfl (v_move rfl) ?_
  clear hfr
  intro a hfr
  refine wl_vy hfr (by decide) rfl (by decide) rfl ((v_ne rfl rfl).asb (b' := false) rfl) ?_
  clear hfr
  intro a hfr
  refine wl_vy hfr (by decide) rfl (by decide) rfl (v_move rfl) ?_
  clear hfr
  intro a hfr
  refine wl_vy hfr (by decide) rfl (by decide) rfl (v_move rfl) ?_
  clear hfr
  intro a hfr
  refine wl_vy hfr (by decide) rfl (by decide) rfl (v_builtin (v := .int .i64 0) rfl (by kernel_rfl)) ?_
  clear hfr
  intro a hfr
  refine wl_vy hfr (by decide) rfl (by decide) rfl ((v_ne rfl rfl).asb (b' := false) rfl) ?_
  clear hfr
  intro a hfr
  refine wl_vy hfr (by decide) rfl (by decide) rfl (v_pick_f rfl rfl) ?_
  clear hfr
  intro a hfr
  refine wl_vy hfr (by decide) rfl (by decide) rfl (v_pick_t rfl rfl) ?_
  clear hfr
  intro a hfr
  refine wl_v hfr (by decide) (v_pick_f rfl rfl) ?_
  clear hfr
  intro a hfr
  refine wl_nil (hK29 _ _ ?_)
  replace hfr : Fr 137 [(1, _), (5, _), (0, _), (6, _), (10, _), (12, _), (85, _)] [] a := hfr.pick [1, 5, 0, 6, 10, 12, 85]
  refine wc_cond_f hfr rfl ?_
  refine wc_skip ?_
  refine hK28 _ _ ?_
  refine wc_seq_k fun K30 hK30 => ?_
  refine wc_seq_region fun K31 hK31 => ?_
  refine wl_v hfr (by decide) (v_move rfl) ?_
  clear hfr
  intro a hfr
  refine wl_v hfr (by decide) ((v_not rfl).asb (b' := true) rfl) ?_
  clear hfr
  intro a hfr
  refine wl_nil (hK31 _ _ ?_)
  refine wc_cond_t hfr rfl ?_
  refine wc_seq_region fun K32 hK32 => ?_
  refine wl_v hfr (by decide) (v_move rfl) ?_
  clear hfr
  intro a hfr
  refine wl_v hfr (by decide) (v_move rfl) ?_
  clear hfr
  intro a hfr
  refine wl_vy hfr (by decide) rfl (by decide) rfl (v_move rfl) ?_
  clear hfr
  intro a hfr
  refine wl_vy hfr (by decide) rfl (by decide) rfl (v_move rfl) ?_
  clear hfr
  intro a hfr
  refine wl_vy hfr (by decide) rfl (by decide) rfl ((v_len_sl (sT := 22) (hst.ownAt (i := 0) rfl) rfl rfl (Tryd.runUnderlying22 _)).asi (m' := ((fewH xs 40).length : Int)) (by simp)) ?_
  clear hfr
  intro a hfr
  refine wl_vy hfr (by decide) rfl (by decide) rfl (v_move rfl) ?_
  clear hfr
  intro a hfr
  refine wl_callpy hfr hst (by decide) rfl (by decide) rfl Tryd.call21 rfl (ret_b (v_out (s := []) (p := []) (root := rootH sha (fewH xs 40)) hout) (verify_ok _ _ _ _ _ [] _ (slAt_nil _ _) (by decide) (by decide) (by omega) (hst.keepb hk0))) ?_
  clear hfr hst
  intro a w17 hfr hst
  refine wl_vy hfr (by decide) rfl (by decide) rfl ((v_not rfl).asb (b' := true) rfl) ?_
  clear hfr
  intro a hfr
  refine wl_v hfr (by decide) (v_pick_t rfl rfl) ?_
  clear hfr
  intro a hfr
  refine wl_v hfr (by decide) (v_assign rfl) ?_
  clear hfr
  intro a hfr
  refine wl_nil (hK32 _ _ ?_)
  replace hfr : Fr 137 [(1, _), (5, _), (0, _), (6, _), (10, _), (4, _)] [] a := hfr.pick [1, 5, 0, 6, 10, 4]
  refine wc_ret ?_
  refine fin_ret hfr Tryd.results5 (resAre_tmp rfl resAre_nil) ?_
  exact ⟨by rfl, hst.ext⟩

set_option maxHeartbeats 4000000 in
/-- dialtone/dialtonelaw02.DigestExtensionAccepted -/
theorem xaccepted_walk (i : Int) (av : Value) (xs : List By) (w0 : World) (hi : i ≤ 9223372036854775807) (hav : SlAt w0 av 1 (xs.map fun s => [sv s])) (hk0 : (blk 0 (kOf.map wv) 88).ok w0) :
    Ret Tryd.prog 6 #[av, .int .i64 i] w0 fun v w => v = .bool true ∧ Ext No w0 w := by
  refine ret_of Tryd.func6 rfl Tryd.ntmps6 (Nat.le_of_ble_eq_true rfl) fun a hfr => ?_
  replace hfr : Fr 97 [(0, _), (1, _)] [] a := hfr
  replace hst : St No w0 [] w0 := St.init w0
  refine wc_seq_region fun K1 hK1 => ?_
  refine wl_v hfr (by decide) (v_assign rfl) ?_
  clear hfr
  intro a hfr
  refine wl_nil (hK1 _ _ ?_)
  refine wc_seq_region fun K2 hK2 => ?_
  refine wl_callp hfr hst (by decide) Tryd.call12 rfl (sane_ok _ (hst.keepb hk0)) ?_
  clear hfr hst
  intro a w1 hfr hst
  refine wl_v hfr (by decide) (v_assign rfl) ?_
  clear hfr
  intro a hfr
  refine wl_nil (hK2 _ _ ?_)
  refine wc_seq_region fun K3 hK3 => ?_
  refine wl_v hfr (by decide) (v_move rfl) ?_
  clear hfr
  intro a hfr
  refine wl_callm hfr hst (by decide) Tryd.call13 rfl (few_ok av xs 25 _ (hst.arg hav) (by decide)) ?_
  clear hfr hst
  intro a w2 x2 hp hfr hst
  revert x2 hp hfr hst; rintro v1 hp hfr hst
  clear hp
  replace hst : St No w0 [own v1 9 1 ((fewH xs 25).map fun s => [sv s])] w2 := hst
  refine wl_v hfr (by decide) (v_assign rfl) ?_
  clear hfr
  intro a hfr
  refine wl_nil (hK3 _ _ ?_)
  have hlA : (fewH xs 25).length ≤ 25 := by rw [few_len]; omega
  have hcA : ∀ s ∈ (fewH xs 25), s.length ≤ 40000000 := few_big
  refine wc_seq_region fun K4 hK4 => ?_
  refine wl_v hfr (by decide) (v_move rfl) ?_
  clear hfr
  intro a hfr
  refine wl_callp hfr hst (by decide) Tryd.call19 rfl (root_ok v1 (fewH xs 25) _ (hst.ownAt (i := 0) rfl) (by first | omega | (simp only [List.length_take, List.length_drop]; omega)) (by intro k hk; have h := getD_mem (d := []) hk; first | exact hcA _ h | exact hcM _ h | exact hcA _ (List.mem_of_mem_take h) | exact hcM _ (List.mem_of_mem_take h) | exact hcM _ (List.mem_of_mem_drop h)) (hst.keepb hk0)) ?_
  clear hfr hst
  intro a w3 hfr hst
  refine wl_v hfr (by decide) (v_assign rfl) ?_
  clear hfr
  intro a hfr
  refine wl_nil (hK4 _ _ ?_)
  refine wc_seq_k fun K5 hK5 => ?_
  refine wc_seq_region fun K6 hK6 => ?_
  refine wl_v hfr (by decide) (v_assign rfl) ?_
  clear hfr
  intro a hfr
  refine wl_nil (hK6 _ _ ?_)
  refine wc_block ?_
  refine wc_loop (fun m a w => ∃ (k : Nat), m = (fewH xs 25).length + 1 - k ∧ (k ≤ (fewH xs 25).length + 1) ∧ Fr 97 [(1, .int .i64 i), (5, .bool true), (0, v1), (6, sv (rootH sha (fewH xs 25))), (7, .int .i64 (k : Int))] [] a ∧ St No w0 [own v1 9 1 ((fewH xs 25).map fun s => [sv s])] w) _ ⟨0, rfl, Nat.zero_le _, hfr.pick [1, 5, 0, 6, 7], hst.select [0] (by decide)⟩ ?_
  rintro _ a w4 ⟨k, rfl, hk, hfr, hst⟩
  refine wc_seq_k fun K7 hK7 => ?_
  refine wc_seq_region fun K8 hK8 => ?_
  refine wl_v hfr (by decide) (v_move rfl) ?_
  clear hfr
  intro a hfr
  refine wl_v hfr (by decide) (v_move rfl) ?_
  clear hfr
  intro a hfr
  refine wl_v hfr (by decide) ((v_len_sl (sT := 22) (hst.ownAt (i := 0) rfl) rfl rfl (Tryd.runUnderlying22 _)).asi (m' := ((fewH xs 25).length : Int)) (by simp)) ?_
  clear hfr
  intro a hfr
  refine wl_v hfr (by decide) (v_le rfl rfl) ?_
  clear hfr
  intro a hfr
  refine wl_nil (hK8 _ _ ?_)
  refine wc_cond hfr rfl (fun hc3 => ?_) (fun hc3 => ?_)
  · rw [hc3] at hfr
    try simp only [Bool.not_eq_true', Bool.not_eq_false', decide_eq_true_eq, decide_eq_false_iff_not] at hc3
    have hok := verify_ext sha_len (l := (fewH xs 25)) (m := k) (by omega)
    have hpl := ext_short (l := (fewH xs 25)) (k := k) (by omega)
    have hbn := binN_le (n := (fewH xs 25).length) (by omega)
    refine wc_skip ?_
    refine hK7 _ _ ?_
    refine wc_seq_k fun K9 hK9 => ?_
    refine wc_block ?_
    refine wc_seq_region fun K10 hK10 => ?_
    refine wl_v hfr (by decide) (v_move rfl) ?_
    clear hfr
    intro a hfr
    refine wl_v hfr (by decide) (v_move rfl) ?_
    clear hfr
    intro a hfr
    refine wl_callm hfr hst (by decide) Tryd.call16 rfl (ext_in v1 (fewH xs 25) k _ (hst.ownAt (i := 0) rfl) (by omega) (by omega) (by first | exact hcA | exact hcM) (hst.keepb hk0)) ?_
    clear hfr hst
    intro a w5 x5 hp hfr hst
    revert x5 hp hfr hst; rintro v4 hp hfr hst
    clear hp
    replace hst : St No w0 [own v4 9 1 ((extH sha (fewH xs 25) k).map fun s => [sv s]), own v1 9 1 ((fewH xs 25).map fun s => [sv s])] w5 := hst
    refine wl_v hfr (by decide) (v_move rfl) ?_
    clear hfr
    intro a hfr
    refine wl_v hfr (by decide) (v_extract rfl rfl) ?_
    clear hfr
    intro a hfr
    refine wl_v hfr (by decide) (v_extract rfl rfl) ?_
    clear hfr
    intro a hfr
    refine wl_v hfr (by decide) (v_assign rfl) ?_
    clear hfr
    intro a hfr
    refine wl_v hfr (by decide) (v_assign rfl) ?_
    clear hfr
    intro a hfr
    refine wl_nil (hK10 _ _ ?_)
    replace hfr : Fr 97 [(1, _), (5, _), (0, _), (6, _), (7, _), (8, _), (9, _)] [] a := hfr.pick [1, 5, 0, 6, 7, 8, 9]
    refine wc_seq_region fun K11 hK11 => ?_
    refine wl_v hfr (by decide) (v_move rfl) ?_
    clear hfr
    intro a hfr
    refine wl_v hfr (by decide) ((v_ne rfl rfl).asb (b' := false) rfl) ?_
    clear hfr
    intro a hfr
    refine wl_v hfr (by decide) (v_move rfl) ?_
    clear hfr
    intro a hfr
    refine wl_vy hfr (by decide) rfl (by decide) rfl (v_move rfl) ?_
    clear hfr
    intro a hfr
    refine wl_vy hfr (by decide) rfl (by decide) rfl ((v_len_sl (sT := 22) (hst.ownAt (i := 0) rfl) rfl rfl (Tryd.runUnderlying22 _)).asi (m' := ((extH sha (fewH xs 25) k).length : Int)) (by simp)) ?_
    clear hfr
    intro a hfr
    refine wl_vy hfr (by decide) rfl (by decide) rfl (v_move rfl) ?_
    clear hfr
    intro a hfr
    refine wl_vy hfr (by decide) rfl (by decide) rfl ((v_len_sl (sT := 22) (hst.ownAt (i := 1) rfl) rfl rfl (Tryd.runUnderlying22 _)).asi (m' := ((fewH xs 25).length : Int)) (by simp)) ?_
    clear hfr
    intro a hfr
    refine wl_callpy hfr hst (by decide) rfl (by decide) rfl Tryd.call25 rfl (binary_ok (fewH xs 25).length _ (by omega)) ?_
    clear hfr hst
    intro a w6 hfr hst
    refine wl_vy hfr (by decide) rfl (by decide) rfl (v_mul rfl rfl ⟨by omega, by omega⟩) ?_
    clear hfr
    intro a hfr
    refine wl_vy hfr (by decide) rfl (by decide) rfl ((v_gt rfl rfl).asb (b' := false) (by exact decide_eq_false (by omega))) ?_
    clear hfr
    intro a hfr
    refine wl_v hfr (by decide) (v_pick_f rfl rfl) ?_
    clear hfr
    intro a hfr
    refine wl_v hfr (by decide) (v_move rfl) ?_
    clear hfr
    intro a hfr
    refine wl_vy hfr (by decide) rfl (by decide) rfl (v_move rfl) ?_
    clear hfr
    intro a hfr
    refine wl_vy hfr (by decide) rfl (by decide) rfl (v_move rfl) ?_
    clear hfr
    intro a hfr
    refine wl_vy hfr (by decide) rfl (by decide) rfl (v_slice_at (l := 0) (h := k) (hst.ownAt (i := 1) rfl) rfl rfl rfl Tryd.underlying22 (by kernel_rfl) (.inl ⟨rfl, rfl⟩) (.inr rfl) (Nat.zero_le _) (by first | (rw [List.length_map]; omega) | (simp <;> omega))) ?_
    clear hfr
    intro a hfr
    refine wl_callpy hfr hst (by decide) rfl (by decide) rfl Tryd.call19 rfl (root_ok (cut v1 1 0 k (slCap v1)) ((fewH xs 25).take k) _ ((hst.ownAt (i := 1) rfl).cut0 (h := k) (by first | omega | (rw [List.length_reverse]; omega) | simp | (simp; omega))) (by first | omega | (simp only [List.length_take, List.length_drop]; omega)) (by intro k hk; have h := getD_mem (d := []) hk; first | exact hcA _ h | exact hcM _ h | exact hcA _ (List.mem_of_mem_take h) | exact hcM _ (List.mem_of_mem_take h) | exact hcM _ (List.mem_of_mem_drop h)) (hst.keepb hk0)) ?_
    clear hfr hst
    intro a w7 hfr hst
    refine wl_vy hfr (by decide) rfl (by decide) rfl (v_move rfl) ?_
    clear hfr
    intro a hfr
    refine wl_vy hfr (by decide) rfl (by decide) rfl (v_move rfl) ?_
    clear hfr
    intro a hfr
    refine wl_vy hfr (by decide) rfl (by decide) rfl (v_move rfl) ?_
    clear hfr
    intro a hfr
    refine wl_vy hfr (by decide) rfl (by decide) rfl ((v_len_sl (sT := 22) (hst.ownAt (i := 1) rfl) rfl rfl (Tryd.runUnderlying22 _)).asi (m' := ((fewH xs 25).length : Int)) (by simp)) ?_
    clear hfr
    intro a hfr
    refine wl_vy hfr (by decide) rfl (by decide) rfl (v_move rfl) ?_
    clear hfr
    intro a hfr
    refine wl_callpy hfr hst (by decide) rfl (by decide) rfl Tryd.call23 rfl (ret_b hok (verifyx_ok _ _ _ _ v4 _ _ (hst.ownAt (i := 0) rfl) (by omega) (by omega) (hst.keepb hk0))) ?_
    clear hfr hst
    intro a w8 hfr hst
    refine wl_vy hfr (by decide) rfl (by decide) rfl ((v_not rfl).asb (b' := false) rfl) ?_
    clear hfr
    intro a hfr
    refine wl_v hfr (by decide) (v_pick_f rfl rfl) ?_
    clear hfr
    intro a hfr
    refine wl_nil (hK11 _ _ ?_)
    replace hfr : Fr 97 [(1, _), (5, _), (0, _), (6, _), (7, _), (53, _)] [] a := hfr.pick [1, 5, 0, 6, 7, 53]
    replace hst : St No w0 [_] w8 := hst.mask [false, true]
    refine wc_cond_f hfr rfl ?_
    refine wc_skip ?_
    refine hK9 _ _ ?_
    refine wc_region ?_
    refine wl_v hfr (by decide) (v_move rfl) ?_
    clear hfr
    intro a hfr
    refine wl_v hfr (by decide) (v_add rfl rfl ⟨by omega, by omega⟩) ?_
    clear hfr
    intro a hfr
    refine wl_v hfr (by decide) (v_assign rfl) ?_
    clear hfr
    intro a hfr
    refine wl_nil ?_
    refine ⟨_, ?_, k + 1, rfl, (by omega), hfr.pick [1, 5, 0, 6, 7], hst.select [0] (by decide)⟩
    omega
  rw [hc3] at hfr
  try simp only [Bool.not_eq_true', Bool.not_eq_false', decide_eq_true_eq, decide_eq_false_iff_not] at hc3
  refine wc_exit ?_
  refine hK5 _ _ ?_
  refine wc_seq_region fun K12 hK12 => ?_
  refine wl_v hfr (by decide) (v_move rfl) ?_
  clear hfr
  intro a hfr
  refine wl_v hfr (by decide) (v_move rfl) ?_
  clear hfr
  intro a hfr
  rcases Bool.eq_false_or_eq_true (decide (0 ≤ i ∧ i ≤ ((fewH xs 25).length : Int))) with hb6 | hb6
  · try simp only [Bool.not_eq_true', Bool.not_eq_false', decide_eq_true_eq, decide_eq_false_iff_not] at hb6
    obtain ⟨ii, rfl⟩ := Int.eq_ofNat_of_zero_le hb6.1
    refine wl_callm hfr hst (by decide) Tryd.call16 rfl (ext_in v1 (fewH xs 25) ii _ (hst.ownAt (i := 0) rfl) (by omega) (by omega) (by first | exact hcA | exact hcM) (hst.keepb hk0)) ?_
    clear hfr hst
    intro a w9 x8 hp hfr hst
    revert x8 hp hfr hst; rintro v7 hp hfr hst
    clear hp
    replace hst : St No w0 [own v7 9 1 ((extH sha (fewH xs 25) ii).map fun s => [sv s]), own v1 9 1 ((fewH xs 25).map fun s => [sv s])] w9 := hst
    refine wl_v hfr (by decide) (v_move rfl) ?_
    clear hfr
    intro a hfr
    refine wl_v hfr (by decide) (v_extract rfl rfl) ?_
    clear hfr
    intro a hfr
    refine wl_v hfr (by decide) (v_extract rfl rfl) ?_
    clear hfr
    intro a hfr
    refine wl_v hfr (by decide) (v_assign rfl) ?_
    clear hfr
    intro a hfr
    refine wl_v hfr (by decide) (v_assign rfl) ?_
    clear hfr
    intro a hfr
    refine wl_nil (hK12 _ _ ?_)
    replace hfr : Fr 97 [(1, _), (5, _), (0, _), (6, _), (10, _), (11, _)] [] a := hfr.pick [1, 5, 0, 6, 10, 11]
    refine wc_seq_region fun K13 hK13 => ?_
    refine wl_v hfr (by decide) (v_move rfl) ?_
    clear hfr
    intro a hfr
    refine wl_v hfr (by decide) ((v_ge rfl rfl).asb (b' := true) (by exact decide_eq_true (by omega))) ?_
    clear hfr
    intro a hfr
    refine wl_v hfr (by decide) (v_move rfl) ?_
    clear hfr
    intro a hfr
    refine wl_vy hfr (by decide) rfl (by decide) rfl (v_move rfl) ?_
    clear hfr
    intro a hfr
    refine wl_vy hfr (by decide) rfl (by decide) rfl (v_move rfl) ?_
    clear hfr
    intro a hfr
    refine wl_vy hfr (by decide) rfl (by decide) rfl ((v_len_sl (sT := 22) (hst.ownAt (i := 1) rfl) rfl rfl (Tryd.runUnderlying22 _)).asi (m' := ((fewH xs 25).length : Int)) (by simp)) ?_
    clear hfr
    intro a hfr
    refine wl_vy hfr (by decide) rfl (by decide) rfl ((v_le rfl rfl).asb (b' := true) (by exact decide_eq_true (by omega))) ?_
    clear hfr
    intro a hfr
    refine wl_v hfr (by decide) (v_pick_t rfl rfl) ?_
    clear hfr
    intro a hfr
    refine wl_v hfr (by decide) (v_assign rfl) ?_
    clear hfr
    intro a hfr
    refine wl_nil (hK13 _ _ ?_)
    replace hfr : Fr 97 [(1, _), (5, _), (0, _), (6, _), (10, _), (11, _), (12, _)] [] a := hfr.pick [1, 5, 0, 6, 10, 11, 12]
    refine wc_seq_region fun K14 hK14 => ?_
    refine wl_v hfr (by decide) (v_move rfl) ?_
    clear hfr
    intro a hfr
    refine wl_v hfr (by decide) (v_move rfl) ?_
    clear hfr
    intro a hfr
    refine wl_vy hfr (by decide) rfl (by decide) rfl (v_move rfl) ?_
    clear hfr
    intro a hfr
    refine wl_vy hfr (by decide) rfl (by decide) rfl (v_move rfl) ?_
    clear hfr
    intro a hfr
    refine wl_vy hfr (by decide) rfl (by decide) rfl ((v_eq rfl rfl).asb (b' := true) rfl) ?_
    clear hfr
    intro a hfr
    refine wl_vy hfr (by decide) rfl (by decide) rfl ((v_eq_bool rfl rfl Tryd.underlying4).asb (b' := true) rfl) ?_
    clear hfr
    intro a hfr
    refine wl_v hfr (by decide) (v_pick_t rfl rfl) ?_
    clear hfr
    intro a hfr
    refine wl_v hfr (by decide) (v_move rfl) ?_
    clear hfr
    intro a hfr
    refine wl_vy hfr (by decide) rfl (by decide) rfl (v_move rfl) ?_
    clear hfr
    intro a hfr
    refine wl_vy hfr (by decide) rfl (by decide) rfl (v_move rfl) ?_
    clear hfr
    intro a hfr
    refine wl_vn hfr (by decide) rfl (by decide) rfl rfl ?_
    clear hfr
    intro a hfr
    refine wl_vn hfr (by decide) rfl (by decide) rfl rfl ?_
    clear hfr
    intro a hfr
    refine wl_vn hfr (by decide) rfl (by decide) rfl rfl ?_
    clear hfr
    intro a hfr
    refine wl_vu hfr (by decide) rfl (by decide) rfl ?_
    clear hfr
    intro a hfr
    refine wl_vu hfr (by decide) rfl (by decide) rfl ?_
    clear hfr
    intro a hfr
    refine wl_vu hfr (by decide) rfl (by decide) rfl ?_
    clear hfr
    intro a hfr
    refine wl_vn hfr (by decide) rfl (by decide) rfl rfl ?_
    clear hfr
    intro a hfr
    refine wl_vn hfr (by decide) rfl (by decide) rfl rfl ?_
    clear hfr
    intro a hfr
    refine wl_vu hfr (by decide) rfl (by decide) rfl ?_
    clear hfr
    intro a hfr
    refine wl_vu hfr (by decide) rfl (by decide) rfl ?_
    clear hfr
    intro a hfr
    refine wl_vu hfr (by decide) rfl (by decide) rfl ?_
    clear hfr
    intro a hfr
    refine wl_vu hfr (by decide) rfl (by decide) rfl ?_
    clear hfr
    intro a hfr
    refine wl_vu hfr (by decide) rfl (by decide) rfl ?_
    clear hfr
    intro a hfr
    refine wl_vu hfr (by decide) rfl (by decide) rfl ?_
    clear hfr
    intro a hfr
    refine wl_vu hfr (by decide) rfl (by decide) rfl ?_
    clear hfr
    intro a hfr
    refine wl_vu hfr (by decide) rfl (by decide) rfl ?_
    clear hfr
    intro a hfr
    refine wl_vn hfr (by decide) rfl (by decide) rfl rfl ?_
    clear hfr
    intro a hfr
    refine wl_vy hfr (by decide) rfl (by decide) rfl (v_pick_t rfl rfl) ?_
    clear hfr
    intro a hfr
    refine wl_v hfr (by decide) (v_pick_t rfl rfl) ?_
    clear hfr
    intro a hfr
    refine wl_v hfr (by decide) (v_assign rfl) ?_
    clear hfr
    intro a hfr
    refine wl_nil (hK14 _ _ ?_)
    replace hfr : Fr 97 [(4, _)] [] a := hfr.pick [4]
    replace hst : St No w0 [] w9 := hst.mask [false, false]
    refine wc_ret ?_
    refine fin_ret hfr Tryd.results6 (resAre_tmp rfl resAre_nil) ?_
    exact ⟨by rfl, hst.ext⟩
  try simp only [Bool.not_eq_true', Bool.not_eq_false', decide_eq_true_eq, decide_eq_false_iff_not] at hb6
  have hout := hb6
  refine wl_callp hfr hst (by decide) Tryd.call16 rfl (ext_err v1 (fewH xs 25) i _ (hst.ownAt (i := 0) rfl) (by omega)) ?_
  clear hfr hst
  intro a w10 hfr hst
  refine wl_v hfr (by decide) (v_move rfl) ?_
  clear hfr
  intro a hfr
  refine wl_v hfr (by decide) (v_extract rfl rfl) ?_
  clear hfr
  intro a hfr
  refine wl_v hfr (by decide) (v_extract rfl rfl) ?_
  clear hfr
  intro a hfr
  refine wl_v hfr (by decide) (v_assign rfl) ?_
  clear hfr
  intro a hfr
  refine wl_v hfr (by decide) (v_assign rfl) ?_
  clear hfr
  intro a hfr
  refine wl_nil (hK12 _ _ ?_)
  replace hfr : Fr 97 [(1, _), (5, _), (0, _), (6, _), (10, _), (11, _)] [] a := hfr.pick [1, 5, 0, 6, 10, 11]
  refine wc_seq_region fun K15 hK15 => ?_
  refine wl_v hfr (by decide) (v_move rfl) ?_
  clear hfr
  intro a hfr
  refine wl_v hfr (by decide) (v_ge rfl rfl) ?_
  clear hfr
  intro a hfr
  refine wl_v hfr (by decide) (v_move rfl) ?_
  clear hfr
  intro a hfr
  rcases Bool.eq_false_or_eq_true (decide (0 ≤ i)) with hb9 | hb9
  · rw [hb9] at hfr
    try simp only [Bool.not_eq_true', Bool.not_eq_false', decide_eq_true_eq, decide_eq_false_iff_not] at hb9
    refine wl_vy hfr (by decide) rfl (by decide) rfl (v_move rfl) ?_
    clear hfr
    intro a hfr
    refine wl_vy hfr (by decide) rfl (by decide) rfl (v_move rfl) ?_
    clear hfr
    intro a hfr
    refine wl_vy hfr (by decide) rfl (by decide) rfl ((v_len_sl (sT := 22) (hst.ownAt (i := 0) rfl) rfl rfl (Tryd.runUnderlying22 _)).asi (m' := ((fewH xs 25).length : Int)) (by simp)) ?_
    clear hfr
    intro a hfr
    refine wl_vy hfr (by decide) rfl (by decide) rfl ((v_le rfl rfl).asb (b' := false) (by exact decide_eq_false (by omega))) ?_
    clear hfr
    intro a hfr
    refine wl_v hfr (by decide) (v_pick_t rfl rfl) ?_
    clear hfr
    intro a hfr
    refine wl_v hfr (by decide) (v_assign rfl) ?_
    clear hfr
    intro a hfr
    refine wl_nil (hK15 _ _ ?_)
    replace hfr : Fr 97 [(1, _), (5, _), (0, _), (6, _), (10, _), (11, _), (12, _)] [] a := hfr.pick [1, 5, 0, 6, 10, 11, 12]
    refine wc_seq_region fun K16 hK16 => ?_
    refine wl_v hfr (by decide) (v_move rfl) ?_
    clear hfr
    intro a hfr
    refine wl_v hfr (by decide) (v_move rfl) ?_
    clear hfr
    intro a hfr
    refine wl_vy hfr (by decide) rfl (by decide) rfl (v_move rfl) ?_
    clear hfr
    intro a hfr
    refine wl_vy hfr (by decide) rfl (by decide) rfl (v_move rfl) ?_
    clear hfr
    intro a hfr
    refine wl_vy hfr (by decide) rfl (by decide) rfl ((v_eq rfl rfl).asb (b' := false) rfl) ?_
    clear hfr
    intro a hfr
    refine wl_vy hfr (by decide) rfl (by decide) rfl ((v_eq_bool rfl rfl Tryd.underlying4).asb (b' := true) rfl) ?_
    clear hfr
    intro a hfr
    refine wl_v hfr (by decide) (v_pick_t rfl rfl) ?_
    clear hfr
    intro a hfr
    refine wl_v hfr (by decide) (v_move rfl) ?_
    clear hfr
    intro a hfr
    refine wl_vy hfr (by decide) rfl (by decide) rfl (v_move rfl) ?_
    clear hfr
    intro a hfr
    refine wl_vy hfr (by decide) rfl (by decide) rfl (v_move rfl) ?_
    clear hfr
    intro a hfr
    refine wl_vy hfr (by decide) rfl (by decide) rfl (v_move rfl) ?_
    clear hfr
    intro a hfr
    refine wl_vy hfr (by decide) rfl (by decide) rfl ((v_eq rfl rfl).asb (b' := true) rfl) ?_
    clear hfr
    intro a hfr
    refine wl_vy hfr (by decide) rfl (by decide) rfl (v_move rfl) ?_
    clear hfr
    intro a hfr
    refine wl_vy hfr (by decide) rfl (by decide) rfl (v_move rfl) ?_
    clear hfr
    intro a hfr
    refine wl_vy hfr (by decide) rfl (by decide) rfl (v_builtin (v := .int .i64 0) rfl (by kernel_rfl)) ?_
    clear hfr
    intro a hfr
    refine wl_vy hfr (by decide) rfl (by decide) rfl ((v_eq rfl rfl).asb (b' := true) rfl) ?_
    clear hfr
    intro a hfr
    refine wl_vy hfr (by decide) rfl (by decide) rfl (v_pick_t rfl rfl) ?_
    clear hfr
    intro a hfr
    refine wl_vy hfr (by decide) rfl (by decide) rfl (v_move rfl) ?_
    clear hfr
    intro a hfr
    refine wl_vy hfr (by decide) rfl (by decide) rfl (v_move rfl) ?_
    clear hfr
    intro a hfr
    refine wl_vy hfr (by decide) rfl (by decide) rfl (v_move rfl) ?_
    clear hfr
    intro a hfr
    refine wl_vy hfr (by decide) rfl (by decide) rfl (v_move rfl) ?_
    clear hfr
    intro a hfr
    refine wl_vy hfr (by decide) rfl (by decide) rfl (v_move rfl) ?_
    clear hfr
    intro a hfr
    refine wl_vy hfr (by decide) rfl (by decide) rfl ((v_len_sl (sT := 22) (hst.ownAt (i := 0) rfl) rfl rfl (Tryd.runUnderlying22 _)).asi (m' := ((fewH xs 25).length : Int)) (by simp)) ?_
    clear hfr
    intro a hfr
    refine wl_vy hfr (by decide) rfl (by decide) rfl (v_move rfl) ?_
    clear hfr
    intro a hfr
    refine wl_callpy hfr hst (by decide) rfl (by decide) rfl Tryd.call23 rfl (ret_b (vx_out (old := rootH sha (fewH xs 25)) (p := []) (root := rootH sha (fewH xs 25)) hout) (verifyx_ok _ _ _ _ _ [] _ (slAt_nil _ _) (by decide) (by omega) (hst.keepb hk0))) ?_
    clear hfr hst
    intro a w11 hfr hst
    refine wl_vy hfr (by decide) rfl (by decide) rfl ((v_not rfl).asb (b' := true) rfl) ?_
    clear hfr
    intro a hfr
    refine wl_vy hfr (by decide) rfl (by decide) rfl (v_pick_t rfl rfl) ?_
    clear hfr
    intro a hfr
    refine wl_vy hfr (by decide) rfl (by decide) rfl (v_pick_f rfl rfl) ?_
    clear hfr
    intro a hfr
    refine wl_v hfr (by decide) (v_pick_t rfl rfl) ?_
    clear hfr
    intro a hfr
    refine wl_v hfr (by decide) (v_assign rfl) ?_
    clear hfr
    intro a hfr
    refine wl_nil (hK16 _ _ ?_)
    replace hfr : Fr 97 [(4, _)] [] a := hfr.pick [4]
    replace hst : St No w0 [] w11 := hst.mask [false]
    refine wc_ret ?_
    refine fin_ret hfr Tryd.results6 (resAre_tmp rfl resAre_nil) ?_
    exact ⟨by rfl, hst.ext⟩
  rw [hb9] at hfr
  try simp only [Bool.not_eq_true', Bool.not_eq_false', decide_eq_true_eq, decide_eq_false_iff_not] at hb9
  refine wl_vn hfr (by decide) rfl (by decide) rfl rfl ?_
  clear hfr
  intro a hfr
  refine wl_vn hfr (by decide) rfl (by decide) rfl rfl ?_
  clear hfr
  intro a hfr
  refine wl_vn hfr (by decide) rfl (by decide) rfl rfl ?_
  clear hfr
  intro a hfr
  refine wl_vn hfr (by decide) rfl (by decide) rfl rfl ?_
  clear hfr
  intro a hfr
  refine wl_v hfr (by decide) (v_pick_f rfl rfl) ?_
  clear hfr
  intro a hfr
  refine wl_v hfr (by decide) (v_assign rfl) ?_
  clear hfr
  intro a hfr
  refine wl_nil (hK15 _ _ ?_)
  replace hfr : Fr 97 [(1, _), (5, _), (0, _), (6, _), (10, _), (11, _), (12, _)] [] a := hfr.pick [1, 5, 0, 6, 10, 11, 12]
  refine wc_seq_region fun K17 hK17 => ?_
  refine wl_v hfr (by decide) (v_move rfl) ?_
  clear hfr
  intro a hfr
  refine wl_v hfr (by decide) (v_move rfl) ?_
  clear hfr
  intro a hfr
  refine wl_vy hfr (by decide) rfl (by decide) rfl (v_move rfl) ?_
  clear hfr
  intro a hfr
  refine wl_vy hfr (by decide) rfl (by decide) rfl (v_move rfl) ?_
  clear hfr
  intro a hfr
  refine wl_vy hfr (by decide) rfl (by decide) rfl ((v_eq rfl rfl).asb (b' := false) rfl) ?_
  clear hfr
  intro a hfr
  refine wl_vy hfr (by decide) rfl (by decide) rfl ((v_eq_bool rfl rfl Tryd.underlying4).asb (b' := true) rfl) ?_
  clear hfr
  intro a hfr
  refine wl_v hfr (by decide) (v_pick_t rfl rfl) ?_
  clear hfr
  intro a hfr
  refine wl_v hfr (by decide) (v_move rfl) ?_
  clear hfr
  intro a hfr
  refine wl_vy hfr (by decide) rfl (by decide) rfl (v_move rfl) ?_
  clear hfr
  intro a hfr
  refine wl_vy hfr (by decide) rfl (by decide) rfl (v_move rfl) ?_
  clear hfr
  intro a hfr
  refine wl_vy hfr (by decide) rfl (by decide) rfl (v_move rfl) ?_
  clear hfr
  intro a hfr
  refine wl_vy hfr (by decide) rfl (by decide) rfl ((v_eq rfl rfl).asb (b' := true) rfl) ?_
  clear hfr
  intro a hfr
  refine wl_vy hfr (by decide) rfl (by decide) rfl (v_move rfl) ?_
  clear hfr
  intro a hfr
  refine wl_vy hfr (by decide) rfl (by decide) rfl (v_move rfl) ?_
  clear hfr
  intro a hfr
  refine wl_vy hfr (by decide) rfl (by decide) rfl (v_builtin (v := .int .i64 0) rfl (by kernel_rfl)) ?_
  clear hfr
  intro a hfr
  refine wl_vy hfr (by decide) rfl (by decide) rfl ((v_eq rfl rfl).asb (b' := true) rfl) ?_
  clear hfr
  intro a hfr
  refine wl_vy hfr (by decide) rfl (by decide) rfl (v_pick_t rfl rfl) ?_
  clear hfr
  intro a hfr
  refine wl_vy hfr (by decide) rfl (by decide) rfl (v_move rfl) ?_
  clear hfr
  intro a hfr
  refine wl_vy hfr (by decide) rfl (by decide) rfl (v_move rfl) ?_
  clear hfr
  intro a hfr
  refine wl_vy hfr (by decide) rfl (by decide) rfl (v_move rfl) ?_
  clear hfr
  intro a hfr
  refine wl_vy hfr (by decide) rfl (by decide) rfl (v_move rfl) ?_
  clear hfr
  intro a hfr
  refine wl_vy hfr (by decide) rfl (by decide) rfl (v_move rfl) ?_
  clear hfr
  intro a hfr
  refine wl_vy hfr (by decide) rfl (by decide) rfl ((v_len_sl (sT := 22) (hst.ownAt (i := 0) rfl) rfl rfl (Tryd.runUnderlying22 _)).asi (m' := ((fewH xs 25).length : Int)) (by simp)) ?_
  clear hfr
  intro a hfr
  refine wl_vy hfr (by decide) rfl (by decide) rfl (v_move rfl) ?_
  clear hfr
  intro a hfr
  refine wl_callpy hfr hst (by decide) rfl (by decide) rfl Tryd.call23 rfl (ret_b (vx_out (old := rootH sha (fewH xs 25)) (p := []) (root := rootH sha (fewH xs 25)) hout) (verifyx_ok _ _ _ _ _ [] _ (slAt_nil _ _) (by decide) (by omega) (hst.keepb hk0))) ?_
  clear hfr hst
  intro a w12 hfr hst
  refine wl_vy hfr (by decide) rfl (by decide) rfl ((v_not rfl).asb (b' := true) rfl) ?_
  clear hfr
  intro a hfr
  refine wl_vy hfr (by decide) rfl (by decide) rfl (v_pick_t rfl rfl) ?_
  clear hfr
  intro a hfr
  refine wl_vy hfr (by decide) rfl (by decide) rfl (v_pick_f rfl rfl) ?_
  clear hfr
  intro a hfr
  refine wl_v hfr (by decide) (v_pick_t rfl rfl) ?_
  clear hfr
  intro a hfr
  refine wl_v hfr (by decide) (v_assign rfl) ?_
  clear hfr
  intro a hfr
  refine wl_nil (hK17 _ _ ?_)
  replace hfr : Fr 97 [(4, _)] [] a := hfr.pick [4]
  replace hst : St No w0 [] w12 := hst.mask [false]
  refine wc_ret ?_
  refine fin_ret hfr Tryd.results6 (resAre_tmp rfl resAre_nil) ?_
  exact ⟨by rfl, hst.ext⟩
end Go.Proofs.YtmcoolbjgeibcaaDoor
