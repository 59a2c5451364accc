/- Texts joined: Laid, Door. -/
import Derived.Test.YtmcoolbjgeibcaaDoorJP
import Derived.Test.YtmcoolbjgeibcaaDoorJB
import Derived.LaidMore
import Derived.OpenShut
import Derived.Stop.Joined
import Derived.SevenTiedAt
import Derived.ChangeMaps5
import Derived.Test.YtmcoolbjgeibcaaDoorRows
/- The hand-in's frame where a variable is laid: the words of the digest; arguments that are strings and lists of strings. -/
namespace Go.PW
open Go.RowKit Go.ChangeShapes Go.WideShapes Go.ChangeAt
set_option linter.unusedVariables false
set_option linter.unusedSimpArgs false
section
variable {H : Type} {enc : TypeId × Value → H}
theorem handed_laid {a : Assume} {C : Checked} {os : Os} {f : FuncId} {fn : Func} {s : ChangeSpec} {conds : List PathCond} {apart fresh handsOn again : Bool} {X : World → Array Value → Prop}
    (hX : ∀ (w w' : World) (args : Array Value), w.heap = w'.heap → X w args → X w' args)
    (own : ownKnob C.prog.godebug = none) (started : os.Started) (noInit : C.prog.inits.idxOf? f = none) (hfn : C.prog.funcs[f]? = some fn)
    (witness : ∃ (w : World) (tape : Tape) (i : Input), w.os = os ∧ (w.forCall tape i).Shaped C.prog ∧ i.vars = [] ∧ Input.okWide C.prog (w.forCall tape i) .any w.heap.size f i ∧
      ((s.pre enc C.prog fn conds apart (w.forCall tape i).memory i.args ∧ X (w.forCall tape i).memory i.args) ∧ sizedMet enc C.prog fn (OpenSpec.ofChange s) apart (w.forCall tape i).memory i.args) ∧ a.holds C.prog (lone (Frame.enter C.prog f i.args .normal) [] (w.forCall tape i)))
    (contract : ∀ (W : World) (base : Nat) (args : Array Value) (ds gs : List (DataW H)) (before : List MemPlace),
      (∀ (j : Nat) t v, fn.params[j]? = some t → args[j]? = some v → Value.okWide C.prog W .any base t v) →
      DataW.Whole enc C.prog fn.params.toList s.vars apart W args.toList ds gs before →
      conds.all (PathCond.test C.prog ⟨fn.params.toList, ds, s.plain.varTypes C.prog, gs⟩) = true →
      (DataW.weightsEach C.prog (fn.params.toList ++ s.plain.varTypes C.prog) (ds ++ gs)).all (· ≤ reachBytes) = true → X W args → W.ShapedOpen C.prog →
      Calls C.prog f args W fun e W' => ∃ v, e = .returned v ∧ s.post enc C.prog fn apart fresh handsOn again W args v W') :
    ReturnsInHanded a C os f .any (fun w args => (s.pre enc C.prog fn conds apart w args ∧ X w args) ∧ sizedMet enc C.prog fn (OpenSpec.ofChange s) apart w args) (s.post enc C.prog fn apart fresh handsOn again) := by
  refine returnsInHanded_of_calls own started noInit witness ?_
  intro w tape i _ hsh _ hok hpre _
  obtain ⟨_, _, _, fn', hfn', _, _, _, _, hval⟩ := hok
  have e : fn' = fn := Option.some.inj (hfn'.symm.trans hfn)
  subst e
  obtain ⟨⟨⟨ds, gs, before, hw, hc⟩, hx⟩, hz⟩ := hpre
  have hw' := DataW.Whole.of_heap (w' := w.forCall tape i) (by rfl) hw
  refine (contract (w.forCall tape i) w.heap.size i.args ds gs before hval hw' hc (hz.weights hw) (hX _ _ _ (by rfl) hx) hsh).mono fun e W' ⟨v, he, hp⟩ => ?_
  subst he
  exact ChangeSpec.post_blind hp
end
section
variable {H : Type} {enc : TypeId × Value → H} {P : Program} {w : World} {base : Nat} {spare : Nat → Bool} {held : Bool} {fuel : Nat} {t e : TypeId} {cs : List Value} {x : DataW H × List MemPlace}
/-- An array of words that reads as ks. -/
theorem trod_words {n : Nat} {ks : List Int} (ht : P.underlying t = some (.array n e)) (he : P.underlying e = some (.int .u32)) (hc : P.cellsOf e = 1) (hct : P.cellsOf t = n) (h : DataW.trod enc P w base spare held fuel t cs = some x) (hx : x.1 = .agg (ks.map fun k => .lit (.int .u32 k))) : cs = ks.map (fun k => .int .u32 k) := by
  obtain ⟨xs, m, rfl, rfl, hlen, hxs, hel⟩ := DataW.trod_array ht h
  simp only [DataW.agg.injEq] at hx
  have hl : ks.length = n := by
    have h := congrArg List.length hx
    rw [List.length_map, List.length_map] at h
    omega
  refine List.ext_getElem (by rw [hlen, hct, List.length_map, hl]) fun i h1 h2 => ?_
  have hi : i < n := by rw [← hct, ← hlen]; exact h1
  have hi2 : i < ks.length := by omega
  have h3 := hel i hi
  rw [hc, Nat.mul_one, List.getElem?_eq_getElem (by omega)] at h3
  obtain ⟨k, e1, e2, _⟩ := DataW.trod_int he h3
  rw [List.drop_eq_getElem_cons h1, List.take_succ_cons] at e1
  injection e1 with e1 _
  have h4 : (xs.map (·.1))[i]? = (ks.map fun k => DataW.lit (H := H) (.int .u32 k))[i]? := by rw [hx]
  rw [List.getElem?_map, List.getElem?_map, List.getElem?_eq_getElem (by omega), List.getElem?_eq_getElem hi2, Option.map_some, Option.map_some, e2] at h4
  simp only [Option.some.injEq, DataW.lit.injEq, Lit.int.injEq, true_and] at h4
  rw [e1, List.getElem_map, h4]
/-- A string that came in. -/
theorem open_str {r : Reach} {b0 : Nat} {v : Value} {d : DataW H} {ps : List MemPlace} {sp : Nat → Bool} (ht : P.underlying t = some .string) (hval : Value.okWide P w r b0 t v) (hw : Wt P t d) (hd : DataW.Trod enc P w base sp held t v d ps) :
    ∃ s : List UInt8, v = sv s ∧ s.length ≤ 140737488355328 := by
  obtain ⟨s, rfl, rfl, _, _⟩ := Go.ChangeMaps.open_string ht hval hd
  refine ⟨s.data.toList, rfl, ?_⟩
  have h1 := hw s.data.toList.length (by simp [DataW.weights])
  have h2 := reachBytes_lt
  omega
theorem trod_str (ht : P.underlying t = some .string) (hw : Wt P t x.1) (h : DataW.trod enc P w base spare held fuel t cs = some x) : ∃ s : List UInt8, cs = [sv s] ∧ s.length ≤ 140737488355328 := by
  obtain ⟨s', hcs, hx, hs⟩ := DataW.trod_string ht h
  subst hx
  refine ⟨s'.data.toList, hcs, ?_⟩
  have h1 := hw s'.data.toList.length (by simp [DataW.weights])
  have h2 := reachBytes_lt
  omega
/-- A list of strings that came in. -/
theorem open_strs {r : Reach} {b0 : Nat} {v : Value} {d : DataW H} {ps : List MemPlace} {sp : Nat → Bool} (ht : P.underlying t = some (.slice e)) (he : P.underlying e = some .string) (hc : P.cellsOf e = 1) (hby : 0 < P.bytesOf e) (hval : Value.okWide P w r b0 t v) (hw : Wt P t d) (hd : DataW.Trod enc P w base sp held t v d ps) :
    ∃ xs : List (List UInt8), SlAt w v 1 (xs.map fun s => [sv s]) := by
  obtain ⟨fuel, hf⟩ := hd
  have hcs : v.cells.toList = [v] := by
    rcases okWide_one (by rw [ht]) hval with h
    have : ∃ a n c, v = .slice a n c := by
      unfold Cell.okWide Cell.ok at h
      rw [ht] at h
      cases v <;> simp_all
    obtain ⟨a, n, c, rfl⟩ := this
    rfl
  rw [hcs] at hf
  obtain ⟨els, hs, hp⟩ := trod_sl 1 ht hc (by decide) hby (okWide_one (by rw [ht]) hval) hw hf
  obtain ⟨xs, hxs, _⟩ := sl_map (f := fun s : List UInt8 => [sv s]) (q := fun _ => True) hs fun i hi => by
    obtain ⟨n, y, h1, h2⟩ := hp i hi
    obtain ⟨s, h3, _⟩ := trod_str he h2 h1
    exact ⟨s, h3, trivial⟩
  exact ⟨xs, hxs⟩
end
end Go.PW
namespace Go.Proofs.YtmcoolbjgeibcaaDoor
open Go.RowKit Go.PW
set_option linter.unusedVariables false
set_option linter.unusedSimpArgs false
set_option maxRecDepth 4000

open Go.ChangeShapes Go.WideShapes Go.ChangeAt Go.RowKit Go.PW
theorem ownD : ownKnob Tryd.prog.godebug = none := by kernel_rfl
theorem laidOutD : laidOutB Tryd.prog = true := by kernel_rfl
def laid1 : List (String × DataW Unit) := [("dialtone/digest.round", Rows.laid_dialtone_digest_round)]
theorem gRound : Tryd.prog.globalNamed "dialtone/digest.round" = some 0 := by kernel_rfl
theorem tRound : (Tryd.prog.globals[0]?).map (·.type) = some 88 := by kernel_rfl
/-- The words in the program's text are those of the digest. -/
theorem ks_laid : (Rows.laid_dialtone_digest_round : DataW Unit) = .agg ((kOf.map fun k => (k.toNat : Int)).map fun k => .lit (.int .u32 k)) := by kernel_rfl
theorem door_met (os : Os) (args : Array Value) : laidMetH Tryd.prog laid1 ((World.doorLaid Tryd.prog 4000 os).forCall (fun _ _ => 0) ⟨#[], args, []⟩).memory :=
  laidMetH_of_parts3 (fuel := 8) (laidMet_of_run' 8 (by kernel_rfl) (by kernel_rfl)) (by kernel_rfl) (by kernel_rfl)
theorem shaped_met (os : Os) (args : Array Value) : ((World.doorLaid Tryd.prog 4000 os).forCall (fun _ _ => 0) ⟨#[], args, []⟩).Shaped Tryd.prog := World.shaped_of_RefB (by kernel_rfl) (by kernel_rfl)
theorem hk0_of {W : World} (h : laidMetH Tryd.prog laid1 W) (hs : W.ShapedOpen Tryd.prog) : (blk 0 (kOf.map wv) 88).ok W := by
  rw [MakeChecks.laidMetH_plain _ _ _ (by kernel_rfl)] at h
  obtain ⟨ps, ⟨g0, t0, cs0, f0, p0, q0, hg0, ht0, hv0, hd0, _, _⟩, _, _⟩ := h
  obtain rfl := Option.some.inj (gRound.symm.trans hg0)
  obtain rfl := Option.some.inj (tRound.symm.trans ht0)
  obtain ⟨cs, hcs, _, _⟩ := hs.1 0 (List.replicate 64 (.int .u32 0)).toArray 88 (of_decide_eq_true (by kernel_rfl)) (by kernel_rfl)
  have e : cs0 = cs := by
    have := hv0
    simp only [World.var?, gRound, Option.bind_some, hcs, Option.some.injEq] at this
    exact this.symm
  subst e
  have hw := trod_words (ks := kOf.map fun k => (k.toNat : Int)) Tryd.underlying88 Tryd.underlying69 (by kernel_rfl) (by kernel_rfl) hd0 ks_laid
  have hl : cs0 = (kOf.map wv).toArray := by
    apply Array.toList_inj.1
    rw [hw, List.map_map]; rfl
  show W.heap[0]? = some (.cells (kOf.map wv).toArray 88)
  rw [← hl]; exact hcs
end Go.Proofs.YtmcoolbjgeibcaaDoor
