import Derived.Test.YtdamipejlfipcaaClaimX
namespace Go.Proofs.Ytdamipejlfipcaa
open Go.RowKit Go.PW
set_option linter.unusedVariables false
set_option linter.unusedSimpArgs false
set_option maxRecDepth 4000

open Go.ChangeShapes Go.WideShapes Go.ChangeAt
section
variable {H : Type} {enc : TypeId × Value → H} {W : World} {base b0 : Nat} {sp : Nat → Bool} {hd : Bool} {v : Value} {d : DataW H} {ps : List MemPlace} {r : Reach}

theorem cells_sl {P : Program} {w : World} {t e : TypeId} (ht : P.underlying t = some (.slice e)) (hok : Cell.okWide P w r b0 t v) : v.cells = #[v] := by
  cases v <;> first | rfl | (simp [Cell.okWide, Cell.ok, ht] at hok)
theorem open_tri_arg (hval : Value.okWide Try.prog W r b0 24 v) (hw : Wt Try.prog 24 d) (hd0 : DataW.Trod enc Try.prog W base sp hd 24 v d ps) :
    ∃ xs : List Tri, SlAt W v 3 (xs.map Tri.cells) ∧ ∀ k, k < xs.length → (xs.getD k ⟨0, 0, 0⟩).fits := by
  have hok := okWide_one (by kernel_rfl) hval
  obtain ⟨fuel, hf⟩ := hd0
  rw [cells_sl Try.underlying24 hok] at hf
  exact open_tris (x := (d, ps)) Try.underlying24 hok hw hf
theorem open_ints_arg (hval : Value.okWide Try.prog W r b0 49 v) (hw : Wt Try.prog 49 d) (hd0 : DataW.Trod enc Try.prog W base sp hd 49 v d ps) :
    ∃ xs : List Int, SlAt W v 1 (xs.map fun i => [.int .i64 i]) ∧ ∀ k, k < xs.length → isI64 (xs.getD k 0) := by
  have hok := okWide_one (by kernel_rfl) hval
  obtain ⟨fuel, hf⟩ := hd0
  rw [cells_sl Try.underlying49 hok] at hf
  obtain ⟨els, h1, h2⟩ := trod_sl (x := (d, ps)) 1 Try.underlying49 (by kernel_rfl) (by decide) (of_decide_eq_true (by kernel_rfl)) hok hw hf
  obtain ⟨xs, h3, h4⟩ := sl_map (f := fun i : Int => [Value.int .i64 i]) (q := isI64) h1 fun i hi => by
    obtain ⟨n, y, hy, _⟩ := h2 i hi
    obtain ⟨z, hz, hw⟩ := trod_i64 Try.underlying3 hy
    exact ⟨z, hz, hw⟩
  refine ⟨xs, h3, fun k hk => ?_⟩
  rw [List.getD_eq_getElem?_getD, List.getElem?_eq_getElem hk, Option.getD_some]
  exact h4 _ (List.getElem_mem hk)
end
end Go.Proofs.Ytdamipejlfipcaa
