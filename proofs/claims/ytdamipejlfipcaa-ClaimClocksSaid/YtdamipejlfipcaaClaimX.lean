import Derived.Test.YtdamipejlfipcaaArg
import Derived.Test.YtdamipejlfipcaaClaimV
import Derived.Test.YtdamipejlfipcaaRows
namespace Go.Proofs.Ytdamipejlfipcaa
open Go.RowKit Go.PW
set_option linter.unusedVariables false
set_option linter.unusedSimpArgs false
set_option maxRecDepth 4000

theorem len3 {α : Type} {l : List α} (h : l.length = 3) : ∃ a0 a1 a2, l = [a0, a1, a2] := by
  match l, h with
  | [a0, a1, a2], _ => exact ⟨_, _, _, rfl⟩

theorem len4 {α : Type} {l : List α} (h : l.length = 4) : ∃ a0 a1 a2 a3, l = [a0, a1, a2, a3] := by
  match l, h with
  | [a0, a1, a2, a3], _ => exact ⟨_, _, _, _, rfl⟩

theorem len6 {α : Type} {l : List α} (h : l.length = 6) : ∃ a0 a1 a2 a3 a4 a5, l = [a0, a1, a2, a3, a4, a5] := by
  match l, h with
  | [a0, a1, a2, a3, a4, a5], _ => exact ⟨_, _, _, _, _, _, rfl⟩

theorem len11 {α : Type} {l : List α} (h : l.length = 11) : ∃ a0 a1 a2 a3 a4 a5 a6 a7 a8 a9 a10, l = [a0, a1, a2, a3, a4, a5, a6, a7, a8, a9, a10] := by
  match l, h with
  | [a0, a1, a2, a3, a4, a5, a6, a7, a8, a9, a10], _ => exact ⟨_, _, _, _, _, _, _, _, _, _, _, rfl⟩

open Go.ChangeShapes Go.WideShapes Go.ChangeAt
section
variable {H : Type} {enc : TypeId × Value → H} {W : World} {base b0 : Nat} {sp : Nat → Bool} {hd : Bool} {v : Value} {d : DataW H} {ps : List MemPlace} {r : Reach}

theorem i64_is {n : Int} (h : i64 n) : isI64 n := h

theorem open_tris {t : TypeId} (ht : Try.prog.underlying t = some (.slice 82)) {fuel : Nat} {x : DataW H × List MemPlace} (hok : Cell.okWide Try.prog W r b0 t v) (hw : Wt Try.prog t x.1) (h : DataW.trod enc Try.prog W base sp hd fuel t [v] = some x) :
    ∃ xs : List Tri, SlAt W v 3 (xs.map Tri.cells) ∧ ∀ k, k < xs.length → (xs.getD k ⟨0, 0, 0⟩).fits := by
  obtain ⟨els, h1, h2⟩ := trod_sl 3 ht (by kernel_rfl) (by decide) (of_decide_eq_true (by kernel_rfl)) hok hw h
  obtain ⟨xs, h3, h4⟩ := sl_map (f := Tri.cells) (q := Tri.fits) h1 fun i hi => by
    obtain ⟨n, y, hy, _⟩ := h2 i hi
    obtain ⟨zs, hz, he, hw⟩ := trod_ints 3 Try.underlying82 Try.underlying3 (by kernel_rfl) hy (h1.1 _ (List.getElem_mem hi))
    obtain ⟨z0, z1, z2, rfl⟩ := len3 hz
    exact ⟨⟨z0, z1, z2⟩, he, i64_is (hw z0 (by simp)), i64_is (hw z1 (by simp)), i64_is (hw z2 (by simp))⟩
  refine ⟨xs, h3, fun k hk => ?_⟩
  rw [List.getD_eq_getElem?_getD, List.getElem?_eq_getElem hk, Option.getD_some]
  exact h4 _ (List.getElem_mem hk)

theorem open_numbers (hval : Value.okWide Try.prog W r b0 26 v) (hw : Wt Try.prog 26 d) (hd0 : DataW.Trod enc Try.prog W base sp hd 26 v d ps) :
    ∃ (x0 x1 x2 x3 y0 y1 y2 y3 y4 y5 : Int) (xv : Value) (xs : List Tri), v = .agg #[.int .i64 x0, .int .i64 x1, .int .i64 x2, .int .i64 x3, .int .i64 y0, .int .i64 y1, .int .i64 y2, .int .i64 y3, .int .i64 y4, .int .i64 y5, xv] ∧ (isI64 x0 ∧ isI64 x1 ∧ isI64 x2 ∧ isI64 x3 ∧ isI64 y0 ∧ isI64 y1 ∧ isI64 y2 ∧ isI64 y3 ∧ isI64 y4 ∧ isI64 y5) ∧ SlAt W xv 3 (xs.map Tri.cells) ∧ ∀ k, k < xs.length → (xs.getD k ⟨0, 0, 0⟩).fits := by
  obtain ⟨csA, rfl, hsz, hrow⟩ := okWide_cell (by kernel_rfl) hval
  obtain ⟨fuel, hf⟩ := hd0
  have hc : Try.prog.cellsOf 26 = 11 := by kernel_rfl
  obtain ⟨a0, a1, a2, a3, a4, a5, a6, a7, a8, a9, a10, hcs⟩ := len11 (l := csA.toList) (by rw [Array.length_toList, hsz, hc])
  obtain rfl : csA = #[a0, a1, a2, a3, a4, a5, a6, a7, a8, a9, a10] := by cases csA; simp at hcs; rw [hcs]
  obtain ⟨n0, z0, h0, w0⟩ := trod_field 0 _ Try.underlying26 hw hf rfl
  obtain ⟨n1, z1, h1, w1⟩ := trod_field 1 _ Try.underlying26 hw hf rfl
  obtain ⟨n2, z2, h2, w2⟩ := trod_field 2 _ Try.underlying26 hw hf rfl
  have c0 : Try.prog.cellsOf 22 = 4 := by kernel_rfl
  have c1 : Try.prog.cellsOf 23 = 6 := by kernel_rfl
  have c2 : Try.prog.cellsOf 24 = 1 := by kernel_rfl
  simp only [Value.cells, c0] at h0
  simp only [Value.cells, c1] at h1
  simp only [Value.cells, c2] at h2
  obtain ⟨r4, hr, er, wr⟩ := trod_ints 4 Try.underlying22 Try.underlying3 (by kernel_rfl) h0 rfl
  obtain ⟨r6, hs, es, ws⟩ := trod_ints 6 Try.underlying23 Try.underlying3 (by kernel_rfl) h1 rfl
  obtain ⟨x0, x1, x2, x3, rfl⟩ := len4 hr
  obtain ⟨y0, y1, y2, y3, y4, y5, rfl⟩ := len6 hs
  simp at er es
  obtain ⟨rfl, rfl, rfl, rfl⟩ := er
  obtain ⟨rfl, rfl, rfl, rfl, rfl, rfl⟩ := es
  have hok : Cell.okWide Try.prog W r b0 24 a10 := row_cell (i := 10) (ts := [3, 3, 3, 3, 3, 3, 3, 3, 3, 3, 24]) (by kernel_rfl) rfl hrow rfl
  obtain ⟨xs, g1, g2⟩ := open_tris Try.underlying24 hok w2 h2
  refine ⟨x0, x1, x2, x3, y0, y1, y2, y3, y4, y5, a10, xs, rfl, ⟨i64_is (wr x0 (by simp)), i64_is (wr x1 (by simp)), i64_is (wr x2 (by simp)), i64_is (wr x3 (by simp)), i64_is (ws y0 (by simp)), i64_is (ws y1 (by simp)), i64_is (ws y2 (by simp)), i64_is (ws y3 (by simp)), i64_is (ws y4 (by simp)), i64_is (ws y5 (by simp))⟩, g1, g2⟩

end
end Go.Proofs.Ytdamipejlfipcaa
