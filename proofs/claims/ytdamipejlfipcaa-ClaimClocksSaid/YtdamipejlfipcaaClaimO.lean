/- Plain definitions: the claim that integers determine. -/
import Derived.Test.YtdamipejlfipcaaClaimN
namespace Go.Proofs.Ytdamipejlfipcaa
set_option linter.unusedVariables false
structure Tri where
  a : Int
  b : Int
  c : Int
def Tri.cells (z : Tri) : List Value := [.int .i64 z.a, .int .i64 z.b, .int .i64 z.c]
def isI64 (n : Int) : Prop := -9223372036854775808 ≤ n ∧ n ≤ 9223372036854775807
def Tri.fits (z : Tri) : Prop := isI64 z.a ∧ isI64 z.b ∧ isI64 z.c
def mkRule (x : Int) : Int := if pick (x.tdiv 16) 4 = 3 then 1 + pick x 86400 else 1 + pick x 12
def mkRul (x0 x1 x2 x3 : Int) : Rul := ⟨mkRule x0, mkRule x1, mkRule x2, mkRule x3⟩
def mkClm (y0 y1 y2 y3 y4 y5 : Int) : Clm := ⟨pick y0 100000000, pick y1 8, (pick y1 8 + 1 + pick y2 7) % 8, pick y3 64, pick y4 1000, decide (pick y5 2 = 0)⟩
def mkEvt (r : Rul) (c : Clm) (l : List Evt) (last : Int) (z : Tri) : Evt :=
  ⟨1 + pick z.a 6, if 0 < (outR r c l last).next ∧ 0 < pick (z.b.tdiv 4) 3 then max last ((outR r c l last).next - 1 + pick z.b 3) else last + pick z.b 4,
   if 1 + pick z.a 6 = 2 ∨ 1 + pick z.a 6 = 6 then 1 + pick z.c 4 else 0⟩
def mkN (r : Rul) (c : Clm) (xs : List Tri) : Nat → List Evt
  | 0 => []
  | k + 1 => mkN r c xs k ++ [mkEvt r c (mkN r c xs k) (lastAt c.asked (mkN r c xs k) k) (xs.getD k ⟨0, 0, 0⟩)]
def mkL (r : Rul) (c : Clm) (xs : List Tri) : List Evt := mkN r c xs (min xs.length 10)

theorem pick_lt (c n : Int) (h : 0 < n) : 0 ≤ pick c n ∧ pick c n < n := by
  unfold pick
  exact ⟨Int.emod_nonneg _ (by omega), Int.emod_lt_of_pos _ h⟩
theorem tdiv_fits (x : Int) (n : Int) (hn : 1 ≤ n) (h : isI64 x) : isI64 (x.tdiv n) := by
  unfold isI64 at *
  rcases Int.lt_or_le x 0 with h0 | h0
  · have e : x.tdiv n = -((-x).tdiv n) := by rw [Int.neg_tdiv, Int.neg_neg]
    have h1 : 0 ≤ (-x).tdiv n := Int.tdiv_nonneg (by omega) (by omega)
    have h2 : (-x).tdiv n ≤ -x := Int.tdiv_le_self _ (by omega)
    rw [e]; omega
  · have h1 : 0 ≤ x.tdiv n := Int.tdiv_nonneg h0 (by omega)
    have h2 : x.tdiv n ≤ x := Int.tdiv_le_self _ h0
    omega
theorem mkRule_le (x : Int) : 1 ≤ mkRule x ∧ mkRule x ≤ 86400 := by
  unfold mkRule
  have h1 := pick_lt x 86400 (by omega)
  have h2 := pick_lt x 12 (by omega)
  split <;> omega
theorem mkRul_valid (x0 x1 x2 x3 : Int) : areValid (mkRul x0 x1 x2 x3) = true := by
  have h0 := mkRule_le x0; have h1 := mkRule_le x1; have h2 := mkRule_le x2; have h3 := mkRule_le x3
  simp only [areValid, isIn, Bool.and_eq_true, decide_eq_true_eq]; simp only [mkRul]; omega
theorem mkClm_valid (y0 y1 y2 y3 y4 y5 : Int) : isClaim (mkClm y0 y1 y2 y3 y4 y5) = true ∧ (mkClm y0 y1 y2 y3 y4 y5).asked < 1000 := by
  have h0 := pick_lt y0 100000000 (by omega); have h1 := pick_lt y1 8 (by omega); have h2 := pick_lt y2 7 (by omega); have h3 := pick_lt y3 64 (by omega); have h4 := pick_lt y4 1000 (by omega)
  simp only [isClaim, isIn, Bool.and_eq_true, Bool.not_eq_true', decide_eq_true_eq, decide_eq_false_iff_not]
  simp only [mkClm]
  refine ⟨⟨⟨⟨⟨⟨?_, ?_⟩, ?_⟩, ?_⟩, ?_⟩, ?_⟩, ?_⟩ <;> omega

theorem mkN_length (r : Rul) (c : Clm) (xs : List Tri) : ∀ k, (mkN r c xs k).length = k
  | 0 => rfl
  | k + 1 => by simp [mkN, mkN_length r c xs k]
theorem anyBad_snoc (e : Evt) : ∀ (l : List Evt) (last : Int), anyBad last (l ++ [e]) = (anyBad last l || badEvt (lastAt last l l.length) e)
  | [], last => by simp [anyBad, lastAt]
  | x :: l, last => by
    rw [List.cons_append, anyBad, anyBad_snoc e l x.at_, anyBad, Bool.or_assoc]
    congr 3
    cases l with
    | nil => simp [lastAt]
    | cons y l => simp [lastAt]
theorem mkN_valid {r : Rul} {c : Clm} (hr : areValid r = true) (hc : isClaim c = true) (ha : c.asked < 1000) (xs : List Tri) : ∀ k, k ≤ 10 → valid r c (mkN r c xs k) = true ∧ c.asked ≤ lastAt c.asked (mkN r c xs k) k ∧ lastAt c.asked (mkN r c xs k) k ≤ 1000 + k * 1000010
  | 0, _ => by
    refine ⟨by simp [valid, hr, hc, mkN, anyBad], by simp [lastAt], by simp [lastAt]; omega⟩
  | k + 1, hk => by
    obtain ⟨hv, h1, h2⟩ := mkN_valid hr hc ha xs k (by omega)
    have hlen := mkN_length r c xs k
    have hcl := isClaim_le hc
    obtain ⟨n1, n2, _⟩ := outR_next hv h1
    obtain ⟨z, hz⟩ : ∃ z, xs.getD k ⟨0, 0, 0⟩ = z := ⟨_, rfl⟩
    obtain ⟨e, he⟩ : ∃ e, mkEvt r c (mkN r c xs k) (lastAt c.asked (mkN r c xs k) k) z = e := ⟨_, rfl⟩
    have hN : mkN r c xs (k + 1) = mkN r c xs k ++ [e] := by rw [mkN, hz, he]
    have hl : lastAt c.asked (mkN r c xs (k + 1)) (k + 1) = e.at_ := by
      rw [hN]; simp [lastAt, List.getD_eq_getElem?_getD, hlen]
    have hat : lastAt c.asked (mkN r c xs k) k ≤ e.at_ ∧ e.at_ ≤ lastAt c.asked (mkN r c xs k) k + 1000010 := by
      rw [← he]; unfold mkEvt
      have p1 := pick_lt z.b 3 (by omega); have p2 := pick_lt z.b 4 (by omega)
      simp only
      split <;> omega
    have p1 := pick_lt z.a 6 (by omega); have p2 := pick_lt z.c 4 (by omega)
    have hb : badEvt (lastAt c.asked (mkN r c xs k) k) e = false := by
      have hkd : e.kind = 1 + pick z.a 6 := by rw [← he]; rfl
      have hrs : e.reason = if e.kind = 2 ∨ e.kind = 6 then 1 + pick z.c 4 else 0 := by rw [hkd, ← he]; rfl
      simp only [badEvt, isIn, Bool.or_eq_false_iff, Bool.not_eq_false', Bool.and_eq_true, decide_eq_true_eq]
      refine ⟨⟨by omega, by omega⟩, ?_⟩
      rw [hrs]
      split <;> simp <;> omega
    obtain ⟨v1, v2, v3, v4⟩ := valid_parts hv
    refine ⟨?_, by rw [hl]; omega, by rw [hl]; push_cast; omega⟩
    rw [hN]
    have hab : anyBad c.asked (mkN r c xs k ++ [e]) = false := by rw [anyBad_snoc, v4, hlen, hb]; rfl
    simp [valid, v1, v2, hab, hlen]; omega
theorem mkL_valid {r : Rul} {c : Clm} (hr : areValid r = true) (hc : isClaim c = true) (ha : c.asked < 1000) (xs : List Tri) : valid r c (mkL r c xs) = true ∧ (mkL r c xs).length ≤ 10 :=
  ⟨(mkN_valid hr hc ha xs _ (by omega)).1, by rw [mkL, mkN_length]; omega⟩
end Go.Proofs.Ytdamipejlfipcaa
