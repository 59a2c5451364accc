/- The law ClaimMatchesReference: all functions of package claim agree with the reference implementation. For every input, by the walk of the law and of all that it calls; the words of the digest are tied to the program's text. -/
import Derived.Test.YtncbabejopafjaaGreatDoorPOD
import Derived.Test.YtncbabejopafjaaGreatDoorTie
import Derived.Test.YtncbabejopafjaaGreatDoorCards
import Derived.Test.YtncbabejopafjaaGreatDoorPOH
namespace Go.Proofs.YtncbabejopafjaaGreatDoor
open Go.RowKit Go.PW
set_option linter.unusedVariables false
set_option linter.unusedSimpArgs false
set_option maxRecDepth 4000

theorem fits_all {xs : List K16.Tri} (h : ∀ a ∈ xs, a.fits) : ∀ k, k < xs.length → (xs.getD k ⟨0, 0, 0⟩).fits := by
  intro k hk
  rw [List.getD_eq_getElem?_getD, List.getElem?_eq_getElem hk, Option.getD_some]
  exact h _ (List.getElem_mem hk)

namespace claimMatchesReferenceDone
open Go.ChangeShapes Go.WideShapes Go.ChangeAt K16
set_option maxRecDepth 100000 in
theorem lifted (os : Os) (started : os.Started) (H : Type) (enc : TypeId × Value → H) :
    ReturnsInHanded {} Tryz.checked os 3 .any (fun w args => (Rows.claimMatchesReferenceSpec.pre enc Tryz.prog Tryz.f3 [] false w args ∧ laidMetH Tryz.prog laid1 w) ∧ sizedMet enc Tryz.prog Tryz.f3 (OpenSpec.ofChange Rows.claimMatchesReferenceSpec) false w args)
      (Rows.claimMatchesReferenceSpec.post enc Tryz.prog Tryz.f3 false true false false) := by
  refine lh (C := Tryz.checked) (X := fun w _ => laidMetH Tryz.prog laid1 w) (fun _ _ _ hh h => h.of_heap hh) ownD started (by kernel_rfl) Tryz.func3
    (ChangeSpec.witness_shaped (enc := enc) (C := Tryz.checked) (os := os) (X := fun w _ => laidMetH Tryz.prog laid1 w) false (World.doorLaid Tryz.prog 4000 os) #[.agg #[.int .i64 0, .int .i64 0, .int .i64 0, .int .i64 0, .int .i64 0, .int .i64 0, .int .i64 0, .int .i64 0, .int .i64 0, .int .i64 0, .slice none 0 0], .agg #[.int .i64 0, .int .i64 0, .int .i64 0], .agg #[.int .i64 0, .int .i64 0, .int .i64 0, .int .i64 0], .agg #[.int .i64 0, .int .i64 0, .int .i64 0, .int .i64 0, .int .i64 0, .bool false], .slice none 0 0, .int .i64 0, .agg #[.int .i64 0, .int .i64 0, .int .i64 0, .int .i64 0, .int .i64 0, .int .i64 0, .int .i64 0, .slice none 0 0], .agg #[.int .i64 0, .int .i64 0], .agg #[.int .i64 0, .int .i64 0, .int .i64 0, .int .i64 0, .int .i64 0, .int .i64 0, .int .i64 0, .int .i64 0, .string (⟨#[]⟩)]] 12 rfl (mt os _) (by kernel_rfl) (by kernel_rfl) (by kernel_rfl) (o3 os _)) ?_
  intro W base args ds gs before hval0 hW _ hwt hL hsh
  have hk0 := qT hL hsh
  have hval : ∀ (j : Nat) t v, Tryz.f3.params[j]? = some t → args[j]? = some v → Value.okWide Tryz.prog W .any base t v := hval0
  have hW' := hW
  obtain ⟨p, q, hA0, hV, rfl, hfz, hnd⟩ := hW
  have hA : DataW.TrodAll enc Tryz.prog W 0 (fun _ => true) true Tryz.f3.params.toList args.toList ds p := hA0
  rw [Tryz.params3] at hA hval
  obtain ⟨v0, vs0, d0, ds0, p0, q0, hargs, rfl, rfl, h0, r0⟩ := trodAll_cons hA
  obtain ⟨v1, vs1, d1, ds1, p1, q1, rfl, rfl, rfl, h1, r1⟩ := trodAll_cons r0
  obtain ⟨v2, vs2, d2, ds2, p2, q2, rfl, rfl, rfl, h2, r2⟩ := trodAll_cons r1
  obtain ⟨v3, vs3, d3, ds3, p3, q3, rfl, rfl, rfl, h3, r3⟩ := trodAll_cons r2
  obtain ⟨v4, vs4, d4, ds4, p4, q4, rfl, rfl, rfl, h4, r4⟩ := trodAll_cons r3
  obtain ⟨v5, vs5, d5, ds5, p5, q5, rfl, rfl, rfl, h5, r5⟩ := trodAll_cons r4
  obtain ⟨v6, vs6, d6, ds6, p6, q6, rfl, rfl, rfl, h6, r6⟩ := trodAll_cons r5
  obtain ⟨v7, vs7, d7, ds7, p7, q7, rfl, rfl, rfl, h7, r7⟩ := trodAll_cons r6
  obtain ⟨v8, vs8, d8, ds8, p8, q8, rfl, rfl, rfl, h8, r8⟩ := trodAll_cons r7
  obtain ⟨rfl, rfl, rfl⟩ := trodAll_nil r8
  obtain rfl : args = #[v0, v1, v2, v3, v4, v5, v6, v7, v8] := by cases args; simp_all
  obtain ⟨rfl, rfl⟩ := trodVars_none hV
  have k0 := h0
  have lt0 : ∀ x ∈ p0, x.block < W.heap.size := by obtain ⟨m, hm⟩ := k0; exact DataW.trod_lt m _ _ _ hm
  have wt0 : Wt Tryz.prog 26 d0 := ez hwt (j := 0) rfl rfl
  obtain ⟨g0_n0, g0_n1, g0_n2, g0_n3, g0_n4, g0_n5, g0_n6, g0_n7, g0_n8, g0_n9, g0_v10, xg0_v10, rfl, fg0_n0, fg0_n1, fg0_n2, fg0_n3, fg0_n4, fg0_n5, fg0_n6, fg0_n7, fg0_n8, fg0_n9, fg0_v10, qg0_v10⟩ := my (hval 0 26 v0 rfl rfl) wt0 h0
  have k1 := h1
  have lt1 : ∀ x ∈ p1, x.block < W.heap.size := by obtain ⟨m, hm⟩ := k1; exact DataW.trod_lt m _ _ _ hm
  have wt1 : Wt Tryz.prog 27 d1 := ez hwt (j := 1) rfl rfl
  obtain ⟨g1_n0, g1_n1, g1_n2, rfl, fg1_n0, fg1_n1, fg1_n2⟩ := me (hval 1 27 v1 rfl rfl) wt1 h1
  have k2 := h2
  have lt2 : ∀ x ∈ p2, x.block < W.heap.size := by obtain ⟨m, hm⟩ := k2; exact DataW.trod_lt m _ _ _ hm
  have wt2 : Wt Tryz.prog 29 d2 := ez hwt (j := 2) rfl rfl
  obtain ⟨g2_n0, g2_n1, g2_n2, g2_n3, rfl, fg2_n0, fg2_n1, fg2_n2, fg2_n3⟩ := mr (hval 2 29 v2 rfl rfl) wt2 h2
  have k3 := h3
  have lt3 : ∀ x ∈ p3, x.block < W.heap.size := by obtain ⟨m, hm⟩ := k3; exact DataW.trod_lt m _ _ _ hm
  have wt3 : Wt Tryz.prog 31 d3 := ez hwt (j := 3) rfl rfl
  obtain ⟨g3_n0, g3_n1, g3_n2, g3_n3, g3_n4, g3_b5, rfl, fg3_n0, fg3_n1, fg3_n2, fg3_n3, fg3_n4, fg3_b5⟩ := mb (hval 3 31 v3 rfl rfl) wt3 h3
  have k4 := h4
  have lt4 : ∀ x ∈ p4, x.block < W.heap.size := by obtain ⟨m, hm⟩ := k4; exact DataW.trod_lt m _ _ _ hm
  have wt4 : Wt Tryz.prog 32 d4 := ez hwt (j := 4) rfl rfl
  obtain ⟨l4, f4, q4⟩ := mo (hval 4 32 v4 rfl rfl) wt4 h4
  have k5 := h5
  have lt5 : ∀ x ∈ p5, x.block < W.heap.size := by obtain ⟨m, hm⟩ := k5; exact DataW.trod_lt m _ _ _ hm
  have wt5 : Wt Tryz.prog 3 d5 := ez hwt (j := 5) rfl rfl
  obtain ⟨a5, rfl, rfl, rfl, w5⟩ := open_int Tryz.underlying3 (hval 5 3 v5 rfl rfl) h5
  have k6 := h6
  have lt6 : ∀ x ∈ p6, x.block < W.heap.size := by obtain ⟨m, hm⟩ := k6; exact DataW.trod_lt m _ _ _ hm
  have wt6 : Wt Tryz.prog 36 d6 := ez hwt (j := 6) rfl rfl
  obtain ⟨z6_0, z6_1, z6_2, z6_3, z6_4, z6_5, z6_6, cv6, ys6, rfl, hcv6, hys6, f6_0, f6_1, f6_2, f6_3, f6_4, f6_5, f6_6⟩ := j7 (hval 6 36 v6 rfl rfl) wt6 h6
  have k7 := h7
  have lt7 : ∀ x ∈ p7, x.block < W.heap.size := by obtain ⟨m, hm⟩ := k7; exact DataW.trod_lt m _ _ _ hm
  have wt7 : Wt Tryz.prog 33 d7 := ez hwt (j := 7) rfl rfl
  obtain ⟨y7, z7, rfl, wy7, wz7⟩ := nF Tryz.underlying33 (by kernel_rfl) (hval 7 33 v7 rfl rfl) h7
  have k8 := h8
  have lt8 : ∀ x ∈ p8, x.block < W.heap.size := by obtain ⟨m, hm⟩ := k8; exact DataW.trod_lt m _ _ _ hm
  have wt8 : Wt Tryz.prog 41 d8 := ez hwt (j := 8) rfl rfl
  obtain ⟨g8_n0, g8_n1, g8_n2, g8_n3, g8_n4, g8_n5, g8_n6, g8_n7, g8_s8, rfl, fg8_n0, fg8_n1, fg8_n2, fg8_n3, fg8_n4, fg8_n5, fg8_n6, fg8_n7, fg8_s8⟩ := mw (hval 8 41 v8 rfl rfl) wt8 h8
  clear hA0 hval0
  refine (ja z6_0 z6_1 z6_2 z6_3 z6_4 z6_5 z6_6 cv6 ys6 g0_n0 g0_n1 g0_n2 g0_n3 g0_n4 g0_n5 g0_n6 g0_n7 g0_n8 g0_n9 g0_v10 xg0_v10 g1_n0 g1_n1 g1_n2 ⟨g2_n0, g2_n1, g2_n2, g2_n3⟩ ⟨g3_n0, g3_n1, g3_n2, g3_n3, g3_n4, g3_b5⟩ _ l4 a5 y7 z7 ⟨g8_n0, g8_n1, g8_n2, g8_n3, g8_n4, g8_n5, g8_n6, g8_n7, g8_s8⟩ W hcv6 hys6 f6_0 f6_1 f6_2 f6_3 f6_4 f6_5 f6_6 hk0 fg0_n0 fg0_n1 fg0_n2 fg0_n3 fg0_n4 fg0_n5 fg0_n6 fg0_n7 fg0_n8 fg0_n9 fg0_v10 (fits_all qg0_v10) fg1_n0 fg1_n1 fg1_n2 f4 (qS (oE w5)) wy7 wz7).mono fun v W' ⟨hv, hx⟩ => ?_
  subst hv
  have bel := hx.below
  exact ⟨_, _, _, [], _, [], hW', trodAll_mk1 (shut_bool Tryz.underlying4 _), (trodAll_cons_mk (Below.trod di (by kernel_rfl) (of_decide_eq_true (by kernel_rfl)) k0 bel lt0) (trodAll_cons_mk (Below.trod di (by kernel_rfl) (of_decide_eq_true (by kernel_rfl)) k1 bel lt1) (trodAll_cons_mk (Below.trod di (by kernel_rfl) (of_decide_eq_true (by kernel_rfl)) k2 bel lt2) (trodAll_cons_mk (Below.trod di (by kernel_rfl) (of_decide_eq_true (by kernel_rfl)) k3 bel lt3) (trodAll_cons_mk (Below.trod di (by kernel_rfl) (of_decide_eq_true (by kernel_rfl)) k4 bel lt4) (trodAll_cons_mk (Below.trod di (by kernel_rfl) (of_decide_eq_true (by kernel_rfl)) k5 bel lt5) (trodAll_cons_mk (Below.trod di (by kernel_rfl) (of_decide_eq_true (by kernel_rfl)) k6 bel lt6) (trodAll_cons_mk (Below.trod di (by kernel_rfl) (of_decide_eq_true (by kernel_rfl)) k7 bel lt7) (trodAll_cons_mk (Below.trod di (by kernel_rfl) (of_decide_eq_true (by kernel_rfl)) k8 bel lt8) trodAll_mk0))))))))), rfl, bel.frame _, fun h => by cases h⟩
theorem over : Rows.ClaimMatchesReferenceSaid :=
  OpenClaim.holds_of_wide 3 Tryz.f3 rfl rfl rfl rfl rfl rfl rfl ⟨rfl, rfl, rfl, rfl, rfl⟩ rfl rfl rfl rfl rfl (by kernel_rfl) Tryz.func3 (by kernel_rfl)
    (of_decide_eq_true (by kernel_rfl)) (by unfold Func.isWrapper; first | (rw [if_pos (by decide +kernel)]; kernel_rfl) | (rw [if_neg (by decide +kernel)]; exact ⟨rfl, rfl⟩))
    (fun os started H enc _ => lifted os started H enc)
/-- THE CARD -/
theorem proved : Rows.ClaimMatchesReferenceCardSaid :=
  Claim7.holds_tied_plain_at .later [] [.data] true _ false
    over (fun _ h => by cases h) (by kernel_rfl) (fun _ h => by cases h) claimMatchesReference_row_tie rfl ⟨rfl, rfl⟩ (by kernel_rfl) rfl
    (fun f fn hf hfn => by
      obtain rfl : f = 3 := Option.some.inj ((show Tryz.prog.funcNamed "dialtone/dialtonelaw16.ClaimMatchesReference" = some 3 by kernel_rfl).symm.trans hf) |>.symm
      obtain rfl : fn = Tryz.f3 := (Option.some.inj (Tryz.func3.symm.trans hfn)).symm
      refine ⟨by kernel_rfl, fun j t ht => ?_⟩
      rw [Tryz.params3] at ht
      have hm : t ∈ [26, 27, 29, 31, 32, 3, 36, 33, 41] := by
        have := Array.mem_of_getElem? ht
        simpa using this
      simp only [List.mem_cons, List.not_mem_nil, or_false] at hm
      rcases hm with rfl | rfl | rfl | rfl | rfl | rfl | rfl | rfl | rfl
      · exact (show Tryz.prog.wantsStandIn 26 = false by kernel_rfl)
      · exact (show Tryz.prog.wantsStandIn 27 = false by kernel_rfl)
      · exact (show Tryz.prog.wantsStandIn 29 = false by kernel_rfl)
      · exact (show Tryz.prog.wantsStandIn 31 = false by kernel_rfl)
      · exact (show Tryz.prog.wantsStandIn 32 = false by kernel_rfl)
      · exact (show Tryz.prog.wantsStandIn 3 = false by kernel_rfl)
      · exact (show Tryz.prog.wantsStandIn 36 = false by kernel_rfl)
      · exact (show Tryz.prog.wantsStandIn 33 = false by kernel_rfl)
      · exact (show Tryz.prog.wantsStandIn 41 = false by kernel_rfl))
    (by kernel_rfl)
end claimMatchesReferenceDone
theorem claimMatchesReference_holds : Rows.ClaimMatchesReferenceCardSaid := claimMatchesReferenceDone.proved
end Go.Proofs.YtncbabejopafjaaGreatDoor
