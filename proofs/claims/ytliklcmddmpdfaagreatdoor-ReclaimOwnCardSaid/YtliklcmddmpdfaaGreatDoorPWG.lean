/- Texts joined: RclA, RclB, RegA, RegB, RclC. -/
import Derived.Test.YtliklcmddmpdfaaGreatDoorPWF
import Derived.Test.YtliklcmddmpdfaaGreatDoorPWB
import Derived.Test.YtliklcmddmpdfaaGreatDoorPWE
import Derived.Test.YtliklcmddmpdfaaGreatDoorPWC
import Derived.Test.YtliklcmddmpdfaaGreatDoorPWA
set_option linter.unusedVariables false
set_option linter.unusedSimpArgs false
set_option maxRecDepth 4000
set_option maxHeartbeats 4000000
namespace Go.Proofs.YtliklcmddmpdfaaGreatDoor
open Go.RowKit Go.PW _root_.Go.Proofs.Tryz
theorem tU {f : FuncId} {args : Array Value} {w : World} {a b : Value} (h : a = b) (hr : Ret Tryz.prog f args w fun v w' => v = a ∧ Ext No w w') : Ret Tryz.prog f args w fun v w' => v = b ∧ Ext No w w' := by subst h; exact hr
theorem cJ {f : FuncId} {args : Array Value} {w : World} {b c : Bool} (h : b = c) (hr : Ret Tryz.prog f args w fun v w' => v = .bool b ∧ Ext No w w') : Ret Tryz.prog f args w fun v w' => v = .bool c ∧ Ext No w w' := by subst h; exact hr
theorem ny {f : FuncId} {args : Array Value} {w : World} {b c : Int} (h : b = c) (hr : Ret Tryz.prog f args w fun v w' => v = jv b ∧ Ext No w w') : Ret Tryz.prog f args w fun v w' => v = jv c ∧ Ext No w w' := by subst h; exact hr
def Cas.cells (x : Cas) : List Value := [jv x.n, jv x.t, sv x.ev]
def cE (x : Cas) : Int := if x.ok = true then 0 else 210
theorem rk {acc : List Int} {m : Nat} {r q : By} {n : Int} (h : rdI r = some (n, q)) : decC acc (m + 1) r = decC (acc ++ [n]) m q := by
 unfold decC; rw [gq h]
 cases intsR m q with
 | none => rfl
 | some p => obtain ⟨l, t⟩ := p; simp
theorem o0 {acc : List Int} {m : Nat} {r : By} (h : rdI r = none) : decC acc (m + 1) r = none := by unfold decC; rw [jn h]
theorem uN {s : By} : decCas s = decC [] 2 s := rfl
theorem qF {P : Program} {w : World} {L : List (Nat × Value)} {dst : Option Tmp} {T T' ty : TypeId} {pos : String} {af : Array Edge} {x y : Operand} (hx : ev L x = some .nilIface) (hy : ev L y = some .nilIface) (hr : (binOp .eql T .nilIface .nilIface).run P w = .ok (.bool true) w) (hg : (eqGuard .eql T x y .nilIface .nilIface).run P w = .ok () w) : OpV P ⟨dst, .binOp .eql T x y T', ty, pos, af, none⟩ L w (.bool true) :=
 ⟨rfl, fun N df a h => by
  simp only [execOp, h.eval hx, h.eval hy, y7, hg, hr, yP]; rfl⟩
theorem dm (n lo hi : Int) (w0 : World) :
  Ret Tryz.prog 49 #[jv n, jv lo, jv hi] w0 fun v w => v = .bool (inB n lo hi) ∧ Ext No w0 w := by
 refine Ao func49 O ntmps49 (lb O) fun a Y U => aa fun _ G1 => wla Y O fun a Y => G1 <| aa fun _ G2 => nv Y <| yp O <| yp O <| yo (v_le O O) <| yp O <| fun a Y => dk (N := 15) (df := []) 4 [(14, .bool ((decide (lo ≤ n)) && (decide (n ≤ hi)))), (0, jv n), (1, jv lo), (2, jv hi), (6, .bool false)] ?_ (fun hj => ?_)
 rotate_left
 ·rcases yz (decide (lo ≤ n)) with hb1 | hb1
  ·rw [hb1] at Y
   have hb1b := hb1
   try simp only [qz, yw, yS, yM, yU] at hb1
   refine nv Y <| yr (ay O) <| yr (ay O) <| yr (v_le O O) <| yo (ax O O) <| fun a Y => hj _ ?_
   try rw [hb1b]
   exact Y.pick [14, 0, 1, 2, 6]
  rw [hb1] at Y
  have hb1b := hb1
  try simp only [qz, yw, yS, yM, yU] at hb1
  refine nv Y <| yt <| yt <| yt <| yo (ak O O) <| fun a Y => hj _ ?_
  try rw [hb1b]
  exact Y.pick [14, 0, 1, 2, 6]
 intro a Y
 refine wla Y O fun a Y => G2 <| aq <| am Y results49 (ae O ag) ?_
 exact ⟨by rfl, U.ext⟩
theorem g7 (x : Cas) (w0 : World) :
  Ret Tryz.prog 59 #[.agg #[jv x.n, jv x.t, sv x.ev]] w0 fun v w => v = .bool x.ok ∧ Ext No w0 w := by
 refine An func59 O ntmps59 (lb O) fun a Y U => aa fun _ G1 => aV Y U O [jv x.n, jv x.t, sv x.ev] O fun a w1 Y U => wla Y O fun a Y => G1 <| aa fun _ G2 => nv Y <| yo (ac (v := pq w0.hz) O kr) <| yo (ld U 0 O O (isAgg3 _) O) <| fun a Y => aw Y U call49 O (dm x.n 0 99999999 _) fun a w2 Y U => wlm Y O fun a Y => ?_
 rcases yz (inB x.n 0 99999999) with hb1 | hb1
 ·rw [hb1] at Y
  refine nv Y <| yr (ac (v := po w0.hz 1) O kr) <| yr (ld U 0 O O (isAgg3 _) O) <| fun a Y => aF Y U call49 O (dm x.t 0 10000000 _) fun a w3 Y U => nv Y <| yo (ax O O) <| yp O <| fun a Y => ?_
  rcases yz (inB x.t 0 10000000) with hb2 | hb2
  ·rw [hb2] at Y
   refine nv Y <| yr (ac (v := po w0.hz 2) O kr) <| yr (ld U 0 O O (isAgg9 _) O) <| yr (bd O O (runUnderlying9 _)) <| yr (v_le O O) <| yo (ax O O) <| yq O <| fun a Y => G2 ?_
   replace Y := Y.p1 2 O
   replace U := U.k0 0 O
   refine aq <| am Y results59 (ae O ag) ?_
   refine ⟨?_, U.ext⟩
   simp only [retv]
   refine yZ Value.bool ?_
   unfold Cas.ok
   simp only [hb1, hb2, zJ]
   exact decide_eq_decide.2 om
  rw [hb2] at Y
  refine nv Y <| yt <| yt <| yt <| yt <| yo (ak O O) <| yq O <| fun a Y => G2 ?_
  replace Y := Y.p1 2 O
  replace U := U.k0 0 O
  refine aq <| am Y results59 (ae O ag) ?_
  refine ⟨?_, U.ext⟩
  simp only [retv]
  refine yZ Value.bool ?_
  unfold Cas.ok
  simp only [hb1, hb2, zJ, z8]
 rw [hb1] at Y
 refine nv Y <| yt <| yt <| yt <| yo (ak O O) <| yp O <| yt <| yt <| yt <| yt <| yo (ak O O) <| yq O <| fun a Y => G2 ?_
 replace Y := Y.p1 2 O
 replace U := U.k0 0 O
 refine aq <| am Y results59 (ae O ag) ?_
 refine ⟨?_, U.ext⟩
 simp only [retv]
 refine yZ Value.bool ?_
 unfold Cas.ok
 simp only [hb1, zJ, z8]
theorem wm (x : Cas) (w0 : World) :
  Ret Tryz.prog 19 #[.agg #[jv x.n, jv x.t, sv x.ev]] w0 fun v w => v = .tuple #[sv (encP x), jv (cE x)] ∧ Ext No w0 w := by
 refine An func19 O ntmps19 (lb O) fun a Y U => aa fun _ G1 => aV Y U O [jv x.n, jv x.t, sv x.ev] O fun a w1 Y U => nv Y <| yq O <| yq O <| fun a Y => G1 <| ah fun _ G2 => aa fun _ G3 => wlv Y (ap (U.g 0 O) O (isAgg55 _) (sizeOf55 _)) fun a Y => aw Y U call59 O (g7 x _) fun a w2 Y U => wlv Y (bB O) fun a Y => G3 <| bC Y O (fun hc1 => ?_) (fun hc1 => ?_)
 ·try simp only [qz] at hc1
  refine aa fun _ G4 => nv Y <| yq O <| yq O <| fun a Y => G4 <| aq <| am Y results19 (ae O (ae O ag)) ?_
  exact ⟨by simp only [retv]; unfold encP cE; rw [yO (by rw [hc1]; decide), yO (by rw [hc1]; decide)]; rfl, U.ext⟩
 try simp only [qz] at hc1
 have hbd := Cas.bnd hc1
 have hl1 := bW x.n
 have hl2 := bW x.t
 have hl3 := bW (x.ev.length : Int)
 have hl4 : (putS x.ev).length ≤ 1000 := by unfold putS; rw [yx]; omega
 refine ar <| G2 <| aa fun _ G5 => nv Y <| yo (ac (v := pq w0.hz) O kr) <| yo (ld U 0 O O (isAgg3 _) O) <| fun a Y => aw Y U call60 O (ft x.n _ AJ) fun a w3 Y U => nv Y <| yp O <| yo (ao O O) <| yo (ao O O) <| yq O <| yq O <| fun a Y => G5 ?_
 refine aa fun _ G6 => nv (Y.p4 1 2 3 4 O) <| yo (ac (v := po w0.hz 1) O kr) <| yo (ld U 0 O O (isAgg3 _) O) <| fun a Y => aw Y U call60 O (ft x.t _ AJ) fun a w4 Y U => nv Y <| yp O <| yo (ao O O) <| yo (ao O O) <| yq O <| yq O <| fun a Y => G6 ?_
 refine aa fun _ G7 => nv (Y.p5 1 2 3 4 6 O) <| yo (ac (v := po w0.hz 2) O kr) <| yo (ld U 0 O O (isAgg9 _) O) <| fun a Y => aw Y U call61 O (m8 x.ev _ om) fun a w5 Y U => nv Y <| yp O <| yo (ao O O) <| yo (ao O O) <| yq O <| yq O <| fun a Y => G7 ?_
 replace U := U.k0 0 O
 refine aa fun _ G8 => nv (Y.p5 2 3 4 6 8 O) <| yp O <| yp O <| yo (dJ O O Bf) <| yp O <| yo (dJ O O Bf) <| yq O <| yq O <| fun a Y => G8 ?_
 replace Y := Y.p2 2 3 O
 refine aq <| am Y results19 (ae O (ae O ag)) ?_
 exact ⟨by simp only [retv]; unfold encP cE; rw [yR hc1, yR hc1]; simp [Cas.enc, puts], U.ext⟩
theorem kQ (w0 : World) :
  Ret Tryz.prog 64 #[jv 0] w0 fun v w => v = .tuple #[] ∧ Ext No w0 w := by
 refine An func64 O ntmps64 (lb O) fun a Y U => aa fun _ G1 => nv Y <| yp O <| yo ((v_ne O O).asb (b' := false) O) <| fun a Y => G1 <| aJ Y O ?_
 refine ar <| cS Y results64 ag ?_
 exact ⟨by rfl, U.ext⟩
theorem jw (w0 : World) :
  Pan Tryz.prog 64 #[jv 10] w0 fun c w => c = [{ v := .iface 126 (.agg #[]), recovered := false }] ∧ Ext No w0 w := by
 refine nk func64 O ntmps64 (lb O) fun a Y => ?_
 replace U : St No w0 [] w0 := St.init w0
 refine aa fun _ G1 => nv (Y.p1 0 O) <| yp O <| yo ((v_ne O O).asb (b' := true) O) <| fun a Y => G1 <| aG Y O ?_
 refine bF <| aU 2 ?_
 refine nv Y <| yo (aW (v := .agg #[]) O kr) <| yo (cV O underlying126) <| fun a Y => ab <| dO Y O ?_
 exact eN (X := fun c w => c = [{ v := .iface 126 (.agg #[]), recovered := false }] ∧ Ext No w0 w) Y ⟨O, U.ext⟩
theorem fD {M : Nat → Prop} {w0 : World} (b2 b3 : Nat) (c0 c1 c2 c5 : Value) (ws : World) (U : St M w0 [blk b2 [c0, c1, c2] 55, blk b3 [c5] 41] ws) :
  CallsDIn Fence.wide 0 Tryz.prog 62 #[pq b2, pq b3] (.panicking [{ v := .iface 126 (.agg #[]), recovered := false }]) ws fun e u' w => u' = (.panicking [{ v := .iface 126 (.agg #[]), recovered := true }]) ∧ ∃ x, e = .returned x ∧ St M w0 [blk b2 [jv 0, jv 0, sv ([] : By)] 55, blk b3 [jv 210] 41] w  := by
 refine nb (args := [pq b2, pq b3]) func62 O ntmps62 (lb O) O O de (fun _ _ => O) (.inr ⟨O, O⟩) fun a Y => ?_
 replace Y := Y.p3 5 0 1 O
 skip
 refine au <| aa fun _ G1 => wlv Y (kP O O kr kr) fun a Y => G1 <| aJ Y O ?_
 refine aa fun _ G2 => nv Y <| yo (iV O underlying126) <| yo (ao O O) <| yo (ao O O) <| fun a Y => G2 <| aG Y O ?_
 refine aa fun _ G3 => aD Y U (zeroValue126 _) [] O fun a w1 Y U => az 0 Y U [] O (sizeOf126 _) fun a w2 Y U => G3 ?_
 replace U := U.k2 6 O
 refine al <| wlv (Y.p2 0 1 O) (aW (v := .agg #[jv 0, jv 0, .string (⟨#[]⟩)]) O kr) fun a Y => az 0 Y U [jv 0, jv 0, .string (⟨#[]⟩)] O (sizeOf55 _) fun a w3 Y U => az 1 Y U [jv 210] O (sizeOf41 _) fun a w4 Y U => ab ?_
 refine iw Y results62 ag ?_
 exact U.select [0, 1] de
theorem rP (b2 b3 : Nat) (ws : World) :
  CallsDIn Fence.wide 0 Tryz.prog 62 #[pq b2, pq b3] .returning ws fun e u' w => u' = .returning ∧ ∃ x, e = .returned x ∧ Ext No ws w  := by
 refine nb (args := [pq b2, pq b3]) func62 O ntmps62 (lb O) O O de (fun _ _ => O) (.inl ⟨O, O, O⟩) fun a Y => ?_
 replace U : St No ws [] ws := St.init ws
 refine au <| aa fun _ G1 => wlv (Y.p3 5 0 1 O) (qF O O kr kr) fun a Y => G1 <| aG Y O ?_
 refine al <| wla Y O fun a Y => ab ?_
 refine iw Y results62 ag ?_
 exact U.ext
theorem tG (s : By) (w0 : World) (hsl : s.length ≤ 1000000) :
  Ret Tryz.prog 20 #[sv s] w0 fun v w => v = .tuple #[.agg (dcX s).cells.toArray, jv (dcE s)] ∧ Ext No w0 w := by
 refine qX func20 O ntmps20 (lb O) fun a Y => ?_
 replace U : St No w0 [] w0 := St.init w0
 refine aa fun _ G1 => aD (Y.p1 0 O) U (zeroValue55 _) [jv 0, jv 0, .string (⟨#[]⟩)] O fun a w1 Y U => aD Y U (zeroValue41 _) [jv 0] O fun a w2 Y U => G1 <| aa fun _ G2 => wlv Y (cb O O) fun a Y => oc Y O fun a Y => G2 <| aa fun _ G3 => wlm Y O fun a Y => ?_
 rcases yz ((rdI s).isSome) with hb1 | hb1
 ·obtain ⟨⟨n1, r1⟩, hq1⟩ := zr.1 hb1
  have hd1 := uN.trans (rk hq1)
  have hsf1 := (iK hq1).trans (List.suffix_refl s)
  refine aw Y U call63 O (j4 sm (List.suffix_refl s) hsl hq1) fun a w3 Y U => nv Y <| yp O <| yo (ao O O) <| yo (ao O O) <| yo (ao O O) <| yq O <| yq O <| yq O <| fun a Y => G3 ?_
  replace Y := Y.p6 0 2 3 4 5 6 O
  refine bU fun _ G4 hP4 => aU 1 ?_
  refine wlm Y O fun a Y => ab <| aU 1 ?_
  refine aw Y U call64 O (kQ _) fun a w4 Y U => ab <| dx <| G4 <| aa fun _ G5 => nv Y <| yp O <| yp O <| fun a Y => ?_
  rcases yz ((rdI r1).isSome) with hb2 | hb2
  ·obtain ⟨⟨n2, r2⟩, hq2⟩ := zr.1 hb2
   have hd2 := hd1.trans (rk hq2)
   have hsf2 := (iK hq2).trans hsf1
   refine aw Y U call63 O (j4 O hsf1 hsl hq2) fun a w5 Y U => nv Y <| yp O <| yo (ao O O) <| yo (ao O O) <| yo (ao O O) <| yq O <| yq O <| yq O <| fun a Y => G5 ?_
   replace Y := Y.p7 0 2 3 4 7 5 6 O
   refine bU fun _ G6 hP6 => aU 1 ?_
   refine wlm Y O fun a Y => ab <| aU 1 ?_
   refine aw Y U call64 O (kQ _) fun a w6 Y U => ab <| dx <| G6 <| aa fun _ G7 => nv Y <| yp O <| yp O <| fun a Y => ?_
   rcases yz ((rdS r2).isSome) with hb3 | hb3
   ·obtain ⟨⟨x9, r3⟩, hq3⟩ := zr.1 hb3
    have hd3 := hd2.trans (um.trans (tO hq3))
    have hsf3 := (wy hq3).trans hsf2
    refine aw Y U call65 O (ry s r2 x9 r3 _ _ O hsf2 hsl hq3) fun a w7 Y U => nv Y <| yp O <| yo (ao O O) <| yo (ao O O) <| yo (ao O O) <| yq O <| yq O <| yq O <| fun a Y => G7 ?_
    replace Y := Y.p8 0 2 3 4 7 8 5 6 O
    refine bU fun _ G8 hP8 => aU 1 ?_
    refine wlm Y O fun a Y => ab <| aU 1 ?_
    refine aw Y U call64 O (kQ _) fun a w8 Y U => ab <| dx <| G8 <| aa fun _ G9 => nv Y <| yp O <| yp O <| yp O <| yo (aW (v := .agg #[jv n1, jv n2, sv x9]) O kr) <| fun a Y => az 1 Y U [jv n1, jv n2, sv x9] O (sizeOf55 _) fun a w9 Y U => G9 ?_
    refine ah fun _ G10 => aa fun _ G11 => nv (Y.p4 0 2 3 5 O) <| yp O <| yp O <| yo (bd O O (runUnderlying9 _)) <| yo (v_ne O O) <| yp O <| fun a Y => ?_
    rcases (Decidable.em (((s.length - r3.length : Nat) : Int) = (s.length : Int))).symm with hb4 | hb4
    ·rw [yD hb4] at Y
     have hdn := hd3.trans (rD (by intro h0; have h1 := yZ List.length h0; rw [yJ] at h1; omega))
     refine nv Y <| yt <| yt <| yt <| yo (ax O O) <| fun a Y => G11 ?_
     replace Y := Y.p3 2 3 48 O
     refine aG Y O ?_
     refine bF <| aU 2 ?_
     refine nv Y <| yo (aW (v := .agg #[]) O kr) <| yo (cV O underlying126) <| fun a Y => ab <| dO Y O ?_
     replace U := U.s2 [1, 0] de rfl
     exact bt Y call62 (fD _ _ _ _ _ _ _ U) results20 (fun w9 U => ⟨(ai O (aY (U.g 0 O) (isAgg55 _) (sizeOf55 _)) (ai O (aK (U.g 1 O) (isAgg41 _)) ag)), by simp only [retv]; unfold dcX dcE; rw [hdn]; rfl, U.ext⟩)
    rw [yy hb4] at Y
    have hqn : r3 = [] := ze (by have := hsf3.length_le; omega)
    refine wly Y (ap (U.g 1 O) O (isAgg55 _) (sizeOf55 _)) fun a Y => aF Y U call59 O (g7 (⟨n1, n2, x9⟩ : Cas) _) fun a w10 Y U => nv Y <| yr (bB O) <| yo (ak O O) <| fun a Y => G11 ?_
    replace Y := Y.p3 2 3 48 O
    refine bC Y O (fun hc5 => ?_) (fun hc5 => ?_)
    ·try simp only [qz] at hc5
     have hdn := hd3.trans (sQ (by exact hc5))
     refine bF <| aU 2 ?_
     refine nv Y <| yo (aW (v := .agg #[]) O kr) <| yo (cV O underlying126) <| fun a Y => ab <| dO Y O ?_
     replace U := U.s2 [1, 0] de rfl
     exact bt Y call62 (fD _ _ _ _ _ _ _ U) results20 (fun w9 U => ⟨(ai O (aY (U.g 0 O) (isAgg55 _) (sizeOf55 _)) (ai O (aK (U.g 1 O) (isAgg41 _)) ag)), by simp only [retv]; unfold dcX dcE; rw [hdn]; rfl, U.ext⟩)
    try simp only [qz] at hc5
    have hds := hd3.trans (sU hqn (by exact hc5))
    refine ar <| G10 <| aa fun _ G12 => wlv Y (ap (U.g 1 O) O (isAgg55 _) (sizeOf55 _)) fun a Y => az 1 Y U [jv n1, jv n2, sv x9] O (sizeOf55 _) fun a w11 Y U => az 0 Y U [jv 0] O (sizeOf41 _) fun a w12 Y U => G12 <| aq <| pa (vs := [.agg #[jv n1, jv n2, sv x9], jv 0]) Y call62 (rP _ _ _) results20 (fun w9 hx => ?_)
    have U := U.grow hx
    exact ⟨(ai O (aY (U.g 1 O) (isAgg55 _) (sizeOf55 _)) (ai O (aK (U.g 0 O) (isAgg41 _)) ag)), by simp only [retv]; unfold dcX dcE; rw [hds]; rfl, U.ext⟩
   have hq3 : rdS r2 = none := by
    cases h : rdS r2 with
    | none => rfl
    | some z => rw [h] at hb3; cases hb3
   have hdn := hd2.trans (um.trans (sZ hq3))
   refine aw Y U call65 O (qy O hsf2 hsl hq3) fun a w13 Y U => nv Y <| yp O <| yo (ao O O) <| yo (ao O O) <| yo (ao O O) <| yq O <| yq O <| yq O <| fun a Y => G7 ?_
   replace Y := Y.p8 0 2 3 4 7 8 5 6 O
   refine bU fun _ G13 hP13 => aU 1 ?_
   refine wlm Y O fun a Y => ab <| nh (X := fun c w2 => c = [{ v := .iface 126 (.agg #[]), recovered := false }] ∧ Ext No w13 w2) Y call64 O (jw _) ?_
   rintro _ w14 ⟨rfl, hx⟩
   have U := U.grow hx
   refine hP13 _ _ _ ?_
   replace U := U.s2 [1, 0] de rfl
   exact bt Y call62 (fD _ _ _ _ _ _ _ U) results20 (fun w9 U => ⟨(ai O (aY (U.g 0 O) (isAgg55 _) (sizeOf55 _)) (ai O (aK (U.g 1 O) (isAgg41 _)) ag)), by simp only [retv]; unfold dcX dcE; rw [hdn]; rfl, U.ext⟩)
  have hq2 : rdI r1 = none := by
   cases h : rdI r1 with
   | none => rfl
   | some z => rw [h] at hb2; cases hb2
  have hdn := hd1.trans (o0 hq2)
  refine aw Y U call63 O (kF O hsf1 hsl hq2) fun a w15 Y U => nv Y <| yp O <| yo (ao O O) <| yo (ao O O) <| yo (ao O O) <| yq O <| yq O <| yq O <| fun a Y => G5 ?_
  replace Y := Y.p7 0 2 3 4 7 5 6 O
  refine bU fun _ G14 hP14 => aU 1 ?_
  refine wlm Y O fun a Y => ab <| nh (X := fun c w2 => c = [{ v := .iface 126 (.agg #[]), recovered := false }] ∧ Ext No w15 w2) Y call64 O (jw _) ?_
  rintro _ w16 ⟨rfl, hx⟩
  have U := U.grow hx
  refine hP14 _ _ _ ?_
  replace U := U.s2 [1, 0] de rfl
  exact bt Y call62 (fD _ _ _ _ _ _ _ U) results20 (fun w9 U => ⟨(ai O (aY (U.g 0 O) (isAgg55 _) (sizeOf55 _)) (ai O (aK (U.g 1 O) (isAgg41 _)) ag)), by simp only [retv]; unfold dcX dcE; rw [hdn]; rfl, U.ext⟩)
 have hq1 : rdI s = none := by
  cases h : rdI s with
  | none => rfl
  | some z => rw [h] at hb1; cases hb1
 have hdn := uN.trans (o0 hq1)
 refine aw Y U call63 O (kF sm (List.suffix_refl s) hsl hq1) fun a w17 Y U => nv Y <| yp O <| yo (ao O O) <| yo (ao O O) <| yo (ao O O) <| yq O <| yq O <| yq O <| fun a Y => G3 ?_
 replace Y := Y.p6 0 2 3 4 5 6 O
 refine bU fun _ G15 hP15 => aU 1 ?_
 refine wlm Y O fun a Y => ab <| nh (X := fun c w2 => c = [{ v := .iface 126 (.agg #[]), recovered := false }] ∧ Ext No w17 w2) Y call64 O (jw _) ?_
 rintro _ w18 ⟨rfl, hx⟩
 have U := U.grow hx
 refine hP15 _ _ _ ?_
 replace U := U.s2 [1, 0] de rfl
 exact bt Y call62 (fD _ _ _ _ _ _ _ U) results20 (fun w9 U => ⟨(ai O (aY (U.g 0 O) (isAgg55 _) (sizeOf55 _)) (ai O (aK (U.g 1 O) (isAgg41 _)) ag)), by simp only [retv]; unfold dcX dcE; rw [hdn]; rfl, U.ext⟩)
def prevN (l : List Cas) : Nat → Int
 | 0 => -1
 | k + 1 => (l.getD k Cas.z).n
theorem sx {l : List Cas} {k : Nat} (h : 0 < k) : prevN l k = (l.getD (k - 1) Cas.z).n := by
 cases k with
 | zero => exact absurd h (zW 0)
 | succ k => rfl
theorem kf {l : List Cas} {k : Nat} (h : k < l.length) : l.drop k = l.getD k Cas.z :: l.drop (k + 1) := by
 rw [zm h, yA, yF h]; rfl
section
variable {l : List Cas} {k : Nat}
theorem ux (hk : k < l.length) (ho : (l.getD k Cas.z).ok = true) (ht : prevN l k < (l.getD k Cas.z).n) : ascC (prevN l k) (l.drop k) = ascC (prevN l (k + 1)) (l.drop (k + 1)) := by
 rw [kf hk, ascC, ho, yy ht]; rfl
theorem ya (hk : k < l.length) (ho : (l.getD k Cas.z).ok = false) : ascC (prevN l k) (l.drop k) = false := by rw [kf hk, ascC, ho]; rfl
theorem yh (hk : k < l.length) (ht : (l.getD k Cas.z).n ≤ prevN l k) : ascC (prevN l k) (l.drop k) = false := by rw [kf hk, ascC, yD om, zy]; rfl
theorem mB (hk : k < l.length) : entC (l.take (k + 1)) = entC (l.take k) ++ [encP (l.getD k Cas.z)] := by rw [cF Cas.z hk, entC, zu]; rfl
end
theorem iE (c : Int) (lv : Value) (l : List Cas) (w0 : World) (hlv : SlAt w0 lv 3 (l.map Cas.cells)) :
  Ret Tryz.prog 31 #[.agg #[jv c, lv]] w0 fun v w => v = .bool (docOk c l) ∧ Ext No w0 w := by
 have hxb := hlv.2.1
 simp only [yu, big] at hxb
 refine An func31 O ntmps31 (lb O) fun a Y U => aa fun _ G1 => aV Y U O [jv c, lv] O fun a w1 Y U => wla Y O fun a Y => G1 <| ah fun _ G2 => aa fun _ G3 => nv Y <| yo (ac (v := po w0.hz 1) O kr) <| yo (ld U 0 O O (isAgg30 _) O) <| yo ((aO (sT := 30) (U.arg hlv) O O (runUnderlying30 _)).asi (m' := (l.length : Int)) AO) <| yp O <| fun a Y => G3 <| au <| aZ (fun m a w => ∃ (k : Nat), m = l.length - k ∧ (k ≤ l.length) ∧ (ascC (-1) l = ascC (prevN l k) (l.drop k)) ∧ Fr 42 [(1, pq w0.hz), (6, lv), (7, jv (l.length : Int)), (8, jv (k : Int))] [] a ∧ St No w0 [blk w0.hz [jv c, lv] 32] w) _ ⟨0, O, yQ _, O, Y.pick [1, 6, 7, 8], U.select [0] de⟩ ?_
 rintro _ a w2 ⟨k, rfl, hk, hs, Y, U⟩
 refine aa fun _ G4 => wlv Y (v_lt O O) fun a Y => G4 <| ah fun _ G5 => aA Y O (fun hc1 => ?_) (fun hc1 => ?_)
 ·have hkx : k < l.length := by omega
  refine ar <| G5 <| ah fun _ G6 => au <| aa fun _ G7 => nv Y <| yp O <| yo ((aj (i := (k : Int)) (sT := 30) (U.arg hlv) O O (runUnderlying30 _) (sizeOf55 _) om Aw).as (v' := slAddr lv (k * 3)) O) <| yo ((bP (U.arg hlv) (i := k) Aw O (isAgg55 _) (sizeOf55 _)).as (v' := .agg #[jv ((l.getD k Cas.z).n), jv ((l.getD k Cas.z).t), sv ((l.getD k Cas.z).ev)]) Bu) <| fun a Y => aD Y U (zeroValue55 _) [jv 0, jv 0, .string (⟨#[]⟩)] O fun a w3 Y U => wla Y O fun a Y => az 0 Y U [jv ((l.getD k Cas.z).n), jv ((l.getD k Cas.z).t), sv ((l.getD k Cas.z).ev)] O (sizeOf55 _) fun a w4 Y U => G7 <| ah fun _ G8 => aH (aI fun w5 hxz => ?_)
  replace U := U.grow hxz
  refine aL (k := 0) 7 [6] ?_
  refine wlv Y (ap (U.g 0 O) O (isAgg55 _) (sizeOf55 _)) fun a Y => aw Y U call59 O (g7 (l.getD k Cas.z) _) fun a w6 Y U => nv Y <| yo (bB O) <| yp O <| fun a Y => ?_
  rcases yz (!((l.getD k Cas.z).ok)) with hb2 | hb2
  ·rw [hb2] at Y
   try simp only [qz] at hb2
   have hbad : ascC (-1) l = false := by rw [hs]; exact ya hkx (by simpa using hb2)
   refine nv Y <| yt <| yt <| yt <| fun a Y => ab <| dw (k := 7) 16 [13, 15] (Y.p16 1 6 7 8 10 11 12 4 3 13 14 15 16 17 18 19 O) fun a Y => ?_
   replace Y : Fr 42 [(20, undef), (21, undef), (22, undef), (23, undef), (24, undef), (25, undef), (26, undef), (27, undef), (28, undef), (1, pq w0.hz), (6, lv), (7, jv (l.length : Int)), (8, jv (k : Int)), (10, jv (k : Int)), (11, slAddr lv (k * 3)), (12, .agg #[jv ((l.getD k Cas.z).n), jv ((l.getD k Cas.z).t), sv ((l.getD k Cas.z).ev)]), (4, pq w2.hz), (3, jv (k : Int)), (13, .agg #[jv ((l.getD k Cas.z).n), jv ((l.getD k Cas.z).t), sv ((l.getD k Cas.z).ev)]), (14, .bool ((l.getD k Cas.z).ok)), (15, .bool true), (16, .bool true), (17, undef), (18, undef), (19, undef)] [] a := Y
   refine aL (k := 16) 19 [18] ?_
   refine bX Y fun a Y => nv Y <| yt <| yo (ax O O) <| fun a Y => ab <| aS <| G8 ?_
   replace Y := Y.p5 1 6 7 8 31 O
   replace U := U.k1 2 O
   refine aG Y O ?_
   refine aa fun _ G9 => wla Y O fun a Y => G9 <| aq <| am Y results31 (ae O ag) ?_
   refine ⟨?_, U.ext⟩
   simp only [retv]
   refine yZ Value.bool ?_
   unfold docOk; rw [hbad]; rfl
  rw [hb2] at Y
  try simp only [qz] at hb2
  have hok : (l.getD k Cas.z).ok = true := by simpa using hb2
  have hbn := Cas.bnd hok
  refine nv Y <| yr (ay O) <| yr (v_gt O O) <| yr (ay O) <| fun a Y => ab ?_
  rcases Decidable.em (0 < (k : Int)) with hb3 | hb3
  ·rw [yy hb3] at Y
   have hpv := sx (l := l) (k := k) om
   refine aR (k := 7) 16 [13, 15] Y ?_
   replace Y := Y.p16 1 6 7 8 10 11 12 4 3 13 14 15 16 17 18 19 O
   refine bL 9 Y U <| pl_v (ac (v := po w0.hz 1) O kr) <| pl_w (fun U => ld U 1 O O (isAgg30 _) O) <| pl_m O <| pl_v (bK O O ⟨om, om⟩) <| pl_w (fun U => (aj (i := (k : Int) - 1) (sT := 30) (U.arg hlv) O O (runUnderlying30 _) (sizeOf55 _) om Aw).as (v' := slAddr lv ((k - 1) * 3)) Bh) <| pl_w (fun U => cI (k := (k - 1) * 3) (j := 0) (U.arg hlv) (i := (k - 1)) Aw O (fun _ _ => by kernel_rfl)) <| pl_w (fun U => aB (u := jv ((l.getD (k - 1) Cas.z).n)) (i := (k - 1)) (j := 0) (U.arg hlv) Aw O (isAgg3 _) Bu) ?_
   refine pl_v (ac (v := pq w2.hz) O kr) <| pl_w (fun U => ld U 0 O O (isAgg3 _) O) fun a w7 Y U => ?_
   replace Y := Y.p8 1 6 7 8 16 19 26 28 O
   refine ab <| aL (k := 16) 19 [18] ?_
   refine nv Y <| yr (v_ge O O) <| yr (ax O O) <| yo (ak O O) <| fun a Y => ab <| aS <| G8 ?_
   replace Y := Y.p5 1 6 7 8 31 O
   replace U := U.k1 2 O
   refine aA Y O (fun hc4 => ?_) (fun hc4 => ?_)
   ·have hbad : ascC (-1) l = false := by rw [hs]; exact yh hkx (by rw [hpv]; exact hc4)
    refine aa fun _ G10 => wla Y O fun a Y => G10 <| aq <| am Y results31 (ae O ag) ?_
    refine ⟨?_, U.ext⟩
    simp only [retv]
    refine yZ Value.bool ?_
    unfold docOk; rw [hbad]; rfl
   have hgo : prevN l k < (l.getD k Cas.z).n := by rw [hpv]; omega
   refine ar <| G6 <| al <| nv Y <| yo (aM O O ⟨om, om⟩) <| yp O <| fun a Y => ab ?_
   refine ⟨_, ?_, k + 1, O, om, (by rw [hs]; exact ux hkx hok hgo), Y.pick [1, 6, 7, 8], U.select [0] de⟩
   omega
  rw [yD hb3] at Y
  have hgo : prevN l k < (l.getD k Cas.z).n := by
   have h0 : k = 0 := by omega
   rw [h0] at hbn ⊢; show -1 < _; omega
  refine dw (k := 7) 16 [13, 15] (Y.p16 1 6 7 8 10 11 12 4 3 13 14 15 16 17 18 19 O) fun a Y => ?_
  replace Y : Fr 42 [(20, undef), (21, undef), (22, undef), (23, undef), (24, undef), (25, undef), (26, undef), (27, undef), (28, undef), (1, pq w0.hz), (6, lv), (7, jv (l.length : Int)), (8, jv (k : Int)), (10, jv (k : Int)), (11, slAddr lv (k * 3)), (12, .agg #[jv ((l.getD k Cas.z).n), jv ((l.getD k Cas.z).t), sv ((l.getD k Cas.z).ev)]), (4, pq w2.hz), (3, jv (k : Int)), (13, .agg #[jv ((l.getD k Cas.z).n), jv ((l.getD k Cas.z).t), sv ((l.getD k Cas.z).ev)]), (14, .bool ((l.getD k Cas.z).ok)), (15, .bool false), (16, .bool false), (17, jv (k : Int)), (18, .bool false), (19, .bool false)] [] a := Y
  refine aL (k := 16) 19 [18] ?_
  refine nv Y <| yt <| yr (ak O O) <| yo (ak O O) <| fun a Y => ab <| aS <| G8 ?_
  replace Y := Y.p5 1 6 7 8 31 O
  replace U := U.k1 2 O
  refine aJ Y O ?_
  refine ar <| G6 <| al <| nv Y <| yo (aM O O ⟨om, om⟩) <| yp O <| fun a Y => ab ?_
  refine ⟨_, ?_, k + 1, O, om, (by rw [hs]; exact ux hkx hok hgo), Y.pick [1, 6, 7, 8], U.select [0] de⟩
  omega
 have hall : ascC (-1) l = true := by rw [hs, show k = l.length by omega, List.drop_length]; rfl
 refine aP <| G2 <| aa fun _ G11 => nv Y <| yo (ac (v := pq w0.hz) O kr) <| yo (ld U 0 O O (isAgg3 _) O) <| fun a Y => aw Y U call49 O (dm c 0 7 _) fun a w8 Y U => wlm Y O fun a Y => ?_
 rcases yz (inB c 0 7) with hb5 | hb5
 ·rw [hb5] at Y
  refine nv Y <| yr (ac (v := po w0.hz 1) O kr) <| yr (ld U 0 O O (isAgg30 _) O) <| yr ((aO (sT := 30) (U.arg hlv) O O (runUnderlying30 _)).asi (m' := (l.length : Int)) AO) <| yr (v_le O O) <| yo (ax O O) <| yq O <| fun a Y => G11 ?_
  replace Y := Y.p1 2 O
  replace U := U.k0 0 O
  refine aq <| am Y results31 (ae O ag) ?_
  refine ⟨?_, U.ext⟩
  simp only [retv]
  refine yZ Value.bool ?_
  unfold docOk; rw [hall, hb5]; simp only [zJ]; exact decide_eq_decide.2 om
 rw [hb5] at Y
 refine nv Y <| yt <| yt <| yt <| yt <| yo (ak O O) <| yq O <| fun a Y => G11 ?_
 replace Y := Y.p1 2 O
 replace U := U.k0 0 O
 refine aq <| am Y results31 (ae O ag) ?_
 refine ⟨?_, U.ext⟩
 simp only [retv]
 refine yZ Value.bool ?_
 unfold docOk; rw [hall, hb5]; rfl
theorem rn (c : Int) (lv : Value) (l : List Cas) (w0 : World) (hlv : SlAt w0 lv 3 (l.map Cas.cells)) (hle : l.length ≤ 1000) :
  Ret Tryz.prog 72 #[.agg #[jv c, lv]] w0 (MemR w0 (fun v : Value => .agg #[jv c, v]) (fun v => [own v 9 1 ((entC (l)).map fun s => [sv s])]) (fun _ => True)) := by
 have hxb := hlv.2.1
 simp only [yu, big] at hxb
 refine An func72 O ntmps72 (lb O) fun a Y U => aa fun _ G1 => aV Y U O [jv c, lv] O fun a w1 Y U => aD Y U (zeroValue75 _) [jv 0, .slice none 0 0] O fun a w2 Y U => G1 <| aa fun _ G2 => nv Y <| yo (ac (v := pq w0.hz) O kr) <| yo (ld U 1 O O (isAgg3 _) O) <| yo (aW (v := .agg #[jv c, .slice none 0 0]) O kr) <| fun a Y => aD Y U (zeroValue75 _) [jv 0, .slice none 0 0] O fun a w3 Y U => az 0 Y U [jv c, .slice none 0 0] O (sizeOf75 _) fun a w4 Y U => G2 <| ah fun _ G3 => aa fun _ G4 => nv Y <| yo (ac (v := po w0.hz 1) O kr) <| yo (ld U 2 O O (isAgg30 _) O) <| yo ((aO (sT := 30) (U.arg hlv) O O (runUnderlying30 _)).asi (m' := (l.length : Int)) AO) <| yp O <| fun a Y => G4 ?_
 replace Y := Y.p5 2 3 12 13 14 O
 replace U := U.k2 3 O
 refine au ?_
 replace U : St No w0 [own (.slice none 0 0) 9 1 ((entC (l.take 0)).map fun s => [sv s]), blk w2.hz [jv c, .slice none 0 0] 75, blk w1.hz [jv 0, .slice none 0 0] 75] w4 := U.nil_own
 refine aZ (fun m a w => ∃ (k : Nat) (v : Value), m = l.length - k ∧ (k ≤ l.length) ∧ Fr 31 [(2, pq w1.hz), (3, pq w2.hz), (12, lv), (13, jv (l.length : Int)), (14, jv (k : Int))] [] a ∧ St No w0 [own v 9 1 ((entC (l.take k)).map fun s => [sv s]), blk w2.hz [jv c, v] 75, blk w1.hz [jv 0, .slice none 0 0] 75] w) _ ⟨0, .slice none 0 0, O, yQ _, Y.pick [2, 3, 12, 13, 14], U.select [0, 1, 2] de⟩ ?_
 rintro _ a w5 ⟨k, v, rfl, hk, Y, U⟩
 refine aa fun _ G5 => wlv Y (v_lt O O) fun a Y => G5 <| ah fun _ G6 => aA Y O (fun hc1 => ?_) (fun hc1 => ?_)
 ·have hkx : k < l.length := by omega
  refine ar <| G6 <| ah fun _ G7 => au <| aa fun _ G8 => nv Y <| yo ((aj (i := (k : Int)) (sT := 30) (U.arg hlv) O O (runUnderlying30 _) (sizeOf55 _) om Aw).as (v' := slAddr lv (k * 3)) O) <| yo ((bP (U.arg hlv) (i := k) Aw O (isAgg55 _) (sizeOf55 _)).as (v' := .agg #[jv ((l.getD k Cas.z).n), jv ((l.getD k Cas.z).t), sv ((l.getD k Cas.z).ev)]) Bu) <| fun a Y => aD Y U (zeroValue55 _) [jv 0, jv 0, .string (⟨#[]⟩)] O fun a w6 Y U => az 0 Y U [jv ((l.getD k Cas.z).n), jv ((l.getD k Cas.z).t), sv ((l.getD k Cas.z).ev)] O (sizeOf55 _) fun a w7 Y U => G8 <| aa fun _ G9 => wlv Y (ap (U.g 0 O) O (isAgg55 _) (sizeOf55 _)) fun a Y => aw Y U call19 O (wm (l.getD k Cas.z) _) fun a w8 Y U => nv Y <| yp O <| yo (ao O O) <| yo (ao O O) <| yq O <| yq O <| fun a Y => G9 ?_
  replace U := U.k3 14 O
  refine al <| nv (Y.p6 2 3 12 13 14 6 O) <| yo (ac (v := po w2.hz 1) O kr) <| yo (ld U 1 O O (isAgg44 _) O) <| yp O <| fun a Y => aE (E := 9) (sz := 1) O [[sv (encP (l.getD k Cas.z))]] kr sm O de de Y U fun a w9 Y U => ba (i := 1) (sT := 44) (inf := Tryz.t9) (z := .string (⟨#[]⟩)) (b := 0) (off := 0) (m := 0) (c := 0) O O O (U.ow 0 O) sm underlying44 O O O O de Az A3 A3 de Y U fun a w10 s2 Y U _ => ?_
  rw [show ((entC (l.take k)).map fun s => [sv s]) ++ ([[sv (encP (l.getD k Cas.z))]]) = ((entC (l.take (k + 1))).map fun s => [sv s]) from by rw [mB hkx, zu]; rfl] at U
  refine wlv Y (ac (v := po w2.hz 1) O kr) fun a Y => ce 2 Y U (U.ow 1 O) O O O (sizeOf44 _) (lb O) (ds := [jv c, s2]) O O fun a w11 Y U => ab <| G7 ?_
  replace U := U.k3 14 O
  refine al <| nv (Y.p5 2 3 12 13 14 O) <| yo (aM O O ⟨om, om⟩) <| yp O <| fun a Y => ab ?_
  refine ⟨_, ?_, k + 1, s2, O, om, Y.pick [2, 3, 12, 13, 14], U.select [0, 1, 2] de⟩
  omega
 obtain rfl : k = l.length := by omega
 rw [List.take_length] at U
 refine aP <| G3 <| aa fun _ G10 => wlv Y (ap (U.g 1 O) O (isAgg75 _) (sizeOf75 _)) fun a Y => bp (us := [jv c, v]) 2 Y U O O O (sizeOf75 _) AV (lb O) (ds := [jv c, v]) O O fun a w12 Y U => G10 ?_
 replace Y := Y.p1 2 O
 refine aq <| am Y results72 (ai O (aY (U.g 2 O) (isAgg75 _) (sizeOf75 _)) ag) ?_
 exact ⟨v, O, trivial, U.ext, St.out (E := [own v 9 1 ((entC (l)).map fun s => [sv s])]) (H := []) (U.select [0] de)⟩
theorem rr (x : Cas) (n : Int) (w0 : World) (h0 : 0 ≤ x.n ∧ x.n ≤ 99999999) (h1 : 0 ≤ n ∧ n ≤ 99999999) :
  Ret Tryz.prog 71 #[.agg #[jv x.n, jv x.t, sv x.ev], jv n] w0 fun v w => v = jv (x.n - n) ∧ Ext No w0 w := by
 refine Am func71 O ntmps71 (lb O) fun a Y U => aa fun _ G1 => aV Y U O [jv x.n, jv x.t, sv x.ev] O fun a w1 Y U => wla Y O fun a Y => G1 <| aa fun _ G2 => nv Y <| yo (ac (v := pq w0.hz) O kr) <| yo (ld U 0 O O (isAgg3 _) O) <| yp O <| yo (bK O O ⟨om, om⟩) <| yq O <| fun a Y => G2 ?_
 replace Y := Y.p1 4 O
 replace U := U.k0 0 O
 refine aq <| am Y results71 (ae O ag) ?_
 exact ⟨by rfl, U.ext⟩
theorem pr (lv : Value) (l : List Cas) (num : Int) (w0 : World) (hlv : SlAt w0 lv 3 (l.map Cas.cells)) (hasc : ascC (-1) l = true) (hnum : 0 ≤ num ∧ num ≤ 99999999) :
  Ret Tryz.prog 70 #[lv, jv num, .func (.func 71) #[] #[]] w0 fun v w => v = .tuple #[jv (lowC num l : Int), .bool (hitC l num)] ∧ Ext No w0 w := by
 have hxb := hlv.2.1
 simp only [yu, big] at hxb
 have hall : ∀ x ∈ l, 0 ≤ x.n ∧ x.n ≤ 99999999 := fun x hx => by have := Cas.bnd (ge hasc x hx).1; omega
 have hll := gB num l
 refine Ao func70 O ntmps70 (lb O) fun a Y U => aa fun _ G1 => nv Y <| yq O <| yq O <| fun a Y => G1 <| aa fun _ G2 => nv Y <| yp O <| yo ((aO (sT := 30) (U.arg hlv) O O (runUnderlying30 _)).asi (m' := (l.length : Int)) AO) <| yq O <| fun a Y => G2 <| aa fun _ G3 => nv Y <| yp O <| yq O <| yq O <| fun a Y => G3 <| ah fun _ G4 => au <| aZ (fun m a w => ∃ (i : Nat) (j : Nat), m = j - i ∧ (i ≤ j ∧ j ≤ l.length) ∧ (i ≤ lowC num l) ∧ (lowC num l ≤ j) ∧ Fr 49 [(0, lv), (1, jv num), (2, .func (.func 71) #[] #[]), (6, jv 0), (7, .bool false), (8, jv (l.length : Int)), (9, jv (i : Int)), (10, jv (j : Int))] [] a ∧ St No w0 [] w) _ ⟨0, l.length, O, ⟨yQ _, zb _⟩, yQ _, gB num l, Y.pick [0, 1, 2, 6, 7, 8, 9, 10], U.select [] de⟩ ?_
 rintro _ a w1 ⟨i, j, rfl, hij, hi, hj, Y, U⟩
 refine ah fun _ G5 => aa fun _ G6 => nv Y <| yp O <| yp O <| yo (v_lt O O) <| fun a Y => G6 <| aA Y O (fun hc1 => ?_) (fun hc1 => ?_)
 ·have hml : ((i + j) / 2) < j := by omega
  refine ar <| G5 <| au <| aa fun _ G7 => nv Y <| yp O <| yp O <| yo (aM O O ⟨om, om⟩) <| yo ((eb O kr underlying191).asi (m' := ((i + j : Nat) : Int)) om) <| yo ((qf (m := (i + j)) (n := 1) om O O).asi (m' := (((i + j) / 2 : Nat) : Int)) O) <| yo (gC (n := ((i + j) / 2)) om O kr underlying3) <| yq O <| fun a Y => G7 ?_
  refine aa fun _ G8 => nv (Y.p9 0 1 2 6 7 8 9 10 11 O) <| yp O <| yp O <| yp O <| yo ((aj (i := ((((i + j) / 2) : Nat) : Int)) (sT := 30) (U.arg hlv) O O (runUnderlying30 _) (sizeOf55 _) om Aw).as (v' := slAddr lv (((i + j) / 2) * 3)) (by rw [show (((((i + j) / 2) : Nat) : Int)).toNat = ((i + j) / 2) from by omega])) <| yo ((bP (U.arg hlv) (i := ((i + j) / 2)) Aw O (isAgg55 _) (sizeOf55 _)).as (v' := .agg #[jv ((l.getD ((i + j) / 2) Cas.z).n), jv ((l.getD ((i + j) / 2) Cas.z).t), sv ((l.getD ((i + j) / 2) Cas.z).ev)]) Bu) <| yp O <| fun a Y => dC Y U O call71 O (rr (l.getD ((i + j) / 2) Cas.z) num _ (hall _ (bD om)) hnum) fun a w2 Y U => wlv Y (v_lt O O) fun a Y => G8 ?_
  replace Y := Y.p10 0 1 2 6 7 8 9 10 11 31 O
  refine aA Y O (fun hc2 => ?_) (fun hc2 => ?_)
  ·have hup : ((i + j) / 2) + 1 ≤ lowC num l := by
    refine Nat.lt_of_not_le fun hge => ?_
    have := jZ hasc hge (show ((i + j) / 2) < l.length by omega)
    omega
   refine al <| nv Y <| yp O <| yo (aM O O ⟨om, om⟩) <| yq O <| fun a Y => ab ?_
   refine ⟨_, ?_, ((i + j) / 2) + 1, j, O, om, om, om, Y.pick [0, 1, 2, 6, 7, 8, 9, 10], U.select [] de⟩
   omega
  have hdn : lowC num l ≤ ((i + j) / 2) := by
   refine Nat.le_of_not_lt fun hlt => ?_
   have := jV hlt
   omega
  refine al <| nv Y <| yp O <| yq O <| fun a Y => ab ?_
  refine ⟨_, ?_, i, ((i + j) / 2), O, om, om, om, Y.pick [0, 1, 2, 6, 7, 8, 9, 10], U.select [] de⟩
  omega
 have hil : i = lowC num l := by omega
 refine aP <| G4 <| aa fun _ G9 => nv Y <| yp O <| yp O <| yp O <| yo (v_lt O O) <| yp O <| fun a Y => ?_
 rcases Decidable.em ((i : Int) < (l.length : Int)) with hb3 | hb3
 ·rw [yy hb3] at Y
  refine nv Y <| yr (ay O) <| yr (ay O) <| yr (ay O) <| yr ((aj (i := (i : Int)) (sT := 30) (U.arg hlv) O O (runUnderlying30 _) (sizeOf55 _) om Aw).as (v' := slAddr lv (i * 3)) O) <| yr ((bP (U.arg hlv) (i := i) Aw O (isAgg55 _) (sizeOf55 _)).as (v' := .agg #[jv ((l.getD i Cas.z).n), jv ((l.getD i Cas.z).t), sv ((l.getD i Cas.z).ev)]) Bu) <| yr (ay O) <| fun a Y => ey Y ?_
  refine dC Y U O call71 O (rr (l.getD i Cas.z) num _ (hall _ (bD om)) hnum) fun a w3 Y U => nv Y <| yr (v_eq O O) <| yo (ax O O) <| yq O <| yq O <| fun a Y => G9 ?_
  replace Y := Y.p2 6 7 O
  refine aq <| am Y results70 (ae O (ae O ag)) ?_
  subst hil
  refine ⟨?_, U.ext⟩
  simp only [retv]
  refine yZ (fun b => Value.tuple #[jv ((lowC num l : Nat) : Int), .bool b]) ?_
  unfold hitC
  rw [Bool.eq_iff_iff]
  simp only [yw, yB, Af, false_iff, eq_self_iff_true, true_iff]
  omega
 rw [yD hb3] at Y
 refine nv Y <| yt <| yt <| yt <| yt <| yt <| yt <| yt <| yt <| yo (ak O O) <| yq O <| yq O <| fun a Y => G9 ?_
 replace Y := Y.p2 6 7 O
 refine aq <| am Y results70 (ae O (ae O ag)) ?_
 subst hil
 refine ⟨?_, U.ext⟩
 simp only [retv]
 refine yZ (fun b => Value.tuple #[jv ((lowC num l : Nat) : Int), .bool b]) ?_
 unfold hitC
 rw [Bool.eq_iff_iff]
 simp only [yw, yB, Af, false_iff, eq_self_iff_true, true_iff]
 omega
end Go.Proofs.YtliklcmddmpdfaaGreatDoor
namespace Go.Proofs.YtliklcmddmpdfaaGreatDoor
open Go.RowKit Go.PW _root_.Go.Proofs.Tryz
theorem qO {n a b : Int} (h : inB n a b = true) : a ≤ n ∧ n ≤ b := by simpa [inB] using h
theorem nZ {s : By} (h : s.length = 32) : s ≠ [] := fun e => by rw [e] at h; cases h
theorem xc {a b : By} (h : b ≠ []) : a ++ b ≠ [] := fun e => h (List.append_eq_nil_iff.1 e).2
theorem jY (n lo hi : Int) (w0 : World) :
  Ret Tryz.prog 122 #[jv n, jv lo, jv hi] w0 fun v w => v = .bool (inB n lo hi) ∧ Ext No w0 w := by
 refine Ao func122 O ntmps122 (lb O) fun a Y U => aa fun _ G1 => wla Y O fun a Y => G1 <| aa fun _ G2 => nv Y <| yp O <| yp O <| yo (v_le O O) <| yp O <| fun a Y => dk (N := 15) (df := []) 4 [(14, .bool ((decide (lo ≤ n)) && (decide (n ≤ hi)))), (0, jv n), (1, jv lo), (2, jv hi), (6, .bool false)] ?_ (fun hj => ?_)
 rotate_left
 ·rcases yz (decide (lo ≤ n)) with hb1 | hb1
  ·rw [hb1] at Y
   have hb1b := hb1
   try simp only [qz, yw, yS, yM, yU] at hb1
   refine nv Y <| yr (ay O) <| yr (ay O) <| yr (v_le O O) <| yo (ax O O) <| fun a Y => hj _ ?_
   try rw [hb1b]
   exact Y.pick [14, 0, 1, 2, 6]
  rw [hb1] at Y
  have hb1b := hb1
  try simp only [qz, yw, yS, yM, yU] at hb1
  refine nv Y <| yt <| yt <| yt <| yo (ak O O) <| fun a Y => hj _ ?_
  try rw [hb1b]
  exact Y.pick [14, 0, 1, 2, 6]
 intro a Y
 refine wla Y O fun a Y => G2 <| aq <| am Y results122 (ae O ag) ?_
 exact ⟨by rfl, U.ext⟩
theorem iJ (s : By) (w0 : World) :
  Ret Tryz.prog 120 #[sv s] w0 fun v w => v = .bool (decide ((s.length : Int) = 32)) ∧ Ext No w0 w := by
 refine An func120 O ntmps120 (lb O) fun a Y U => aa fun _ G1 => wla Y O fun a Y => G1 <| aa fun _ G2 => nv Y <| yp O <| yo (bd O O (runUnderlying9 _)) <| yo (v_eq O O) <| yq O <| fun a Y => G2 <| aq <| am Y results120 (ae O ag) ?_
 exact ⟨by rfl, U.ext⟩
theorem wj (s : By) (w0 : World) :
  Ret Tryz.prog 167 #[sv s] w0 fun v w => v = .bool (longE s) ∧ Ext No w0 w := by
 refine An func167 O ntmps167 (lb O) fun a Y U => aa fun _ G1 => wla Y O fun a Y => G1 <| aa fun _ G2 => nv Y <| yp O <| yo (bd O O (runUnderlying9 _)) <| yo (v_gt O O) <| yq O <| fun a Y => G2 <| aq <| am Y results167 (ae O ag) ?_
 exact ⟨by simp only [retv]; refine yZ Value.bool ?_; unfold longE; exact decide_eq_decide.2 om, U.ext⟩
theorem vV (c : Int) (ev : Value) (es : List By) (w0 : World) (hev : SlAt w0 ev 1 (es.map fun s => [sv s])) :
  Ret Tryz.prog 121 #[.agg #[jv c, ev]] w0 fun v w => v = .bool (regOk c es) ∧ Ext No w0 w := by
 refine An func121 O ntmps121 (lb O) fun a Y U => aa fun _ G1 => aV Y U O [jv c, ev] O fun a w1 Y U => wla Y O fun a Y => G1 <| aa fun _ G2 => wla Y O fun a Y => G2 <| aa fun _ G3 => nv Y <| yo (ac (v := pq w0.hz) O kr) <| yo (ld U 0 O O (isAgg3 _) O) <| fun a Y => aw Y U call122 O (jY c 0 7 _) fun a w2 Y U => wlm Y O fun a Y => ?_
 rcases yz (inB c 0 7) with hb1 | hb1
 ·rw [hb1] at Y
  refine nv Y <| yr (ac (v := po w0.hz 1) O kr) <| yr (ld U 0 O O (isAgg44 _) O) <| yr ((aO (sT := 44) (U.arg hev) O O (runUnderlying44 _)).asi (m' := (es.length : Int)) AO) <| yr (v_le O O) <| yo (ax O O) <| yp O <| fun a Y => ?_
  rcases Decidable.em ((es.length : Int) ≤ 60) with hb2 | hb2
  ·rw [yy hb2] at Y
   refine nv Y <| yr (ac (v := po w0.hz 1) O kr) <| yr (ld U 0 O O (isAgg44 _) O) <| yr (ay O) <| fun a Y => aF Y U call146 O (qM longE _ call167 (U.arg hev) (fun x w _ => wj x w)) fun a w3 Y U => nv Y <| yr (bB O) <| yo (ax O O) <| yq O <| fun a Y => G3 ?_
   replace Y := Y.p1 2 O
   replace U := U.k0 0 O
   refine aq <| am Y results121 (ae O ag) ?_
   refine ⟨?_, U.ext⟩
   simp only [retv]
   refine yZ Value.bool ?_
   unfold regOk
   rw [hb1, show decide (es.length ≤ 60) = true from yy om]; rfl
  rw [yD hb2] at Y
  refine nv Y <| yt <| yt <| yt <| yt <| yt <| yo (ak O O) <| yq O <| fun a Y => G3 ?_
  replace Y := Y.p1 2 O
  replace U := U.k0 0 O
  refine aq <| am Y results121 (ae O ag) ?_
  refine ⟨?_, U.ext⟩
  simp only [retv]
  refine yZ Value.bool ?_
  unfold regOk
  first | (rw [hb2]; rfl) | (rw [show decide (es.length ≤ 60) = false from yD om, zy]; rfl)
 rw [hb1] at Y
 refine nv Y <| yt <| yt <| yt <| yt <| yo (ak O O) <| yp O <| yt <| yt <| yt <| yt <| yt <| yo (ak O O) <| yq O <| fun a Y => G3 ?_
 replace Y := Y.p1 2 O
 replace U := U.k0 0 O
 refine aq <| am Y results121 (ae O ag) ?_
 refine ⟨?_, U.ext⟩
 simp only [retv]
 refine yZ Value.bool ?_
 unfold regOk
 first | (rw [hb1]; rfl) | (rw [show decide (es.length ≤ 60) = false from yD om, zy]; rfl)
theorem hP {M : Nat → Prop} {w0 : World} (T : TypeId) (b : Nat) (ad v : Value) (bs : By) (n : Int) (ws : World) (hlie : liesAt Tryz.prog Tryz.prog.depth T (2 / Tryz.prog.cellsOf T) 0 160 1 = true) (had : ad = .pointer none ∨ ad = pq b) (hn : small n) (hbn : bs.length + 9 ≤ 1000000000) (U : St M w0 [bld T b (ad) v bs] ws) :
  Ret Tryz.prog 170 #[pq b, jv n] ws fun u w => u = .tuple #[] ∧ ∃ v2, St M w0 [bld T b (pq b) v2 (bs ++ putI n)] w := by
 refine aC func170 O ntmps170 (lb O) fun a Y => ?_
 replace Y := Y.p2 0 1 O
 skip
 refine aa fun _ G1 => wlm Y O fun a Y => aw Y U call60 O (ft n _ hn) fun a w1 Y U => nv Y <| yp O <| yo (ao O O) <| yo (ao O O) <| yq O <| yq O <| fun a Y => G1 ?_
 refine al <| nv (Y.p2 0 4 O) <| yp O <| yo (aT O) <| yo (ac (v := pq b) O kr) <| yp O <| fun a Y => bc (R := fun u e' => u = .tuple #[jv ((putI n).length : Int), .nilIface] ∧ ∃ v2, e' = bld T b (pq b) v2 (bs ++ (putI n))) 0 Y U O de call94 O (fun h => (gp T b _ _ _ _ _ hlie had (qN _) (by have := (bW n).2; omega) h).mono fun u w ⟨h1, v2, h2⟩ => ⟨_, ⟨h1, v2, O⟩, h2⟩) ?_
 clear Y U
 rintro a w2 _ _ ⟨rfl, v1, rfl⟩ Y U
 try dsimp only at U
 replace U := U.n1 O
 refine ab <| cS Y results170 ag ?_
 exact ⟨O, _, U.select [0] de⟩
theorem ml (key : By) (hd : Hd) (w0 : World) (hc : small hd.c) (hn : small hd.n) (hr : hd.root.length = 32) (hk : key.length ≤ 1000) (hk0 : (blk 0 (kOf.map wv) 258).ok w0) :
  Ret Tryz.prog 124 #[sv key, .agg #[jv hd.c, jv hd.n, sv hd.root, sv hd.tag]] w0 fun v w => v = sv (sealR sha key hd.c hd.n hd.root) ∧ Ext No w0 w := by
 have hp4 := bW 4
 have hpc := bW hd.c
 have hpn := bW hd.n
 have hxl : (([] : By) ++ putI 4 ++ putI hd.c ++ putI hd.n ++ hd.root).length ≤ 80 := by simp only [yx, yJ]; omega
 refine Am func124 O ntmps124 (lb O) fun a Y U => aa fun _ G1 => aV Y U O [jv hd.c, jv hd.n, sv hd.root, sv hd.tag] O fun a w1 Y U => wla Y O fun a Y => G1 <| aa fun _ G2 => aD Y U (zeroValue230 _) [.pointer none, .slice none 0 0] O fun a w2 Y U => G2 ?_
 replace U : St No w0 (own (.slice none 0 0) 5 1 [] :: [blk w1.hz [.pointer none, .slice none 0 0] 230, blk w0.hz [jv hd.c, jv hd.n, sv hd.root, sv hd.tag] 47]) w2 := U.nil_own
 replace U := U.s3 [1, 0, 2] de rfl
 replace U : St No w0 [bld 230 w1.hz (.pointer none) (.slice none 0 0) ([] : By), blk w0.hz [jv hd.c, jv hd.n, sv hd.root, sv hd.tag] 47] w2 := St.join [blk w1.hz [.pointer none, .slice none 0 0] 230, own (.slice none 0 0) 5 1 ([])] [blk w0.hz [jv hd.c, jv hd.n, sv hd.root, sv hd.tag] 47] U
 refine aa fun _ G3 => bc (R := fun u e' => u = .tuple #[] ∧ ∃ v2, e' = bld 230 w1.hz (pq w1.hz) v2 (([] : By) ++ putI 4)) 0 Y U O de call170 O (fun h => (hP 230 w1.hz _ _ _ 4 _ kr (.inl O) AJ BU h).mono fun u w ⟨h1, v2, h2⟩ => ⟨_, ⟨h1, v2, O⟩, h2⟩) ?_
 clear Y U
 rintro a w3 _ _ ⟨rfl, v1, rfl⟩ Y U
 try dsimp only at U
 replace U := U.n2 O
 refine G3 <| aa fun _ G4 => nv Y <| yo (ac (v := pq w0.hz) O kr) <| yo (ld U 1 O O (isAgg3 _) O) <| fun a Y => bc (R := fun u e' => u = .tuple #[] ∧ ∃ v2, e' = bld 230 w1.hz (pq w1.hz) v2 ((([] : By) ++ putI 4) ++ putI hd.c)) 0 Y U O de call170 O (fun h => (hP 230 w1.hz _ _ _ hd.c _ kr (.inr O) hc BU h).mono fun u w ⟨h1, v2, h2⟩ => ⟨_, ⟨h1, v2, O⟩, h2⟩) ?_
 clear Y U
 rintro a w4 _ _ ⟨rfl, v2, rfl⟩ Y U
 try dsimp only at U
 replace U := U.n2 O
 refine G4 <| aa fun _ G5 => nv Y <| yo (ac (v := po w0.hz 1) O kr) <| yo (ld U 1 O O (isAgg3 _) O) <| fun a Y => bc (R := fun u e' => u = .tuple #[] ∧ ∃ v2, e' = bld 230 w1.hz (pq w1.hz) v2 (((([] : By) ++ putI 4) ++ putI hd.c) ++ putI hd.n)) 0 Y U O de call170 O (fun h => (hP 230 w1.hz _ _ _ hd.n _ kr (.inr O) hn BU h).mono fun u w ⟨h1, v2, h2⟩ => ⟨_, ⟨h1, v2, O⟩, h2⟩) ?_
 clear Y U
 rintro a w5 _ _ ⟨rfl, v3, rfl⟩ Y U
 try dsimp only at U
 replace U := U.n2 O
 refine G5 <| aa fun _ G6 => nv (Y.p4 0 3 4 5 O) <| yo (ac (v := pq w1.hz) O kr) <| yo (ac (v := po w0.hz 2) O kr) <| yo (ld U 1 O O (isAgg9 _) O) <| fun a Y => bc (R := fun u e' => u = .tuple #[jv (hd.root.length : Int), .nilIface] ∧ ∃ v2, e' = bld 230 w1.hz (pq w1.hz) v2 ((((([] : By) ++ putI 4) ++ putI hd.c) ++ putI hd.n) ++ hd.root)) 0 Y U O de call94 O (fun h => (gp 230 w1.hz _ _ _ _ _ kr (.inr O) (nZ hr) BU h).mono fun u w ⟨h1, v2, h2⟩ => ⟨_, ⟨h1, v2, O⟩, h2⟩) ?_
 clear Y U
 rintro a w6 _ _ ⟨rfl, v4, rfl⟩ Y U
 try dsimp only at U
 replace U := U.n2 O
 refine G6 <| aa fun _ G7 => nv Y <| yp O <| yo (ac (v := pq w1.hz) O kr) <| fun a Y => bc (R := fun u e' => u = sv ((((([] : By) ++ putI 4) ++ putI hd.c) ++ putI hd.n) ++ hd.root) ∧ e' = blk w1.hz [pq w1.hz, v4] 230) 0 Y U O de call95 O (fun h => (hT 230 w1.hz _ _ _ (xc (nZ hr)) h).mono fun u w ⟨h1, h2⟩ => ⟨_, ⟨h1, O⟩, h2⟩) ?_
 clear Y U
 rintro a w7 _ _ ⟨rfl, rfl⟩ Y U
 try dsimp only at U
 replace U := U.n2 O
 refine aw Y U call139 O (j2 ((((([] : By) ++ putI 4) ++ putI hd.c) ++ putI hd.n) ++ hd.root) _ om (U.keepb hk0)) fun a w8 Y U => aw Y U call138 O (gz key (leafH sha ((((([] : By) ++ putI 4) ++ putI hd.c) ++ putI hd.n) ++ hd.root)) _ om (by first | omega | (rw [iR dH]; decide)) (U.keepb hk0)) fun a w9 Y U => wla Y O fun a Y => G7 ?_
 replace Y := Y.p1 4 O
 replace U := U.k1 1 O
 refine aq <| am Y results124 (ae O ag) ?_
 exact ⟨by simp only [retv]; simp [sealR, hdText, puts, nodeH], U.ext⟩
theorem mf (key : By) (n : Nat) (hd : Hd) (c : Int) (ev : Value) (es : List By) (w0 : World) (hev : SlAt w0 ev 1 (es.map fun s => [sv s])) (hk32 : key.length = 32) (hr : regOk c es = true) (hn : n ≤ es.length) (hhd : hdOf sha key c es n = hd) (hk0 : (blk 0 (kOf.map wv) 258).ok w0) :
  Ret Tryz.prog 73 #[sv key, .agg #[jv c, ev], jv (n : Int)] w0 fun v w => v = .tuple #[.agg #[jv hd.c, jv hd.n, sv hd.root, sv hd.tag], jv 0] ∧ Ext No w0 w := by
 obtain ⟨hrc0, hrc1, hrl, hel⟩ := eQ hr
 have hc : small c := by unfold small; omega
 have hn' : small (n : Int) := by unfold small; omega
 refine Ao func73 O ntmps73 (lb O) fun a Y U => aa fun _ G1 => aV Y U O [jv c, ev] O fun a w1 Y U => aD Y U (zeroValue47 _) [jv 0, jv 0, .string (⟨#[]⟩), .string (⟨#[]⟩)] O fun a w2 Y U => wla Y O fun a Y => G1 <| ah fun _ G2 => aa fun _ G3 => wlm Y O fun a Y => aw Y U call120 O (iJ key _) fun a w3 Y U => nv Y <| yo (bB O) <| yp O <| fun a Y => ?_
 rcases (Decidable.em ((key.length : Int) = 32)).symm with hb1 | hb1
 ·rw [yD hb1] at Y
  exfalso; omega
 rw [yy hb1] at Y
 refine wly Y (ap (U.g 1 O) O (isAgg75 _) (sizeOf75 _)) fun a Y => aF Y U call121 O (vV c ev es _ (U.arg hev)) fun a w4 Y U => nv Y <| yr (bB O) <| yo (ak O O) <| yp O <| fun a Y => ?_
 rcases yz (!(regOk c es)) with hb2 | hb2
 ·rw [hb2] at Y
  try simp only [qz] at hb2
  rw [hr] at hb2; cases hb2
 rw [hb2] at Y
 try simp only [qz] at hb2
 refine nv Y <| yr (ay O) <| yr (ac (v := po w0.hz 1) O kr) <| yr (ld U 1 O O (isAgg44 _) O) <| yr ((aO (sT := 44) (U.arg hev) O O (runUnderlying44 _)).asi (m' := (es.length : Int)) AO) <| fun a Y => aF Y U call122 O (jY (n : Int) 0 (es.length : Int) _) fun a w5 Y U => nv Y <| yr (bB O) <| yo (ak O O) <| fun a Y => G3 ?_
 replace Y := Y.p6 0 2 4 6 7 24 O
 refine bC Y O (fun hc3 => ?_) (fun hc3 => ?_)
 ·try simp only [qz] at hc3
  rw [show inB (n : Int) 0 (es.length : Int) = true from by simp [inB]; omega] at hc3; cases hc3
 try simp only [qz] at hc3
 refine ar <| G2 <| ah fun _ G4 => aH (aI fun w6 hxz => ?_)
 replace U := U.grow hxz
 refine aR (k := 0) 10 [8, 9] Y ?_
 replace Y := Y.p5 0 2 4 6 7 O
 refine bJ [9] (fun i => match i with | 9 => pm (fun b : Nat => pq b) (fun b => [blk b [jv 0, jv 0, .string (⟨#[]⟩), .string (⟨#[]⟩)] 47]) (fun _ => True) | _ => fun _ _ => False) 10 [[], [0], [], [], [3], [], [4, 5], [6], [1, 2, 7], []] [pq w0.hz, jv c, jv (n : Int), po w0.hz 1, ev, jv (n : Int), (cut ev 1 0 n (slCap ev)), sv (rootH sha (es.take n)), .agg #[jv c, jv (n : Int), sv (rootH sha (es.take n)), sv ([] : By)], undef] Y U ?_ ?_ ?_
 ·exact Au <| hqv (ac (v := pq w0.hz) rfl kr) <| hqw (fun U => ld U 1 rfl rfl (isAgg3 _) rfl) <| hqv (ay rfl) <| hqv (ac (v := po w0.hz 1) rfl kr) <| hqw (fun U => ld U 1 rfl rfl (isAgg44 _) rfl) <| hqv (ay rfl) <| hqw (fun U => dt (l := 0) (h := n) (U.arg hev) rfl rfl rfl underlying44 kr (.inl ⟨rfl, rfl⟩) (.inr rfl) (yQ _) AZ) <| As (fun _ _ U => br call123 rfl (np (cut ev 1 0 n (slCap ev)) (es.take n) _ ((U.arg hev).cut0 (h := n) A5) A6 (fun k hk => zl (hel _ (zB (bD hk))) de) (U.keepb hk0))) <| hqv (aW (v := .agg #[jv c, jv (n : Int), sv (rootH sha (es.take n)), sv ([] : By)]) rfl kr) <| As (fun h => absurd sm h) <| At
 ·intro i hi
  simp only [yE, yI, y9] at hi
  subst hi
  ·intro w U
   exact gG (zeroValue47 _) (cs := [jv 0, jv 0, .string (⟨#[]⟩), .string (⟨#[]⟩)]) O
 clear Y U
 rintro _ _ ⟨b4, rfl, -, rfl⟩ a w7 Y U
 replace Y := Y.p5 34 8 0 6 7 O
 replace U := U.n3 O
 refine ab <| aL (k := 10) 11 [10] ?_
 refine az 0 Y U [jv c, jv (n : Int), sv (rootH sha (es.take n)), sv ([] : By)] O (sizeOf47 _) fun a w8 Y U => ab <| aS <| G4 ?_
 replace U := U.k2 3 O
 refine aa fun _ G5 => nv (Y.p4 0 6 7 8 O) <| yp O <| yo (ap (U.g 0 O) O (isAgg47 _) (sizeOf47 _)) <| fun a Y => aw Y U call124 O (ml key (⟨c, (n : Int), rootH sha (es.take n), ([] : By)⟩ : Hd) _ Ay Ay (by first | assumption | exact fB dH _) om (U.keepb hk0)) fun a w9 Y U => wlv Y (ac (v := po b4 3) O kr) fun a Y => az 0 Y U [jv c, jv (n : Int), sv (rootH sha (es.take n)), sv (sealR sha key c (n : Int) (rootH sha (es.take n)))] O (sizeOf9 _) fun a w10 Y U => G5 <| aa fun _ G6 => wlv Y (ap (U.g 0 O) O (isAgg47 _) (sizeOf47 _)) fun a Y => az 1 Y U [jv c, jv (n : Int), sv (rootH sha (es.take n)), sv (sealR sha key c (n : Int) (rootH sha (es.take n)))] O (sizeOf47 _) fun a w11 Y U => wla Y O fun a Y => G6 ?_
 replace Y := Y.p2 6 7 O
 replace U := U.k1 2 O
 refine aq <| am Y results73 (ai O (aY (U.g 0 O) (isAgg47 _) (sizeOf47 _)) (ae O ag)) ?_
 subst hhd
 exact ⟨O, U.ext⟩
theorem va (key : By) (hd : Hd) (w0 : World) (hk0 : (blk 0 (kOf.map wv) 258).ok w0) :
  Ret Tryz.prog 113 #[sv key, .agg #[jv hd.c, jv hd.n, sv hd.root, sv hd.tag]] w0 fun v w => v = .bool (genHd sha key hd) ∧ Ext No w0 w := by
 refine Am func113 O ntmps113 (lb O) fun a Y U => aa fun _ G1 => aV Y U O [jv hd.c, jv hd.n, sv hd.root, sv hd.tag] O fun a w1 Y U => wla Y O fun a Y => G1 <| aa fun _ G2 => nv Y <| yo (ac (v := pq w0.hz) O kr) <| yo (ld U 0 O O (isAgg3 _) O) <| fun a Y => aw Y U call122 O (jY hd.c 0 7 _) fun a w2 Y U => wlm Y O fun a Y => ?_
 rcases yz (inB hd.c 0 7) with hb1 | hb1
 ·rw [hb1] at Y
  have hcb := qO hb1
  have hc : small hd.c := by unfold small; omega
  refine nv Y <| yr (ac (v := po w0.hz 1) O kr) <| yr (ld U 0 O O (isAgg3 _) O) <| fun a Y => aF Y U call122 O (jY hd.n 0 60 _) fun a w3 Y U => nv Y <| yo (ax O O) <| yp O <| fun a Y => ?_
  rcases yz (inB hd.n 0 60) with hb2 | hb2
  ·rw [hb2] at Y
   have hnb := qO hb2
   have hn : small hd.n := by unfold small; omega
   refine nv Y <| yr (ac (v := po w0.hz 2) O kr) <| yr (ld U 0 O O (isAgg9 _) O) <| yr (bd O O (runUnderlying9 _)) <| yr (v_eq O O) <| yo (ax O O) <| yq O <| fun a Y => G2 ?_
   replace Y := Y.p4 0 3 4 5 O
   refine ah fun _ G3 => aH (aI fun w4 hxz => ?_)
   replace U := U.grow hxz
   refine aL (k := 0) 6 [5] ?_
   refine wlm Y O fun a Y => aw Y U call120 O (iJ key _) fun a w5 Y U => wlm Y O fun a Y => ?_
   rcases Decidable.em ((key.length : Int) = 32) with hb3 | hb3
   ·rw [yy hb3] at Y
    refine nv Y <| yr (ay O) <| yo (ax O O) <| yp O <| fun a Y => ab ?_
    rcases Decidable.em ((hd.root.length : Int) = 32) with hb4 | hb4
    ·rw [yy hb4] at Y
     have hr32 : hd.root.length = 32 := by omega
     refine aR (k := 6) 11 [7, 10] Y ?_
     refine bL 5 (Y.p10 0 3 4 5 20 21 22 23 24 25 O) U <| pl_v (ac (v := po w0.hz 3) O kr) <| pl_w (fun U => ld U 0 O O (isAgg9 _) O) <| pl_m O <| pl_w (fun U => ap (U.g 0 O) O (isAgg47 _) (sizeOf47 _)) <| pl_r (fun U => br call124 O (ml key hd _ Ay Ay (by first | assumption | exact fB dH _) om (U.keepb hk0))) fun a w6 Y U => ?_
     replace Y := Y.p3 25 27 30 O
     refine ab <| aL (k := 11) 14 [13] ?_
     refine nv Y <| yr (xD O O) <| yo (ax O O) <| yq O <| fun a Y => ab <| aS <| G3 <| aq <| am Y results113 (ae O ag) ?_
     refine ⟨?_, U.ext⟩
     simp only [retv]
     refine yZ Value.bool ?_
     unfold genHd
     rw [hb1, hb2, show decide (hd.root.length = 32) = true from yy om, show decide (key.length = 32) = true from yy om]; rfl
    rw [yD hb4] at Y
    refine dw (k := 6) 11 [7, 10] (Y.p10 0 3 4 5 20 21 22 23 24 25 O) fun a Y => ?_
    replace Y := Y.p15 26 27 28 29 30 0 3 4 5 20 21 22 23 24 25 O
    refine aL (k := 11) 14 [13] ?_
    refine nv Y <| yt <| yo (ak O O) <| yq O <| fun a Y => ab <| aS <| G3 ?_
    replace Y := Y.p1 4 O
    replace U := U.k0 0 O
    refine aq <| am Y results113 (ae O ag) ?_
    refine ⟨?_, U.ext⟩
    simp only [retv]
    refine yZ Value.bool ?_
    unfold genHd
    first | (rw [hb4]; simp; done) | (rw [hb3]; simp; done) | (rw [hb2]; simp; done) | (rw [hb1]; simp; done) | (rw [show decide (hd.root.length = 32) = false from yD om]; simp; done) | (rw [show decide (key.length = 32) = false from yD om]; rfl)
   rw [yD hb3] at Y
   refine nv Y <| yt <| yo (ak O O) <| yp O <| fun a Y => ab <| dw (k := 6) 11 [7, 10] (Y.p10 0 3 4 5 20 21 22 23 24 25 O) fun a Y => ?_
   replace Y := Y.p15 26 27 28 29 30 0 3 4 5 20 21 22 23 24 25 O
   refine aL (k := 11) 14 [13] ?_
   refine nv Y <| yt <| yo (ak O O) <| yq O <| fun a Y => ab <| aS <| G3 ?_
   replace Y := Y.p1 4 O
   replace U := U.k0 0 O
   refine aq <| am Y results113 (ae O ag) ?_
   refine ⟨?_, U.ext⟩
   simp only [retv]
   refine yZ Value.bool ?_
   unfold genHd
   first | (rw [hb3]; simp; done) | (rw [hb2]; simp; done) | (rw [hb1]; simp; done) | (rw [show decide (hd.root.length = 32) = false from yD om]; simp; done) | (rw [show decide (key.length = 32) = false from yD om]; rfl)
  rw [hb2] at Y
  refine nv Y <| yt <| yt <| yt <| yt <| yo (ak O O) <| yq O <| fun a Y => G2 ?_
  replace Y := Y.p4 0 3 4 5 O
  refine ah fun _ G4 => aH (aI fun w7 hxz => ?_)
  replace U := U.grow hxz
  refine aL (k := 0) 6 [5] ?_
  refine wlm Y O fun a Y => aw Y U call120 O (iJ key _) fun a w8 Y U => wlm Y O fun a Y => ?_
  rcases Decidable.em ((key.length : Int) = 32) with hb5 | hb5
  ·rw [yy hb5] at Y
   refine nv Y <| yr (ay O) <| yo (ax O O) <| yp O <| fun a Y => ab <| dw (k := 6) 11 [7, 10] (Y.p10 0 3 4 5 20 21 22 23 24 25 O) fun a Y => ?_
   replace Y := Y.p15 26 27 28 29 30 0 3 4 5 20 21 22 23 24 25 O
   refine aL (k := 11) 14 [13] ?_
   refine nv Y <| yt <| yo (ak O O) <| yq O <| fun a Y => ab <| aS <| G4 ?_
   replace Y := Y.p1 4 O
   replace U := U.k0 0 O
   refine aq <| am Y results113 (ae O ag) ?_
   refine ⟨?_, U.ext⟩
   simp only [retv]
   refine yZ Value.bool ?_
   unfold genHd
   first | (rw [hb5]; simp; done) | (rw [hb2]; simp; done) | (rw [hb1]; simp; done) | (rw [show decide (hd.root.length = 32) = false from yD om]; simp; done) | (rw [show decide (key.length = 32) = false from yD om]; rfl)
  rw [yD hb5] at Y
  refine nv Y <| yt <| yo (ak O O) <| yp O <| fun a Y => ab <| dw (k := 6) 11 [7, 10] (Y.p10 0 3 4 5 20 21 22 23 24 25 O) fun a Y => ?_
  replace Y := Y.p15 26 27 28 29 30 0 3 4 5 20 21 22 23 24 25 O
  refine aL (k := 11) 14 [13] ?_
  refine nv Y <| yt <| yo (ak O O) <| yq O <| fun a Y => ab <| aS <| G4 ?_
  replace Y := Y.p1 4 O
  replace U := U.k0 0 O
  refine aq <| am Y results113 (ae O ag) ?_
  refine ⟨?_, U.ext⟩
  simp only [retv]
  refine yZ Value.bool ?_
  unfold genHd
  first | (rw [hb5]; simp; done) | (rw [hb2]; simp; done) | (rw [hb1]; simp; done) | (rw [show decide (hd.root.length = 32) = false from yD om]; simp; done) | (rw [show decide (key.length = 32) = false from yD om]; rfl)
 rw [hb1] at Y
 refine nv Y <| yt <| yt <| yt <| yo (ak O O) <| yp O <| yt <| yt <| yt <| yt <| yo (ak O O) <| yq O <| fun a Y => G2 ?_
 replace Y := Y.p4 0 3 4 5 O
 refine ah fun _ G5 => aH (aI fun w9 hxz => ?_)
 replace U := U.grow hxz
 refine aL (k := 0) 6 [5] ?_
 refine wlm Y O fun a Y => aw Y U call120 O (iJ key _) fun a w10 Y U => wlm Y O fun a Y => ?_
 rcases Decidable.em ((key.length : Int) = 32) with hb6 | hb6
 ·rw [yy hb6] at Y
  refine nv Y <| yr (ay O) <| yo (ax O O) <| yp O <| fun a Y => ab <| dw (k := 6) 11 [7, 10] (Y.p10 0 3 4 5 20 21 22 23 24 25 O) fun a Y => ?_
  replace Y := Y.p15 26 27 28 29 30 0 3 4 5 20 21 22 23 24 25 O
  refine aL (k := 11) 14 [13] ?_
  refine nv Y <| yt <| yo (ak O O) <| yq O <| fun a Y => ab <| aS <| G5 ?_
  replace Y := Y.p1 4 O
  replace U := U.k0 0 O
  refine aq <| am Y results113 (ae O ag) ?_
  refine ⟨?_, U.ext⟩
  simp only [retv]
  refine yZ Value.bool ?_
  unfold genHd
  first | (rw [hb6]; simp; done) | (rw [hb1]; simp; done) | (rw [show decide (hd.root.length = 32) = false from yD om]; simp; done) | (rw [show decide (key.length = 32) = false from yD om]; rfl)
 rw [yD hb6] at Y
 refine nv Y <| yt <| yo (ak O O) <| yp O <| fun a Y => ab <| dw (k := 6) 11 [7, 10] (Y.p10 0 3 4 5 20 21 22 23 24 25 O) fun a Y => ?_
 replace Y := Y.p15 26 27 28 29 30 0 3 4 5 20 21 22 23 24 25 O
 refine aL (k := 11) 14 [13] ?_
 refine nv Y <| yt <| yo (ak O O) <| yq O <| fun a Y => ab <| aS <| G5 ?_
 replace Y := Y.p1 4 O
 replace U := U.k0 0 O
 refine aq <| am Y results113 (ae O ag) ?_
 refine ⟨?_, U.ext⟩
 simp only [retv]
 refine yZ Value.bool ?_
 unfold genHd
 first | (rw [hb6]; simp; done) | (rw [hb1]; simp; done) | (rw [show decide (hd.root.length = 32) = false from yD om]; simp; done) | (rw [show decide (key.length = 32) = false from yD om]; rfl)
theorem qU {n : Int} : ∀ {l : List Int} {p : Int} {k : Nat}, ascI n p l = true → k < l.length → p < l.getD k 0 ∧ l.getD k 0 < n ∧ (0 < k → l.getD (k - 1) 0 < l.getD k 0)
 | [], p, k, h, hk => absurd hk (Nat.not_lt_zero _)
 | i :: l, p, k, h, hk => by
  rw [ascI, yw, yw, yB, yB] at h
  cases k with
  | zero => exact ⟨h.1.1, h.1.2, fun h => absurd h (zW 0)⟩
  | succ k =>
   obtain ⟨h1, h2, h3⟩ := qU (k := k) h.2 BW
   refine ⟨by show p < l.getD k 0; omega, h2, fun _ => ?_⟩
   show (i :: l).getD k 0 < l.getD k 0
   cases k with
   | zero => exact h1
   | succ k => exact h3 (Nat.succ_pos _)
theorem lQ {es : List By} {n k i : Nat} {ix : List Int} {L : List Itw} {pv : Value} (hL : itsM L = showIs sha es n (ix.take k)) (hk : k < ix.length) (hi : ix.getD k 0 = (i : Int)) :
  itsM (L ++ [⟨⟨(i : Int), es.getD i [], proofH sha (es.take n) i⟩, pv⟩]) = showIs sha es n (ix.take (k + 1)) := by
 rw [cF 0 hk, showIs, zu, ← showIs, ← hL, itsM, zu, hi]
 simp only [itsM, zo, zZ, itmAt, zj]
theorem wc {es : List By} {n : Nat} {ix : List Int} {L : List Itw} (hL : itsM L = showIs sha es n ix) (hn : n ≤ 60) : ∀ x ∈ L, x.m.pf.length ≤ 6 := by
 intro x hx
 have hm : x.m ∈ showIs sha es n ix := by rw [← hL]; exact zf.2 ⟨x, hx, rfl⟩
 obtain ⟨i, _, he⟩ := dS hm
 rw [he]
 exact sD _ (es.take n) i.toNat 6 O A6
def prevX (L : List Itw) : Nat → Int
 | 0 => -1
 | k + 1 => (L.getD k Itw.z).m.ix
theorem sI {L : List Itw} {k : Nat} (h : 0 < k) : prevX L k = (L.getD (k - 1) Itw.z).m.ix := by
 cases k with
 | zero => exact absurd h (zW 0)
 | succ k => rfl
section
variable {L : List Itw} {k : Nat} {root : By} {n p : Int} {x : Itw}
theorem fm (hk : k < L.length) (hx : L.getD k Itw.z = x) : chkIs sha root n p ((itsM L).drop k) = (decide (p < x.m.ix) && decide (x.m.e.length ≤ 1000) && cH sha root n x.m.ix x.m.e x.m.pf && chkIs sha root n x.m.ix ((itsM L).drop (k + 1))) := by
 rw [rY hk, hx, chkIs]
theorem oX (hk : k < L.length) (hx : L.getD k Itw.z = x) (h1 : p < x.m.ix) (h2 : x.m.e.length ≤ 1000) (h3 : cH sha root n x.m.ix x.m.e x.m.pf = true) : chkIs sha root n p ((itsM L).drop k) = chkIs sha root n (prevX L (k + 1)) ((itsM L).drop (k + 1)) := by
 rw [fm hk hx, yy h1, yy h2, h3, prevX, hx]; rfl
end
theorem jy (key : By) (n : Nat) (hd : Hd) (lv : Value) (ix : List Int) (c : Int) (ev : Value) (es : List By) (w0 : World) (hev : SlAt w0 ev 1 (es.map fun s => [sv s])) (hlv : SlAt w0 lv 1 ((ix).map fun n => [jv n])) (hk32 : key.length = 32) (hr : regOk c es = true) (hn : n ≤ es.length) (hix : ascI (n : Int) (-1) ix = true) (hil : ix.length ≤ 1000) (hhd : hdOf sha key c es n = hd) (hk0 : (blk 0 (kOf.map wv) 258).ok w0) :
  Ret Tryz.prog 26 #[sv key, .agg #[jv c, ev], jv (n : Int), lv] w0 (MemR w0 (fun x : Value × List Itw => .tuple #[.agg #[jv hd.c, jv hd.n, sv hd.root, sv hd.tag, x.1], jv 0]) (fun x => [itsE x.1 x.2]) (fun x => itsM x.2 = showIs sha es n ix)) := by
 obtain ⟨hrc0, hrc1, hrl, hel⟩ := eQ hr
 have hxb := hlv.2.1
 simp only [yu, big] at hxb
 refine Ap func26 O ntmps26 (lb O) fun a Y U => aa fun _ G1 => aV Y U O [jv c, ev] O fun a w1 Y U => aD Y U (zeroValue50 _) [jv 0, jv 0, .string (⟨#[]⟩), .string (⟨#[]⟩), .slice none 0 0] O fun a w2 Y U => wla Y O fun a Y => G1 <| aa fun _ G2 => nv Y <| yp O <| yo (ap (U.g 1 O) O (isAgg75 _) (sizeOf75 _)) <| yp O <| fun a Y => aw Y U call73 O (mf key n hd c ev es _ (U.arg hev) hk32 hr hn hhd (U.keepb hk0)) fun a w3 Y U => nv Y <| yp O <| yo (ao O O) <| yo (ao O O) <| fun a Y => aD Y U (zeroValue47 _) [jv 0, jv 0, .string (⟨#[]⟩), .string (⟨#[]⟩)] O fun a w4 Y U => az 0 Y U [jv hd.c, jv hd.n, sv hd.root, sv hd.tag] O (sizeOf47 _) fun a w5 Y U => wla Y O fun a Y => G2 ?_
 refine ah fun _ G3 => aa fun _ G4 => nv (Y.p7 2 3 5 8 9 10 11 O) <| yp O <| yo ((v_ne O O).asb (b' := false) O) <| fun a Y => G4 <| aJ Y O ?_
 refine ar <| G3 <| aa fun _ G5 => nv Y <| yo (ap (U.g 0 O) O (isAgg47 _) (sizeOf47 _)) <| yo (aW (v := .agg #[jv hd.c, jv hd.n, sv hd.root, sv hd.tag, .slice none 0 0]) O kr) <| fun a Y => aD Y U (zeroValue50 _) [jv 0, jv 0, .string (⟨#[]⟩), .string (⟨#[]⟩), .slice none 0 0] O fun a w6 Y U => az 0 Y U [jv hd.c, jv hd.n, sv hd.root, sv hd.tag, .slice none 0 0] O (sizeOf50 _) fun a w7 Y U => G5 ?_
 replace U := U.k3 13 O
 refine ah fun _ G6 => aa fun _ G7 => nv (Y.p6 2 3 5 8 9 12 O) <| yp O <| yo ((aO (sT := 24) (U.arg hlv) O O (runUnderlying24 _)).asi (m' := (ix.length : Int)) AO) <| yp O <| fun a Y => G7 <| au ?_
 replace U : St No w0 [own (.slice none 0 0) 110 3 (([]).map Itw.cells), blk w5.hz [jv hd.c, jv hd.n, sv hd.root, sv hd.tag, .slice none 0 0] 50, blk w1.hz [jv 0, jv 0, .string (⟨#[]⟩), .string (⟨#[]⟩), .slice none 0 0] 50, blk w0.hz [jv c, ev] 75] w7 := U.nil_own
 replace U : St No w0 [pfsE ([]), own (.slice none 0 0) 110 3 (([]).map Itw.cells), blk w5.hz [jv hd.c, jv hd.n, sv hd.root, sv hd.tag, .slice none 0 0] 50, blk w1.hz [jv 0, jv 0, .string (⟨#[]⟩), .string (⟨#[]⟩), .slice none 0 0] 50, blk w0.hz [jv c, ev] 75] w7 := wk U
 refine aZ (fun m a w => ∃ (k : Nat) (vi : Value) (L : List Itw), m = ix.length - k ∧ (k ≤ ix.length) ∧ (itsM L = showIs sha es n (ix.take k)) ∧ Fr 77 [(2, jv (n : Int)), (3, lv), (5, pq w0.hz), (8, pq w1.hz), (12, pq w5.hz), (30, lv), (31, jv (ix.length : Int)), (32, jv (k : Int))] [] a ∧ St No w0 [own vi 110 3 ((L).map Itw.cells), pfsE L, blk w5.hz [jv hd.c, jv hd.n, sv hd.root, sv hd.tag, vi] 50, blk w1.hz [jv 0, jv 0, .string (⟨#[]⟩), .string (⟨#[]⟩), .slice none 0 0] 50, blk w0.hz [jv c, ev] 75] w) _ ⟨0, .slice none 0 0, [], O, yQ _, O, Y.pick [2, 3, 5, 8, 12, 30, 31, 32], U.select [1, 0, 2, 3, 4] de⟩ ?_
 rintro _ a w8 ⟨k, vi, L, rfl, hk, hL, Y, U⟩
 refine aa fun _ G8 => wlv Y (v_lt O O) fun a Y => G8 <| ah fun _ G9 => aA Y O (fun hc1 => ?_) (fun hc1 => ?_)
 ·have hkx : k < ix.length := by omega
  refine ar <| G9 <| ah fun _ G10 => au ?_
  obtain ⟨hia, hib, hic⟩ := qU hix (k := k) hkx
  obtain ⟨iq, hki⟩ : ∃ iq : Nat, ix.getD k 0 = (iq : Int) := ⟨(ix.getD k 0).toNat, by omega⟩
  rw [hki] at hia hib hic
  refine aa fun _ G11 => nv Y <| yp O <| yo ((aj (i := (k : Int)) (sT := 24) (U.arg hlv) O O (runUnderlying24 _) (sizeOf3 _) om Aw).as (v' := slAddr lv (k * 1)) O) <| yo (aB (u := jv (iq : Int)) (i := k) (j := 0) (U.arg hlv) Aw O (isAgg3 _) (by rw [bf (0 : Int), hki]; rfl)) <| yq O <| yq O <| fun a Y => G11 <| aa fun _ G12 => nv Y <| yo (ac (v := po w0.hz 1) O kr) <| yo (ld U 4 O O (isAgg44 _) O) <| yp O <| yo (dt (l := 0) (h := n) (U.arg hev) O O O underlying44 kr (.inl ⟨O, O⟩) (.inr O) (yQ _) AZ) <| yp O <| fun a Y => bu Y U call75 O (tz (cut ev 1 0 n (slCap ev)) (es.take n) iq _ ((U.arg hev).cut0 (h := n) A5) A6 A6 (fun s h => zl (hel _ (zB h)) de) (U.keepb hk0)) fun a w9 x3 hp Y U => ?_
  revert x3 hp Y U; rintro pv2 hp Y U
  clear hp
  replace U := U.n6 O
  refine nv Y <| yp O <| yo (ao O O) <| yo (ao O O) <| yq O <| yq O <| fun a Y => G12 ?_
  refine ah fun _ G13 => aa fun _ G14 => nv (Y.p12 2 3 5 8 12 30 31 32 13 14 15 16 O) <| yp O <| yo ((v_ne O O).asb (b' := false) O) <| yp O <| yr (ay O) <| yr (v_gt O O) <| yr (ay O) <| fun a Y => ?_
  rcases Decidable.em (0 < (k : Int)) with hb4 | hb4
  ·rw [yy hb4] at Y
   have hic := hic om
   refine nv Y <| yr (ay O) <| yr (ay O) <| yr (ay O) <| yr (bK O O ⟨om, om⟩) <| yr ((aj (i := (k : Int) - 1) (sT := 24) (U.arg hlv) O O (runUnderlying24 _) (sizeOf3 _) om Aw).as (v' := slAddr lv ((k - 1) * 1)) Bh) <| yr (aB (u := jv (ix.getD (k - 1) 0)) (i := (k - 1)) (j := 0) (U.arg hlv) Aw O (isAgg3 _) AM) <| yr ((v_le O O).asb (b' := false) Bs) <| yr (ax O O) <| yo (ak O O) <| fun a Y => G14 ?_
   replace Y := Y.p11 2 3 5 8 12 30 31 32 14 15 60 O
   refine aJ Y O ?_
   refine ar <| G13 <| aH (aI fun w10 hxz => ?_)
   replace U := U.grow hxz
   refine aR (k := 0) 11 [1, 10] Y ?_
   replace Y := Y.p11 2 3 5 8 12 30 31 32 14 15 60 O
   refine bJ [10] (fun i => match i with | 10 => pm (fun b : Nat => .slice (some ⟨b, 0, none⟩) 1 1) (fun b => [own (.slice (some ⟨b, 0, none⟩) 1 1) 110 3 [[jv (iq : Int), sv ((es).getD iq []), pv2]]]) (fun _ => True) | _ => fun _ _ => False) 11 [[], [0], [], [], [3], [], [4, 5], [6], [], [2, 7, 8], [9]] [po w5.hz 4, vi, jv (iq : Int), po w0.hz 1, ev, jv (iq : Int), slAddr ev (iq * 1), sv ((es).getD iq []), pv2, .agg #[jv (iq : Int), sv ((es).getD iq []), pv2], undef] Y U ?_ ?_ ?_
   ·exact Au <| hqv (ac (v := po w5.hz 4) rfl kr) <| hqw (fun U => ld U 3 rfl rfl (isAgg48 _) rfl) <| hqv (ay rfl) <| hqv (ac (v := po w0.hz 1) rfl kr) <| hqw (fun U => ld U 5 rfl rfl (isAgg44 _) rfl) <| hqv (ay rfl) <| hqw (fun U => (aj (i := (iq : Int)) (sT := 44) (U.arg hev) rfl rfl (runUnderlying44 _) (sizeOf9 _) om Aw).as (v' := slAddr ev (iq * 1)) BE) <| hqw (fun U => aB (u := sv ((es).getD iq [])) (i := iq) (j := 0) (U.arg hev) Aw rfl (isAgg9 _) B7) <| hqv (ay rfl) <| hqw (fun U => aW (v := .agg #[jv (iq : Int), sv ((es).getD iq []), pv2]) rfl B9) <| As (fun h => absurd sm h) <| At
   ·intro i hi
    simp only [yE, yI, y9] at hi
    subst hi
    ·intro w U
     exact bG (E := 110) (sz := 3) O [[jv (iq : Int), sv ((es).getD iq []), pv2]] (fun _ => by obtain ⟨_, _, _, e0_⟩ := cO (U.ow 0 rfl); rw [e0_]; kernel_rfl) sm O de
   clear Y U
   rintro _ _ ⟨b5, rfl, -, rfl⟩ a w11 Y U
   replace Y := Y.p10 63 72 2 3 5 8 12 30 31 32 O
   replace U := U.n7 O
   refine ab <| aL (k := 11) 14 [13] ?_
   refine ba (i := 2) (sT := 48) (inf := Tryz.t110) (z := .agg #[jv 0, .string (⟨#[]⟩), .slice none 0 0]) (b := 0) (off := 0) (m := 0) (c := 0) O O O (U.ow 0 O) sm underlying48 O O O O de BH AN AN de Y U fun a w12 s6 Y U _ => ?_
   replace U : St No w0 [own (.slice (some ⟨b5, 0, none⟩) 1 1) 110 3 ([[jv (iq : Int), sv ((es).getD iq []), pv2]]), own pv2 9 1 ((proofH sha (es.take n) iq).map fun s => [sv s]), own s6 110 3 (((L ++ [(⟨⟨(iq : Int), es.getD iq [], proofH sha (es.take n) iq⟩, pv2⟩ : Itw)])).map Itw.cells), pfsE L, blk w5.hz [jv hd.c, jv hd.n, sv hd.root, sv hd.tag, vi] 50, blk w1.hz [jv 0, jv 0, .string (⟨#[]⟩), .string (⟨#[]⟩), .slice none 0 0] 50, blk w0.hz [jv c, ev] 75] w12 := by rw [show (((L ++ [(⟨⟨(iq : Int), es.getD iq [], proofH sha (es.take n) iq⟩, pv2⟩ : Itw)])).map Itw.cells) = ((L).map Itw.cells) ++ ([[jv (iq : Int), sv ((es).getD iq []), pv2]]) from by rw [zu]; rfl]; exact U
   refine wlv Y (ac (v := po w5.hz 4) O kr) fun a Y => ce 4 Y U (U.ow 2 O) O O O (sizeOf48 _) (lb O) (ds := [jv hd.c, jv hd.n, sv hd.root, sv hd.tag, s6]) O O fun a w13 Y U => ab <| aS <| G10 ?_
   replace U := U.k6 126 O
   refine al <| nv (Y.p8 2 3 5 8 12 30 31 32 O) <| yo (aM O O ⟨om, om⟩) <| yp O <| fun a Y => ab ?_
   replace U := U.s6 [0, 2, 1, 3, 4, 5] de rfl
   replace U : St No w0 [pfsE (L ++ [(⟨⟨(iq : Int), es.getD iq [], proofH sha (es.take n) iq⟩, pv2⟩ : Itw)]), own s6 110 3 (((L ++ [(⟨⟨(iq : Int), es.getD iq [], proofH sha (es.take n) iq⟩, pv2⟩ : Itw)])).map Itw.cells), blk w5.hz [jv hd.c, jv hd.n, sv hd.root, sv hd.tag, s6] 50, blk w1.hz [jv 0, jv 0, .string (⟨#[]⟩), .string (⟨#[]⟩), .slice none 0 0] 50, blk w0.hz [jv c, ev] 75] w13 := oZ ⟨⟨(iq : Int), es.getD iq [], proofH sha (es.take n) iq⟩, pv2⟩ U
   refine ⟨_, ?_, k + 1, s6, (L ++ [(⟨⟨(iq : Int), es.getD iq [], proofH sha (es.take n) iq⟩, pv2⟩ : Itw)]), O, om, (lQ hL hkx hki), Y.pick [2, 3, 5, 8, 12, 30, 31, 32], U.select [1, 0, 2, 3, 4] de⟩
   omega
  rw [yD hb4] at Y
  refine nv Y <| yt <| yt <| yt <| yt <| yt <| yt <| yt <| yr (ak O O) <| yo (ak O O) <| fun a Y => G14 ?_
  replace Y := Y.p11 2 3 5 8 12 30 31 32 14 15 60 O
  refine aJ Y O ?_
  refine ar <| G13 <| aH (aI fun w14 hxz => ?_)
  replace U := U.grow hxz
  refine aR (k := 0) 11 [1, 10] Y ?_
  replace Y := Y.p11 2 3 5 8 12 30 31 32 14 15 60 O
  refine bJ [10] (fun i => match i with | 10 => pm (fun b : Nat => .slice (some ⟨b, 0, none⟩) 1 1) (fun b => [own (.slice (some ⟨b, 0, none⟩) 1 1) 110 3 [[jv (iq : Int), sv ((es).getD iq []), pv2]]]) (fun _ => True) | _ => fun _ _ => False) 11 [[], [0], [], [], [3], [], [4, 5], [6], [], [2, 7, 8], [9]] [po w5.hz 4, vi, jv (iq : Int), po w0.hz 1, ev, jv (iq : Int), slAddr ev (iq * 1), sv ((es).getD iq []), pv2, .agg #[jv (iq : Int), sv ((es).getD iq []), pv2], undef] Y U ?_ ?_ ?_
  ·exact Au <| hqv (ac (v := po w5.hz 4) rfl kr) <| hqw (fun U => ld U 3 rfl rfl (isAgg48 _) rfl) <| hqv (ay rfl) <| hqv (ac (v := po w0.hz 1) rfl kr) <| hqw (fun U => ld U 5 rfl rfl (isAgg44 _) rfl) <| hqv (ay rfl) <| hqw (fun U => (aj (i := (iq : Int)) (sT := 44) (U.arg hev) rfl rfl (runUnderlying44 _) (sizeOf9 _) om Aw).as (v' := slAddr ev (iq * 1)) BE) <| hqw (fun U => aB (u := sv ((es).getD iq [])) (i := iq) (j := 0) (U.arg hev) Aw rfl (isAgg9 _) B7) <| hqv (ay rfl) <| hqw (fun U => aW (v := .agg #[jv (iq : Int), sv ((es).getD iq []), pv2]) rfl B9) <| As (fun h => absurd sm h) <| At
  ·intro i hi
   simp only [yE, yI, y9] at hi
   subst hi
   ·intro w U
    exact bG (E := 110) (sz := 3) O [[jv (iq : Int), sv ((es).getD iq []), pv2]] (fun _ => by obtain ⟨_, _, _, e0_⟩ := cO (U.ow 0 rfl); rw [e0_]; kernel_rfl) sm O de
  clear Y U
  rintro _ _ ⟨b7, rfl, -, rfl⟩ a w15 Y U
  replace Y := Y.p10 63 72 2 3 5 8 12 30 31 32 O
  replace U := U.n7 O
  refine ab <| aL (k := 11) 14 [13] ?_
  refine ba (i := 2) (sT := 48) (inf := Tryz.t110) (z := .agg #[jv 0, .string (⟨#[]⟩), .slice none 0 0]) (b := 0) (off := 0) (m := 0) (c := 0) O O O (U.ow 0 O) sm underlying48 O O O O de BH AN AN de Y U fun a w16 s8 Y U _ => ?_
  replace U : St No w0 [own (.slice (some ⟨b7, 0, none⟩) 1 1) 110 3 ([[jv (iq : Int), sv ((es).getD iq []), pv2]]), own pv2 9 1 ((proofH sha (es.take n) iq).map fun s => [sv s]), own s8 110 3 (((L ++ [(⟨⟨(iq : Int), es.getD iq [], proofH sha (es.take n) iq⟩, pv2⟩ : Itw)])).map Itw.cells), pfsE L, blk w5.hz [jv hd.c, jv hd.n, sv hd.root, sv hd.tag, vi] 50, blk w1.hz [jv 0, jv 0, .string (⟨#[]⟩), .string (⟨#[]⟩), .slice none 0 0] 50, blk w0.hz [jv c, ev] 75] w16 := by rw [show (((L ++ [(⟨⟨(iq : Int), es.getD iq [], proofH sha (es.take n) iq⟩, pv2⟩ : Itw)])).map Itw.cells) = ((L).map Itw.cells) ++ ([[jv (iq : Int), sv ((es).getD iq []), pv2]]) from by rw [zu]; rfl]; exact U
  refine wlv Y (ac (v := po w5.hz 4) O kr) fun a Y => ce 4 Y U (U.ow 2 O) O O O (sizeOf48 _) (lb O) (ds := [jv hd.c, jv hd.n, sv hd.root, sv hd.tag, s8]) O O fun a w17 Y U => ab <| aS <| G10 ?_
  replace U := U.k6 126 O
  refine al <| nv (Y.p8 2 3 5 8 12 30 31 32 O) <| yo (aM O O ⟨om, om⟩) <| yp O <| fun a Y => ab ?_
  replace U := U.s6 [0, 2, 1, 3, 4, 5] de rfl
  replace U : St No w0 [pfsE (L ++ [(⟨⟨(iq : Int), es.getD iq [], proofH sha (es.take n) iq⟩, pv2⟩ : Itw)]), own s8 110 3 (((L ++ [(⟨⟨(iq : Int), es.getD iq [], proofH sha (es.take n) iq⟩, pv2⟩ : Itw)])).map Itw.cells), blk w5.hz [jv hd.c, jv hd.n, sv hd.root, sv hd.tag, s8] 50, blk w1.hz [jv 0, jv 0, .string (⟨#[]⟩), .string (⟨#[]⟩), .slice none 0 0] 50, blk w0.hz [jv c, ev] 75] w17 := oZ ⟨⟨(iq : Int), es.getD iq [], proofH sha (es.take n) iq⟩, pv2⟩ U
  refine ⟨_, ?_, k + 1, s8, (L ++ [(⟨⟨(iq : Int), es.getD iq [], proofH sha (es.take n) iq⟩, pv2⟩ : Itw)]), O, om, (lQ hL hkx hki), Y.pick [2, 3, 5, 8, 12, 30, 31, 32], U.select [1, 0, 2, 3, 4] de⟩
  omega
 obtain rfl : k = ix.length := by omega
 rw [List.take_length] at hL
 refine aP <| G6 <| aa fun _ G15 => wlv Y (ap (U.g 2 O) O (isAgg50 _) (sizeOf50 _)) fun a Y => bp (us := [jv hd.c, jv hd.n, sv hd.root, sv hd.tag, vi]) 3 Y U O O O (sizeOf50 _) (by intro z hz; simp only [yE, yI, y9] at hz; rcases hz with rfl | rfl | rfl | rfl | rfl <;> first | rfl | exact SlAt.one (U.ow 0 rfl)) (lb O) (ds := [jv hd.c, jv hd.n, sv hd.root, sv hd.tag, vi]) O O fun a w18 Y U => ?_
 refine wla Y O fun a Y => G15 ?_
 replace Y := Y.p2 8 9 O
 replace U := U.k3 11 O
 refine aq <| am Y results26 (ai O (aY (U.g 2 O) (isAgg50 _) (sizeOf50 _)) (ae O ag)) ?_
 replace U := U.s3 [0, 1, 2] de rfl
 replace U : St No w0 [itsE vi L, blk w1.hz [jv hd.c, jv hd.n, sv hd.root, sv hd.tag, vi] 50] w18 := yb U
 exact ⟨(vi, L), O, hL, U.ext, St.out (E := [itsE vi L]) (H := []) (U.select [0] de)⟩
theorem eC (key : By) (hd : Hd) (iv : Value) (L : List Itw) (w0 : World) (hiv : ItsAt w0 iv L) (hpf : ∀ x ∈ L, x.m.pf.length ≤ 1000) (hk0 : (blk 0 (kOf.map wv) 258).ok w0) :
  Ret Tryz.prog 52 #[sv key, .agg #[jv hd.c, jv hd.n, sv hd.root, sv hd.tag, iv]] w0 fun v w => v = .bool (checkP sha key hd (itsM L)) ∧ Ext No w0 w := by
 have hxb := hiv.len
 refine Am func52 O ntmps52 (lb O) fun a Y U => aa fun _ G1 => aV Y U O [jv hd.c, jv hd.n, sv hd.root, sv hd.tag, iv] O fun a w1 Y U => wla Y O fun a Y => G1 <| ah fun _ G2 => aa fun _ G3 => nv Y <| yp O <| yo (ac (v := pq w0.hz) O kr) <| yo (bS (ds := [jv hd.c, jv hd.n, sv hd.root, sv hd.tag]) (U.g 0 O) O (isAgg47 _) (sizeOf47 _) O) <| fun a Y => aw Y U call113 O (va key hd _ (U.keepb hk0)) fun a w2 Y U => wlv Y (bB O) fun a Y => G3 ?_
 replace Y := Y.p3 3 4 12 O
 refine bC Y O (fun hc1 => ?_) (fun hc1 => ?_)
 ·try simp only [qz] at hc1
  have hgn : genHd sha key hd = false := by simpa using hc1
  refine aa fun _ G4 => wla Y O fun a Y => G4 <| aq <| am Y results52 (ae O ag) ?_
  refine ⟨?_, U.ext⟩
  simp only [retv]
  refine yZ Value.bool ?_
  unfold checkP
  rw [hgn]; rfl
 try simp only [qz] at hc1
 have hgn : genHd sha key hd = true := by simpa using hc1
 have hgb : hd.n ≤ 60 := by have h := hgn; unfold genHd inB at h; simp only [yw, yB] at h; omega
 refine ar <| G2 <| ah fun _ G5 => aa fun _ G6 => nv Y <| yo (ac (v := po w0.hz 4) O kr) <| yo (ld U 0 O O (isAgg48 _) O) <| yo ((aO (sT := 48) (U.arg hiv.1) O O (runUnderlying48 _)).asi (m' := (L.length : Int)) AO) <| yp O <| fun a Y => G6 <| au <| aZ (fun m a w => ∃ (k : Nat), m = L.length - k ∧ (k ≤ L.length) ∧ (chkIs sha hd.root hd.n (-1) (itsM L) = chkIs sha hd.root hd.n (prevX L k) ((itsM L).drop k)) ∧ Fr 60 [(3, pq w0.hz), (14, iv), (15, jv (L.length : Int)), (16, jv (k : Int))] [] a ∧ St No w0 [blk w0.hz [jv hd.c, jv hd.n, sv hd.root, sv hd.tag, iv] 50] w) _ ⟨0, O, yQ _, O, Y.pick [3, 14, 15, 16], U.select [0] de⟩ ?_
 rintro _ a w3 ⟨k, rfl, hk, hs, Y, U⟩
 refine aa fun _ G7 => wlv Y (v_lt O O) fun a Y => G7 <| ah fun _ G8 => aA Y O (fun hc2 => ?_) (fun hc2 => ?_)
 ·have hkx : k < L.length := by omega
  refine ar <| G8 <| ah fun _ G9 => au ?_
  obtain ⟨⟨⟨ix, e, pf⟩, pv⟩, hx⟩ : ∃ x, L.getD k Itw.z = x := ⟨_, rfl⟩
  have hxm := bD (d := Itw.z) hkx
  rw [hx] at hxm
  have hpv : SlAt w0 pv 1 (pf.map fun s => [sv s]) := hiv.2 _ hxm
  have hpl : pf.length ≤ 1000 := hpf _ hxm
  refine aa fun _ G10 => nv Y <| yp O <| yo ((aj (i := (k : Int)) (sT := 48) (U.arg hiv.1) O O (runUnderlying48 _) (sizeOf110 _) om Aw).as (v' := slAddr iv (k * 3)) O) <| yo ((bP (U.arg hiv.1) (i := k) Aw O (isAgg110 _) (sizeOf110 _)).as (v' := .agg #[jv ix, sv e, pv]) (by rw [bf Itw.z, hx]; rfl)) <| fun a Y => aD Y U (zeroValue110 _) [jv 0, .string (⟨#[]⟩), .slice none 0 0] O fun a w4 Y U => wla Y O fun a Y => bp (us := [jv ix, sv e, pv]) 0 Y U O O O (sizeOf110 _) (by intro z hz; simp only [yE, yI, y9] at hz; rcases hz with rfl | rfl | rfl <;> first | rfl | exact SlAt.one (U.arg hpv)) (lb O) (ds := [jv ix, sv e, pv]) O O fun a w5 Y U => ?_
  refine G10 <| ah fun _ G11 => aH (aI fun w6 hxz => ?_)
  replace U := U.grow hxz
  refine aL (k := 0) 3 [2] ?_
  refine nv Y <| yp O <| yo (v_eq O O) <| yp O <| fun a Y => ab ?_
  rcases Decidable.em ((k : Int) = 0) with hb3 | hb3
  ·rw [yy hb3] at Y
   have hk0e : k = 0 := by omega
   refine dw (k := 3) 12 [9, 11] (Y.p12 3 14 15 16 18 19 20 6 5 21 22 23 O) fun a Y => ?_
   replace Y : Fr 60 [(24, undef), (25, undef), (26, undef), (27, undef), (28, undef), (29, undef), (30, undef), (31, undef), (32, undef), (3, pq w0.hz), (14, iv), (15, jv (L.length : Int)), (16, jv (k : Int)), (18, jv (k : Int)), (19, slAddr iv (k * 3)), (20, .agg #[jv ix, sv e, pv]), (6, pq w3.hz), (5, jv (k : Int)), (21, jv (k : Int)), (22, .bool true), (23, .bool true)] [] a := Y
   refine aL (k := 12) 15 [14] ?_
   refine nv Y <| yt <| yo (ax O O) <| yq O <| fun a Y => ab <| aS <| G11 <| aa fun _ G12 => nv (Y.p6 3 14 15 16 6 7 O) <| yp O <| yo ((bB O).asb (b' := false) O) <| yp O <| yr (ac (v := po w3.hz 1) O kr) <| yr (ld U 0 O O (isAgg9 _) O) <| yr (bd O O (runUnderlying9 _)) <| yr (v_gt O O) <| yo (ak O O) <| yp O <| fun a Y => ?_
   rcases Decidable.em (1000 < (e.length : Int)) with hb4 | hb4
   ·rw [yy hb4] at Y
    have hbad : chkIs sha hd.root hd.n (-1) (itsM L) = false := by rw [hs, fm hkx hx]; rw [yD (show ¬ e.length ≤ 1000 by omega), zy]; rfl
    refine nv Y <| yt <| yt <| yt <| yt <| yt <| yt <| yt <| yt <| yt <| yt <| yt <| yt <| yt <| yt <| yo (ax O O) <| fun a Y => G12 ?_
    replace Y := Y.p5 3 14 15 16 58 O
    replace U := U.k1 2 O
    refine aG Y O ?_
    refine aa fun _ G13 => wla Y O fun a Y => G13 <| aq <| am Y results52 (ae O ag) ?_
    refine ⟨?_, U.ext⟩
    simp only [retv]
    refine yZ Value.bool ?_
    unfold checkP
    rw [hbad, zy]
   rw [yD hb4] at Y
   have hel : e.length ≤ 1000 := by omega
   refine nv Y <| yr (ac (v := pq w0.hz) O kr) <| yr (ac (v := po w0.hz 2) O kr) <| yr (ld U 1 O O (isAgg9 _) O) <| yr (ac (v := pq w0.hz) O kr) <| yr (ac (v := po w0.hz 1) O kr) <| yr (ld U 1 O O (isAgg3 _) O) <| yr (ac (v := pq w3.hz) O kr) <| yr (ld U 0 O O (isAgg3 _) O) <| yr (ac (v := po w3.hz 1) O kr) <| yr (ld U 0 O O (isAgg9 _) O) <| yr (ac (v := po w3.hz 2) O kr) <| yr (ld U 0 O O (isAgg44 _) O) <| fun a Y => aF Y U call114 O (lW hd.root e hd.n ix pv pf _ (U.arg hpv) om om om (U.keepb hk0)) fun a w7 Y U => nv Y <| yr (bB O) <| yo (ak O O) <| fun a Y => G12 ?_
   replace Y := Y.p5 3 14 15 16 58 O
   replace U := U.k1 2 O
   refine bC Y O (fun hc5 => ?_) (fun hc5 => ?_)
   ·try simp only [qz] at hc5
    have hvf : cH sha hd.root hd.n ix e pf = false := by simpa using hc5
    have hbad : chkIs sha hd.root hd.n (-1) (itsM L) = false := by rw [hs, fm hkx hx]; rw [show cH sha hd.root hd.n (⟨⟨ix, e, pf⟩, pv⟩ : Itw).m.ix (⟨⟨ix, e, pf⟩, pv⟩ : Itw).m.e (⟨⟨ix, e, pf⟩, pv⟩ : Itw).m.pf = false from hvf, zy]; rfl
    refine aa fun _ G14 => wla Y O fun a Y => G14 <| aq <| am Y results52 (ae O ag) ?_
    refine ⟨?_, U.ext⟩
    simp only [retv]
    refine yZ Value.bool ?_
    unfold checkP
    rw [hbad, zy]
   try simp only [qz] at hc5
   have hvf : cH sha hd.root hd.n ix e pf = true := by simpa using hc5
   have hgo : prevX L k < ix := by rw [hk0e]; have := (ij hvf).1; show -1 < ix; omega
   refine ar <| G9 <| al <| nv Y <| yo (aM O O ⟨om, om⟩) <| yp O <| fun a Y => ab ?_
   refine ⟨_, ?_, k + 1, O, om, (by rw [hs]; exact oX hkx hx hgo hel hvf), Y.pick [3, 14, 15, 16], U.select [0] de⟩
   omega
  rw [yD hb3] at Y
  have hpvx := sI (L := L) (k := k) om
  refine aR (k := 3) 12 [9, 11] Y ?_
  replace Y := Y.p12 3 14 15 16 18 19 20 6 5 21 22 23 O
  refine bL 9 Y U <| pl_v (ac (v := po w0.hz 4) O kr) <| pl_w (fun U => ld U 1 O O (isAgg48 _) O) <| pl_m O <| pl_v (bK O O ⟨om, om⟩) <| pl_w (fun U => (aj (i := (k : Int) - 1) (sT := 48) (U.arg hiv.1) O O (runUnderlying48 _) (sizeOf110 _) om Aw).as (v' := slAddr iv ((k - 1) * 3)) Bh) <| pl_w (fun U => cI (k := (k - 1) * 3) (j := 0) (U.arg hiv.1) (i := (k - 1)) Aw O (fun _ _ => by kernel_rfl)) <| pl_w (fun U => aB (u := jv ((L.getD (k - 1) Itw.z).m.ix)) (i := (k - 1)) (j := 0) (U.arg hiv.1) Aw O (isAgg3 _) (by rw [bf Itw.z]; rfl)) ?_
  refine pl_v (ac (v := pq w3.hz) O kr) <| pl_w (fun U => ld U 0 O O (isAgg3 _) O) fun a w8 Y U => ?_
  replace Y := Y.p8 3 14 15 16 6 23 30 32 O
  refine ab <| aL (k := 12) 15 [14] ?_
  refine nv Y <| yr (v_lt O O) <| yo (ak O O) <| yq O <| fun a Y => ab <| aS <| G11 <| aa fun _ G15 => nv Y <| yp O <| yo (bB O) <| yp O <| fun a Y => ?_
  rcases (Decidable.em ((L.getD (k - 1) Itw.z).m.ix < ix)).symm with hb6 | hb6
  ·rw [yD hb6] at Y
   have hbad : chkIs sha hd.root hd.n (-1) (itsM L) = false := by rw [hs, fm hkx hx]; rw [yD (by rw [hpvx]; show ¬ _ < ix; omega)]; rfl
   refine nv Y <| yt <| yt <| yt <| yt <| yo (ax O O) <| yp O <| yt <| yt <| yt <| yt <| yt <| yt <| yt <| yt <| yt <| yt <| yt <| yt <| yt <| yt <| yo (ax O O) <| fun a Y => G15 ?_
   replace Y := Y.p5 3 14 15 16 58 O
   replace U := U.k1 2 O
   refine aG Y O ?_
   refine aa fun _ G16 => wla Y O fun a Y => G16 <| aq <| am Y results52 (ae O ag) ?_
   refine ⟨?_, U.ext⟩
   simp only [retv]
   refine yZ Value.bool ?_
   unfold checkP
   rw [hbad, zy]
  rw [yy hb6] at Y
  have hgo : prevX L k < ix := by rw [hpvx]; omega
  refine nv Y <| yr (ac (v := po w3.hz 1) O kr) <| yr (ld U 0 O O (isAgg9 _) O) <| yr (bd O O (runUnderlying9 _)) <| yr (v_gt O O) <| yo (ak O O) <| yp O <| fun a Y => ?_
  rcases Decidable.em (1000 < (e.length : Int)) with hb7 | hb7
  ·rw [yy hb7] at Y
   have hbad : chkIs sha hd.root hd.n (-1) (itsM L) = false := by rw [hs, fm hkx hx]; rw [yD (show ¬ e.length ≤ 1000 by omega), zy]; rfl
   refine nv Y <| yt <| yt <| yt <| yt <| yt <| yt <| yt <| yt <| yt <| yt <| yt <| yt <| yt <| yt <| yo (ax O O) <| fun a Y => G15 ?_
   replace Y := Y.p5 3 14 15 16 58 O
   replace U := U.k1 2 O
   refine aG Y O ?_
   refine aa fun _ G17 => wla Y O fun a Y => G17 <| aq <| am Y results52 (ae O ag) ?_
   refine ⟨?_, U.ext⟩
   simp only [retv]
   refine yZ Value.bool ?_
   unfold checkP
   rw [hbad, zy]
  rw [yD hb7] at Y
  have hel : e.length ≤ 1000 := by omega
  refine nv Y <| yr (ac (v := pq w0.hz) O kr) <| yr (ac (v := po w0.hz 2) O kr) <| yr (ld U 1 O O (isAgg9 _) O) <| yr (ac (v := pq w0.hz) O kr) <| yr (ac (v := po w0.hz 1) O kr) <| yr (ld U 1 O O (isAgg3 _) O) <| yr (ac (v := pq w3.hz) O kr) <| yr (ld U 0 O O (isAgg3 _) O) <| yr (ac (v := po w3.hz 1) O kr) <| yr (ld U 0 O O (isAgg9 _) O) <| yr (ac (v := po w3.hz 2) O kr) <| yr (ld U 0 O O (isAgg44 _) O) <| fun a Y => aF Y U call114 O (lW hd.root e hd.n ix pv pf _ (U.arg hpv) om om om (U.keepb hk0)) fun a w9 Y U => nv Y <| yr (bB O) <| yo (ak O O) <| fun a Y => G15 ?_
  replace Y := Y.p5 3 14 15 16 58 O
  replace U := U.k1 2 O
  refine bC Y O (fun hc8 => ?_) (fun hc8 => ?_)
  ·try simp only [qz] at hc8
   have hvf : cH sha hd.root hd.n ix e pf = false := by simpa using hc8
   have hbad : chkIs sha hd.root hd.n (-1) (itsM L) = false := by rw [hs, fm hkx hx]; rw [show cH sha hd.root hd.n (⟨⟨ix, e, pf⟩, pv⟩ : Itw).m.ix (⟨⟨ix, e, pf⟩, pv⟩ : Itw).m.e (⟨⟨ix, e, pf⟩, pv⟩ : Itw).m.pf = false from hvf, zy]; rfl
   refine aa fun _ G18 => wla Y O fun a Y => G18 <| aq <| am Y results52 (ae O ag) ?_
   refine ⟨?_, U.ext⟩
   simp only [retv]
   refine yZ Value.bool ?_
   unfold checkP
   rw [hbad, zy]
  try simp only [qz] at hc8
  have hvf : cH sha hd.root hd.n ix e pf = true := by simpa using hc8
  refine ar <| G9 <| al <| nv Y <| yo (aM O O ⟨om, om⟩) <| yp O <| fun a Y => ab ?_
  refine ⟨_, ?_, k + 1, O, om, (by rw [hs]; exact oX hkx hx hgo hel hvf), Y.pick [3, 14, 15, 16], U.select [0] de⟩
  omega
 have hall : chkIs sha hd.root hd.n (-1) (itsM L) = true := by rw [hs, show k = (itsM L).length by rw [eD]; omega, List.drop_length]; rfl
 refine aP <| G5 <| aa fun _ G19 => wla Y O fun a Y => G19 ?_
 replace Y := Y.p1 4 O
 replace U := U.k0 0 O
 refine aq <| am Y results52 (ae O ag) ?_
 refine ⟨?_, U.ext⟩
 simp only [retv]
 refine yZ Value.bool ?_
 unfold checkP
 rw [hgn, hall]; rfl
end Go.Proofs.YtliklcmddmpdfaaGreatDoor
namespace Go.Proofs.YtliklcmddmpdfaaGreatDoor
open Go.RowKit Go.PW _root_.Go.Proofs.Tryz
theorem q7 {s : By} {x : Cas} {w0 : World} (h : decCas s = some x) (hsl : s.length ≤ 1000000) : Ret Tryz.prog 20 #[sv s] w0 fun v w => v = .tuple #[.agg x.cells.toArray, jv 0] ∧ Ext No w0 w := by
 have := tG s w0 hsl
 unfold dcX dcE at this
 rw [h] at this
 exact this
theorem uU {s : By} {w0 : World} (h : decCas s = none) (hsl : s.length ≤ 1000000) : Ret Tryz.prog 20 #[sv s] w0 fun v w => v = .tuple #[.agg Cas.z.cells.toArray, jv 210] ∧ Ext No w0 w := by
 have := tG s w0 hsl
 unfold dcX dcE at this
 rw [h] at this
 exact this
def encK (x : Int × Cas) : List Value := [jv x.1, .agg x.2.cells.toArray]
section
variable {L : List Itw} {k : Nat} {ix : Int} {en : By} {pf : List By} {pv : Value} {cc : Cas}
theorem mK {L : List Itw} {k : Nat} (hk : k < L.length) : (itsM L).take (k + 1) = (itsM L).take k ++ [(L.getD k Itw.z).m] := by
 unfold itsM
 rw [← List.map_take, cF Itw.z hk, zu, List.map_take]; rfl
theorem lK (hk : k < L.length) (hx : L.getD k Itw.z = ⟨⟨ix, en, pf⟩, pv⟩) (hd : decCas en = some cc) : casesF ((itsM L).take (k + 1)) = casesF ((itsM L).take k) ++ [(ix, cc)] := by
 rw [mK hk, gW, ek, hx]
 simp only [hd]
 rfl
theorem uI (hk : k < L.length) (hx : L.getD k Itw.z = ⟨⟨ix, en, pf⟩, pv⟩) (hd : decCas en = none) : casesF ((itsM L).take (k + 1)) = casesF ((itsM L).take k) := by
 rw [mK hk, gW, ek, hx]
 simp only [hd, zc]
 show _ ++ [] = _
 rw [zI]
theorem xI (hk : k < L.length) (hx : L.getD k Itw.z = ⟨⟨ix, en, pf⟩, pv⟩) (hd : decCas en = some cc) : NxK (casesF (itsM L)) (casesF ((itsM L).take k)) (ix, cc) := by
 refine ⟨casesF ((itsM L).drop (k + 1)), ?_⟩
 have h : itsM L = (itsM L).take (k + 1) ++ (itsM L).drop (k + 1) := (zE _ _).symm
 have h2 : casesF (itsM L) = casesF ((itsM L).take (k + 1)) ++ casesF ((itsM L).drop (k + 1)) := by rw [← gW, ← h]
 rw [h2, lK hk hx hd, za]; rfl
end
def OkP (n : Int) (L : List Itw) : Prop := 0 ≤ n ∧ n ≤ 60 ∧ ∀ x ∈ L, 0 ≤ x.m.ix ∧ x.m.ix < n ∧ x.m.e.length ≤ 1000
theorem mr {root : By} {n : Int} : ∀ {l : List Itm} {p : Int}, chkIs sha root n p l = true → ∀ x ∈ l, 0 ≤ x.ix ∧ x.ix < n ∧ x.e.length ≤ 1000
 | [], p, h => by simp
 | y :: l, p, h => by
  simp only [chkIs, yw, yB] at h
  intro x hx
  rcases yE.1 hx with rfl | hx
  ·have := ij h.1.2
   exact ⟨this.1, this.2.1, h.1.1.2⟩
  ·exact mr h.2 x hx
theorem ja {key : By} {hd : Hd} {L : List Itw} (h : checkP sha key hd (itsM L) = true) : OkP hd.n L := by
 unfold checkP at h
 rw [yw] at h
 have hg := h.1
 unfold genHd inB at hg
 simp only [yw, yB] at hg
 refine ⟨by omega, by omega, fun x hx => mr h.2 x.m (zf.2 ⟨x, hx, O⟩)⟩
theorem yj {n : Int} {L : List Itw} (h : OkP n L) {p : Int × Cas} (hp : p ∈ casesF (itsM L)) : 0 ≤ p.1 ∧ p.1 < n := by
 obtain ⟨x, hx, h1, _⟩ := dZ.1 hp
 obtain ⟨y, hy, rfl⟩ := zf.1 hx
 have := h.2.2 y hy
 rw [← h1]; omega
def LHit (size num : Int) (p : Int × Cas) (la : Int) (fo : Bool) : Prop := (p.2.n < num ∧ p.1 = size - 1) ∨ (num < p.2.n ∧ (p.1 = 0 ∨ (fo = true ∧ la = p.1 - 1)))
theorem oW {size num la : Int} {p : Int × Cas} {fo : Bool} : ((decide (p.2.n < num) && decide (p.1 = size - 1)) || (decide (num < p.2.n) && (decide (p.1 = 0) || (fo && decide (la = p.1 - 1))))) = true ↔ LHit size num p la fo := by
 unfold LHit
 simp only [yS, yw, yB]
theorem gy {size num la : Int} {fo b : Bool} {l pre : List (Int × Cas)} {p : Int × Cas} (h : LackI size num l pre la fo) (hc : ¬ LHit size num p la fo) (hb : decide (p.2.n < num) = b) : LackI size num l (pre ++ [p]) p.1 b := by
 subst hb
 exact tP h (by rw [Bool.eq_false_iff]; exact fun h => hc (oW.1 h))
theorem f8 {size num la : Int} {fo : Bool} {l pre : List (Int × Cas)} {p : Int × Cas} (h : LackI size num l pre la fo) (hx : NxK l pre p) (hc : LHit size num p la fo) : lackC size num (-1) false l = true := rQ h hx (oW.2 hc)
theorem dQ (hd : Hd) (iv : Value) (L : List Itw) (w0 : World) (hiv : ItsAt w0 iv L) :
  Ret Tryz.prog 74 #[.agg #[jv hd.c, jv hd.n, sv hd.root, sv hd.tag, iv]] w0 (MemR w0 (fun z : Nat => .func (.func 125) #[] #[pq z]) (fun z => [blk z [jv hd.c, jv hd.n, sv hd.root, sv hd.tag, iv] 50]) (fun _ => True)) := by
 refine An func74 O ntmps74 (lb O) fun a Y U => aa fun _ G1 => aV Y U O [jv hd.c, jv hd.n, sv hd.root, sv hd.tag, iv] O fun a w1 Y U => wla Y O fun a Y => G1 <| aa fun _ G2 => nv Y <| yo (cb O O) <| yq O <| fun a Y => G2 <| aq <| am Y results74 (ae O ag) ?_
 exact ⟨w0.hz, O, trivial, U.ext, St.out (H := []) U⟩
theorem r6 {M : Nat → Prop} {w0 : World} (hd : Hd) (iv : Value) (L : List Itw) (lp b1 : Nat) (J Jx : List (Int × Cas) → Ent → Prop) (hY : Rounds Tryz.prog M w0 lp encK (NxK (casesF (itsM L))) J Jx) (e0 : Ent) (ws : World) (hel : ∀ x ∈ L, x.m.e.length ≤ 1000) (hiv : ∀ (H : List Ent) (w : World), St M w0 H w → ItsAt w iv L) (hJ : J [] e0) (U : St M w0 [e0, blk b1 [jv hd.c, jv hd.n, sv hd.root, sv hd.tag, iv] 50] ws) :
  Ret Tryz.prog 125 #[.func (.yield lp) #[] #[], pq b1] ws fun _ w => ∃ e1 Hi1, St M w0 (e1 :: Hi1) w ∧ ((∃ ys, (ys = casesF (itsM L) ∧ Hi1 = [blk b1 [jv hd.c, jv hd.n, sv hd.root, sv hd.tag, iv] 50]) ∧ J ys e1) ∨ (∃ pre, Hi1 = [blk b1 [jv hd.c, jv hd.n, sv hd.root, sv hd.tag, iv] 50] ∧ Jx pre e1)) := by
 have hxb := (hiv _ _ U).len
 refine aC func125 O ntmps125 (lb O) fun a Y => ?_
 replace Y := Y.p2 0 1 O
 skip
 refine aa fun _ G1 => nv Y <| yo (ac (v := po b1 4) O kr) <| yo (ld U 1 O O (isAgg48 _) O) <| yo ((aO (sT := 48) (hiv _ _ U).1 O O (runUnderlying48 _)).asi (m' := (L.length : Int)) AO) <| yp O <| fun a Y => G1 <| au <| aZ (fun m a w => ∃ (k : Nat) (e : Ent), m = L.length - k ∧ (k ≤ L.length) ∧ (J (casesF ((itsM L).take k)) e) ∧ Fr 31 [(0, .func (.yield lp) #[] #[]), (8, iv), (9, jv (L.length : Int)), (10, jv (k : Int))] [] a ∧ St M w0 [e, blk b1 [jv hd.c, jv hd.n, sv hd.root, sv hd.tag, iv] 50] w) _ ⟨0, e0, O, yQ _, hJ, Y.pick [0, 8, 9, 10], U.select [0, 1] de⟩ ?_
 rintro _ a w1 ⟨k, e, rfl, hk, hJ, Y, U⟩
 refine aa fun _ G2 => wlv Y (v_lt O O) fun a Y => G2 <| ah fun _ G3 => aA Y O (fun hc1 => ?_) (fun hc1 => ?_)
 ·have hkx : k < L.length := by omega
  refine ar <| G3 <| ah fun _ G4 => au ?_
  obtain ⟨⟨⟨ix, en, pf⟩, pv⟩, hx⟩ : ∃ x, L.getD k Itw.z = x := ⟨_, rfl⟩
  have hxm := bD (d := Itw.z) hkx
  rw [hx] at hxm
  have hln : en.length ≤ 1000 := hel _ hxm
  refine aa fun _ G5 => nv Y <| yo ((aj (i := (k : Int)) (sT := 48) (hiv _ _ U).1 O O (runUnderlying48 _) (sizeOf110 _) om Aw).as (v' := slAddr iv (k * 3)) O) <| yo ((bP (hiv _ _ U).1 (i := k) Aw O (isAgg110 _) (sizeOf110 _)).as (v' := .agg #[jv ix, sv en, pv]) (by rw [bf Itw.z, hx]; rfl)) <| fun a Y => aD Y U (zeroValue110 _) [jv 0, .string (⟨#[]⟩), .slice none 0 0] O fun a w2 Y U => bp (us := [jv ix, sv en, pv]) 0 Y U O O O (sizeOf110 _) (by intro z hz; simp only [yE, yI, y9] at hz; rcases hz with rfl | rfl | rfl <;> first | rfl | exact SlAt.one ((hiv _ _ U).2 _ hxm)) (lb O) (ds := [jv ix, sv en, pv]) O O fun a w3 Y U => ?_
  refine G5 <| aa fun _ G6 => nv Y <| yo (ac (v := po w1.hz 1) O kr) <| yo (ld U 0 O O (isAgg9 _) O) <| fun a Y => ?_
  rcases yz ((decCas en).isSome) with hb2 | hb2
  ·obtain ⟨cc, hcc⟩ := zr.1 hb2
   refine aw Y U call20 O (q7 hcc om) fun a w4 Y U => nv Y <| yp O <| yo (ao O O) <| yo (ao O O) <| fun a Y => aD Y U (zeroValue55 _) [jv 0, jv 0, .string (⟨#[]⟩)] O fun a w5 Y U => az 0 Y U [jv cc.n, jv cc.t, sv cc.ev] O (sizeOf55 _) fun a w6 Y U => wla Y O fun a Y => G6 ?_
   refine aa fun _ G7 => nv (Y.p7 0 8 9 10 4 5 6 O) <| yp O <| yo ((v_eq O O).asb (b' := true) O) <| yp O <| yr (ay O) <| yr (ac (v := pq w1.hz) O kr) <| yr (ld U 1 O O (isAgg3 _) O) <| yr (ap (U.g 0 O) O (isAgg55 _) (sizeOf55 _)) <| fun a Y => ey Y ?_
   refine wl_r (fL O O (hY.yield (pre := casesF ((itsM L).take k)) (x := (ix, cc)) (xI hkx hx hcc) hJ (U.only (i := 2) O))) O O Y fun a v w7 hR Y => ?_
   obtain ⟨y3, e4, rfl, hx, hok, hft, hJt, hJf⟩ := hR
   replace U := U.exchange (k := 2) rfl hx hok hft
   replace U := U.n4 O
   clear hx hok hft
   refine nv Y <| yr (bB O) <| yo (ax O O) <| fun a Y => G7 ?_
   replace Y := Y.p5 0 8 9 10 29 O
   replace U := U.k2 12 O
   refine bC Y O (fun hc5 => ?_) (fun hc5 => ?_)
   ·try simp only [qz] at hc5
    have hJ := hJf hc5
    refine aq <| am Y results125 ag ?_
    replace U := U.select [0, 1] de
    exact ⟨_, _, U, .inr ⟨_, O, hJ⟩⟩
   try simp only [qz] at hc5
   have hJ := hJt hc5
   refine ar <| G4 <| al <| nv Y <| yo (aM O O ⟨om, om⟩) <| yp O <| fun a Y => ab ?_
   refine ⟨_, ?_, k + 1, e4, O, om, (by rw [lK hkx hx hcc]; exact hJ), Y.pick [0, 8, 9, 10], U.select [0, 1] de⟩
   omega
  have hcn : decCas en = none := by
   cases h : decCas en with
   | none => rfl
   | some z => rw [h] at hb2; cases hb2
  refine aw Y U call20 O (uU hcn om) fun a w8 Y U => nv Y <| yp O <| yo (ao O O) <| yo (ao O O) <| fun a Y => aD Y U (zeroValue55 _) [jv 0, jv 0, .string (⟨#[]⟩)] O fun a w9 Y U => az 0 Y U [jv Cas.z.n, jv Cas.z.t, sv Cas.z.ev] O (sizeOf55 _) fun a w10 Y U => wla Y O fun a Y => G6 ?_
  refine aa fun _ G8 => nv (Y.p7 0 8 9 10 4 5 6 O) <| yp O <| yo ((v_eq O O).asb (b' := false) O) <| yp O <| yt <| yt <| yt <| yt <| yt <| yt <| yo (ak O O) <| fun a Y => G8 ?_
  replace Y := Y.p5 0 8 9 10 29 O
  replace U := U.k2 12 O
  refine aJ Y O ?_
  refine ar <| G4 <| al <| nv Y <| yo (aM O O ⟨om, om⟩) <| yp O <| fun a Y => ab ?_
  refine ⟨_, ?_, k + 1, e, O, om, (by rw [uI hkx hx hcn]; exact hJ), Y.pick [0, 8, 9, 10], U.select [0, 1] de⟩
  omega
 have hke : (itsM L).take k = itsM L := by rw [zA (by rw [eD]; omega)]
 rw [hke] at hJ
 refine aP <| cS Y results125 ag ?_
 replace U := U.select [0, 1] de
 exact ⟨_, _, U, .inl ⟨_, ⟨O, O⟩, hJ⟩⟩
theorem dr {M : Nat → Prop} {w0 : World} (hd : Hd) (iv : Value) (L : List Itw) (b1 : Nat) (hel : ∀ x ∈ L, x.m.e.length ≤ 1000) (hiv : ∀ (H : List Ent) (w : World), St M w0 H w → ItsAt w iv L) :
  Iter Tryz.prog 125 [pq b1] encK (NxK (casesF (itsM L))) (fun ys Hi => ys = casesF (itsM L) ∧ Hi = [blk b1 [jv hd.c, jv hd.n, sv hd.root, sv hd.tag, iv] 50]) (fun pre Hi => Hi = [blk b1 [jv hd.c, jv hd.n, sv hd.root, sv hd.tag, iv] 50]) M w0 [blk b1 [jv hd.c, jv hd.n, sv hd.root, sv hd.tag, iv] 50] :=
 fun lp J Jx w e hY hJ U => r6 hd iv L lp b1 J Jx hY e w hel hiv hJ U
theorem tQ (key : By) (hd : Hd) (iv : Value) (L : List Itw) (num : Int) (w0 : World) (hiv : ItsAt w0 iv L) (hpf : ∀ x ∈ L, x.m.pf.length ≤ 1000) (hchk : checkP sha key hd (itsM L) = true) (hk0 : (blk 0 (kOf.map wv) 258).ok w0) :
  Ret Tryz.prog 24 #[sv key, .agg #[jv hd.c, jv hd.n, sv hd.root, sv hd.tag, iv], jv num] w0 fun v w => v = .tuple #[.agg ((hasF num (itsM L)).getD Cas.z).cells.toArray, .bool (hasF num (itsM L)).isSome] ∧ Ext No w0 w := by
 have hok := ja hchk
 refine Ao func24 O ntmps24 (lb O) fun a Y U => aa fun _ G1 => aV Y U O [jv hd.c, jv hd.n, sv hd.root, sv hd.tag, iv] O fun a w1 Y U => aV Y U O [jv num] O fun a w2 Y U => aD Y U (zeroValue55 _) [jv 0, jv 0, .string (⟨#[]⟩)] O fun a w3 Y U => aD Y U (zeroValue4 _) [.bool false] O fun a w4 Y U => G1 <| ah fun _ G2 => aa fun _ G3 => nv Y <| yp O <| yo (ap (U.g 3 O) O (isAgg50 _) (sizeOf50 _)) <| fun a Y => aw Y U call52 O (cJ hchk (eC key hd iv L _ (cC U hiv) hpf (U.keepb hk0))) fun a w5 Y U => wlv Y ((bB O).asb (b' := false) O) fun a Y => G3 ?_
 replace Y := Y.p5 4 5 6 7 13 O
 refine aJ Y O ?_
 refine ar <| G2 <| ah fun _ G4 => aa fun _ G5 => wlv Y (ap (U.g 3 O) O (isAgg50 _) (sizeOf50 _)) fun a Y => bu Y U call74 O (dQ hd iv L _ (cC U hiv)) fun a w6 x2 hp Y U => ?_
 revert x2 hp Y U; rintro z1 hp Y U
 clear hp
 replace U := U.n5 O
 refine G5 <| au ?_
 replace U := U.s4 [3, 2, 1, 0] de rfl
 replace Y := Y.p7 4 5 6 7 13 15 16 O
 refine dD (M := No) (w0 := w0) (encs := encK) (Hi := [blk z1 [jv hd.c, jv hd.n, sv hd.root, sv hd.tag, iv] 50]) (Hc := [blk w1.hz [jv num] 3, blk w2.hz [jv 0, jv 0, .string (⟨#[]⟩)] 55, blk w3.hz [.bool false] 4]) (fun pre H => (∀ z ∈ pre, ¬ z.2.n = num) ∧ H = [blk w1.hz [jv num] 3, blk w2.hz [jv 0, jv 0, .string (⟨#[]⟩)] 55, blk w3.hz [.bool false] 4]) (fun c pre H => c = .ret ∧ ∃ (cc : Cas), (((casesF (itsM L)).find? fun p => decide (p.2.n = num)).map (·.2) = some cc) ∧ H = [blk w1.hz [jv num] 3, blk w2.hz [jv cc.n, jv cc.t, sv cc.ev] 55, blk w3.hz [.bool true] 4]) (fun pre xs H a => ∃ (bA0 : Nat), Fr 25 [(4, pq w0.hz), (5, pq w1.hz), (6, pq w2.hz), (7, pq w3.hz), (13, .bool false), (15, .agg #[jv hd.c, jv hd.n, sv hd.root, sv hd.tag, iv]), (16, .func (.func 125) #[] #[pq z1]), (9, pq bA0)] [] a ∧ (∀ z ∈ pre, ¬ z.2.n = num) ∧ H = [blk bA0 [jv xs.2.n, jv xs.2.t, sv xs.2.ev] 55, blk w1.hz [jv num] 3, blk w2.hz [jv 0, jv 0, .string (⟨#[]⟩)] 55, blk w3.hz [.bool false] 4]) O call125 Y U (dr hd iv L z1 (fun x hx => (hok.2.2 x hx).2.2) (fun H w h => cC h hiv)) de (fun _ => O) ⟨sm, O⟩ ?_ ?_ ?_ ?_
 ·clear Y U
  rintro lp pre xs _ a w7 hnx ⟨hno, rfl⟩ Y U
  generalize (join [blk w1.hz [jv num] 3, blk w2.hz [jv 0, jv 0, .string (⟨#[]⟩)] 55, blk w3.hz [.bool false] 4]).foot = M1 at U ⊢
  refine al <| aD (Y.p9 18 17 4 5 6 7 13 15 16 O) U (zeroValue55 _) [jv 0, jv 0, .string (⟨#[]⟩)] O fun a w8 Y U => az 0 Y U [jv xs.2.n, jv xs.2.t, sv xs.2.ev] O (sizeOf55 _) fun a w9 Y U => ab ?_
  exact ⟨_, ⟨w7.hz, Y.pick [4, 5, 6, 7, 13, 15, 16, 9], hno, O⟩, U⟩
 ·rintro lp pre xs _ a w10 hnx ⟨bA0, Y, hno, rfl⟩ hout hrec hnl U
  clear hrec hnl
  generalize (join [blk bA0 [jv xs.2.n, jv xs.2.t, sv xs.2.ev] 55, blk w1.hz [jv num] 3, blk w2.hz [jv 0, jv 0, .string (⟨#[]⟩)] 55, blk w3.hz [.bool false] 4]).foot = M1 at U hout ⊢
  refine au <| aa fun _ G6 => nv Y <| yo (ac (v := pq bA0) O kr) <| yo (ld U 0 O O (isAgg3 _) O) <| yo (ld U 1 O O (isAgg3 _) O) <| yo (v_eq O O) <| fun a Y => G6 ?_
  replace Y := Y.p4 6 7 9 22 O
  refine aA Y O (fun hc3 => ?_) (fun hc3 => ?_)
  ·refine aa fun _ G7 => wlv Y (ap (U.g 0 O) O (isAgg55 _) (sizeOf55 _)) fun a Y => az 2 Y U [jv xs.2.n, jv xs.2.t, sv xs.2.ev] O (sizeOf55 _) fun a w11 Y U => az 3 Y U [.bool true] O (sizeOf4 _) fun a w12 Y U => G7 <| aq ?_
   exact ⟨_, ⟨O, xs.2, tA hnx hno om, O⟩, U.select [1, 2, 3] de⟩
  refine ar ?_
  exact ⟨_, ⟨co hno om, O⟩, U.select [1, 2, 3] de⟩
 ·rintro D pre _ _ a w13 ⟨rfl, rfl⟩ ⟨hno, rfl⟩ U Y
  replace Y := Y.p7 4 5 6 7 13 15 16 O
  replace U := U.n5 O
  refine G4 <| aa fun _ G8 => wlv Y (aW (v := .agg #[jv 0, jv 0, sv ([] : By)]) O kr) fun a Y => az 2 Y U [jv 0, jv 0, sv ([] : By)] O (sizeOf55 _) fun a w14 Y U => az 3 Y U [.bool false] O (sizeOf4 _) fun a w15 Y U => G8 ?_
  replace Y := Y.p2 6 7 O
  replace U := U.k4 15 O
  refine aq ?_
  have hD := U.g 0 rfl
  replace U := U.unmark (i := 0) (o' := .deferred none) O
  replace U := U.n3 O
  refine cx Y hD results24 (ai O (aY (U.g 1 O) (isAgg55 _) (sizeOf55 _)) (ai O (aK (U.g 2 O) (isAgg4 _)) ag)) ?_
  exact ⟨by simp only [retv]; rw [fF, xh hno]; rfl, U.ext⟩
 ·rintro D _ pre _ _ a w16 rfl ⟨rfl, cc, hhit, rfl⟩ U Y
  replace Y := Y.p7 4 5 6 7 13 15 16 O
  replace U := U.n5 O
  refine aq ?_
  have hD := U.g 0 rfl
  replace U := U.unmark (i := 0) (o' := .deferred none) O
  replace U := U.n4 O
  refine cx Y hD results24 (ai O (aY (U.g 1 O) (isAgg55 _) (sizeOf55 _)) (ai O (aK (U.g 2 O) (isAgg4 _)) ag)) ?_
  exact ⟨by simp only [retv]; rw [fF, hhit]; rfl, U.ext⟩
theorem nI (hd : Hd) (iv : Value) (L : List Itw) (num : Int) (w0 : World) (hiv : ItsAt w0 iv L) (hok : OkP hd.n L) :
  Ret Tryz.prog 58 #[.agg #[jv hd.c, jv hd.n, sv hd.root, sv hd.tag, iv], jv num] w0 fun v w => v = .bool (lackF hd.n num (-1) false (itsM L)) ∧ Ext No w0 w := by
 refine Am func58 O ntmps58 (lb O) fun a Y U => aa fun _ G1 => aV Y U O [jv hd.c, jv hd.n, sv hd.root, sv hd.tag, iv] O fun a w1 Y U => aV Y U O [jv num] O fun a w2 Y U => aD Y U (zeroValue4 _) [.bool false] O fun a w3 Y U => G1 <| aa fun _ G2 => aD Y U (zeroValue3 _) [jv 0] O fun a w4 Y U => aD Y U (zeroValue4 _) [.bool false] O fun a w5 Y U => az 1 Y U [jv (-1)] O (sizeOf3 _) fun a w6 Y U => az 0 Y U [.bool false] O (sizeOf4 _) fun a w7 Y U => G2 <| ah fun _ G3 => aa fun _ G4 => wlv Y (ap (U.g 4 O) O (isAgg50 _) (sizeOf50 _)) fun a Y => bu Y U call74 O (dQ hd iv L _ (cC U hiv)) fun a w8 x2 hp Y U => ?_
 revert x2 hp Y U; rintro z1 hp Y U
 clear hp
 replace U := U.n6 O
 refine G4 <| au ?_
 replace U := U.s6 [5, 4, 3, 2, 1, 0] de rfl
 replace Y := Y.p9 0 1 2 3 4 5 6 10 11 O
 refine dD (M := No) (w0 := w0) (encs := encK) (Hi := [blk z1 [jv hd.c, jv hd.n, sv hd.root, sv hd.tag, iv] 50]) (Hc := [blk w0.hz [jv hd.c, jv hd.n, sv hd.root, sv hd.tag, iv] 50, blk w1.hz [jv num] 3, blk w2.hz [.bool false] 4, blk w3.hz [jv (-1)] 3, blk w4.hz [.bool false] 4]) (fun pre H => ∃ (la : Int), ∃ (fo : Bool), (LackI hd.n num (casesF (itsM L)) pre la fo) ∧ H = [blk w0.hz [jv hd.c, jv hd.n, sv hd.root, sv hd.tag, iv] 50, blk w1.hz [jv num] 3, blk w2.hz [.bool false] 4, blk w3.hz [jv la] 3, blk w4.hz [.bool fo] 4]) (fun c pre H => c = .ret ∧ ∃ (la : Int), ∃ (fo : Bool), (lackC hd.n num (-1) false (casesF (itsM L)) = true) ∧ H = [blk w0.hz [jv hd.c, jv hd.n, sv hd.root, sv hd.tag, iv] 50, blk w1.hz [jv num] 3, blk w2.hz [.bool true] 4, blk w3.hz [jv la] 3, blk w4.hz [.bool fo] 4]) (fun pre xs H a => ∃ (bA0 : Nat), Fr 52 [(0, .agg #[jv hd.c, jv hd.n, sv hd.root, sv hd.tag, iv]), (1, jv num), (2, pq w0.hz), (3, pq w1.hz), (4, pq w2.hz), (5, pq w3.hz), (6, pq w4.hz), (10, .agg #[jv hd.c, jv hd.n, sv hd.root, sv hd.tag, iv]), (11, .func (.func 125) #[] #[pq z1]), (7, jv xs.1), (8, pq bA0)] [] a ∧ ∃ (la : Int), ∃ (fo : Bool), (LackI hd.n num (casesF (itsM L)) pre la fo) ∧ H = [blk bA0 [jv xs.2.n, jv xs.2.t, sv xs.2.ev] 55, blk w0.hz [jv hd.c, jv hd.n, sv hd.root, sv hd.tag, iv] 50, blk w1.hz [jv num] 3, blk w2.hz [.bool false] 4, blk w3.hz [jv la] 3, blk w4.hz [.bool fo] 4]) O call125 Y U (dr hd iv L z1 (fun x hx => (hok.2.2 x hx).2.2) (fun H w h => cC h hiv)) de (fun _ => O) ⟨-1, false, we, O⟩ ?_ ?_ ?_ ?_
 ·clear Y U
  rintro lp pre xs _ a w9 hnx ⟨la, fo, hla, rfl⟩ Y U
  generalize (join [blk w0.hz [jv hd.c, jv hd.n, sv hd.root, sv hd.tag, iv] 50, blk w1.hz [jv num] 3, blk w2.hz [.bool false] 4, blk w3.hz [jv la] 3, blk w4.hz [.bool fo] 4]).foot = M1 at U ⊢
  refine aa fun _ G5 => wla (Y.p11 13 12 0 1 2 3 4 5 6 10 11 O) O fun a Y => G5 <| al <| aD Y U (zeroValue55 _) [jv 0, jv 0, .string (⟨#[]⟩)] O fun a w10 Y U => az 0 Y U [jv xs.2.n, jv xs.2.t, sv xs.2.ev] O (sizeOf55 _) fun a w11 Y U => ab ?_
  exact ⟨_, ⟨w9.hz, Y.pick [0, 1, 2, 3, 4, 5, 6, 10, 11, 7, 8], la, fo, hla, O⟩, U⟩
 ·rintro lp pre xs _ a w12 hnx ⟨bA0, Y, la, fo, hla, rfl⟩ hout hrec hnl U
  clear hrec hnl
  generalize (join [blk bA0 [jv xs.2.n, jv xs.2.t, sv xs.2.ev] 55, blk w0.hz [jv hd.c, jv hd.n, sv hd.root, sv hd.tag, iv] 50, blk w1.hz [jv num] 3, blk w2.hz [.bool false] 4, blk w3.hz [jv la] 3, blk w4.hz [.bool fo] 4]).foot = M1 at U hout ⊢
  refine au ?_
  have hxb := yj hok (eE hnx)
  have hok1 := hok.1
  have hok2 := hok.2.1
  refine aa fun _ G6 => nv Y <| yo (ac (v := pq bA0) O kr) <| yo (ld U 0 O O (isAgg3 _) O) <| yo (ld U 2 O O (isAgg3 _) O) <| yo (v_lt O O) <| yq O <| fun a Y => G6 ?_
  refine ah fun _ G7 => aa fun _ G8 => nv (Y.p8 2 3 4 5 6 7 8 9 O) <| yp O <| yp O <| fun a Y => ?_
  rcases Decidable.em (xs.2.n < num) with hb3 | hb3
  ·rw [yy hb3] at Y
   refine nv Y <| yr (ay O) <| yr (ac (v := pq w0.hz) O kr) <| yr (ac (v := po w0.hz 1) O kr) <| yr (ld U 1 O O (isAgg3 _) O) <| yr (bK O O ⟨om, om⟩) <| yr (v_eq O O) <| yo (ax O O) <| yp O <| fun a Y => ?_
   rcases Decidable.em (xs.1 = hd.n - 1) with hb4 | hb4
   ·rw [yy hb4] at Y
    refine nv Y <| yt <| yt <| yt <| yt <| yt <| fun a Y => bX Y fun a Y => bX Y fun a Y => bX Y fun a Y => bX Y fun a Y => bX Y fun a Y => bX Y fun a Y => bX Y fun a Y => bX Y fun a Y => bX Y fun a Y => bX Y fun a Y => bX Y fun a Y => nv Y <| yt <| yo (ax O O) <| fun a Y => G8 ?_
    replace Y := Y.p6 4 5 6 7 9 45 O
    replace U := U.k5 62 O
    refine aG Y O ?_
    refine aa fun _ G9 => az 2 Y U [.bool true] O (sizeOf4 _) fun a w13 Y U => G9 <| aq ?_
    exact ⟨_, ⟨O, la, fo, f8 hla hnx AL, O⟩, U.select [0, 1, 2, 3, 4] de⟩
   rw [yD hb4] at Y
   refine nv Y <| yr (ac (v := pq bA0) O kr) <| yr (ld U 0 O O (isAgg3 _) O) <| yr (ld U 2 O O (isAgg3 _) O) <| yr (v_gt O O) <| yr (ay O) <| fun a Y => ?_
   rcases Decidable.em (num < xs.2.n) with hb5 | hb5
   ·rw [yy hb5] at Y
    refine nv Y <| yr (ay O) <| yr (v_eq O O) <| yr (ay O) <| fun a Y => ?_
    rcases Decidable.em (xs.1 = 0) with hb6 | hb6
    ·rw [yy hb6] at Y
     refine nv Y <| yt <| yt <| fun a Y => bX Y fun a Y => bX Y fun a Y => bX Y fun a Y => bX Y fun a Y => nv Y <| yt <| yr (ax O O) <| yr (ax O O) <| yo (ak O O) <| fun a Y => G8 ?_
     replace Y := Y.p6 4 5 6 7 9 45 O
     replace U := U.k5 62 O
     refine aG Y O ?_
     refine aa fun _ G10 => az 2 Y U [.bool true] O (sizeOf4 _) fun a w14 Y U => G10 <| aq ?_
     exact ⟨_, ⟨O, la, fo, f8 hla hnx AL, O⟩, U.select [0, 1, 2, 3, 4] de⟩
    rw [yD hb6] at Y
    refine nv Y <| yr (ld U 5 O O (isAgg4 _) O) <| yr (ay O) <| fun a Y => ?_
    rcases yz (fo) with hb7 | hb7
    ·rw [hb7] at Y
     have hfo := hb7
     refine nv Y <| yr (ld U 4 O O (isAgg3 _) O) <| yr (ay O) <| yr (bK O O ⟨om, om⟩) <| yr (v_eq O O) <| yr (ax O O) <| yr (ak O O) <| yr (ax O O) <| yo (ak O O) <| fun a Y => G8 ?_
     replace Y := Y.p6 4 5 6 7 9 45 O
     replace U := U.k5 62 O
     refine aA Y O (fun hc8 => ?_) (fun hc8 => ?_)
     ·refine aa fun _ G11 => az 2 Y U [.bool true] O (sizeOf4 _) fun a w15 Y U => G11 <| aq ?_
      exact ⟨_, ⟨O, la, fo, f8 hla hnx AL, O⟩, U.select [0, 1, 2, 3, 4] de⟩
     refine ar <| G7 <| al <| nv Y <| yp O <| yp O <| fun a Y => az 3 Y U [jv xs.1] O (sizeOf3 _) fun a w16 Y U => az 4 Y U [.bool true] O (sizeOf4 _) fun a w17 Y U => ab ?_
     exact ⟨_, ⟨xs.1, true, gy hla AK (yy om), O⟩, U.select [0, 1, 2, 3, 4] de⟩
    rw [hb7] at Y
    have hfo := hb7
    refine nv Y <| yt <| yt <| yt <| yt <| yr (ak O O) <| yr (ak O O) <| yr (ax O O) <| yo (ak O O) <| fun a Y => G8 ?_
    replace Y := Y.p6 4 5 6 7 9 45 O
    replace U := U.k5 62 O
    refine aJ Y O ?_
    refine ar <| G7 <| al <| nv Y <| yp O <| yp O <| fun a Y => az 3 Y U [jv xs.1] O (sizeOf3 _) fun a w18 Y U => az 4 Y U [.bool true] O (sizeOf4 _) fun a w19 Y U => ab ?_
    exact ⟨_, ⟨xs.1, true, gy hla AK (yy om), O⟩, U.select [0, 1, 2, 3, 4] de⟩
   rw [yD hb5] at Y
   refine nv Y <| yt <| yt <| yt <| fun a Y => bX Y fun a Y => bX Y fun a Y => bX Y fun a Y => bX Y fun a Y => bX Y fun a Y => bX Y fun a Y => bX Y fun a Y => nv Y <| yt <| yr (ak O O) <| yo (ak O O) <| fun a Y => G8 ?_
   replace Y := Y.p6 4 5 6 7 9 45 O
   replace U := U.k5 62 O
   refine aJ Y O ?_
   refine ar <| G7 <| al <| nv Y <| yp O <| yp O <| fun a Y => az 3 Y U [jv xs.1] O (sizeOf3 _) fun a w20 Y U => az 4 Y U [.bool true] O (sizeOf4 _) fun a w21 Y U => ab ?_
   exact ⟨_, ⟨xs.1, true, gy hla AK (yy om), O⟩, U.select [0, 1, 2, 3, 4] de⟩
  rw [yD hb3] at Y
  refine nv Y <| yt <| yt <| yt <| yt <| yt <| yt <| yo (ak O O) <| yp O <| yr (ac (v := pq bA0) O kr) <| yr (ld U 0 O O (isAgg3 _) O) <| yr (ld U 2 O O (isAgg3 _) O) <| yr (v_gt O O) <| yr (ay O) <| fun a Y => ?_
  rcases Decidable.em (num < xs.2.n) with hb9 | hb9
  ·rw [yy hb9] at Y
   refine nv Y <| yr (ay O) <| yr (v_eq O O) <| yr (ay O) <| fun a Y => ?_
   rcases Decidable.em (xs.1 = 0) with hb10 | hb10
   ·rw [yy hb10] at Y
    refine nv Y <| yt <| yt <| fun a Y => bX Y fun a Y => bX Y fun a Y => bX Y fun a Y => bX Y fun a Y => nv Y <| yt <| yr (ax O O) <| yr (ax O O) <| yo (ak O O) <| fun a Y => G8 ?_
    replace Y := Y.p6 4 5 6 7 9 45 O
    replace U := U.k5 62 O
    refine aG Y O ?_
    refine aa fun _ G12 => az 2 Y U [.bool true] O (sizeOf4 _) fun a w22 Y U => G12 <| aq ?_
    exact ⟨_, ⟨O, la, fo, f8 hla hnx AL, O⟩, U.select [0, 1, 2, 3, 4] de⟩
   rw [yD hb10] at Y
   refine nv Y <| yr (ld U 5 O O (isAgg4 _) O) <| yr (ay O) <| fun a Y => ?_
   rcases yz (fo) with hb11 | hb11
   ·rw [hb11] at Y
    have hfo := hb11
    refine nv Y <| yr (ld U 4 O O (isAgg3 _) O) <| yr (ay O) <| yr (bK O O ⟨om, om⟩) <| yr (v_eq O O) <| yr (ax O O) <| yr (ak O O) <| yr (ax O O) <| yo (ak O O) <| fun a Y => G8 ?_
    replace Y := Y.p6 4 5 6 7 9 45 O
    replace U := U.k5 62 O
    refine aA Y O (fun hc12 => ?_) (fun hc12 => ?_)
    ·refine aa fun _ G13 => az 2 Y U [.bool true] O (sizeOf4 _) fun a w23 Y U => G13 <| aq ?_
     exact ⟨_, ⟨O, la, fo, f8 hla hnx AL, O⟩, U.select [0, 1, 2, 3, 4] de⟩
    refine ar <| G7 <| al <| nv Y <| yp O <| yp O <| fun a Y => az 3 Y U [jv xs.1] O (sizeOf3 _) fun a w24 Y U => az 4 Y U [.bool false] O (sizeOf4 _) fun a w25 Y U => ab ?_
    exact ⟨_, ⟨xs.1, false, gy hla AK (yD om), O⟩, U.select [0, 1, 2, 3, 4] de⟩
   rw [hb11] at Y
   have hfo := hb11
   refine nv Y <| yt <| yt <| yt <| yt <| yr (ak O O) <| yr (ak O O) <| yr (ax O O) <| yo (ak O O) <| fun a Y => G8 ?_
   replace Y := Y.p6 4 5 6 7 9 45 O
   replace U := U.k5 62 O
   refine aJ Y O ?_
   refine ar <| G7 <| al <| nv Y <| yp O <| yp O <| fun a Y => az 3 Y U [jv xs.1] O (sizeOf3 _) fun a w26 Y U => az 4 Y U [.bool false] O (sizeOf4 _) fun a w27 Y U => ab ?_
   exact ⟨_, ⟨xs.1, false, gy hla AK (yD om), O⟩, U.select [0, 1, 2, 3, 4] de⟩
  rw [yD hb9] at Y
  refine nv Y <| yt <| yt <| yt <| fun a Y => bX Y fun a Y => bX Y fun a Y => bX Y fun a Y => bX Y fun a Y => bX Y fun a Y => bX Y fun a Y => bX Y fun a Y => nv Y <| yt <| yr (ak O O) <| yo (ak O O) <| fun a Y => G8 ?_
  replace Y := Y.p6 4 5 6 7 9 45 O
  replace U := U.k5 62 O
  refine aJ Y O ?_
  refine ar <| G7 <| al <| nv Y <| yp O <| yp O <| fun a Y => az 3 Y U [jv xs.1] O (sizeOf3 _) fun a w28 Y U => az 4 Y U [.bool false] O (sizeOf4 _) fun a w29 Y U => ab ?_
  exact ⟨_, ⟨xs.1, false, gy hla AK (yD om), O⟩, U.select [0, 1, 2, 3, 4] de⟩
 ·rintro D pre _ _ a w30 ⟨rfl, rfl⟩ ⟨la, fo, hla, rfl⟩ U Y
  replace Y := Y.p9 0 1 2 3 4 5 6 10 11 O
  replace U := U.n7 O
  refine G3 <| aa fun _ G14 => nv Y <| yo (ac (v := pq w0.hz) O kr) <| yo (ac (v := po w0.hz 1) O kr) <| yo (ld U 1 O O (isAgg3 _) O) <| yo (v_eq O O) <| fun a Y => az 3 Y U [.bool (decide (hd.n = 0))] O (sizeOf4 _) fun a w31 Y U => G14 ?_
  replace Y := Y.p1 4 O
  replace U := U.k6 63 O
  refine aq ?_
  have hD := U.g 0 rfl
  replace U := U.unmark (i := 0) (o' := .deferred none) O
  replace U := U.n5 O
  refine cx Y hD results58 (ai O (aK (U.g 2 O) (isAgg4 _)) ag) ?_
  exact ⟨by simp only [retv]; rw [eU, sR hla]; try rfl, U.ext⟩
 ·rintro D _ pre _ _ a w32 rfl ⟨rfl, la, fo, hhit, rfl⟩ U Y
  replace Y := Y.p9 0 1 2 3 4 5 6 10 11 O
  replace U := U.n7 O
  refine aq ?_
  have hD := U.g 0 rfl
  replace U := U.unmark (i := 0) (o' := .deferred none) O
  replace U := U.n6 O
  refine cx Y hD results58 (ai O (aK (U.g 2 O) (isAgg4 _)) ag) ?_
  exact ⟨by simp only [retv]; rw [eU, hhit]; try rfl, U.ext⟩
theorem iA (key : By) (hd : Hd) (iv : Value) (L : List Itw) (num : Int) (w0 : World) (hiv : ItsAt w0 iv L) (hpf : ∀ x ∈ L, x.m.pf.length ≤ 1000) (hchk : checkP sha key hd (itsM L) = true) (hnum : 0 ≤ num ∧ num ≤ 99999999) (hk0 : (blk 0 (kOf.map wv) 258).ok w0) :
  Ret Tryz.prog 25 #[sv key, .agg #[jv hd.c, jv hd.n, sv hd.root, sv hd.tag, iv], jv num] w0 fun v w => v = .bool (lackF hd.n num (-1) false (itsM L)) ∧ Ext No w0 w := by
 have hok := ja hchk
 refine Ao func25 O ntmps25 (lb O) fun a Y U => aa fun _ G1 => aV Y U O [jv hd.c, jv hd.n, sv hd.root, sv hd.tag, iv] O fun a w1 Y U => wla Y O fun a Y => G1 <| aa fun _ G2 => nv Y <| yp O <| yo (ap (U.g 0 O) O (isAgg50 _) (sizeOf50 _)) <| fun a Y => aw Y U call52 O (cJ hchk (eC key hd iv L _ (cC U hiv) hpf (U.keepb hk0))) fun a w2 Y U => nv Y <| yp O <| yr (ay O) <| fun a Y => aF Y U call49 O (cJ (show inB num 0 99999999 = true from by simp only [inB, yw, yB]; omega) (dm num 0 99999999 _)) fun a w3 Y U => nv Y <| yo (ax O O) <| yp O <| yr (ap (U.g 0 O) O (isAgg50 _) (sizeOf50 _)) <| yr (ay O) <| fun a Y => aF Y U call58 O (nI hd iv L num _ (cC U hiv) hok) fun a w4 Y U => nv Y <| yo (ax O O) <| yq O <| fun a Y => G2 ?_
 replace Y := Y.p1 6 O
 replace U := U.k0 0 O
 refine aq <| am Y results25 (ae O ag) ?_
 exact ⟨by rfl, U.ext⟩
end Go.Proofs.YtliklcmddmpdfaaGreatDoor
