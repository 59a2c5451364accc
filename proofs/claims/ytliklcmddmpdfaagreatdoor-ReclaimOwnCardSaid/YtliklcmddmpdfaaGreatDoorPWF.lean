/- Texts joined: WshO, WshS, RefI, LgA, WshV, RefV, RefJ, RefK. -/
import Derived.Test.YtliklcmddmpdfaaGreatDoorPWE
import Derived.Test.YtliklcmddmpdfaaGreatDoorPWB
import Derived.Test.YtliklcmddmpdfaaGreatDoorPWD
import Derived.Test.YtliklcmddmpdfaaGreatDoorPWA
set_option linter.unusedVariables false
set_option linter.unusedSimpArgs false
set_option maxRecDepth 4000
set_option maxHeartbeats 4000000
namespace Go.Proofs.YtliklcmddmpdfaaGreatDoor
open Go.RowKit Go.PW _root_.Go.Proofs.Tryz
def kdI (x : Int) (r : By) : Option By := match rdI r with
 | some (n, q) => if n = x then some q else none
 | none => none
def dgI (r : By) : Option (By × By) := if 32 ≤ r.length then some (r.take 32, r.drop 32) else none
section
variable {α : Type} {r q g : By} {x n : Int}
theorem lx (h : kdI x r = some q) : rdI r = some (x, q) := by
 unfold kdI at h
 split at h
 ·rename_i n q2 hq
  split at h
  ·rename_i e; cases h; rw [hq, e]
  ·cases h
 ·cases h
theorem nP (h : kdI x r = none) : rdI r = none ∨ ∃ n q, rdI r = some (n, q) ∧ ¬ n = x := by
 unfold kdI at h
 split at h
 ·rename_i n q2 hq
  split at h
  ·cases h
  ·rename_i e; exact .inr ⟨n, q2, hq, e⟩
 ·rename_i hq; exact .inl hq
theorem oJ {k : By → Option α} (h : kdI x r = some q) : kindI x r k = k q := by
 unfold kindI; rw [cT (lx h), yR rfl]
theorem mH {k : By → Option α} (h : kdI x r = none) : kindI x r k = none := by
 unfold kindI
 rcases nP h with h | ⟨n, q, h, e⟩
 ·exact cN h
 ·rw [cT h, yO e]
theorem mu {k : By → By → Option α} (h : dgI r = some (g, q)) : getD32 r k = k g q := by
 unfold dgI at h; unfold getD32
 split at h
 ·rename_i hl; cases h; rw [yR hl]
 ·cases h
theorem kL {k : By → By → Option α} (h : dgI r = none) : getD32 r k = none := by
 unfold dgI at h; unfold getD32
 split at h
 ·cases h
 ·rename_i hl; rw [yO hl]
theorem dj (h : rdI r = some (n, q)) : q <:+ r := by
 obtain ⟨_, rfl⟩ := eh h; exact List.suffix_append _ _
theorem rl (h : kdI x r = some q) : q <:+ r := dj (lx h)
theorem re (h : dgI r = some (g, q)) : q <:+ r := by
 unfold dgI at h
 split at h
 ·cases h; exact List.drop_suffix _ _
 ·cases h
end
theorem yn {s r r2 : By} {n z : Int} {w0 : World} (hz : z = ((s.length - r.length : Nat) : Int)) (hsf : r <:+ s) (hsl : s.length ≤ 1000000) (hq : rdI r = some (n, r2)) :
  Ret Tryz.prog 63 #[sv s, jv z] w0 fun v w => v = .tuple #[jv n, jv ((s.length - r2.length : Nat) : Int), jv 0] ∧ Ext No w0 w := by
 subst hz
 have := iF s (s.length - r.length) w0 om hsl
 unfold intV at this
 rw [← List.suffix_iff_eq_drop.1 hsf, hq] at this
 exact this
theorem wZ {s r : By} {z : Int} {w0 : World} (hz : z = ((s.length - r.length : Nat) : Int)) (hsf : r <:+ s) (hsl : s.length ≤ 1000000) (hq : rdI r = none) :
  Ret Tryz.prog 63 #[sv s, jv z] w0 fun v w => v = .tuple #[jv 0, jv 0, jv 10] ∧ Ext No w0 w := by
 subst hz
 have := iF s (s.length - r.length) w0 om hsl
 unfold intV at this
 rw [← List.suffix_iff_eq_drop.1 hsf, hq] at this
 exact this
theorem cq {M : Nat → Prop} {w0 : World} (b : Nat) (s r r2 : By) (n z : Int) (ws : World) (hz : z = ((s.length - r.length : Nat) : Int)) (hsf : r <:+ s) (hsl : s.length ≤ 1000000) (hq : rdI r = some (n, r2)) (U : St M w0 [blk b [sv s, jv z] 174] ws) :
  Ret Tryz.prog 99 #[pq b] ws fun u w => u = jv n ∧ St M w0 [blk b [sv s, jv ((s.length - r2.length : Nat) : Int)] 174] w := by
 refine aC func99 O ntmps99 (lb O) fun a Y => ?_
 replace Y := Y.p1 0 O
 skip
 refine aa fun _ G1 => wla Y O fun a Y => G1 <| ah fun _ G2 => aH (aI fun w1 hxz => ?_)
 replace U := U.grow hxz
 refine aR (k := 0) 8 [3, 7] Y ?_
 refine bL 8 (Y.p2 0 2 O) U <| pl_m O <| pl_v (aT O) <| pl_v (ac (v := pq b) O kr) <| pl_w (fun U => ld U 0 O O (isAgg9 _) O) <| pl_m O <| pl_v (aT O) <| pl_v (ac (v := po b 1) O kr) <| pl_w (fun U => ld U 0 O O (isAgg3 _) O) fun a w2 Y U => ?_
 replace Y := Y.p4 0 2 10 14 O
 refine ab <| aL (k := 8) 10 [9] ?_
 refine aw Y U call63 O (yn hz hsf hsl hq) fun a w3 Y U => wlm Y O fun a Y => ab <| aR (k := 10) 15 [12, 14] Y ?_
 refine bL 5 (Y.p6 0 2 10 14 15 6 O) U <| pl_v (ao O O) <| pl_v (ao O O) <| pl_v (ao O O) <| pl_v (cz O) <| pl_v (cz O) fun a w4 Y U => ?_
 replace Y := Y.p5 0 2 18 3 4 O
 refine ab <| aL (k := 15) 16 [15] ?_
 refine wla Y O fun a Y => ab <| aS <| G2 <| ah fun _ G3 => aa fun _ G4 => nv Y <| yp O <| yo ((v_ne O O).asb (b' := false) O) <| fun a Y => G4 <| aJ Y O ?_
 refine ar <| G3 <| aa fun _ G5 => nv Y <| yp O <| yp O <| yo (aT O) <| yo (ac (v := po b 1) O kr) <| fun a Y => az 0 Y U [sv s, jv ((s.length - r2.length : Nat) : Int)] O (sizeOf3 _) fun a w5 Y U => G5 ?_
 refine aa fun _ G6 => nv (Y.p2 2 3 O) <| yp O <| yq O <| fun a Y => G6 <| aq <| am Y results99 (ae O ag) ?_
 exact ⟨O, U.select [0] de⟩
theorem cd {M : Nat → Prop} {w0 : World} (b : Nat) (s r  : By) (z : Int) (ws : World) (hz : z = ((s.length - r.length : Nat) : Int)) (hsf : r <:+ s) (hsl : s.length ≤ 1000000) (hq : rdI r = none) (U : St M w0 [blk b [sv s, jv z] 174] ws) :
  Pan Tryz.prog 99 #[pq b] ws fun c w => c = [{ v := .iface 171 (.agg #[]), recovered := false }] ∧ St M w0 [blk b [sv s, jv z] 174] w := by
 refine nk func99 O ntmps99 (lb O) fun a Y => ?_
 replace Y := Y.p1 0 O
 skip
 refine aa fun _ G1 => wla Y O fun a Y => G1 <| ah fun _ G2 => aH (aI fun w1 hxz => ?_)
 replace U := U.grow hxz
 refine aR (k := 0) 8 [3, 7] Y ?_
 refine bL 8 (Y.p2 0 2 O) U <| pl_m O <| pl_v (aT O) <| pl_v (ac (v := pq b) O kr) <| pl_w (fun U => ld U 0 O O (isAgg9 _) O) <| pl_m O <| pl_v (aT O) <| pl_v (ac (v := po b 1) O kr) <| pl_w (fun U => ld U 0 O O (isAgg3 _) O) fun a w2 Y U => ?_
 replace Y := Y.p4 0 2 10 14 O
 refine ab <| aL (k := 8) 10 [9] ?_
 refine aw Y U call63 O (wZ hz hsf hsl hq) fun a w3 Y U => wlm Y O fun a Y => ab <| aR (k := 10) 15 [12, 14] Y ?_
 refine bL 5 (Y.p6 0 2 10 14 15 6 O) U <| pl_v (ao O O) <| pl_v (ao O O) <| pl_v (ao O O) <| pl_v (cz O) <| pl_v (cz O) fun a w4 Y U => ?_
 replace Y := Y.p5 0 2 18 3 4 O
 refine ab <| aL (k := 15) 16 [15] ?_
 refine wla Y O fun a Y => ab <| aS <| G2 <| ah fun _ G3 => aa fun _ G4 => nv Y <| yp O <| yo ((v_ne O O).asb (b' := true) O) <| fun a Y => G4 <| aG Y O ?_
 refine bF <| aU 2 ?_
 refine nv Y <| yo (aW (v := .agg #[]) O kr) <| yo (cV O underlying171) <| fun a Y => ab <| dO Y O ?_
 exact eN (X := fun c w => c = [{ v := .iface 171 (.agg #[]), recovered := false }] ∧ St M w0 [blk b [sv s, jv z] 174] w) Y ⟨O, U.select [0] de⟩
theorem ri {M : Nat → Prop} {w0 : World} (b : Nat) (s r r2 : By) (x z : Int) (ws : World) (hz : z = ((s.length - r.length : Nat) : Int)) (hsf : r <:+ s) (hsl : s.length ≤ 1000000) (hq : kdI x r = some r2) (U : St M w0 [blk b [sv s, jv z] 174] ws) :
  Ret Tryz.prog 101 #[pq b, jv x] ws fun u w => u = .tuple #[] ∧ St M w0 [blk b [sv s, jv ((s.length - r2.length : Nat) : Int)] 174] w := by
 refine aC func101 O ntmps101 (lb O) fun a Y => ?_
 replace Y := Y.p2 0 1 O
 skip
 refine aa fun _ G1 => wlm Y O fun a Y => bc (R := fun u e' => u = jv x ∧ e' = blk b [sv s, jv ((s.length - r2.length : Nat) : Int)] 174) 0 Y U O de call99 O (fun h => (cq b s _ r2 x _ _ hz hsf hsl (lx hq) h).mono fun u w ⟨h1, h2⟩ => ⟨_, ⟨h1, O⟩, h2⟩) ?_
 clear Y U
 rintro a w1 _ _ ⟨rfl, rfl⟩ Y U
 try dsimp only at U
 replace U := U.n1 O
 refine nv Y <| yp O <| yo ((v_ne O O).asb (b' := false) sm) <| fun a Y => G1 <| aJ Y O ?_
 refine ar <| cS Y results101 ag ?_
 exact ⟨O, U.select [0] de⟩
theorem nM {M : Nat → Prop} {w0 : World} (b : Nat) (s r  : By) (x z : Int) (ws : World) (hz : z = ((s.length - r.length : Nat) : Int)) (hsf : r <:+ s) (hsl : s.length ≤ 1000000) (hq : kdI x r = none) (U : St M w0 [blk b [sv s, jv z] 174] ws) :
  Pan Tryz.prog 101 #[pq b, jv x] ws fun c w => c = [{ v := .iface 171 (.agg #[]), recovered := false }] ∧ Ext M w0 w := by
 refine nk func101 O ntmps101 (lb O) fun a Y => ?_
 replace Y := Y.p2 0 1 O
 skip
 refine bU fun _ G1 hP1 => aU 1 ?_
 refine wlm Y O fun a Y => ab ?_
 rcases nP hq with hq1 | ⟨n, r2, hq1, hnx⟩
 ·refine cL (X := fun c => c = [{ v := .iface 171 (.agg #[]), recovered := false }]) 0 Y U O call99 O (fun h => (cd b s r z _ hz hsf hsl hq1 h).mono fun e w ⟨c, h1, h2, h3⟩ => ⟨c, h1, _, h2, h3⟩) ?_
  clear U
  rintro _ w1 e9 rfl U
  refine hP1 _ _ _ ?_
  exact eN (X := fun c w => c = [{ v := .iface 171 (.agg #[]), recovered := false }] ∧ Ext M w0 w) Y ⟨O, U.ext⟩
 refine aU 1 ?_
 refine bc (R := fun u e' => u = jv n ∧ e' = blk b [sv s, jv ((s.length - r2.length : Nat) : Int)] 174) 0 Y U O de call99 O (fun h => (cq b s _ r2 n _ _ hz hsf hsl hq1 h).mono fun u w ⟨h1, h2⟩ => ⟨_, ⟨h1, O⟩, h2⟩) ?_
 clear Y U
 rintro a w2 _ _ ⟨rfl, rfl⟩ Y U
 try dsimp only at U
 replace U := U.n1 O
 refine ab <| dx <| nv Y <| yp O <| yo (v_ne O O) <| fun a Y => G1 <| cG Y O (fun hc1 => ?_) (fun hc1 => ?_)
 ·refine bF <| aU 2 ?_
  refine nv Y <| yo (aW (v := .agg #[]) O kr) <| yo (cV O underlying171) <| fun a Y => ab <| dO Y O ?_
  exact eN (X := fun c w => c = [{ v := .iface 171 (.agg #[]), recovered := false }] ∧ Ext M w0 w) Y ⟨O, U.ext⟩
 exact absurd hc1 hnx
theorem uJ {r g q : By} (h : dgI r = some (g, q)) : 32 ≤ r.length ∧ q.length + 32 = r.length ∧ g = r.take 32 := by
 unfold dgI at h
 split at h
 ·rename_i hl; cases h; exact ⟨hl, by rw [yV]; omega, rfl⟩
 ·cases h
theorem xM {s r g q : By} (h : dgI r = some (g, q)) (hs : r <:+ s) : g = (s.drop (s.length - r.length)).take (s.length - r.length + 32 - (s.length - r.length)) := by
 rw [← List.suffix_iff_eq_drop.1 hs, show s.length - r.length + 32 - (s.length - r.length) = 32 from by omega]; exact (uJ h).2.2
theorem dg_no {r : By} (h : dgI r = none) : r.length < 32 := by
 unfold dgI at h
 split at h
 ·cases h
 ·omega
theorem tC {M : Nat → Prop} {w0 : World} (b : Nat) (s r r2 g : By) (z : Int) (ws : World) (hz : z = ((s.length - r.length : Nat) : Int)) (hsf : r <:+ s) (hsl : s.length ≤ 1000000) (hq : dgI r = some (g, r2)) (U : St M w0 [blk b [sv s, jv z] 174] ws) :
  Ret Tryz.prog 102 #[pq b] ws fun u w => u = sv g ∧ St M w0 [blk b [sv s, jv ((s.length - r2.length : Nat) : Int)] 174] w := by
 have hsu := hsf.length_le
 obtain ⟨hd1, hd2, -⟩ := uJ hq
 have hzz := hz
 refine aC func102 O ntmps102 (lb O) fun a Y => ?_
 replace Y := Y.p1 0 O
 skip
 refine aa fun _ G1 => wla Y O fun a Y => G1 <| ah fun _ G2 => ah fun _ G3 => aH (aI fun w1 hxz => ?_)
 replace U := U.grow hxz
 refine aR (k := 0) 9 [4, 8] Y ?_
 refine bL 9 (Y.p2 0 2 O) U <| pl_m O <| pl_v (aT O) <| pl_v (ac (v := pq b) O kr) <| pl_w (fun U => ld U 0 O O (isAgg9 _) O) <| pl_v (bd O O (runUnderlying9 _)) <| pl_m O <| pl_v (aT O) <| pl_v (ac (v := po b 1) O kr) <| pl_w (fun U => ld U 0 O O (isAgg3 _) O) fun a w2 Y U => ?_
 replace Y := Y.p4 0 2 8 12 O
 refine ab <| aL (k := 9) 11 [10] ?_
 refine nv Y <| yo (bK O O ⟨om, om⟩) <| yo ((v_lt O O).asb (b' := false) (by exact yD (by rw [hz]; omega))) <| fun a Y => ab <| aS <| G3 <| aJ Y O ?_
 refine ar <| G2 <| ah fun _ G4 => aH (aI fun w3 hxz => ?_)
 replace U := U.grow hxz
 refine aR (k := 0) 13 [3, 7, 12] Y ?_
 refine bL 13 (Y.p6 0 2 8 12 13 14 O) U <| pl_m O <| pl_v (aT O) <| pl_v (ac (v := pq b) O kr) <| pl_w (fun U => ld U 0 O O (isAgg9 _) O) <| pl_m O <| pl_v (aT O) <| pl_v (ac (v := po b 1) O kr) <| pl_w (fun U => ld U 0 O O (isAgg3 _) O) <| pl_m O <| pl_v (aT O) <| pl_v (ac (v := po b 1) O kr) <| pl_w (fun U => ld U 0 O O (isAgg3 _) O) <| pl_v ((aM O O ⟨om, om⟩).asi (m' := ((s.length - r2.length : Nat) : Int)) om) fun a w4 Y U => ?_
 replace Y := Y.p5 0 2 20 24 29 O
 refine ab <| aL (k := 13) 15 [14] ?_
 refine nv Y <| yo ((iH (xs := s) (l := s.length - r.length) (h := s.length - r.length + 32) O O O underlying9 (.inr ⟨.i64, yZ (fun i => some (jv i)) hz⟩) (.inr ⟨.i64, yZ (fun i => some (jv i)) om⟩) om om).as (v' := sv g) (by rw [← xM hq hsf])) <| yq O <| fun a Y => ab <| aS <| G4 <| aa fun _ G5 => nv Y <| yp O <| yo (aT O) <| yo (ac (v := po b 1) O kr) <| yo (ld U 0 O O (isAgg3 _) O) <| yo ((aM O O ⟨om, om⟩).asi (m' := ((s.length - r2.length : Nat) : Int)) om) <| yo (aT O) <| yo (ac (v := po b 1) O kr) <| fun a Y => az 0 Y U [sv s, jv ((s.length - r2.length : Nat) : Int)] O (sizeOf3 _) fun a w5 Y U => G5 ?_
 refine aa fun _ G6 => nv (Y.p2 2 3 O) <| yp O <| yq O <| fun a Y => G6 <| aq <| am Y results102 (ae O ag) ?_
 exact ⟨O, U.select [0] de⟩
theorem qW {M : Nat → Prop} {w0 : World} (b : Nat) (s r  : By) (z : Int) (ws : World) (hz : z = ((s.length - r.length : Nat) : Int)) (hsf : r <:+ s) (hsl : s.length ≤ 1000000) (hq : dgI r = none) (U : St M w0 [blk b [sv s, jv z] 174] ws) :
  Pan Tryz.prog 102 #[pq b] ws fun c w => c = [{ v := .iface 171 (.agg #[]), recovered := false }] ∧ St M w0 [blk b [sv s, jv z] 174] w := by
 have hsu := hsf.length_le
 have hd1 := dg_no hq
 refine nk func102 O ntmps102 (lb O) fun a Y => ?_
 replace Y := Y.p1 0 O
 skip
 refine aa fun _ G1 => wla Y O fun a Y => G1 <| ah fun _ G2 => ah fun _ G3 => aH (aI fun w1 hxz => ?_)
 replace U := U.grow hxz
 refine aR (k := 0) 9 [4, 8] Y ?_
 refine bL 9 (Y.p2 0 2 O) U <| pl_m O <| pl_v (aT O) <| pl_v (ac (v := pq b) O kr) <| pl_w (fun U => ld U 0 O O (isAgg9 _) O) <| pl_v (bd O O (runUnderlying9 _)) <| pl_m O <| pl_v (aT O) <| pl_v (ac (v := po b 1) O kr) <| pl_w (fun U => ld U 0 O O (isAgg3 _) O) fun a w2 Y U => ?_
 replace Y := Y.p4 0 2 8 12 O
 refine ab <| aL (k := 9) 11 [10] ?_
 refine nv Y <| yo (bK O O ⟨om, om⟩) <| yo ((v_lt O O).asb (b' := true) (by exact yy (by rw [hz]; omega))) <| fun a Y => ab <| aS <| G3 <| aG Y O ?_
 refine bF <| aU 2 ?_
 refine nv Y <| yo (aW (v := .agg #[]) O kr) <| yo (cV O underlying171) <| fun a Y => ab <| dO Y O ?_
 exact eN (X := fun c w => c = [{ v := .iface 171 (.agg #[]), recovered := false }] ∧ St M w0 [blk b [sv s, jv z] 174] w) Y ⟨O, U.select [0] de⟩
end Go.Proofs.YtliklcmddmpdfaaGreatDoor
namespace Go.Proofs.YtliklcmddmpdfaaGreatDoor
open Go.RowKit Go.PW _root_.Go.Proofs.Tryz
theorem rz {P : Program} {w : World} {L : List (Nat × Value)} {dst : Option Tmp} {T T' ty : TypeId} {pos : String} {af : Array Edge} {x y : Operand} (hx : ev L x = some .nilIface) (hy : ev L y = some .nilIface) (hr : (binOp .eql T .nilIface .nilIface).run P w = .ok (.bool true) w) (hg : (eqGuard .eql T x y .nilIface .nilIface).run P w = .ok () w) : OpV P ⟨dst, .binOp .eql T x y T', ty, pos, af, none⟩ L w (.bool true) :=
 ⟨rfl, fun N df a h => by
  simp only [execOp, h.eval hx, h.eval hy, y7, hg, hr, yP]; rfl⟩
theorem bY {M : Nat → Prop} {w0 : World} (b2 b3 b4 : Nat) (c0 c1 c2 c3 c4 c5 c6 c7 c8 c9 c10 : Value) (ws : World) (U : St M w0 [blk b2 [c0, c1, c2, c3, c4, c5, c6, c7, c8] 90, blk b3 [c9] 91, blk b4 [c10] 41] ws) :
  CallsDIn Fence.wide 0 Tryz.prog 98 #[pq b2, pq b3, pq b4] (.panicking [{ v := .iface 171 (.agg #[]), recovered := false }]) ws fun e u' w => u' = (.panicking [{ v := .iface 171 (.agg #[]), recovered := true }]) ∧ ∃ x, e = .returned x ∧ St M w0 [blk b2 [jv 0, jv 0, jv 0, jv 0, jv 0, jv 0, jv 0, jv 0, sv ([] : By)] 90, blk b3 [.slice none 0 0] 91, blk b4 [jv 150] 41] w  := by
 refine nb (args := [pq b2, pq b3, pq b4]) func98 O ntmps98 (lb O) O O de (fun _ _ => O) (.inr ⟨O, O⟩) fun a Y => ?_
 replace Y := Y.p4 6 0 1 2 O
 skip
 refine au <| aa fun _ G1 => wlv Y (kP O O kr kr) fun a Y => G1 <| aJ Y O ?_
 refine aa fun _ G2 => nv Y <| yo (iV O underlying171) <| yo (ao O O) <| yo (ao O O) <| fun a Y => G2 <| aG Y O ?_
 refine aa fun _ G3 => aD Y U (zeroValue171 _) [] O fun a w1 Y U => az 0 Y U [] O (sizeOf171 _) fun a w2 Y U => G3 ?_
 replace U := U.k3 14 O
 refine al <| wlv (Y.p3 0 1 2 O) (aW (v := .agg #[jv 0, jv 0, jv 0, jv 0, jv 0, jv 0, jv 0, jv 0, .string (⟨#[]⟩)]) O kr) fun a Y => az 0 Y U [jv 0, jv 0, jv 0, jv 0, jv 0, jv 0, jv 0, jv 0, .string (⟨#[]⟩)] O (sizeOf90 _) fun a w3 Y U => az 1 Y U [.slice none 0 0] O (sizeOf91 _) fun a w4 Y U => az 2 Y U [jv 150] O (sizeOf41 _) fun a w5 Y U => ab ?_
 refine iw Y results98 ag ?_
 exact U.select [0, 1, 2] de
theorem vD (b2 b3 b4 : Nat) (ws : World) :
  CallsDIn Fence.wide 0 Tryz.prog 98 #[pq b2, pq b3, pq b4] .returning ws fun e u' w => u' = .returning ∧ ∃ x, e = .returned x ∧ Ext No ws w  := by
 refine nb (args := [pq b2, pq b3, pq b4]) func98 O ntmps98 (lb O) O O de (fun _ _ => O) (.inl ⟨O, O, O⟩) fun a Y => ?_
 replace U : St No ws [] ws := St.init ws
 refine au <| aa fun _ G1 => wlv (Y.p4 6 0 1 2 O) (rz O O kr kr) fun a Y => G1 <| aG Y O ?_
 refine al <| wla Y O fun a Y => ab ?_
 refine iw Y results98 ag ?_
 exact U.ext
theorem oK {M : Nat → Prop} {w0 w : World} (h : Ext M w0 w) : St M w0 [join []] w :=
 ⟨h, fun e he => by rw [yT.1 he]; exact ⟨⟨fun e he => (by cases he), List.Pairwise.nil⟩, fun k ⟨e, he, _⟩ => (by cases he)⟩, List.pairwise_singleton _ _⟩
theorem uf {l : List Pxy} {w : Wsh} {r : By} (h : r ≠ []) : shutH l w r = none := yO fun hh => h hh.1
theorem vp {l : List Pxy} {w : Wsh} {r : By} (h : bV w l = false) : shutH l w r = none := yO fun hh => by rw [h] at hh; cases hh.2
theorem tM {l : List Pxy} {w : Wsh} {r : By} (h1 : r = []) (h2 : bV w l = true) : shutH l w r = some (w, l) := yR ⟨h1, h2⟩
theorem wQ {n a b : Int} (h : inB n a b = true) : a ≤ n ∧ n ≤ b := by simpa [inB] using h
theorem kn (s : By) (w0 : World) (hsl : s.length ≤ 1000000) :
  Ret Tryz.prog 39 #[sv s] w0 fun v w => (∃ x ps, bH s = some (x, ps) ∧ MemR w0 (fun lv : Value => .tuple #[.agg x.cells.toArray, lv, jv 0]) (fun lv => [own lv 144 7 (ps.map Pxy.cells)]) (fun _ => True) v w) ∨ (bH s = none ∧ v = .tuple #[.agg #[jv 0, jv 0, jv 0, jv 0, jv 0, jv 0, jv 0, jv 0, sv ([] : By)], .slice none 0 0, jv 150] ∧ Ext No w0 w) := by
 refine qX func39 O ntmps39 (lb O) fun a Y => ?_
 replace U : St No w0 [] w0 := St.init w0
 refine aa fun _ G1 => aD (Y.p1 0 O) U (zeroValue90 _) [jv 0, jv 0, jv 0, jv 0, jv 0, jv 0, jv 0, jv 0, .string (⟨#[]⟩)] O fun a w1 Y U => aD Y U (zeroValue91 _) [.slice none 0 0] O fun a w2 Y U => aD Y U (zeroValue41 _) [jv 0] O fun a w3 Y U => G1 <| aa fun _ G2 => wlv Y (cb O O) fun a Y => oc Y O fun a Y => G2 <| aa fun _ G3 => nv Y <| yp O <| yo (aW (v := .agg #[sv s, jv 0]) O kr) <| fun a Y => aV Y U O [sv s, jv 0] O fun a w4 Y U => wla Y O fun a Y => G3 ?_
 have hd0 : bH s = getI s (fun n r => if inB n 0 4 = true then rdPxys n.toNat [] r tailH else none) := rfl
 refine bU fun _ G4 hP4 => aU 1 ?_
 refine wlm Y O fun a Y => ab ?_
 rcases hq1 : rdI s with _ | ⟨n3, r2⟩
 ·have hdn := hd0.trans (cN hq1)
  refine cL (X := fun c => c = [{ v := .iface 171 (.agg #[]), recovered := false }]) 0 Y U O call99 O (fun h => (cd w3.hz s s  0 _ sm (List.suffix_refl s) hsl hq1 h).mono fun e w ⟨c, h1, h2, h3⟩ => ⟨c, h1, _, h2, h3⟩) ?_
  clear U
  rintro _ w5 e9 rfl U
  refine hP4 _ _ _ ?_
  replace U := U.s3 [3, 2, 1] de rfl
  exact bt Y call98 (bY _ _ _ _ _ _ _ _ _ _ _ _ _ _ _ U) results39 (fun w9 U => ⟨(ai O (aY (U.g 0 O) (isAgg90 _) (sizeOf90 _)) (ai O (aK (U.g 1 O) (isAgg91 _)) (ai O (aK (U.g 2 O) (isAgg41 _)) ag))), .inr ⟨hdn, O, U.ext⟩⟩)
 have hd4 := hd0.trans (cT hq1)
 have hs5 := (dj hq1).trans (List.suffix_refl s)
 refine aU 1 ?_
 refine bc (R := fun u e' => u = jv n3 ∧ e' = blk w3.hz [sv s, jv ((s.length - r2.length : Nat) : Int)] 174) 0 Y U O de call99 O (fun h => (cq w3.hz s s r2 n3 0 _ sm (List.suffix_refl s) hsl hq1 h).mono fun u w ⟨h1, h2⟩ => ⟨_, ⟨h1, O⟩, h2⟩) ?_
 clear Y U
 rintro a w6 _ _ ⟨rfl, rfl⟩ Y U
 try dsimp only at U
 replace U := U.n4 O
 refine ab <| dx <| wla Y O fun a Y => G4 ?_
 replace Y := Y.p6 0 2 3 4 5 6 O
 refine ah fun _ G5 => aa fun _ G6 => wlm Y O fun a Y => aw Y U call100 O (cX n3 0 4 _) fun a w7 Y U => wlv Y (bB O) fun a Y => G6 <| bC Y O (fun hc6 => ?_) (fun hc6 => ?_)
 ·try simp only [qz] at hc6
  have hdn : bH s = none := hd4.trans (yO (by rw [hc6]; decide))
  refine bF <| aU 2 ?_
  refine nv Y <| yo (aW (v := .agg #[]) O kr) <| yo (cV O underlying171) <| fun a Y => ab <| dO Y O ?_
  replace U := U.s3 [3, 2, 1] de rfl
  exact bt Y call98 (bY _ _ _ _ _ _ _ _ _ _ _ _ _ _ _ U) results39 (fun w9 U => ⟨(ai O (aY (U.g 0 O) (isAgg90 _) (sizeOf90 _)) (ai O (aK (U.g 1 O) (isAgg91 _)) (ai O (aK (U.g 2 O) (isAgg41 _)) ag))), .inr ⟨hdn, O, U.ext⟩⟩)
 try simp only [qz] at hc6
 have hd9 := hd4.trans (yR hc6)
 have hib := wQ hc6
 refine ar <| G5 <| ah fun _ G7 => ?_
 replace U : St No w0 [own (.slice none 0 0) 144 7 (([] : List Pxy).map Pxy.cells), blk w3.hz [sv s, jv ((s.length - r2.length : Nat) : Int)] 174, blk w2.hz [jv 0] 41, blk w1.hz [.slice none 0 0] 91, blk w0.hz [jv 0, jv 0, jv 0, jv 0, jv 0, jv 0, jv 0, jv 0, .string (⟨#[]⟩)] 90] w7 := U.nil_own
 refine aa fun _ G8 => nv Y <| yp O <| yp O <| fun a Y => G8 <| au <| aZ (fun m a w => ∃ (k : Nat) (acc : List Pxy) (r : By) (lv : Value), m = n3.toNat - k ∧ ((k : Int) ≤ n3) ∧ (bH s = rdPxys (n3.toNat - k) acc r tailH) ∧ (r <:+ s) ∧ (acc.length = k) ∧ Fr 98 [(0, sv s), (2, pq w0.hz), (3, pq w1.hz), (4, pq w2.hz), (5, pq w3.hz), (23, jv n3), (24, jv (k : Int))] [{ target := .fn (.func 98) #[pq w0.hz, pq w1.hz, pq w2.hz], args := #[] }] a ∧ St No w0 [blk w3.hz [sv s, jv ((s.length - r.length : Nat) : Int)] 174, blk w0.hz [jv 0, jv 0, jv 0, jv 0, jv 0, jv 0, jv 0, jv 0, .string (⟨#[]⟩)] 90, blk w1.hz [lv] 91, blk w2.hz [jv 0] 41, own lv 144 7 ((acc).map Pxy.cells)] w) _ ⟨0, [], r2, .slice none 0 0, O, om, hd9, hs5, O, Y.pick [0, 2, 3, 4, 5, 23, 24], U.select [1, 4, 3, 2, 0] de⟩ ?_
 rintro _ a w8 ⟨k, acc, r, lv, rfl, hk, hdl, hsl2, hal, Y, U⟩
 refine aa fun _ G9 => wlv Y (v_lt O O) fun a Y => G9 <| ah fun _ G10 => aA Y O (fun hc7 => ?_) (fun hc7 => ?_)
 ·obtain ⟨mm, hm⟩ : ∃ m, n3.toNat - k = m + 1 := ⟨n3.toNat - k - 1, by omega⟩
  rw [hm] at hdl
  have hdk : bH s = kindI 2 r _ := hdl
  refine ar <| G10 <| ah fun _ G11 => au <| aa fun _ G12 => aD Y U (zeroValue144 _) [jv 0, jv 0, jv 0, jv 0, jv 0, jv 0, .string (⟨#[]⟩)] O fun a w9 Y U => G12 <| bU fun _ G13 hP13 => aU 1 ?_
  refine wlm Y O fun a Y => ab ?_
  rcases hq8 : kdI 2 r with _ | r9
  ·have hdn := hdk.trans (mH hq8)
   refine cL (X := fun c => c = [{ v := .iface 171 (.agg #[]), recovered := false }]) 1 Y U O call101 O (fun h => (nM w3.hz s r  2 ((s.length - r.length : Nat) : Int) _ O hsl2 hsl hq8 h).mono fun e w ⟨c, h1, h2, h3⟩ => ⟨c, h1, _, h2, oK h3⟩) ?_
   clear U
   rintro _ w10 e9 rfl U
   refine hP13 _ _ _ ?_
   replace U := U.s3 [2, 3, 4] de rfl
   exact bt Y call98 (bY _ _ _ _ _ _ _ _ _ _ _ _ _ _ _ U) results39 (fun w9 U => ⟨(ai O (aY (U.g 0 O) (isAgg90 _) (sizeOf90 _)) (ai O (aK (U.g 1 O) (isAgg91 _)) (ai O (aK (U.g 2 O) (isAgg41 _)) ag))), .inr ⟨hdn, O, U.ext⟩⟩)
  have hd10 := hdk.trans (oJ hq8)
  have hs11 := (rl hq8).trans hsl2
  refine aU 1 ?_
  refine bc (R := fun u e' => u = .tuple #[] ∧ e' = blk w3.hz [sv s, jv ((s.length - r9.length : Nat) : Int)] 174) 1 Y U O de call101 O (fun h => (ri w3.hz s r r9 2 ((s.length - r.length : Nat) : Int) _ O hsl2 hsl hq8 h).mono fun u w ⟨h1, h2⟩ => ⟨_, ⟨h1, O⟩, h2⟩) ?_
  clear Y U
  rintro a w11 _ _ ⟨rfl, rfl⟩ Y U
  try dsimp only at U
  replace U := U.n6 O
  refine ab <| dx <| G13 <| ah fun _ G14 => aa fun _ G15 => nv Y <| yo (ac (v := pq w8.hz) O kr) <| yo (ac (v := po w8.hz 1) O kr) <| yo (ac (v := po w8.hz 2) O kr) <| yo (ac (v := po w8.hz 2) O kr) <| yo (ac (v := po w8.hz 2) O kr) <| yo (ac (v := po w8.hz 3) O kr) <| yo (ac (v := po w8.hz 4) O kr) <| yo (ac (v := po w8.hz 4) O kr) <| yo (ac (v := po w8.hz 4) O kr) <| yo (ac (v := po w8.hz 5) O kr) <| yo (aW (v := .agg #[pq w8.hz, po w8.hz 1, po w8.hz 2, po w8.hz 3, po w8.hz 4, po w8.hz 5]) O kr) <| yp O <| fun a Y => G15 ?_
  replace Y := Y.p10 0 2 3 4 5 23 24 7 38 39 O
  refine au <| ez 7 ?_
  refine bR <| aa fun _ G16 => wlv Y ((v_lt O O).asb (b' := true) O) fun a Y => G16 <| ah fun _ G17 => aG Y O ?_
  refine ar <| G17 <| ah fun _ G18 => au <| aa fun _ G19 => nv Y <| yo (cj (v := pq w8.hz) O O kr) <| yq O <| fun a Y => G19 <| bF <| aU 2 ?_
  refine nv Y <| yp O <| yp O <| fun a Y => ab ?_
  rcases hq12 : rdI r9 with _ | ⟨n14, r13⟩
  ·have hdn := hd10.trans (cN hq12)
   refine cL (X := fun c => c = [{ v := .iface 171 (.agg #[]), recovered := false }]) 1 Y U O call99 O (fun h => (cd w3.hz s r9  ((s.length - r9.length : Nat) : Int) _ O hs11 hsl hq12 h).mono fun e w ⟨c, h1, h2, h3⟩ => ⟨c, h1, _, h2, h3⟩) ?_
   clear U
   rintro _ w12 e9 rfl U
   replace U := U.s3 [2, 3, 4] de rfl
   exact bt Y call98 (bY _ _ _ _ _ _ _ _ _ _ _ _ _ _ _ U) results39 (fun w9 U => ⟨(ai O (aY (U.g 0 O) (isAgg90 _) (sizeOf90 _)) (ai O (aK (U.g 1 O) (isAgg91 _)) (ai O (aK (U.g 2 O) (isAgg41 _)) ag))), .inr ⟨hdn, O, U.ext⟩⟩)
  have hd15 := hd10.trans (cT hq12)
  have hs16 := (dj hq12).trans hs11
  refine aU 1 ?_
  refine bc (R := fun u e' => u = jv n14 ∧ e' = blk w3.hz [sv s, jv ((s.length - r13.length : Nat) : Int)] 174) 1 Y U O de call99 O (fun h => (cq w3.hz s r9 r13 n14 ((s.length - r9.length : Nat) : Int) _ O hs11 hsl hq12 h).mono fun u w ⟨h1, h2⟩ => ⟨_, ⟨h1, O⟩, h2⟩) ?_
  clear Y U
  rintro a w13 _ _ ⟨rfl, rfl⟩ Y U
  try dsimp only at U
  replace U := U.n6 O
  refine ab <| dx <| wlv Y (aT O) fun a Y => az 0 Y U [jv n14, jv 0, jv 0, jv 0, jv 0, jv 0, .string (⟨#[]⟩)] O (sizeOf3 _) fun a w14 Y U => ab <| G18 <| al <| nv (Y.p10 0 2 3 4 5 23 24 7 38 39 O) <| yo ((aM O O de).asi (m' := 1) O) <| yp O <| fun a Y => ab <| bR <| aa fun _ G20 => wlv Y ((v_lt O O).asb (b' := true) O) fun a Y => G20 <| ah fun _ G21 => aG Y O ?_
  refine ar <| G21 <| ah fun _ G22 => au <| aa fun _ G23 => nv Y <| yo (cj (v := po w8.hz 1) O O kr) <| yq O <| fun a Y => G23 <| bF <| aU 2 ?_
  refine nv Y <| yp O <| yp O <| fun a Y => ab ?_
  rcases hq17 : rdI r13 with _ | ⟨n19, r18⟩
  ·have hdn := hd15.trans (cN hq17)
   refine cL (X := fun c => c = [{ v := .iface 171 (.agg #[]), recovered := false }]) 1 Y U O call99 O (fun h => (cd w3.hz s r13  ((s.length - r13.length : Nat) : Int) _ O hs16 hsl hq17 h).mono fun e w ⟨c, h1, h2, h3⟩ => ⟨c, h1, _, h2, h3⟩) ?_
   clear U
   rintro _ w15 e9 rfl U
   replace U := U.s3 [2, 3, 4] de rfl
   exact bt Y call98 (bY _ _ _ _ _ _ _ _ _ _ _ _ _ _ _ U) results39 (fun w9 U => ⟨(ai O (aY (U.g 0 O) (isAgg90 _) (sizeOf90 _)) (ai O (aK (U.g 1 O) (isAgg91 _)) (ai O (aK (U.g 2 O) (isAgg41 _)) ag))), .inr ⟨hdn, O, U.ext⟩⟩)
  have hd20 := hd15.trans (cT hq17)
  have hs21 := (dj hq17).trans hs16
  refine aU 1 ?_
  refine bc (R := fun u e' => u = jv n19 ∧ e' = blk w3.hz [sv s, jv ((s.length - r18.length : Nat) : Int)] 174) 1 Y U O de call99 O (fun h => (cq w3.hz s r13 r18 n19 ((s.length - r13.length : Nat) : Int) _ O hs16 hsl hq17 h).mono fun u w ⟨h1, h2⟩ => ⟨_, ⟨h1, O⟩, h2⟩) ?_
  clear Y U
  rintro a w16 _ _ ⟨rfl, rfl⟩ Y U
  try dsimp only at U
  replace U := U.n6 O
  refine ab <| dx <| wlv Y (aT O) fun a Y => az 0 Y U [jv n14, jv n19, jv 0, jv 0, jv 0, jv 0, .string (⟨#[]⟩)] O (sizeOf3 _) fun a w17 Y U => ab <| G22 <| al <| nv (Y.p10 0 2 3 4 5 23 24 7 38 39 O) <| yo ((aM O O de).asi (m' := 2) O) <| yp O <| fun a Y => ab <| bR <| aa fun _ G24 => wlv Y ((v_lt O O).asb (b' := true) O) fun a Y => G24 <| ah fun _ G25 => aG Y O ?_
  refine ar <| G25 <| ah fun _ G26 => au <| aa fun _ G27 => nv Y <| yo (cj (v := po w8.hz 2) O O kr) <| yq O <| fun a Y => G27 <| bF <| aU 2 ?_
  refine nv Y <| yp O <| yp O <| fun a Y => ab ?_
  rcases hq22 : rdI r18 with _ | ⟨n24, r23⟩
  ·have hdn := hd20.trans (cN hq22)
   refine cL (X := fun c => c = [{ v := .iface 171 (.agg #[]), recovered := false }]) 1 Y U O call99 O (fun h => (cd w3.hz s r18  ((s.length - r18.length : Nat) : Int) _ O hs21 hsl hq22 h).mono fun e w ⟨c, h1, h2, h3⟩ => ⟨c, h1, _, h2, h3⟩) ?_
   clear U
   rintro _ w18 e9 rfl U
   replace U := U.s3 [2, 3, 4] de rfl
   exact bt Y call98 (bY _ _ _ _ _ _ _ _ _ _ _ _ _ _ _ U) results39 (fun w9 U => ⟨(ai O (aY (U.g 0 O) (isAgg90 _) (sizeOf90 _)) (ai O (aK (U.g 1 O) (isAgg91 _)) (ai O (aK (U.g 2 O) (isAgg41 _)) ag))), .inr ⟨hdn, O, U.ext⟩⟩)
  have hd25 := hd20.trans (cT hq22)
  have hs26 := (dj hq22).trans hs21
  refine aU 1 ?_
  refine bc (R := fun u e' => u = jv n24 ∧ e' = blk w3.hz [sv s, jv ((s.length - r23.length : Nat) : Int)] 174) 1 Y U O de call99 O (fun h => (cq w3.hz s r18 r23 n24 ((s.length - r18.length : Nat) : Int) _ O hs21 hsl hq22 h).mono fun u w ⟨h1, h2⟩ => ⟨_, ⟨h1, O⟩, h2⟩) ?_
  clear Y U
  rintro a w19 _ _ ⟨rfl, rfl⟩ Y U
  try dsimp only at U
  replace U := U.n6 O
  refine ab <| dx <| wlv Y (aT O) fun a Y => az 0 Y U [jv n14, jv n19, jv n24, jv 0, jv 0, jv 0, .string (⟨#[]⟩)] O (sizeOf3 _) fun a w20 Y U => ab <| G26 <| al <| nv (Y.p10 0 2 3 4 5 23 24 7 38 39 O) <| yo ((aM O O de).asi (m' := 3) O) <| yp O <| fun a Y => ab <| bR <| aa fun _ G28 => wlv Y ((v_lt O O).asb (b' := true) O) fun a Y => G28 <| ah fun _ G29 => aG Y O ?_
  refine ar <| G29 <| ah fun _ G30 => au <| aa fun _ G31 => nv Y <| yo (cj (v := po w8.hz 3) O O kr) <| yq O <| fun a Y => G31 <| bF <| aU 2 ?_
  refine nv Y <| yp O <| yp O <| fun a Y => ab ?_
  rcases hq27 : rdI r23 with _ | ⟨n29, r28⟩
  ·have hdn := hd25.trans (cN hq27)
   refine cL (X := fun c => c = [{ v := .iface 171 (.agg #[]), recovered := false }]) 1 Y U O call99 O (fun h => (cd w3.hz s r23  ((s.length - r23.length : Nat) : Int) _ O hs26 hsl hq27 h).mono fun e w ⟨c, h1, h2, h3⟩ => ⟨c, h1, _, h2, h3⟩) ?_
   clear U
   rintro _ w21 e9 rfl U
   replace U := U.s3 [2, 3, 4] de rfl
   exact bt Y call98 (bY _ _ _ _ _ _ _ _ _ _ _ _ _ _ _ U) results39 (fun w9 U => ⟨(ai O (aY (U.g 0 O) (isAgg90 _) (sizeOf90 _)) (ai O (aK (U.g 1 O) (isAgg91 _)) (ai O (aK (U.g 2 O) (isAgg41 _)) ag))), .inr ⟨hdn, O, U.ext⟩⟩)
  have hd30 := hd25.trans (cT hq27)
  have hs31 := (dj hq27).trans hs26
  refine aU 1 ?_
  refine bc (R := fun u e' => u = jv n29 ∧ e' = blk w3.hz [sv s, jv ((s.length - r28.length : Nat) : Int)] 174) 1 Y U O de call99 O (fun h => (cq w3.hz s r23 r28 n29 ((s.length - r23.length : Nat) : Int) _ O hs26 hsl hq27 h).mono fun u w ⟨h1, h2⟩ => ⟨_, ⟨h1, O⟩, h2⟩) ?_
  clear Y U
  rintro a w22 _ _ ⟨rfl, rfl⟩ Y U
  try dsimp only at U
  replace U := U.n6 O
  refine ab <| dx <| wlv Y (aT O) fun a Y => az 0 Y U [jv n14, jv n19, jv n24, jv n29, jv 0, jv 0, .string (⟨#[]⟩)] O (sizeOf3 _) fun a w23 Y U => ab <| G30 <| al <| nv (Y.p10 0 2 3 4 5 23 24 7 38 39 O) <| yo ((aM O O de).asi (m' := 4) O) <| yp O <| fun a Y => ab <| bR <| aa fun _ G32 => wlv Y ((v_lt O O).asb (b' := true) O) fun a Y => G32 <| ah fun _ G33 => aG Y O ?_
  refine ar <| G33 <| ah fun _ G34 => au <| aa fun _ G35 => nv Y <| yo (cj (v := po w8.hz 4) O O kr) <| yq O <| fun a Y => G35 <| bF <| aU 2 ?_
  refine nv Y <| yp O <| yp O <| fun a Y => ab ?_
  rcases hq32 : rdI r28 with _ | ⟨n34, r33⟩
  ·have hdn := hd30.trans (cN hq32)
   refine cL (X := fun c => c = [{ v := .iface 171 (.agg #[]), recovered := false }]) 1 Y U O call99 O (fun h => (cd w3.hz s r28  ((s.length - r28.length : Nat) : Int) _ O hs31 hsl hq32 h).mono fun e w ⟨c, h1, h2, h3⟩ => ⟨c, h1, _, h2, h3⟩) ?_
   clear U
   rintro _ w24 e9 rfl U
   replace U := U.s3 [2, 3, 4] de rfl
   exact bt Y call98 (bY _ _ _ _ _ _ _ _ _ _ _ _ _ _ _ U) results39 (fun w9 U => ⟨(ai O (aY (U.g 0 O) (isAgg90 _) (sizeOf90 _)) (ai O (aK (U.g 1 O) (isAgg91 _)) (ai O (aK (U.g 2 O) (isAgg41 _)) ag))), .inr ⟨hdn, O, U.ext⟩⟩)
  have hd35 := hd30.trans (cT hq32)
  have hs36 := (dj hq32).trans hs31
  refine aU 1 ?_
  refine bc (R := fun u e' => u = jv n34 ∧ e' = blk w3.hz [sv s, jv ((s.length - r33.length : Nat) : Int)] 174) 1 Y U O de call99 O (fun h => (cq w3.hz s r28 r33 n34 ((s.length - r28.length : Nat) : Int) _ O hs31 hsl hq32 h).mono fun u w ⟨h1, h2⟩ => ⟨_, ⟨h1, O⟩, h2⟩) ?_
  clear Y U
  rintro a w25 _ _ ⟨rfl, rfl⟩ Y U
  try dsimp only at U
  replace U := U.n6 O
  refine ab <| dx <| wlv Y (aT O) fun a Y => az 0 Y U [jv n14, jv n19, jv n24, jv n29, jv n34, jv 0, .string (⟨#[]⟩)] O (sizeOf3 _) fun a w26 Y U => ab <| G34 <| al <| nv (Y.p10 0 2 3 4 5 23 24 7 38 39 O) <| yo ((aM O O de).asi (m' := 5) O) <| yp O <| fun a Y => ab <| bR <| aa fun _ G36 => wlv Y ((v_lt O O).asb (b' := true) O) fun a Y => G36 <| ah fun _ G37 => aG Y O ?_
  refine ar <| G37 <| ah fun _ G38 => au <| aa fun _ G39 => nv Y <| yo (cj (v := po w8.hz 5) O O kr) <| yq O <| fun a Y => G39 <| bF <| aU 2 ?_
  refine nv Y <| yp O <| yp O <| fun a Y => ab ?_
  rcases hq37 : rdI r33 with _ | ⟨n39, r38⟩
  ·have hdn := hd35.trans (cN hq37)
   refine cL (X := fun c => c = [{ v := .iface 171 (.agg #[]), recovered := false }]) 1 Y U O call99 O (fun h => (cd w3.hz s r33  ((s.length - r33.length : Nat) : Int) _ O hs36 hsl hq37 h).mono fun e w ⟨c, h1, h2, h3⟩ => ⟨c, h1, _, h2, h3⟩) ?_
   clear U
   rintro _ w27 e9 rfl U
   replace U := U.s3 [2, 3, 4] de rfl
   exact bt Y call98 (bY _ _ _ _ _ _ _ _ _ _ _ _ _ _ _ U) results39 (fun w9 U => ⟨(ai O (aY (U.g 0 O) (isAgg90 _) (sizeOf90 _)) (ai O (aK (U.g 1 O) (isAgg91 _)) (ai O (aK (U.g 2 O) (isAgg41 _)) ag))), .inr ⟨hdn, O, U.ext⟩⟩)
  have hd40 := hd35.trans (cT hq37)
  have hs41 := (dj hq37).trans hs36
  refine aU 1 ?_
  refine bc (R := fun u e' => u = jv n39 ∧ e' = blk w3.hz [sv s, jv ((s.length - r38.length : Nat) : Int)] 174) 1 Y U O de call99 O (fun h => (cq w3.hz s r33 r38 n39 ((s.length - r33.length : Nat) : Int) _ O hs36 hsl hq37 h).mono fun u w ⟨h1, h2⟩ => ⟨_, ⟨h1, O⟩, h2⟩) ?_
  clear Y U
  rintro a w28 _ _ ⟨rfl, rfl⟩ Y U
  try dsimp only at U
  replace U := U.n6 O
  refine ab <| dx <| wlv Y (aT O) fun a Y => az 0 Y U [jv n14, jv n19, jv n24, jv n29, jv n34, jv n39, .string (⟨#[]⟩)] O (sizeOf3 _) fun a w29 Y U => ab <| G38 <| al <| nv (Y.p10 0 2 3 4 5 23 24 7 38 39 O) <| yo ((aM O O de).asi (m' := 6) O) <| yp O <| fun a Y => ab <| bR <| aa fun _ G40 => wlv Y ((v_lt O O).asb (b' := false) O) fun a Y => G40 <| ah fun _ G41 => aJ Y O ?_
  refine aP <| G14 <| bU fun _ G42 hP42 => aU 1 ?_
  refine wlm Y O fun a Y => ab ?_
  rcases hq42 : dgI r38 with _ | ⟨n44, r43⟩
  ·have hdn := hd40.trans (kL hq42)
   refine cL (X := fun c => c = [{ v := .iface 171 (.agg #[]), recovered := false }]) 1 Y U O call102 O (fun h => (qW w3.hz s r38  ((s.length - r38.length : Nat) : Int) _ O hs41 hsl hq42 h).mono fun e w ⟨c, h1, h2, h3⟩ => ⟨c, h1, _, h2, h3⟩) ?_
   clear U
   rintro _ w30 e9 rfl U
   refine hP42 _ _ _ ?_
   replace U := U.s3 [2, 3, 4] de rfl
   exact bt Y call98 (bY _ _ _ _ _ _ _ _ _ _ _ _ _ _ _ U) results39 (fun w9 U => ⟨(ai O (aY (U.g 0 O) (isAgg90 _) (sizeOf90 _)) (ai O (aK (U.g 1 O) (isAgg91 _)) (ai O (aK (U.g 2 O) (isAgg41 _)) ag))), .inr ⟨hdn, O, U.ext⟩⟩)
  have hd45 := hd40.trans (mu hq42)
  have hs46 := (re hq42).trans hs41
  refine aU 1 ?_
  refine bc (R := fun u e' => u = sv n44 ∧ e' = blk w3.hz [sv s, jv ((s.length - r43.length : Nat) : Int)] 174) 1 Y U O de call102 O (fun h => (tC w3.hz s r38 r43 n44 ((s.length - r38.length : Nat) : Int) _ O hs41 hsl hq42 h).mono fun u w ⟨h1, h2⟩ => ⟨_, ⟨h1, O⟩, h2⟩) ?_
  clear Y U
  rintro a w31 _ _ ⟨rfl, rfl⟩ Y U
  try dsimp only at U
  replace U := U.n6 O
  refine ab <| dx <| wlv Y (ac (v := po w8.hz 6) O kr) fun a Y => az 0 Y U [jv n14, jv n19, jv n24, jv n29, jv n34, jv n39, sv n44] O (sizeOf9 _) fun a w32 Y U => G42 ?_
  refine al <| nv (Y.p8 0 2 3 4 5 23 24 7 O) <| yo (ld U 3 O O (isAgg91 _) O) <| yo (ap (U.g 0 O) O (isAgg144 _) (sizeOf144 _)) <| fun a Y => aE (E := 144) (sz := 7) O [[jv n14, jv n19, jv n24, jv n29, jv n34, jv n39, sv n44]] kr sm O de de Y U fun a w33 Y U => ba (i := 6) (sT := 91) (inf := Tryz.t144) (z := .agg #[jv 0, jv 0, jv 0, jv 0, jv 0, jv 0, .string (⟨#[]⟩)]) (b := 0) (off := 0) (m := 0) (c := 0) O O O (U.ow 0 O) sm underlying91 O O O O de Az Bc Bc de Y U fun a w34 s47 Y U _ => ?_
  replace U : St No w0 [own (.slice (some ⟨w32.hz, 0, none⟩) 1 1) 144 7 ([[jv n14, jv n19, jv n24, jv n29, jv n34, jv n39, sv n44]]), blk w8.hz [jv n14, jv n19, jv n24, jv n29, jv n34, jv n39, sv n44] 144, blk w3.hz [sv s, jv ((s.length - r43.length : Nat) : Int)] 174, blk w0.hz [jv 0, jv 0, jv 0, jv 0, jv 0, jv 0, jv 0, jv 0, .string (⟨#[]⟩)] 90, blk w1.hz [lv] 91, blk w2.hz [jv 0] 41, own s47 144 7 ((acc ++ [(⟨n14, n19, n24, n29, n34, n39, n44⟩ : Pxy)]).map Pxy.cells)] w34 := by rw [zu]; exact U
  refine ce 4 Y U (U.ow 6 O) O O O (sizeOf91 _) (lb O) (ds := [s47]) O O fun a w35 Y U => ab <| G11 <| al <| nv Y <| yo (aM O O ⟨om, om⟩) <| yp O <| fun a Y => ab ?_
  refine ⟨_, ?_, k + 1, acc ++ [(⟨n14, n19, n24, n29, n34, n39, n44⟩ : Pxy)], r43, s47, O, om, (by rw [show n3.toNat - (k + 1) = mm from by omega]; exact hd45), hs46, (by rw [yx, hal]; rfl), Y.pick [0, 2, 3, 4, 5, 23, 24], U.select [2, 3, 4, 5, 6] de⟩
  omega
 have hm : n3.toNat - k = 0 := by omega
 rw [hm] at hdl
 have hdk : bH s = kindI 1 r _ := hdl
 refine aP <| G7 <| bU fun _ G43 hP43 => aU 1 ?_
 refine wlm Y O fun a Y => ab ?_
 rcases hq48 : kdI 1 r with _ | r49
 ·have hdn := hdk.trans (mH hq48)
  refine cL (X := fun c => c = [{ v := .iface 171 (.agg #[]), recovered := false }]) 0 Y U O call101 O (fun h => (nM w3.hz s r  1 ((s.length - r.length : Nat) : Int) _ O hsl2 hsl hq48 h).mono fun e w ⟨c, h1, h2, h3⟩ => ⟨c, h1, _, h2, oK h3⟩) ?_
  clear U
  rintro _ w36 e9 rfl U
  refine hP43 _ _ _ ?_
  replace U := U.s3 [1, 2, 3] de rfl
  exact bt Y call98 (bY _ _ _ _ _ _ _ _ _ _ _ _ _ _ _ U) results39 (fun w9 U => ⟨(ai O (aY (U.g 0 O) (isAgg90 _) (sizeOf90 _)) (ai O (aK (U.g 1 O) (isAgg91 _)) (ai O (aK (U.g 2 O) (isAgg41 _)) ag))), .inr ⟨hdn, O, U.ext⟩⟩)
 have hd50 := hdk.trans (oJ hq48)
 have hs51 := (rl hq48).trans hsl2
 refine aU 1 ?_
 refine bc (R := fun u e' => u = .tuple #[] ∧ e' = blk w3.hz [sv s, jv ((s.length - r49.length : Nat) : Int)] 174) 0 Y U O de call101 O (fun h => (ri w3.hz s r r49 1 ((s.length - r.length : Nat) : Int) _ O hsl2 hsl hq48 h).mono fun u w ⟨h1, h2⟩ => ⟨_, ⟨h1, O⟩, h2⟩) ?_
 clear Y U
 rintro a w37 _ _ ⟨rfl, rfl⟩ Y U
 try dsimp only at U
 replace U := U.n5 O
 refine ab <| dx <| G43 <| ah fun _ G44 => aa fun _ G45 => nv (Y.p5 0 2 3 4 5 O) <| yo (ac (v := pq w0.hz) O kr) <| yo (ac (v := po w0.hz 1) O kr) <| yo (ac (v := po w0.hz 2) O kr) <| yo (ac (v := po w0.hz 2) O kr) <| yo (ac (v := po w0.hz 2) O kr) <| yo (ac (v := po w0.hz 3) O kr) <| yo (ac (v := po w0.hz 4) O kr) <| yo (ac (v := po w0.hz 5) O kr) <| yo (ac (v := po w0.hz 6) O kr) <| yo (ac (v := po w0.hz 6) O kr) <| yo (ac (v := po w0.hz 6) O kr) <| yo (ac (v := po w0.hz 7) O kr) <| yo (aW (v := .agg #[pq w0.hz, po w0.hz 1, po w0.hz 2, po w0.hz 3, po w0.hz 4, po w0.hz 5, po w0.hz 6, po w0.hz 7]) O kr) <| yp O <| fun a Y => G45 ?_
 replace Y := Y.p7 0 2 3 4 5 69 70 O
 refine au <| ez 9 ?_
 refine bR <| aa fun _ G46 => wlv Y ((v_lt O O).asb (b' := true) O) fun a Y => G46 <| ah fun _ G47 => aG Y O ?_
 refine ar <| G47 <| ah fun _ G48 => au <| aa fun _ G49 => nv Y <| yo (cj (v := pq w0.hz) O O kr) <| yq O <| fun a Y => G49 <| bF <| aU 2 ?_
 refine nv Y <| yp O <| yp O <| fun a Y => ab ?_
 rcases hq52 : rdI r49 with _ | ⟨n54, r53⟩
 ·have hdn := hd50.trans (cN hq52)
  refine cL (X := fun c => c = [{ v := .iface 171 (.agg #[]), recovered := false }]) 0 Y U O call99 O (fun h => (cd w3.hz s r49  ((s.length - r49.length : Nat) : Int) _ O hs51 hsl hq52 h).mono fun e w ⟨c, h1, h2, h3⟩ => ⟨c, h1, _, h2, h3⟩) ?_
  clear U
  rintro _ w38 e9 rfl U
  replace U := U.s3 [1, 2, 3] de rfl
  exact bt Y call98 (bY _ _ _ _ _ _ _ _ _ _ _ _ _ _ _ U) results39 (fun w9 U => ⟨(ai O (aY (U.g 0 O) (isAgg90 _) (sizeOf90 _)) (ai O (aK (U.g 1 O) (isAgg91 _)) (ai O (aK (U.g 2 O) (isAgg41 _)) ag))), .inr ⟨hdn, O, U.ext⟩⟩)
 have hd55 := hd50.trans (cT hq52)
 have hs56 := (dj hq52).trans hs51
 refine aU 1 ?_
 refine bc (R := fun u e' => u = jv n54 ∧ e' = blk w3.hz [sv s, jv ((s.length - r53.length : Nat) : Int)] 174) 0 Y U O de call99 O (fun h => (cq w3.hz s r49 r53 n54 ((s.length - r49.length : Nat) : Int) _ O hs51 hsl hq52 h).mono fun u w ⟨h1, h2⟩ => ⟨_, ⟨h1, O⟩, h2⟩) ?_
 clear Y U
 rintro a w39 _ _ ⟨rfl, rfl⟩ Y U
 try dsimp only at U
 replace U := U.n5 O
 refine ab <| dx <| wlv Y (aT O) fun a Y => az 1 Y U [jv n54, jv 0, jv 0, jv 0, jv 0, jv 0, jv 0, jv 0, .string (⟨#[]⟩)] O (sizeOf3 _) fun a w40 Y U => ab <| G48 <| al <| nv (Y.p7 0 2 3 4 5 69 70 O) <| yo ((aM O O de).asi (m' := 1) O) <| yp O <| fun a Y => ab <| bR <| aa fun _ G50 => wlv Y ((v_lt O O).asb (b' := true) O) fun a Y => G50 <| ah fun _ G51 => aG Y O ?_
 refine ar <| G51 <| ah fun _ G52 => au <| aa fun _ G53 => nv Y <| yo (cj (v := po w0.hz 1) O O kr) <| yq O <| fun a Y => G53 <| bF <| aU 2 ?_
 refine nv Y <| yp O <| yp O <| fun a Y => ab ?_
 rcases hq57 : rdI r53 with _ | ⟨n59, r58⟩
 ·have hdn := hd55.trans (cN hq57)
  refine cL (X := fun c => c = [{ v := .iface 171 (.agg #[]), recovered := false }]) 0 Y U O call99 O (fun h => (cd w3.hz s r53  ((s.length - r53.length : Nat) : Int) _ O hs56 hsl hq57 h).mono fun e w ⟨c, h1, h2, h3⟩ => ⟨c, h1, _, h2, h3⟩) ?_
  clear U
  rintro _ w41 e9 rfl U
  replace U := U.s3 [1, 2, 3] de rfl
  exact bt Y call98 (bY _ _ _ _ _ _ _ _ _ _ _ _ _ _ _ U) results39 (fun w9 U => ⟨(ai O (aY (U.g 0 O) (isAgg90 _) (sizeOf90 _)) (ai O (aK (U.g 1 O) (isAgg91 _)) (ai O (aK (U.g 2 O) (isAgg41 _)) ag))), .inr ⟨hdn, O, U.ext⟩⟩)
 have hd60 := hd55.trans (cT hq57)
 have hs61 := (dj hq57).trans hs56
 refine aU 1 ?_
 refine bc (R := fun u e' => u = jv n59 ∧ e' = blk w3.hz [sv s, jv ((s.length - r58.length : Nat) : Int)] 174) 0 Y U O de call99 O (fun h => (cq w3.hz s r53 r58 n59 ((s.length - r53.length : Nat) : Int) _ O hs56 hsl hq57 h).mono fun u w ⟨h1, h2⟩ => ⟨_, ⟨h1, O⟩, h2⟩) ?_
 clear Y U
 rintro a w42 _ _ ⟨rfl, rfl⟩ Y U
 try dsimp only at U
 replace U := U.n5 O
 refine ab <| dx <| wlv Y (aT O) fun a Y => az 1 Y U [jv n54, jv n59, jv 0, jv 0, jv 0, jv 0, jv 0, jv 0, .string (⟨#[]⟩)] O (sizeOf3 _) fun a w43 Y U => ab <| G52 <| al <| nv (Y.p7 0 2 3 4 5 69 70 O) <| yo ((aM O O de).asi (m' := 2) O) <| yp O <| fun a Y => ab <| bR <| aa fun _ G54 => wlv Y ((v_lt O O).asb (b' := true) O) fun a Y => G54 <| ah fun _ G55 => aG Y O ?_
 refine ar <| G55 <| ah fun _ G56 => au <| aa fun _ G57 => nv Y <| yo (cj (v := po w0.hz 2) O O kr) <| yq O <| fun a Y => G57 <| bF <| aU 2 ?_
 refine nv Y <| yp O <| yp O <| fun a Y => ab ?_
 rcases hq62 : rdI r58 with _ | ⟨n64, r63⟩
 ·have hdn := hd60.trans (cN hq62)
  refine cL (X := fun c => c = [{ v := .iface 171 (.agg #[]), recovered := false }]) 0 Y U O call99 O (fun h => (cd w3.hz s r58  ((s.length - r58.length : Nat) : Int) _ O hs61 hsl hq62 h).mono fun e w ⟨c, h1, h2, h3⟩ => ⟨c, h1, _, h2, h3⟩) ?_
  clear U
  rintro _ w44 e9 rfl U
  replace U := U.s3 [1, 2, 3] de rfl
  exact bt Y call98 (bY _ _ _ _ _ _ _ _ _ _ _ _ _ _ _ U) results39 (fun w9 U => ⟨(ai O (aY (U.g 0 O) (isAgg90 _) (sizeOf90 _)) (ai O (aK (U.g 1 O) (isAgg91 _)) (ai O (aK (U.g 2 O) (isAgg41 _)) ag))), .inr ⟨hdn, O, U.ext⟩⟩)
 have hd65 := hd60.trans (cT hq62)
 have hs66 := (dj hq62).trans hs61
 refine aU 1 ?_
 refine bc (R := fun u e' => u = jv n64 ∧ e' = blk w3.hz [sv s, jv ((s.length - r63.length : Nat) : Int)] 174) 0 Y U O de call99 O (fun h => (cq w3.hz s r58 r63 n64 ((s.length - r58.length : Nat) : Int) _ O hs61 hsl hq62 h).mono fun u w ⟨h1, h2⟩ => ⟨_, ⟨h1, O⟩, h2⟩) ?_
 clear Y U
 rintro a w45 _ _ ⟨rfl, rfl⟩ Y U
 try dsimp only at U
 replace U := U.n5 O
 refine ab <| dx <| wlv Y (aT O) fun a Y => az 1 Y U [jv n54, jv n59, jv n64, jv 0, jv 0, jv 0, jv 0, jv 0, .string (⟨#[]⟩)] O (sizeOf3 _) fun a w46 Y U => ab <| G56 <| al <| nv (Y.p7 0 2 3 4 5 69 70 O) <| yo ((aM O O de).asi (m' := 3) O) <| yp O <| fun a Y => ab <| bR <| aa fun _ G58 => wlv Y ((v_lt O O).asb (b' := true) O) fun a Y => G58 <| ah fun _ G59 => aG Y O ?_
 refine ar <| G59 <| ah fun _ G60 => au <| aa fun _ G61 => nv Y <| yo (cj (v := po w0.hz 3) O O kr) <| yq O <| fun a Y => G61 <| bF <| aU 2 ?_
 refine nv Y <| yp O <| yp O <| fun a Y => ab ?_
 rcases hq67 : rdI r63 with _ | ⟨n69, r68⟩
 ·have hdn := hd65.trans (cN hq67)
  refine cL (X := fun c => c = [{ v := .iface 171 (.agg #[]), recovered := false }]) 0 Y U O call99 O (fun h => (cd w3.hz s r63  ((s.length - r63.length : Nat) : Int) _ O hs66 hsl hq67 h).mono fun e w ⟨c, h1, h2, h3⟩ => ⟨c, h1, _, h2, h3⟩) ?_
  clear U
  rintro _ w47 e9 rfl U
  replace U := U.s3 [1, 2, 3] de rfl
  exact bt Y call98 (bY _ _ _ _ _ _ _ _ _ _ _ _ _ _ _ U) results39 (fun w9 U => ⟨(ai O (aY (U.g 0 O) (isAgg90 _) (sizeOf90 _)) (ai O (aK (U.g 1 O) (isAgg91 _)) (ai O (aK (U.g 2 O) (isAgg41 _)) ag))), .inr ⟨hdn, O, U.ext⟩⟩)
 have hd70 := hd65.trans (cT hq67)
 have hs71 := (dj hq67).trans hs66
 refine aU 1 ?_
 refine bc (R := fun u e' => u = jv n69 ∧ e' = blk w3.hz [sv s, jv ((s.length - r68.length : Nat) : Int)] 174) 0 Y U O de call99 O (fun h => (cq w3.hz s r63 r68 n69 ((s.length - r63.length : Nat) : Int) _ O hs66 hsl hq67 h).mono fun u w ⟨h1, h2⟩ => ⟨_, ⟨h1, O⟩, h2⟩) ?_
 clear Y U
 rintro a w48 _ _ ⟨rfl, rfl⟩ Y U
 try dsimp only at U
 replace U := U.n5 O
 refine ab <| dx <| wlv Y (aT O) fun a Y => az 1 Y U [jv n54, jv n59, jv n64, jv n69, jv 0, jv 0, jv 0, jv 0, .string (⟨#[]⟩)] O (sizeOf3 _) fun a w49 Y U => ab <| G60 <| al <| nv (Y.p7 0 2 3 4 5 69 70 O) <| yo ((aM O O de).asi (m' := 4) O) <| yp O <| fun a Y => ab <| bR <| aa fun _ G62 => wlv Y ((v_lt O O).asb (b' := true) O) fun a Y => G62 <| ah fun _ G63 => aG Y O ?_
 refine ar <| G63 <| ah fun _ G64 => au <| aa fun _ G65 => nv Y <| yo (cj (v := po w0.hz 4) O O kr) <| yq O <| fun a Y => G65 <| bF <| aU 2 ?_
 refine nv Y <| yp O <| yp O <| fun a Y => ab ?_
 rcases hq72 : rdI r68 with _ | ⟨n74, r73⟩
 ·have hdn := hd70.trans (cN hq72)
  refine cL (X := fun c => c = [{ v := .iface 171 (.agg #[]), recovered := false }]) 0 Y U O call99 O (fun h => (cd w3.hz s r68  ((s.length - r68.length : Nat) : Int) _ O hs71 hsl hq72 h).mono fun e w ⟨c, h1, h2, h3⟩ => ⟨c, h1, _, h2, h3⟩) ?_
  clear U
  rintro _ w50 e9 rfl U
  replace U := U.s3 [1, 2, 3] de rfl
  exact bt Y call98 (bY _ _ _ _ _ _ _ _ _ _ _ _ _ _ _ U) results39 (fun w9 U => ⟨(ai O (aY (U.g 0 O) (isAgg90 _) (sizeOf90 _)) (ai O (aK (U.g 1 O) (isAgg91 _)) (ai O (aK (U.g 2 O) (isAgg41 _)) ag))), .inr ⟨hdn, O, U.ext⟩⟩)
 have hd75 := hd70.trans (cT hq72)
 have hs76 := (dj hq72).trans hs71
 refine aU 1 ?_
 refine bc (R := fun u e' => u = jv n74 ∧ e' = blk w3.hz [sv s, jv ((s.length - r73.length : Nat) : Int)] 174) 0 Y U O de call99 O (fun h => (cq w3.hz s r68 r73 n74 ((s.length - r68.length : Nat) : Int) _ O hs71 hsl hq72 h).mono fun u w ⟨h1, h2⟩ => ⟨_, ⟨h1, O⟩, h2⟩) ?_
 clear Y U
 rintro a w51 _ _ ⟨rfl, rfl⟩ Y U
 try dsimp only at U
 replace U := U.n5 O
 refine ab <| dx <| wlv Y (aT O) fun a Y => az 1 Y U [jv n54, jv n59, jv n64, jv n69, jv n74, jv 0, jv 0, jv 0, .string (⟨#[]⟩)] O (sizeOf3 _) fun a w52 Y U => ab <| G64 <| al <| nv (Y.p7 0 2 3 4 5 69 70 O) <| yo ((aM O O de).asi (m' := 5) O) <| yp O <| fun a Y => ab <| bR <| aa fun _ G66 => wlv Y ((v_lt O O).asb (b' := true) O) fun a Y => G66 <| ah fun _ G67 => aG Y O ?_
 refine ar <| G67 <| ah fun _ G68 => au <| aa fun _ G69 => nv Y <| yo (cj (v := po w0.hz 5) O O kr) <| yq O <| fun a Y => G69 <| bF <| aU 2 ?_
 refine nv Y <| yp O <| yp O <| fun a Y => ab ?_
 rcases hq77 : rdI r73 with _ | ⟨n79, r78⟩
 ·have hdn := hd75.trans (cN hq77)
  refine cL (X := fun c => c = [{ v := .iface 171 (.agg #[]), recovered := false }]) 0 Y U O call99 O (fun h => (cd w3.hz s r73  ((s.length - r73.length : Nat) : Int) _ O hs76 hsl hq77 h).mono fun e w ⟨c, h1, h2, h3⟩ => ⟨c, h1, _, h2, h3⟩) ?_
  clear U
  rintro _ w53 e9 rfl U
  replace U := U.s3 [1, 2, 3] de rfl
  exact bt Y call98 (bY _ _ _ _ _ _ _ _ _ _ _ _ _ _ _ U) results39 (fun w9 U => ⟨(ai O (aY (U.g 0 O) (isAgg90 _) (sizeOf90 _)) (ai O (aK (U.g 1 O) (isAgg91 _)) (ai O (aK (U.g 2 O) (isAgg41 _)) ag))), .inr ⟨hdn, O, U.ext⟩⟩)
 have hd80 := hd75.trans (cT hq77)
 have hs81 := (dj hq77).trans hs76
 refine aU 1 ?_
 refine bc (R := fun u e' => u = jv n79 ∧ e' = blk w3.hz [sv s, jv ((s.length - r78.length : Nat) : Int)] 174) 0 Y U O de call99 O (fun h => (cq w3.hz s r73 r78 n79 ((s.length - r73.length : Nat) : Int) _ O hs76 hsl hq77 h).mono fun u w ⟨h1, h2⟩ => ⟨_, ⟨h1, O⟩, h2⟩) ?_
 clear Y U
 rintro a w54 _ _ ⟨rfl, rfl⟩ Y U
 try dsimp only at U
 replace U := U.n5 O
 refine ab <| dx <| wlv Y (aT O) fun a Y => az 1 Y U [jv n54, jv n59, jv n64, jv n69, jv n74, jv n79, jv 0, jv 0, .string (⟨#[]⟩)] O (sizeOf3 _) fun a w55 Y U => ab <| G68 <| al <| nv (Y.p7 0 2 3 4 5 69 70 O) <| yo ((aM O O de).asi (m' := 6) O) <| yp O <| fun a Y => ab <| bR <| aa fun _ G70 => wlv Y ((v_lt O O).asb (b' := true) O) fun a Y => G70 <| ah fun _ G71 => aG Y O ?_
 refine ar <| G71 <| ah fun _ G72 => au <| aa fun _ G73 => nv Y <| yo (cj (v := po w0.hz 6) O O kr) <| yq O <| fun a Y => G73 <| bF <| aU 2 ?_
 refine nv Y <| yp O <| yp O <| fun a Y => ab ?_
 rcases hq82 : rdI r78 with _ | ⟨n84, r83⟩
 ·have hdn := hd80.trans (cN hq82)
  refine cL (X := fun c => c = [{ v := .iface 171 (.agg #[]), recovered := false }]) 0 Y U O call99 O (fun h => (cd w3.hz s r78  ((s.length - r78.length : Nat) : Int) _ O hs81 hsl hq82 h).mono fun e w ⟨c, h1, h2, h3⟩ => ⟨c, h1, _, h2, h3⟩) ?_
  clear U
  rintro _ w56 e9 rfl U
  replace U := U.s3 [1, 2, 3] de rfl
  exact bt Y call98 (bY _ _ _ _ _ _ _ _ _ _ _ _ _ _ _ U) results39 (fun w9 U => ⟨(ai O (aY (U.g 0 O) (isAgg90 _) (sizeOf90 _)) (ai O (aK (U.g 1 O) (isAgg91 _)) (ai O (aK (U.g 2 O) (isAgg41 _)) ag))), .inr ⟨hdn, O, U.ext⟩⟩)
 have hd85 := hd80.trans (cT hq82)
 have hs86 := (dj hq82).trans hs81
 refine aU 1 ?_
 refine bc (R := fun u e' => u = jv n84 ∧ e' = blk w3.hz [sv s, jv ((s.length - r83.length : Nat) : Int)] 174) 0 Y U O de call99 O (fun h => (cq w3.hz s r78 r83 n84 ((s.length - r78.length : Nat) : Int) _ O hs81 hsl hq82 h).mono fun u w ⟨h1, h2⟩ => ⟨_, ⟨h1, O⟩, h2⟩) ?_
 clear Y U
 rintro a w57 _ _ ⟨rfl, rfl⟩ Y U
 try dsimp only at U
 replace U := U.n5 O
 refine ab <| dx <| wlv Y (aT O) fun a Y => az 1 Y U [jv n54, jv n59, jv n64, jv n69, jv n74, jv n79, jv n84, jv 0, .string (⟨#[]⟩)] O (sizeOf3 _) fun a w58 Y U => ab <| G72 <| al <| nv (Y.p7 0 2 3 4 5 69 70 O) <| yo ((aM O O de).asi (m' := 7) O) <| yp O <| fun a Y => ab <| bR <| aa fun _ G74 => wlv Y ((v_lt O O).asb (b' := true) O) fun a Y => G74 <| ah fun _ G75 => aG Y O ?_
 refine ar <| G75 <| ah fun _ G76 => au <| aa fun _ G77 => nv Y <| yo (cj (v := po w0.hz 7) O O kr) <| yq O <| fun a Y => G77 <| bF <| aU 2 ?_
 refine nv Y <| yp O <| yp O <| fun a Y => ab ?_
 rcases hq87 : rdI r83 with _ | ⟨n89, r88⟩
 ·have hdn := hd85.trans (cN hq87)
  refine cL (X := fun c => c = [{ v := .iface 171 (.agg #[]), recovered := false }]) 0 Y U O call99 O (fun h => (cd w3.hz s r83  ((s.length - r83.length : Nat) : Int) _ O hs86 hsl hq87 h).mono fun e w ⟨c, h1, h2, h3⟩ => ⟨c, h1, _, h2, h3⟩) ?_
  clear U
  rintro _ w59 e9 rfl U
  replace U := U.s3 [1, 2, 3] de rfl
  exact bt Y call98 (bY _ _ _ _ _ _ _ _ _ _ _ _ _ _ _ U) results39 (fun w9 U => ⟨(ai O (aY (U.g 0 O) (isAgg90 _) (sizeOf90 _)) (ai O (aK (U.g 1 O) (isAgg91 _)) (ai O (aK (U.g 2 O) (isAgg41 _)) ag))), .inr ⟨hdn, O, U.ext⟩⟩)
 have hd90 := hd85.trans (cT hq87)
 have hs91 := (dj hq87).trans hs86
 refine aU 1 ?_
 refine bc (R := fun u e' => u = jv n89 ∧ e' = blk w3.hz [sv s, jv ((s.length - r88.length : Nat) : Int)] 174) 0 Y U O de call99 O (fun h => (cq w3.hz s r83 r88 n89 ((s.length - r83.length : Nat) : Int) _ O hs86 hsl hq87 h).mono fun u w ⟨h1, h2⟩ => ⟨_, ⟨h1, O⟩, h2⟩) ?_
 clear Y U
 rintro a w60 _ _ ⟨rfl, rfl⟩ Y U
 try dsimp only at U
 replace U := U.n5 O
 refine ab <| dx <| wlv Y (aT O) fun a Y => az 1 Y U [jv n54, jv n59, jv n64, jv n69, jv n74, jv n79, jv n84, jv n89, .string (⟨#[]⟩)] O (sizeOf3 _) fun a w61 Y U => ab <| G76 <| al <| nv (Y.p7 0 2 3 4 5 69 70 O) <| yo ((aM O O de).asi (m' := 8) O) <| yp O <| fun a Y => ab <| bR <| aa fun _ G78 => wlv Y ((v_lt O O).asb (b' := false) O) fun a Y => G78 <| ah fun _ G79 => aJ Y O ?_
 refine aP <| G44 <| bU fun _ G80 hP80 => aU 1 ?_
 refine wlm Y O fun a Y => ab ?_
 rcases hq92 : dgI r88 with _ | ⟨n94, r93⟩
 ·have hdn := hd90.trans (kL hq92)
  refine cL (X := fun c => c = [{ v := .iface 171 (.agg #[]), recovered := false }]) 0 Y U O call102 O (fun h => (qW w3.hz s r88  ((s.length - r88.length : Nat) : Int) _ O hs91 hsl hq92 h).mono fun e w ⟨c, h1, h2, h3⟩ => ⟨c, h1, _, h2, h3⟩) ?_
  clear U
  rintro _ w62 e9 rfl U
  refine hP80 _ _ _ ?_
  replace U := U.s3 [1, 2, 3] de rfl
  exact bt Y call98 (bY _ _ _ _ _ _ _ _ _ _ _ _ _ _ _ U) results39 (fun w9 U => ⟨(ai O (aY (U.g 0 O) (isAgg90 _) (sizeOf90 _)) (ai O (aK (U.g 1 O) (isAgg91 _)) (ai O (aK (U.g 2 O) (isAgg41 _)) ag))), .inr ⟨hdn, O, U.ext⟩⟩)
 have hd95 := hd90.trans (mu hq92)
 have hs96 := (re hq92).trans hs91
 refine aU 1 ?_
 refine bc (R := fun u e' => u = sv n94 ∧ e' = blk w3.hz [sv s, jv ((s.length - r93.length : Nat) : Int)] 174) 0 Y U O de call102 O (fun h => (tC w3.hz s r88 r93 n94 ((s.length - r88.length : Nat) : Int) _ O hs91 hsl hq92 h).mono fun u w ⟨h1, h2⟩ => ⟨_, ⟨h1, O⟩, h2⟩) ?_
 clear Y U
 rintro a w63 _ _ ⟨rfl, rfl⟩ Y U
 try dsimp only at U
 replace U := U.n5 O
 refine ab <| dx <| wlv Y (ac (v := po w0.hz 8) O kr) fun a Y => az 1 Y U [jv n54, jv n59, jv n64, jv n69, jv n74, jv n79, jv n84, jv n89, sv n94] O (sizeOf9 _) fun a w64 Y U => G80 ?_
 refine ah fun _ G81 => aa fun _ G82 => nv (Y.p5 0 2 3 4 5 O) <| yp O <| yo (aT O) <| yo (ac (v := po w3.hz 1) O kr) <| yo (ld U 0 O O (isAgg3 _) O) <| yp O <| yo (bd O O (runUnderlying9 _)) <| yo (v_lt O O) <| yp O <| fun a Y => ?_
 rcases Decidable.em (((s.length - r93.length : Nat) : Int) < (s.length : Int)) with hb97 | hb97
 ·rw [yy hb97] at Y
  have hdn := hd95.trans (uf (by intro h0; have h1 := yZ List.length h0; rw [yJ] at h1; omega))
  refine nv Y <| yt <| yt <| yt <| yt <| yo (ax O O) <| fun a Y => G82 ?_
  replace Y := Y.p4 2 3 4 93 O
  replace U := U.k4 30 O
  refine aG Y O ?_
  refine bF <| aU 2 ?_
  refine nv Y <| yo (aW (v := .agg #[]) O kr) <| yo (cV O underlying171) <| fun a Y => ab <| dO Y O ?_
  replace U := U.s3 [0, 1, 2] de rfl
  exact bt Y call98 (bY _ _ _ _ _ _ _ _ _ _ _ _ _ _ _ U) results39 (fun w9 U => ⟨(ai O (aY (U.g 0 O) (isAgg90 _) (sizeOf90 _)) (ai O (aK (U.g 1 O) (isAgg91 _)) (ai O (aK (U.g 2 O) (isAgg41 _)) ag))), .inr ⟨hdn, O, U.ext⟩⟩)
 rw [yD hb97] at Y
 have hrn : r93 = [] := ze (by have := hs96.length_le; omega)
 refine nv Y <| yr (ap (U.g 1 O) O (isAgg90 _) (sizeOf90 _)) <| yr (ld U 2 O O (isAgg91 _) O) <| fun a Y => aF Y U call90 O (pb (x := (⟨n54, n59, n64, n69, n74, n79, n84, n89, n94⟩ : Wsh)) (ps := acc) (U.ow 4 O)) fun a w65 Y U => nv Y <| yr (bB O) <| yo (ak O O) <| fun a Y => G82 ?_
 replace Y := Y.p4 2 3 4 93 O
 replace U := U.k4 30 O
 refine bC Y O (fun hc98 => ?_) (fun hc98 => ?_)
 ·try simp only [qz] at hc98
  have hdn := hd95.trans (vp hc98)
  refine bF <| aU 2 ?_
  refine nv Y <| yo (aW (v := .agg #[]) O kr) <| yo (cV O underlying171) <| fun a Y => ab <| dO Y O ?_
  replace U := U.s3 [0, 1, 2] de rfl
  exact bt Y call98 (bY _ _ _ _ _ _ _ _ _ _ _ _ _ _ _ U) results39 (fun w9 U => ⟨(ai O (aY (U.g 0 O) (isAgg90 _) (sizeOf90 _)) (ai O (aK (U.g 1 O) (isAgg91 _)) (ai O (aK (U.g 2 O) (isAgg41 _)) ag))), .inr ⟨hdn, O, U.ext⟩⟩)
 try simp only [qz] at hc98
 have hd8 := hd95.trans (tM hrn hc98)
 refine ar <| G81 <| ah fun _ G83 => aH (aI fun w66 hxz => ?_)
 replace U := U.grow hxz
 refine aR (k := 0) 3 [1, 2] Y ?_
 replace Y := Y.p3 2 3 4 O
 replace U := U.s4 [0, 1, 2, 3] de rfl
 refine km [2] (fun q => if q = 2 then blk w0.hz [jv n54, jv n59, jv n64, jv n69, jv n74, jv n79, jv n84, jv n89, sv n94] 90 else join []) (fun q => if q = 2 then blk w0.hz [jv n54, jv n59, jv n64, jv n69, jv n74, jv n79, jv n84, jv n89, sv n94] 90 else join []) 3 [[], [], [0]] (fun i => match i with | 0 => pv (.agg #[jv n54, jv n59, jv n64, jv n69, jv n74, jv n79, jv n84, jv n89, sv n94]) | 1 => pv (lv) | 2 => fun v E => v = undef ∧ E = [] | _ => fun _ _ => False) B5 Y (H := [blk w1.hz [lv] 91, blk w2.hz [jv 0] 41, own lv 144 7 ((acc).map Pxy.cells)]) U kr kr kr kr de de ?_ ?_ ?_ ?_ ?_ ?_
 ·intro i v E h
  match i, h with
  | 0, _ => exact by decide
  | 1, _ => exact by decide
  | 2, _ => exact by decide
  | i + 3, h => exact h.elim
 ·intro q v E hq h
  simp only [yE, yI, y9] at hq
  rcases hq with rfl <;> exact h
 ·intro q hq
  simp only [yE, yI, y9] at hq
  rcases hq with rfl <;> exact ⟨rfl, rfl⟩
 ·intro i hi hiq e
  match i, hi, hiq with
  | 0, _, _ => exact fun w U => OpV.g (ap (vZ (F := fun q => if q = 2 then blk w0.hz [jv n54, jv n59, jv n64, jv n69, jv n74, jv n79, jv n84, jv n89, sv n94] 90 else join []) (q := 2) (U.g 0 O)) O (isAgg90 _) (sizeOf90 _))
  | 1, _, _ => exact fun w U => OpV.g (ld U 1 O O (isAgg91 _) O)
  | 2, _, h => exact absurd de h
 ·intro q hq
  simp only [yE, yI, y9] at hq
  rcases hq with rfl
  ·rintro _ _ ⟨rfl, rfl⟩
   intro w h
   exact dE (cs := [jv n54, jv n59, jv n64, jv n69, jv n74, jv n79, jv n84, jv n89, sv n94]) (ds := [jv n54, jv n59, jv n64, jv n69, jv n74, jv n79, jv n84, jv n89, sv n94]) O O h (sizeOf90 _) O (lb O) O
 clear Y U
 rintro _ _ ⟨rfl, rfl⟩ _ _ ⟨rfl, rfl⟩ a w67 Y U
 replace Y := Y.p5 96 97 2 3 4 O
 try dsimp only at U
 replace U := U.n4 O
 refine ab <| aL (k := 3) 5 [4] ?_
 refine ce 1 Y U (U.ow 3 O) O O O (sizeOf91 _) (lb O) (ds := [lv]) O O fun a w68 Y U => az 2 Y U [jv 0] O (sizeOf41 _) fun a w69 Y U => ab <| aS <| G83 <| aq <| pa (vs := [.agg #[jv n54, jv n59, jv n64, jv n69, jv n74, jv n79, jv n84, jv n89, sv n94], lv, jv 0]) Y call98 (vD _ _ _ _) results39 (fun w9 hx => ?_)
 have U := U.grow hx
 exact ⟨(ai O (aY (U.g 0 O) (isAgg90 _) (sizeOf90 _)) (ai O (aK (U.g 1 O) (isAgg91 _)) (ai O (aK (U.g 2 O) (isAgg41 _)) ag))), .inl ⟨_, _, hd8, _, O, trivial, U.ext, St.out (H := []) (U.select [3] de)⟩⟩
theorem xa {s : By} {p i : Nat} (hp : p + i < s.length) : gv ((s.drop p).take (i + 1)) = gv ((s.drop p).take i) + (s.getD (p + i) 0).toNat % 128 * 2 ^ (7 * i) := by
 have e : (s.drop p).take (i + 1) = (s.drop p).take i ++ [s.getD (p + i) 0] := by
  rw [take_one Bd]
  congr 2
  simp [yA]
 rw [e, iL, p128, yC, yV, Nat.min_eq_left om]
theorem xQ {s : By} {p i z : Nat} (hi : i < 9) (hp : p + i < s.length) (hl : ∀ c ∈ (s.drop p).take i, 128 ≤ c.toNat) (hz : z = gv ((s.drop p).take i)) (hb : (s.getD (p + i) 0).toNat < 128) {Z : Nat} (hZ : Z = z + (s.getD (p + i) 0).toNat % 128 * 2 ^ (7 * i)) :
  rdI (s.drop p) = if vb 8 Z = (s.drop p).take (i + 1) ∧ -4611686018427387903 ≤ uz Z then some (uz Z, s.drop (p + (i + 1))) else none := by
 have e0 : s.drop p = (s.drop p).take i ++ s.getD (p + i) 0 :: s.drop (p + (i + 1)) := by
  rw [show s.drop (p + (i + 1)) = (s.drop p).drop (i + 1) from by rw [Aa], ]
  have e1 : (s.drop p).drop i = s.getD (p + i) 0 :: (s.drop p).drop (i + 1) := by
   rw [j7 Bd]
   congr 1
   simp [yA]
  rw [← e1, zE]
 have e2 : (s.drop p).take (i + 1) = (s.drop p).take i ++ [s.getD (p + i) 0] := by
  rw [take_one Bd]
  congr 2
  simp [yA]
 have hlen : ((s.drop p).take i).length = i := by rw [yC, yV]; omega
 have h := xO (l := (s.drop p).take i) (r := s.drop (p + (i + 1))) (b := s.getD (p + i) 0) om hl hb
 rw [← e0, iL, ← hz, hlen, p128, ← hZ, ← e2] at h
 exact h
def putR (n : Int) : By × Int := if -4611686018427387903 ≤ n then (putI n, 0) else ([], 10)
theorem wN (Z : Nat) {t : By} {e : Int} (h : putR (uz Z) = (t, e)) : (e = 0 ∧ -4611686018427387903 ≤ uz Z ∧ t = vb 8 Z) ∨ (e ≠ 0 ∧ ¬ -4611686018427387903 ≤ uz Z) := by
 unfold putR at h
 split at h
 ·rename_i hc
  simp only [Prod.mk.injEq] at h
  left; exact ⟨h.2.symm, hc, by rw [← h.1]; unfold putI; rw [xA]⟩
 ·rename_i hc
  simp only [Prod.mk.injEq] at h
  right; exact ⟨by rw [← h.2]; decide, hc⟩
def intR (s : By) (p : Nat) : Int × Int × Int := match rdI (s.drop p) with
 | some (n, r) => (n, ((s.length - r.length : Nat) : Int), 0)
 | none => (0, 0, 10)
theorem yi (s : By) (p : Nat) : intV s p = .tuple #[jv (intR s p).1, jv (intR s p).2.1, jv (intR s p).2.2] := by
 unfold intV intR
 cases rdI (s.drop p) with
 | none => rfl
 | some x => rfl
theorem wT {s : By} {p : Nat} {n x e : Int} (h : intR s p = (n, x, e)) (he : e = 0) : ∃ r, rdI (s.drop p) = some (n, r) ∧ x = ((s.length - r.length : Nat) : Int) ∧ s.drop (s.length - r.length) = r ∧ r.length < s.length := by
 unfold intR at h
 cases hq : rdI (s.drop p) with
 | none => rw [hq] at h; simp only [Prod.mk.injEq] at h; rw [← h.2.2] at he; cases he
 | some z =>
  obtain ⟨m, r⟩ := z
  rw [hq] at h
  simp only [Prod.mk.injEq] at h
  obtain ⟨h1, h2⟩ := eh hq
  have h3 := yZ List.length h2
  have h4 := (bW m).1
  rw [yV, yx] at h3
  refine ⟨r, by rw [h.1], h.2.1.symm, ?_, by omega⟩
  have h5 : s = (s.take p ++ putI m) ++ r := by rw [za, ← h2, zE]
  have h6 : s.length = (s.take p ++ putI m).length + r.length := by rw [← yx, ← h5]
  have h7 := zV (l₁ := s.take p ++ putI m) (l₂ := r)
  rw [← h5] at h7
  rw [show s.length - r.length = (s.take p ++ putI m).length from by omega]
  exact h7
theorem ue {s : By} {p : Nat} {n x e : Int} (h : intR s p = (n, x, e)) (he : ¬ e = 0) : rdI (s.drop p) = none := by
 unfold intR at h
 cases hq : rdI (s.drop p) with
 | none => rfl
 | some z => rw [hq] at h; simp only [Prod.mk.injEq] at h; exact absurd h.2.2.symm he
theorem nL (n : Int) (w0 : World) (hs : n < -4611686018427387903) :
  Ret Tryz.prog 129 #[jv n] w0 fun v w => v = .tuple #[sv [], jv 10] ∧ Ext No w0 w := by
 refine An func129 O ntmps129 (lb O) fun a Y U => aa fun _ G1 => nv Y <| yq O <| yq O <| fun a Y => G1 <| ah fun _ G2 => aa fun _ G3 => nv Y <| yp O <| yo ((v_lt O O).asb (b' := true) (by exact yy om)) <| yp O <| yt <| yt <| yo (ax O O) <| fun a Y => G3 <| aG Y O ?_
 refine aa fun _ G4 => nv Y <| yq O <| yq O <| fun a Y => G4 ?_
 replace Y := Y.p3 0 2 3 O
 refine aq <| am Y results129 (ae O (ae O ag)) ?_
 exact ⟨by rfl, U.ext⟩
theorem jO {n e : Int} {t : By} {w0 : World} (h : putR n = (t, e)) (hn : n ≤ 4611686018427387903) : Ret Tryz.prog 129 #[jv n] w0 fun v w => v = .tuple #[sv t, jv e] ∧ Ext No w0 w := by
 unfold putR at h
 split at h
 ·cases h; exact eM n w0 ⟨by assumption, hn⟩
 ·cases h; exact nL n w0 om
theorem tj (s : By) (p : Nat) (w0 : World) (hp : p ≤ s.length) (hsl : s.length ≤ 1000000) :
  Ret Tryz.prog 153 #[sv s, jv (p : Int)] w0 fun v w => v = intV s p ∧ Ext No w0 w := by
 refine Am func153 O ntmps153 (lb O) fun a Y U => aa fun _ G1 => nv Y <| yq O <| yq O <| yq O <| fun a Y => G1 <| ah fun _ G2 => aa fun _ G3 => nv Y <| yp O <| yo ((v_lt O O).asb (b' := false) Bs) <| yp O <| yr (ay O) <| yr (ay O) <| yr (bd O O (runUnderlying9 _)) <| yr ((v_gt O O).asb (b' := false) Bs) <| yo (ak O O) <| fun a Y => G3 ?_
 replace Y := Y.p6 0 1 4 5 6 20 O
 refine aJ Y O ?_
 refine ar <| G2 <| aa fun _ G4 => wla Y O fun a Y => G4 <| ah fun _ G5 => aa fun _ G6 => wla Y O fun a Y => G6 <| au <| aZ (fun m a w => ∃ (i : Nat) (z : Nat), m = 9 - i ∧ (i ≤ 9) ∧ (p + i ≤ s.length) ∧ (∀ c ∈ (s.drop p).take i, 128 ≤ c.toNat) ∧ (z = gv ((s.drop p).take i)) ∧ (z < 2 ^ (7 * i)) ∧ Fr 80 [(0, sv s), (1, jv (p : Int)), (7, .int .u64 (z : Int)), (8, jv (i : Int))] [] a ∧ St No w0 [] w) _ ⟨0, 0, O, de, om, sm, O, de, Y.pick [0, 1, 7, 8], U.select [] de⟩ ?_
 rintro _ a w1 ⟨i, z, rfl, hi, hpi0, hl, hzg, hzb, Y, U⟩
 refine ah fun _ G7 => aa fun _ G8 => nv Y <| yp O <| yo (v_lt O O) <| yp O <| fun a Y => ?_
 rcases Decidable.em ((i : Int) < 9) with hb1 | hb1
 ·rw [yy hb1] at Y
  refine nv Y <| yr (ay O) <| yr (ay O) <| yr (aM O O ⟨om, om⟩) <| yr (ay O) <| yr (bd O O (runUnderlying9 _)) <| yr (v_lt O O) <| yo (ax O O) <| fun a Y => G8 ?_
  replace Y := Y.p5 0 1 7 8 30 O
  refine aA Y O (fun hc2 => ?_) (fun hc2 => ?_)
  ·have hpi : p + i < s.length := by omega
   have hm8 : (s.getD (p + i) 0).toNat % 128 < 128 := Nat.mod_lt _ de
   have hzl := tE hzb hm8
   have hz6 := z_63 (i := i) om hzl
   refine ar <| G7 <| ah fun _ G9 => au <| aa fun _ G10 => nv Y <| yp O <| yp O <| yp O <| yo (aM O O ⟨om, om⟩) <| yo (gn (k := (p + i)) O O (runUnderlying9 _) om om) <| yo (lT O kr underlying190) <| yq O <| fun a Y => G10 ?_
   refine aa fun _ G11 => nv (Y.p5 0 1 7 8 9 O) <| yp O <| yp O <| yo (py (m := (s.getD (p + i) 0).toNat) (n := 128) de O O) <| yp O <| yo ((eo O O ⟨om, om⟩).asi (m' := ((7 * i : Nat) : Int)) om) <| yo ((qG (m := (s.getD (p + i) 0).toNat % 128) (n := 7 * i) om O O).asi (m' := (((s.getD (p + i) 0).toNat % 128 * 2 ^ (7 * i) : Nat) : Int)) (by rw [Nat.mod_eq_of_lt om])) <| yo (uA (m := z) (n := (s.getD (p + i) 0).toNat % 128 * 2 ^ (7 * i)) om O O) <| yq O <| fun a Y => G11 ?_
   replace Y := Y.p5 0 1 8 9 7 O
   refine ah fun _ G12 => aa fun _ G13 => nv Y <| yp O <| yo (v_ge O O) <| fun a Y => G13 <| aA Y O (fun hc3 => ?_) (fun hc3 => ?_)
   ·refine aP <| G9 <| al <| nv Y <| yp O <| yo (aM O O ⟨om, om⟩) <| yq O <| fun a Y => ab ?_
    refine ⟨_, ?_, i + 1, (z + (s.getD (p + i) 0).toNat % 128 * 2 ^ (7 * i)), O, om, om, (by intro c hc; rw [take_one Bd, zC, yT] at hc; rcases hc with hc | rfl; exact hl c hc; simp only [yA, zH] at *; omega), (by rw [xa hpi, ← hzg]), hzl, Y.pick [0, 1, 7, 8], U.select [] de⟩
    omega
   obtain ⟨Z, hZ⟩ : ∃ Z, Z = (z + (s.getD (p + i) 0).toNat % 128 * 2 ^ (7 * i)) := ⟨_, rfl⟩
   have hra := xQ om hpi hl hzg om hZ
   obtain ⟨pt, pe, hpt⟩ : ∃ t e, putR (uz Z) = (t, e) := ⟨_, _, rfl⟩
   have hps := wN Z hpt
   refine ar <| G12 <| aa fun _ G14 => nv Y <| yp O <| yo (tv (m := (z + (s.getD (p + i) 0).toNat % 128 * 2 ^ (7 * i))) (n := 2) om de O O) <| yo (gC (n := (z + (s.getD (p + i) 0).toNat % 128 * 2 ^ (7 * i)) / 2) om O kr underlying3) <| yq O <| fun a Y => G14 ?_
   replace Y := Y.p5 0 1 8 7 10 O
   refine ah fun _ G15 => aa fun _ G16 => nv Y <| yp O <| yo (py (m := (z + (s.getD (p + i) 0).toNat % 128 * 2 ^ (7 * i))) (n := 2) de O O) <| yo (v_eq O O) <| fun a Y => G16 <| aA Y O (fun hc4 => ?_) (fun hc4 => ?_)
   ·have huz : -(((z + (s.getD (p + i) 0).toNat % 128 * 2 ^ (7 * i)) / 2 : Nat) : Int) - 1 = uz Z := by rw [hZ]; unfold uz; rw [yO om]
    refine al <| nv Y <| yp O <| yo (kc O om om) <| yo (bK O O ⟨om, om⟩) <| yq O <| fun a Y => ab <| G15 <| aa fun _ G17 => wlm (Y.p5 0 1 8 7 10 O) O fun a Y => aw Y U call129 O (jO (n := (-(((z + (s.getD (p + i) 0).toNat % 128 * 2 ^ (7 * i)) / 2 : Nat) : Int)) - 1) (t := pt) (e := pe) (by rw [huz]; exact hpt) om) fun a w2 Y U => nv Y <| yp O <| yo (ao O O) <| yo (ao O O) <| yq O <| yq O <| fun a Y => G17 <| ah fun _ G18 => aa fun _ G19 => nv Y <| yp O <| yo (v_ne O O) <| yp O <| fun a Y => ?_
    rcases (Decidable.em (pe = 0)).symm with hb5 | hb5
    ·rw [yD hb5] at Y
     refine nv Y <| yt <| yt <| yt <| yt <| yt <| yt <| yt <| yt <| yt <| yo (ax O O) <| fun a Y => G19 ?_
     replace Y := Y.p6 0 1 8 7 10 74 O
     refine aG Y O ?_
     refine aa fun _ G20 => nv Y <| yq O <| yq O <| yq O <| fun a Y => G20 <| aq <| am Y results153 (ae O (ae O (ae O ag))) ?_
     refine ⟨?_, U.ext⟩
     have hrn : rdI (s.drop p) = none := by
      rw [hra]; refine yO fun hc => ?_
      rcases hps with ⟨h1, h2, h3⟩ | ⟨h1, h2⟩
      ·exact hb5 h1
      ·exact h2 hc.2
     unfold intV; rw [hrn]; rfl
    rw [yy hb5] at Y
    refine nv Y <| yr (ay O) <| yr (ay O) <| yr (ay O) <| yr (ay O) <| yr (ay O) <| yr (aM O O ⟨om, om⟩) <| yr (aM O O ⟨om, om⟩) <| yr ((eZ (xs := s) (l := p) (h := (p + i + 1)) O O O underlying9 (.inr B8) (.inr BD) om BN).as (v' := sv ((s.drop p).take ((p + i + 1) - p))) O) <| yr (nJ O O) <| yo (ak O O) <| fun a Y => G19 ?_
    replace Y := Y.p6 0 1 8 7 10 74 O
    refine cG Y O (fun hc6 => ?_) (fun hc6 => ?_)
    ·rw [show (p + i + 1) - p = i + 1 from by omega] at hc6
     refine aa fun _ G21 => nv Y <| yq O <| yq O <| yq O <| fun a Y => G21 <| aq <| am Y results153 (ae O (ae O (ae O ag))) ?_
     refine ⟨?_, U.ext⟩
     have hrn : rdI (s.drop p) = none := by
      rw [hra]; refine yO fun hc => ?_
      rcases hps with ⟨h1, h2, h3⟩ | ⟨h1, h2⟩
      ·exact hc6 (h3.trans hc.1)
      ·exact h2 hc.2
     unfold intV; rw [hrn]; rfl
    rw [show (p + i + 1) - p = i + 1 from by omega] at hc6
    refine ar <| G18 <| aa fun _ G22 => nv Y <| yp O <| yp O <| yp O <| yo (aM O O ⟨om, om⟩) <| yo (aM O O ⟨om, om⟩) <| yq O <| yq O <| yq O <| fun a Y => G22 ?_
    replace Y := Y.p7 0 1 8 7 4 5 6 O
    refine aq <| am Y results153 (ae O (ae O (ae O ag))) ?_
    refine ⟨?_, U.ext⟩
    have hrs : rdI (s.drop p) = some (uz Z, s.drop (p + (i + 1))) := by
     rw [hra]; refine yR ?_; rcases hps with ⟨h1, h2, h3⟩ | ⟨h1, h2⟩
     ·exact ⟨h3.symm.trans hc6, h2⟩
     ·exact absurd hb5 h1
    unfold intV; rw [hrs]; simp only [retv, yV]; rw [huz, show ((s.length - (s.length - (p + (i + 1))) : Nat) : Int) = (p : Int) + (i : Int) + 1 from by omega]
   have huz : (((z + (s.getD (p + i) 0).toNat % 128 * 2 ^ (7 * i)) / 2 : Nat) : Int) = uz Z := by rw [hZ]; unfold uz; rw [yR om]
   refine ar <| G15 <| aa fun _ G23 => wlm Y O fun a Y => aw Y U call129 O (jO (n := (((z + (s.getD (p + i) 0).toNat % 128 * 2 ^ (7 * i)) / 2 : Nat) : Int)) (t := pt) (e := pe) (by rw [huz]; exact hpt) om) fun a w3 Y U => nv Y <| yp O <| yo (ao O O) <| yo (ao O O) <| yq O <| yq O <| fun a Y => G23 ?_
   refine ah fun _ G24 => aa fun _ G25 => nv (Y.p7 0 1 8 7 10 11 12 O) <| yp O <| yo (v_ne O O) <| yp O <| fun a Y => ?_
   rcases (Decidable.em (pe = 0)).symm with hb7 | hb7
   ·rw [yD hb7] at Y
    refine nv Y <| yt <| yt <| yt <| yt <| yt <| yt <| yt <| yt <| yt <| yo (ax O O) <| fun a Y => G25 ?_
    replace Y := Y.p6 0 1 8 7 10 74 O
    refine aG Y O ?_
    refine aa fun _ G26 => nv Y <| yq O <| yq O <| yq O <| fun a Y => G26 <| aq <| am Y results153 (ae O (ae O (ae O ag))) ?_
    refine ⟨?_, U.ext⟩
    have hrn : rdI (s.drop p) = none := by
     rw [hra]; refine yO fun hc => ?_
     rcases hps with ⟨h1, h2, h3⟩ | ⟨h1, h2⟩
     ·exact hb7 h1
     ·exact h2 hc.2
    unfold intV; rw [hrn]; rfl
   rw [yy hb7] at Y
   refine nv Y <| yr (ay O) <| yr (ay O) <| yr (ay O) <| yr (ay O) <| yr (ay O) <| yr (aM O O ⟨om, om⟩) <| yr (aM O O ⟨om, om⟩) <| yr ((eZ (xs := s) (l := p) (h := (p + i + 1)) O O O underlying9 (.inr B8) (.inr BD) om BN).as (v' := sv ((s.drop p).take ((p + i + 1) - p))) O) <| yr (nJ O O) <| yo (ak O O) <| fun a Y => G25 ?_
   replace Y := Y.p6 0 1 8 7 10 74 O
   refine cG Y O (fun hc8 => ?_) (fun hc8 => ?_)
   ·rw [show (p + i + 1) - p = i + 1 from by omega] at hc8
    refine aa fun _ G27 => nv Y <| yq O <| yq O <| yq O <| fun a Y => G27 <| aq <| am Y results153 (ae O (ae O (ae O ag))) ?_
    refine ⟨?_, U.ext⟩
    have hrn : rdI (s.drop p) = none := by
     rw [hra]; refine yO fun hc => ?_
     rcases hps with ⟨h1, h2, h3⟩ | ⟨h1, h2⟩
     ·exact hc8 (h3.trans hc.1)
     ·exact h2 hc.2
    unfold intV; rw [hrn]; rfl
   rw [show (p + i + 1) - p = i + 1 from by omega] at hc8
   refine ar <| G24 <| aa fun _ G28 => nv Y <| yp O <| yp O <| yp O <| yo (aM O O ⟨om, om⟩) <| yo (aM O O ⟨om, om⟩) <| yq O <| yq O <| yq O <| fun a Y => G28 ?_
   replace Y := Y.p7 0 1 8 7 4 5 6 O
   refine aq <| am Y results153 (ae O (ae O (ae O ag))) ?_
   refine ⟨?_, U.ext⟩
   have hrs : rdI (s.drop p) = some (uz Z, s.drop (p + (i + 1))) := by
    rw [hra]; refine yR ?_; rcases hps with ⟨h1, h2, h3⟩ | ⟨h1, h2⟩
    ·exact ⟨h3.symm.trans hc8, h2⟩
    ·exact absurd hb7 h1
   unfold intV; rw [hrs]; simp only [retv, yV]; rw [huz, show ((s.length - (s.length - (p + (i + 1))) : Nat) : Int) = (p : Int) + (i : Int) + 1 from by omega]
  have hrn : rdI (s.drop p) = none := by
   have := xv (l := (s.drop p).take i) hl A6
   rwa [zA Bd] at this
  refine aP <| G5 <| aa fun _ G29 => nv Y <| yq O <| yq O <| yq O <| fun a Y => G29 <| aq <| am Y results153 (ae O (ae O (ae O ag))) ?_
  refine ⟨?_, U.ext⟩
  unfold intV; rw [hrn]; rfl
 rw [yD hb1] at Y
 have hrn : rdI (s.drop p) = none := by
  have h9 : i = 9 := by omega
  subst h9
  have := vd (l := (s.drop p).take 9) (r := (s.drop p).drop 9) hl (by rw [yC, yV]; omega)
  rwa [zE] at this
 refine nv Y <| yt <| yt <| yt <| yt <| yt <| yt <| yo (ak O O) <| fun a Y => G8 ?_
 replace Y := Y.p5 0 1 7 8 30 O
 refine aJ Y O ?_
 refine aP <| G5 <| aa fun _ G30 => nv Y <| yq O <| yq O <| yq O <| fun a Y => G30 <| aq <| am Y results153 (ae O (ae O (ae O ag))) ?_
 refine ⟨?_, U.ext⟩
 unfold intV; rw [hrn]; rfl
theorem iK {r q : By} {n : Int} (h : rdI r = some (n, q)) : q <:+ r := by
 obtain ⟨_, rfl⟩ := eh h; exact List.suffix_append _ _
theorem uQ {r x q : By} (h : rdS r = some (x, q)) : ∃ n r2, rdI r = some (n, r2) ∧ 0 ≤ n ∧ n ≤ 65536 ∧ n ≤ (r2.length : Int) ∧ x = r2.take n.toNat ∧ q = r2.drop n.toNat ∧ q.length = r2.length - n.toNat := by
 unfold rdS at h
 cases hq : rdI r with
 | none => rw [hq] at h; cases h
 | some p =>
  obtain ⟨n, t⟩ := p
  rw [hq] at h
  simp only at h
  split at h
  ·rename_i hc
   cases h
   exact ⟨n, t, O, hc.1, hc.2.1, hc.2.2, O, O, by rw [yV]⟩
  ·cases h
theorem yd {r : By} (h : rdS r = none) : rdI r = none ∨ ∃ n r2, rdI r = some (n, r2) ∧ (n < 0 ∨ 65536 < n ∨ (r2.length : Int) < n) := by
 unfold rdS at h
 cases hq : rdI r with
 | none => exact .inl rfl
 | some p =>
  obtain ⟨n, t⟩ := p
  rw [hq] at h
  simp only at h
  split at h
  ·cases h
  ·rename_i hc
   exact .inr ⟨n, t, O, by omega⟩
theorem wy {r x q : By} (h : rdS r = some (x, q)) : q <:+ r := by
 obtain ⟨n, r2, hi, _, _, _, _, rfl, _⟩ := uQ h
 exact (List.drop_suffix _ _).trans (iK hi)
theorem wu {s r2 q x : By} {n : Int} (hs : r2 <:+ s) (hx : x = r2.take n.toNat) (h0 : 0 ≤ n) (hn : n ≤ (r2.length : Int)) (hq : q.length = r2.length - n.toNat) : x = (s.drop (s.length - r2.length)).take (s.length - q.length - (s.length - r2.length)) := by
 have := hs.length_le
 rw [← List.suffix_iff_eq_drop.1 hs, hx]
 congr 1
 omega
theorem m8 (s : By) (w0 : World) (hs : s.length ≤ 65536) :
  Ret Tryz.prog 61 #[sv s] w0 fun v w => v = .tuple #[sv (putS s), jv 0] ∧ Ext No w0 w := by
 have hpl := bW (s.length : Int)
 refine An func61 O ntmps61 (lb O) fun a Y U => aa fun _ G1 => nv Y <| yq O <| yq O <| fun a Y => G1 <| ah fun _ G2 => aa fun _ G3 => nv Y <| yp O <| yo (bd O O (runUnderlying9 _)) <| yo ((v_gt O O).asb (b' := false) Bs) <| fun a Y => G3 <| aJ Y O ?_
 refine ar <| G2 <| aa fun _ G4 => nv Y <| yp O <| yo (bd O O (runUnderlying9 _)) <| fun a Y => aw Y U call60 O (ft (s.length : Int) _ AJ) fun a w1 Y U => nv Y <| yp O <| yo (ao O O) <| yo (ao O O) <| yq O <| yq O <| fun a Y => G4 ?_
 refine aa fun _ G5 => nv (Y.p4 0 2 3 4 O) <| yp O <| yp O <| yo (dJ O O Bf) <| yq O <| yq O <| fun a Y => G5 <| aq <| am Y results61 (ae O (ae O ag)) ?_
 exact ⟨by rfl, U.ext⟩
theorem j4 {s r r2 : By} {n z : Int} {w0 : World} (hz : z = ((s.length - r.length : Nat) : Int)) (hsf : r <:+ s) (hsl : s.length ≤ 1000000) (hq : rdI r = some (n, r2)) :
  Ret Tryz.prog 63 #[sv s, jv z] w0 fun v w => v = .tuple #[jv n, jv ((s.length - r2.length : Nat) : Int), jv 0] ∧ Ext No w0 w := by
 subst hz
 have := iF s (s.length - r.length) w0 om hsl
 unfold intV at this
 rw [← List.suffix_iff_eq_drop.1 hsf, hq] at this
 exact this
theorem kF {s r : By} {z : Int} {w0 : World} (hz : z = ((s.length - r.length : Nat) : Int)) (hsf : r <:+ s) (hsl : s.length ≤ 1000000) (hq : rdI r = none) :
  Ret Tryz.prog 63 #[sv s, jv z] w0 fun v w => v = .tuple #[jv 0, jv 0, jv 10] ∧ Ext No w0 w := by
 subst hz
 have := iF s (s.length - r.length) w0 om hsl
 unfold intV at this
 rw [← List.suffix_iff_eq_drop.1 hsf, hq] at this
 exact this
theorem ry (s r x q : By) (z : Int) (w0 : World) (hz : z = ((s.length - r.length : Nat) : Int)) (hsf : r <:+ s) (hsl : s.length ≤ 1000000) (hq : rdS r = some (x, q)) :
  Ret Tryz.prog 65 #[sv s, jv z] w0 fun v w => v = .tuple #[sv x, jv ((s.length - q.length : Nat) : Int), jv 0] ∧ Ext No w0 w := by
 obtain ⟨n, r2, hi, h0, h6, hl, hx, -, hql⟩ := uQ hq
 have hsu := hsf.length_le
 have hsf2 := (iK hi).trans hsf
 have hsu2 := hsf2.length_le
 refine Am func65 O ntmps65 (lb O) fun a Y U => aa fun _ G1 => nv Y <| yq O <| yq O <| yq O <| fun a Y => G1 <| aa fun _ G2 => nv Y <| yp O <| yp O <| fun a Y => aw Y U call63 O (j4 hz hsf hsl hi) fun a w1 Y U => nv Y <| yp O <| yo (ao O O) <| yo (ao O O) <| yo (ao O O) <| yq O <| yq O <| yq O <| fun a Y => G2 ?_
 refine ah fun _ G3 => aa fun _ G4 => nv (Y.p7 0 4 5 6 7 8 9 O) <| yp O <| yo ((v_ne O O).asb (b' := false) O) <| fun a Y => G4 <| aJ Y O ?_
 refine ar <| G3 <| ah fun _ G5 => aa fun _ G6 => nv Y <| yp O <| yo ((v_lt O O).asb (b' := false) Bs) <| yp O <| yr (ay O) <| yr ((v_gt O O).asb (b' := false) Bs) <| yo (ak O O) <| yp O <| yr (ay O) <| yr (ay O) <| yr (bd O O (runUnderlying9 _)) <| yr (ay O) <| yr (bK O O ⟨om, om⟩) <| yr ((v_gt O O).asb (b' := false) Bs) <| yo (ak O O) <| fun a Y => G6 ?_
 replace Y := Y.p7 0 4 5 6 7 8 33 O
 refine aJ Y O ?_
 refine ar <| G5 <| aa fun _ G7 => nv Y <| yp O <| yp O <| yp O <| yp O <| yo ((aM O O ⟨om, om⟩).asi (m' := ((s.length - q.length : Nat) : Int)) om) <| yo ((iH (xs := s) (l := s.length - r2.length) (h := s.length - q.length) O O O underlying9 (.inr ⟨.i64, O⟩) (.inr ⟨.i64, O⟩) om om).as (v' := sv x) (by rw [← wu hsf2 hx h0 hl hql])) <| yp O <| yp O <| yo ((aM O O ⟨om, om⟩).asi (m' := ((s.length - q.length : Nat) : Int)) om) <| yq O <| yq O <| yq O <| fun a Y => G7 ?_
 replace Y := Y.p3 4 5 6 O
 refine aq <| am Y results65 (ae O (ae O (ae O ag))) ?_
 exact ⟨by rfl, U.ext⟩
theorem oC (s r r2 : By) (n z : Int) (w0 : World) (hz : z = ((s.length - r.length : Nat) : Int)) (hsf : r <:+ s) (hsl : s.length ≤ 1000000) (hi : rdI r = some (n, r2)) (hb : n < 0 ∨ 65536 < n ∨ (r2.length : Int) < n) :
  Ret Tryz.prog 65 #[sv s, jv z] w0 fun v w => v = .tuple #[sv ([] : By), jv 0, jv 10] ∧ Ext No w0 w := by
 have hsu := hsf.length_le
 have hsf2 := (iK hi).trans hsf
 have hsu2 := hsf2.length_le
 refine Am func65 O ntmps65 (lb O) fun a Y U => aa fun _ G1 => nv Y <| yq O <| yq O <| yq O <| fun a Y => G1 <| aa fun _ G2 => nv Y <| yp O <| yp O <| fun a Y => aw Y U call63 O (j4 hz hsf hsl hi) fun a w1 Y U => nv Y <| yp O <| yo (ao O O) <| yo (ao O O) <| yo (ao O O) <| yq O <| yq O <| yq O <| fun a Y => G2 ?_
 refine ah fun _ G3 => aa fun _ G4 => nv (Y.p7 0 4 5 6 7 8 9 O) <| yp O <| yo ((v_ne O O).asb (b' := false) O) <| fun a Y => G4 <| aJ Y O ?_
 refine ar <| G3 <| ah fun _ G5 => aa fun _ G6 => nv Y <| yp O <| yo (v_lt O O) <| yp O <| fun a Y => ?_
 rcases Decidable.em (n < 0) with hb1 | hb1
 ·rw [yy hb1] at Y
  refine nv Y <| yt <| yt <| yo (ax O O) <| yp O <| yt <| yt <| yt <| yt <| yt <| yt <| yo (ax O O) <| fun a Y => G6 ?_
  replace Y := Y.p7 0 4 5 6 7 8 33 O
  refine aG Y O ?_
  refine aa fun _ G7 => nv Y <| yq O <| yq O <| yq O <| fun a Y => G7 <| aq <| am Y results65 (ae O (ae O (ae O ag))) ?_
  exact ⟨by rfl, U.ext⟩
 rw [yD hb1] at Y
 refine nv Y <| yr (ay O) <| yr (v_gt O O) <| yo (ak O O) <| yp O <| fun a Y => ?_
 rcases Decidable.em (65536 < n) with hb2 | hb2
 ·rw [yy hb2] at Y
  refine nv Y <| yt <| yt <| yt <| yt <| yt <| yt <| yo (ax O O) <| fun a Y => G6 ?_
  replace Y := Y.p7 0 4 5 6 7 8 33 O
  refine aG Y O ?_
  refine aa fun _ G8 => nv Y <| yq O <| yq O <| yq O <| fun a Y => G8 <| aq <| am Y results65 (ae O (ae O (ae O ag))) ?_
  exact ⟨by rfl, U.ext⟩
 rw [yD hb2] at Y
 refine nv Y <| yr (ay O) <| yr (ay O) <| yr (bd O O (runUnderlying9 _)) <| yr (ay O) <| yr (bK O O ⟨om, om⟩) <| yr (v_gt O O) <| yo (ak O O) <| fun a Y => G6 ?_
 replace Y := Y.p7 0 4 5 6 7 8 33 O
 refine aA Y O (fun hc3 => ?_) (fun hc3 => ?_)
 ·refine aa fun _ G9 => nv Y <| yq O <| yq O <| yq O <| fun a Y => G9 <| aq <| am Y results65 (ae O (ae O (ae O ag))) ?_
  exact ⟨by rfl, U.ext⟩
 exfalso; omega
theorem oL (s r : By) (z : Int) (w0 : World) (hz : z = ((s.length - r.length : Nat) : Int)) (hsf : r <:+ s) (hsl : s.length ≤ 1000000) (hi : rdI r = none) :
  Ret Tryz.prog 65 #[sv s, jv z] w0 fun v w => v = .tuple #[sv ([] : By), jv 0, jv 10] ∧ Ext No w0 w := by
 refine Am func65 O ntmps65 (lb O) fun a Y U => aa fun _ G1 => nv Y <| yq O <| yq O <| yq O <| fun a Y => G1 <| aa fun _ G2 => nv Y <| yp O <| yp O <| fun a Y => aw Y U call63 O (kF hz hsf hsl hi) fun a w1 Y U => nv Y <| yp O <| yo (ao O O) <| yo (ao O O) <| yo (ao O O) <| yq O <| yq O <| yq O <| fun a Y => G2 ?_
 refine ah fun _ G3 => aa fun _ G4 => nv (Y.p7 0 4 5 6 7 8 9 O) <| yp O <| yo ((v_ne O O).asb (b' := true) O) <| fun a Y => G4 <| aG Y O ?_
 refine aa fun _ G5 => nv Y <| yp O <| yq O <| yq O <| yq O <| fun a Y => G5 <| aq <| am Y results65 (ae O (ae O (ae O ag))) ?_
 exact ⟨by rfl, U.ext⟩
theorem qy {s r : By} {z : Int} {w0 : World} (hz : z = ((s.length - r.length : Nat) : Int)) (hsf : r <:+ s) (hsl : s.length ≤ 1000000) (hq : rdS r = none) :
  Ret Tryz.prog 65 #[sv s, jv z] w0 fun v w => v = .tuple #[sv ([] : By), jv 0, jv 10] ∧ Ext No w0 w := by
 rcases yd hq with hi | ⟨n, r2, hi, hb⟩
 ·exact oL s r z w0 hz hsf hsl hi
 ·exact oC s r r2 n z w0 hz hsf hsl hi hb
theorem lF (s : By) (w0 : World) (hs : s.length ≤ 65536) :
  Ret Tryz.prog 130 #[sv s] w0 fun v w => v = .tuple #[sv (putS s), jv 0] ∧ Ext No w0 w := by
 have hpl := bW (s.length : Int)
 refine An func130 O ntmps130 (lb O) fun a Y U => aa fun _ G1 => nv Y <| yq O <| yq O <| fun a Y => G1 <| ah fun _ G2 => aa fun _ G3 => nv Y <| yp O <| yo (bd O O (runUnderlying9 _)) <| yo ((v_gt O O).asb (b' := false) Bs) <| fun a Y => G3 <| aJ Y O ?_
 refine ar <| G2 <| aa fun _ G4 => nv Y <| yp O <| yo (bd O O (runUnderlying9 _)) <| fun a Y => aw Y U call129 O (eM (s.length : Int) _ AJ) fun a w1 Y U => nv Y <| yp O <| yo (ao O O) <| yo (ao O O) <| yq O <| yq O <| fun a Y => G4 ?_
 refine aa fun _ G5 => nv (Y.p4 0 2 3 4 O) <| yp O <| yp O <| yo (dJ O O Bf) <| yq O <| yq O <| fun a Y => G5 <| aq <| am Y results130 (ae O (ae O ag)) ?_
 exact ⟨by rfl, U.ext⟩
section
variable {ks : List By} {x : Wsh} {ps : List Pxy} {n t : Int}
theorem mI : validH ks x ps n t = true ↔ (¬ formB ks x ps ∧ badIdx ps 0 = none ∧ inB t x.sf (x.st - 1) = true ∧ inB n x.rf (x.rt - 1) = true ∧ ct x.signer x.holder ps 0 = none ∧ bE x none ps 0 = none ∧ bQ ks x ps 0 = none) := by
 unfold validH
 rw [yB]
 constructor
 ·intro h
  by_cases h0 : formB ks x ps
  ·rw [fY h0] at h; cases h
  ·cases hb : badIdx ps 0 with
   | some i => rw [rq h0 (by rw [j1, hb]; exact Int.natCast_nonneg i)] at h; cases h
   | none =>
    cases ht : inB t x.sf (x.st - 1) with
    | false => rw [lu h0 hb ht] at h; cases h
    | true =>
     cases hn : inB n x.rf (x.rt - 1) with
     | false => rw [m7 h0 hb ht hn] at h; cases h
     | true =>
      have hp : whyP ks x ps n t := ⟨h0, hb, ht, hn⟩
      cases hc : ct x.signer x.holder ps 0 with
      | some i => rw [mw hp hc] at h; cases h
      | none =>
       cases hs : bE x none ps 0 with
       | some i => rw [mz hp hc hs] at h; cases h
       | none =>
        cases hl : bQ ks x ps 0 with
        | some i => rw [go hp hc hs hl] at h; cases h
        | none => exact ⟨h0, rfl, rfl, rfl, rfl, rfl, rfl⟩
 ·rintro ⟨h0, hb, ht, hn, hc, hs, hl⟩
  rw [kx ⟨h0, hb, ht, hn⟩ hc hs hl]
theorem nf {n0 t0 : Int} (h : validH ks x ps n0 t0 = true) (n t : Int) : whyH ks x ps n t = if inB t x.sf (x.st - 1) = false then (2, -1) else if inB n x.rf (x.rt - 1) = false then (3, -1) else (0, -1) := by
 obtain ⟨h0, hb, _, _, hc, hs, hl⟩ := mI.1 h
 by_cases ht : inB t x.sf (x.st - 1) = false
 ·rw [yR ht, lu h0 hb ht]
 ·rw [yO ht]
  by_cases hn : inB n x.rf (x.rt - 1) = false
  ·rw [yR hn, m7 h0 hb (by simpa using ht) hn]
  ·rw [yO hn, kx ⟨h0, hb, by simpa using ht, by simpa using hn⟩ hc hs hl]
theorem lh {n0 t0 : Int} (h : validH ks x ps n0 t0 = true) (n t : Int) : validH ks x ps n t = (inB t x.sf (x.st - 1) && inB n x.rf (x.rt - 1)) := by
 unfold validH
 rw [nf h]
 cases inB t x.sf (x.st - 1) <;> cases inB n x.rf (x.rt - 1) <;> rfl
theorem kt : ∀ {l : List Pxy} {k : Nat}, bQ ks x l k = none → (∀ p ∈ l, ∃ key, keyAt ks p.frm = some key ∧ p.sig = sealH key p.content) ∧ ∃ key, keyAt ks x.signer = some key ∧ x.sig = sealH key x.content
 | [], k, h => by
  rw [bQ] at h
  split at h
  ·rename_i hc
   cases hq : keyAt ks x.signer with
   | none => rw [hq] at hc; cases hc
   | some key => rw [hq] at hc; exact ⟨by simp, key, rfl, by simpa using hc⟩
  ·cases h
 | p :: l, k, h => by
  rw [bQ] at h
  split at h
  ·rename_i hc
   obtain ⟨h1, h2⟩ := kt h
   refine ⟨fun q hq => ?_, h2⟩
   rcases yE.1 hq with rfl | hq
   ·cases he : keyAt ks q.frm with
    | none => rw [he] at hc; cases hc
    | some key => rw [he] at hc; exact ⟨key, rfl, by simpa using hc⟩
   ·exact h1 q hq
  ·cases h
theorem mn {h : Int} {key : By} (hk : keyAt keysH h = some key) : 0 ≤ h ∧ h < 10 ∧ key = keyH h := by
 unfold keyAt at hk
 split at hk
 ·cases hk
 ·rename_i h0
  have hl := (y6.1 hk).1
  rw [mF] at hl
  have h1 : h < 10 := by omega
  have := gi (h := h) om h1
  unfold keyAt at this
  rw [yO h0, hk] at this
  exact ⟨by omega, h1, zv this⟩
end
def Mk (x : Wsh) (ps : List Pxy) : Prop := validH keysH x ps x.rf x.sf = true
section
variable {x : Wsh} {ps : List Pxy}
theorem Mk.pieces (h : Mk x ps) : ¬ formB keysH x ps ∧ badIdx ps 0 = none ∧ ct x.signer x.holder ps 0 = none ∧ bE x none ps 0 = none ∧ bQ keysH x ps 0 = none := by
 obtain ⟨h0, hb, _, _, hc, hs, hl⟩ := mI.1 h
 exact ⟨h0, hb, hc, hs, hl⟩
theorem Mk.ok (h : Mk x ps) : x.ok = true := by
 have := h.pieces.1
 cases hx : x.ok with
 | true => rfl
 | false => exact absurd (.inr (.inr (.inl hx))) this
theorem Mk.len (h : Mk x ps) : ps.length ≤ 4 := Nat.le_of_not_lt fun hl => h.pieces.1 (.inr (.inr (.inr hl)))
theorem Mk.formed (h : Mk x ps) : bV x ps = true := by
 unfold bV
 rw [h.ok, h.pieces.2.1, yy h.len]; rfl
theorem Mk.sgn (h : Mk x ps) : 0 ≤ x.signer ∧ x.signer < 10 ∧ x.sig = sealH (keyH x.signer) x.content := by
 obtain ⟨key, h1, h2⟩ := (kt h.pieces.2.2.2.2).2
 obtain ⟨h3, h4, rfl⟩ := mn h1
 exact ⟨h3, h4, h2⟩
theorem Mk.each (h : Mk x ps) {p : Pxy} (hp : p ∈ ps) : 0 ≤ p.frm ∧ p.frm < 10 ∧ p.sig = sealH (keyH p.frm) p.content ∧ p.ok = true := by
 obtain ⟨key, h1, h2⟩ := (kt h.pieces.2.2.2.2).1 p hp
 obtain ⟨h3, h4, rfl⟩ := mn h1
 exact ⟨h3, h4, h2, dK h.pieces.2.1 p hp⟩
theorem Mk.same (h : Mk x ps) : x.sealed (keyH x.signer) = x := by
 have := h.sgn.2.2
 unfold Wsh.sealed
 rw [← this]
theorem Mk.xsig (h : Mk x ps) : x.sig.length = 32 := by rw [h.sgn.2.2]; exact gu _ _
theorem Mk.psig (h : Mk x ps) : ∀ p ∈ ps, p.sig.length = 32 := fun p hp => by rw [(h.each hp).2.2.1]; exact gu _ _
theorem Mk.enc (h : Mk x ps) : ∃ s, ch x ps = some s := ⟨_, cQ.2 ⟨h.formed, h.xsig, h.psig, rfl⟩⟩
theorem Mk.valid (h : Mk x ps) (n t : Int) : validH keysH x ps n t = (inB t x.sf (x.st - 1) && inB n x.rf (x.rt - 1)) := lh h n t
theorem Mk.here (h : Mk x ps) : validH keysH x ps x.rf x.sf = true := h
end
theorem wW (holder r0 r1 s0 s1 carrier serial : Int) (l : List Cin) : Mk (madeW holder r0 r1 s0 s1 carrier serial l) (madeL holder r0 r1 s0 s1 l) := by
 have hb := Wsh.ok_bnd (oe holder r0 r1 s0 s1 carrier serial l)
 unfold Mk validH
 rw [tT, yO, yO]
 ·rfl
 ·simp [inB]; omega
 ·simp [inB]; omega
theorem xT {holder r0 r1 s0 s1 carrier serial : Int} {cv : Value} {ys : List Cin} {w0 : World} {x : Wsh} {ps : List Pxy} (hx : madeW holder r0 r1 s0 s1 carrier serial ys = x) (hps : madeL holder r0 r1 s0 s1 ys = ps) (hcv : SlAt w0 cv 5 (ys.map Cin.cells)) (hys : ∀ y ∈ ys, y.wt) (h0 : i64 holder) (h1 : i64 r0) (h2 : i64 r1) (h3 : i64 s0) (h4 : i64 s1) (h5 : i64 carrier) (h6 : i64 serial) :
  Ret Tryz.prog 32 #[.agg #[jv holder, jv r0, jv r1, jv s0, jv s1, jv carrier, jv serial, cv]] w0 (MemR w0 (fun v : Value => .tuple #[.agg #[jv x.signer, jv x.holder, jv x.rf, jv x.rt, jv x.carrier, jv x.serial, jv x.sf, jv x.st, sv x.sig], v]) (fun v => [own v 144 7 (ps.map Pxy.cells)]) (fun _ => True)) := by
 subst hx; subst hps
 exact vU holder r0 r1 s0 s1 carrier serial cv ys w0 hcv hys h0 h1 h2 h3 h4 h5 h6
end Go.Proofs.YtliklcmddmpdfaaGreatDoor
namespace Go.Proofs.YtliklcmddmpdfaaGreatDoor
open Go.RowKit Go.PW _root_.Go.Proofs.Tryz
theorem Pxy.ok_bnd {p : Pxy} (h : p.ok = true) : 0 ≤ p.rt ∧ p.rt ≤ 100000000 := by
 simp only [Pxy.ok, cy, yw, yB] at h; omega
theorem yl {x bw : Wsh} {how n : Int} {w0 : World} (hbw : bentW x how n = bw) (hh : -9223372036854775808 ≤ how ∧ how ≤ 9223372036854775807) (hx : x.rt < 9223372036854775807) (hx2 : -9223372036854775808 ≤ x.rt) :
  Ret Tryz.prog 105 #[.agg #[jv x.signer, jv x.holder, jv x.rf, jv x.rt, jv x.carrier, jv x.serial, jv x.sf, jv x.st, sv x.sig], jv how, jv n] w0 fun v w => v = .tuple #[.agg #[jv bw.signer, jv bw.holder, jv bw.rf, jv bw.rt, jv bw.carrier, jv bw.serial, jv bw.sf, jv bw.st, sv bw.sig], .bool (!(decide (bw = x)))] ∧ Ext No w0 w := by
 subst hbw; exact vS x how n w0 hh hx hx2
section
variable {ks : List By} {x : Wsh} {ps : List Pxy} {number t : Int}
theorem ud {k : Nat} (hk : k < ps.length) (h : (ps.getD k Pxy.z).ok = true) : badIdx (ps.drop k) k = badIdx (ps.drop (k + 1)) (k + 1) := by
 rw [dA Pxy.z hk, badIdx, yR h]
theorem nE {k : Nat} (hk : k < ps.length) (h : (ps.getD k Pxy.z).ok = false) : badIdx (ps.drop k) k = some k := by
 rw [dA Pxy.z hk, badIdx, yO (by rw [h]; simp)]
end
theorem qr (x : Wsh) (lv : Value) (ps : List Pxy) (w0 : World) (hlv : SlAt w0 lv 7 (ps.map Pxy.cells)) :
  Ret Tryz.prog 152 #[.agg #[jv x.signer, jv x.holder, jv x.rf, jv x.rt, jv x.carrier, jv x.serial, jv x.sf, jv x.st, sv x.sig], lv] w0 fun v w => v = .bool (bV x ps) ∧ Ext No w0 w := by
 have hxb := hlv.2.1
 simp only [yu, big] at hxb
 refine Am func152 O ntmps152 (lb O) fun a Y U => aa fun _ G1 => aV Y U O [jv x.signer, jv x.holder, jv x.rf, jv x.rt, jv x.carrier, jv x.serial, jv x.sf, jv x.st, sv x.sig] O fun a w1 Y U => wla Y O fun a Y => G1 <| ah fun _ G2 => aa fun _ G3 => wlv Y (ap (U.g 0 O) O (isAgg90 _) (sizeOf90 _)) fun a Y => aw Y U call135 O (nH x _) fun a w2 Y U => nv Y <| yo (bB O) <| yp O <| fun a Y => ?_
 rcases yz (!x.ok) with hb1 | hb1
 ·rw [hb1] at Y
  try simp only [qz] at hb1
  refine nv Y <| yt <| yt <| yt <| yo (ax O O) <| fun a Y => G3 ?_
  replace Y := Y.p3 1 4 13 O
  replace U := U.k0 0 O
  refine aG Y O ?_
  refine aa fun _ G4 => wla Y O fun a Y => G4 <| aq <| am Y results152 (ae O ag) ?_
  refine ⟨?_, U.ext⟩
  simp only [retv]
  unfold bV
  first | (rw [hbi, nE hkx (by simpa using hb1)]; simp; done) | (rw [yD (by omega : ¬ ps.length ≤ 4)]; simp; done) | (rw [(by simpa using hb1 : x.ok = false)]; rfl)
 rw [hb1] at Y
 try simp only [qz] at hb1
 refine nv Y <| yr (ay O) <| yr ((aO (sT := 91) (U.arg hlv) O O (runUnderlying91 _)).asi (m' := (ps.length : Int)) AO) <| yr (v_gt O O) <| yo (ak O O) <| fun a Y => G3 ?_
 replace Y := Y.p3 1 4 13 O
 replace U := U.k0 0 O
 refine aA Y O (fun hc2 => ?_) (fun hc2 => ?_)
 ·refine aa fun _ G5 => wla Y O fun a Y => G5 <| aq <| am Y results152 (ae O ag) ?_
  refine ⟨?_, U.ext⟩
  simp only [retv]
  unfold bV
  first | (rw [hbi, nE hkx (by simpa using hc2)]; simp; done) | (rw [yD (by omega : ¬ ps.length ≤ 4)]; simp; done) | (rw [(by simpa using hc2 : x.ok = false)]; rfl)
 refine ar <| G2 <| ah fun _ G6 => ?_
 have hxo : x.ok = true := by simpa using hb1
 refine aa fun _ G7 => wla Y O fun a Y => G7 <| au <| aZ (fun m a w => ∃ (k : Nat), m = ps.length - k ∧ (k ≤ ps.length) ∧ (badIdx ps 0 = badIdx (ps.drop k) k) ∧ Fr 26 [(1, lv), (5, jv (k : Int))] [] a ∧ St No w0 [] w) _ ⟨0, O, yQ _, O, Y.pick [1, 5], U.select [] de⟩ ?_
 rintro _ a w3 ⟨k, rfl, hk, hbi, Y, U⟩
 refine ah fun _ G8 => aa fun _ G9 => nv Y <| yp O <| yp O <| yo ((aO (sT := 91) (U.arg hlv) O O (runUnderlying91 _)).asi (m' := (ps.length : Int)) AO) <| yo (v_lt O O) <| fun a Y => G9 <| aA Y O (fun hc3 => ?_) (fun hc3 => ?_)
 ·have hkx : k < ps.length := by omega
  refine ar <| G8 <| ah fun _ G10 => au <| aa fun _ G11 => nv Y <| yp O <| yp O <| yo ((aj (i := (k : Int)) (sT := 91) (U.arg hlv) O O (runUnderlying91 _) (sizeOf144 _) om Aw).as (v' := slAddr lv (k * 7)) O) <| yo ((bP (U.arg hlv) (i := k) Aw O (isAgg144 _) (sizeOf144 _)).as (v' := .agg #[jv ((ps.getD k Pxy.z).frm), jv ((ps.getD k Pxy.z).to), jv ((ps.getD k Pxy.z).rf), jv ((ps.getD k Pxy.z).rt), jv ((ps.getD k Pxy.z).sf), jv ((ps.getD k Pxy.z).st), sv ((ps.getD k Pxy.z).sig)]) Ba) <| fun a Y => aw Y U call132 O (mG (ps.getD k Pxy.z) _) fun a w4 Y U => wlv Y (bB O) fun a Y => G11 ?_
  replace Y := Y.p3 1 5 25 O
  refine bC Y O (fun hc4 => ?_) (fun hc4 => ?_)
  ·try simp only [qz] at hc4
   refine aa fun _ G12 => wla Y O fun a Y => G12 <| aq <| am Y results152 (ae O ag) ?_
   refine ⟨?_, U.ext⟩
   simp only [retv]
   unfold bV
   first | (rw [hbi, nE hkx (by simpa using hc4)]; simp; done) | (rw [yD (by omega : ¬ ps.length ≤ 4)]; simp; done) | (rw [(by simpa using hc4 : x.ok = false)]; rfl)
  try simp only [qz] at hc4
  refine ar <| G10 <| al <| nv Y <| yp O <| yo (aM O O ⟨om, om⟩) <| yq O <| fun a Y => ab ?_
  refine ⟨_, ?_, k + 1, O, om, (by rw [hbi]; exact ud hkx (by simpa using hc4)), Y.pick [1, 5], U.select [] de⟩
  omega
 have hke : k = ps.length := by omega
 rw [hke, List.drop_length] at hbi
 refine aP <| G6 <| aa fun _ G13 => wla Y O fun a Y => G13 ?_
 replace Y := Y.p1 4 O
 refine aq <| am Y results152 (ae O ag) ?_
 exact ⟨by simp only [retv]; unfold bV; rw [hbi, badIdx, hxo, yy (by omega : ps.length ≤ 4)]; rfl, U.ext⟩
end Go.Proofs.YtliklcmddmpdfaaGreatDoor
namespace Go.Proofs.YtliklcmddmpdfaaGreatDoor
open Go.RowKit Go.PW _root_.Go.Proofs.Tryz
theorem gV {s : By} {p m : Nat} {l : List Int} {r : By} (hp : p ≤ s.length) (h : intsR m (s.drop p) = some (l, r)) : s.drop (s.length - r.length) = r ∧ r.length ≤ s.length := by
 obtain ⟨h1, _⟩ := hU h
 have h5 : s = (s.take p ++ puts l) ++ r := by rw [za, ← h1, zE]
 have h6 : s.length = (s.take p ++ puts l).length + r.length := by rw [← yx, ← h5]
 refine ⟨?_, by omega⟩
 have h7 := zV (l₁ := s.take p ++ puts l) (l₂ := r)
 rw [← h5] at h7
 rw [show s.length - r.length = (s.take p ++ puts l).length from by omega]
 exact h7
theorem fM {ps : List Pxy} {k : Nat} (h : ∀ p ∈ ps.take k, p.sig.length = 32) (h4 : ps.length ≤ 4) : (encX ps k).length ≤ 10000 := by
 unfold encX
 have h1 := dT [(ps.length : Int)]
 have h2 := jg (l := ps.take k) h
 rw [yx]
 rw [yC] at h2
 simp only [yG, yJ] at h1
 omega
theorem wA {x : Wsh} {ps : List Pxy} {k : Nat} (hk : k < ps.length) (h : ¬ ((ps.getD k Pxy.z).sig.length : Int) = 32) : ch x ps = none := by
 cases he : ch x ps with
 | none => rfl
 | some s =>
  obtain ⟨_, _, h3, _⟩ := cQ.1 he
  have := h3 _ (bD (d := Pxy.z) hk)
  omega
theorem uD {ps : List Pxy} {k : Nat} (h : ∀ p ∈ ps.take k, p.sig.length = 32) (hk : k = ps.length) : ∀ p ∈ ps, p.sig.length = 32 := by
 subst hk; rwa [List.take_length] at h
def encT (x : Wsh) (ps : List Pxy) : By × Int := match ch x ps with
 | some s => (s, 0)
 | none => ([], 150)
theorem enc_T (x : Wsh) (ps : List Pxy) : (match ch x ps with | some s => Value.tuple #[sv s, jv 0] | none => .tuple #[sv [], jv 150]) = .tuple #[sv (encT x ps).1, jv (encT x ps).2] := by
 unfold encT; cases ch x ps <;> rfl
theorem xJ {s : By} {p : Nat} {a b e : Int} {w0 : World} (h : intR s p = (a, b, e)) (hp : p ≤ s.length) (hsl : s.length ≤ 1000000) : Ret Tryz.prog 153 #[sv s, jv (p : Int)] w0 fun v w => v = .tuple #[jv a, jv b, jv e] ∧ Ext No w0 w := by
 have := tj s p w0 hp hsl
 rw [yi, h] at this
 exact this
theorem my (s : By) (p mm : Nat) (w0 : World) (hp : p ≤ s.length) (hsl : s.length ≤ 1000000) (hm : mm ≤ 100) :
  Ret Tryz.prog 107 #[sv s, jv (p : Int), jv (mm : Int)] w0 fun v w => (∃ l r, intsR mm (s.drop p) = some (l, r) ∧ MemR w0 (fun lv : Value => .tuple #[lv, jv ((s.length - r.length : Nat) : Int), .bool true]) (fun lv => [own lv 3 1 ((l).map fun n => [jv n])]) (fun _ => True) v w) ∨ (intsR mm (s.drop p) = none ∧ v = .tuple #[.slice none 0 0, jv 0, .bool false] ∧ Ext No w0 w) := by
 refine Ao func107 O ntmps107 (lb O) fun a Y U => aa fun _ G1 => nv Y <| yq O <| yq O <| yq O <| fun a Y => G1 <| aa fun _ G2 => wla Y O fun a Y => G2 <| ah fun _ G3 => aa fun _ G4 => wla Y O fun a Y => G4 <| au ?_
 replace U : St No w0 [own (.slice none 0 0) 3 1 ((([] : List Int)).map fun n => [jv n])] w0 := U.nil_own
 refine aZ (fun m a w => ∃ (k : Nat) (q : Nat) (pre : List Int) (v : Value), m = mm - k ∧ (k ≤ mm) ∧ (q ≤ s.length) ∧ (intsR mm (s.drop p) = (intsR (mm - k) (s.drop q)).map fun x => (pre ++ x.1, x.2)) ∧ (pre.length = k) ∧ Fr 35 [(0, sv s), (2, jv (mm : Int)), (1, jv (q : Int)), (9, v), (10, jv (k : Int))] [] a ∧ St No w0 [own v 3 1 ((pre).map fun n => [jv n])] w) _ ⟨0, p, [], .slice none 0 0, O, yQ _, hp, (by rw [Nat.sub_zero]; cases intsR mm (s.drop p) <;> simp), O, Y.pick [0, 2, 1, 9, 10], U.select [0] de⟩ ?_
 rintro _ a w1 ⟨k, q, pre, v, rfl, hk, hq, hr, hpl, Y, U⟩
 refine ah fun _ G5 => aa fun _ G6 => nv Y <| yp O <| yp O <| yo (v_lt O O) <| fun a Y => G6 <| aA Y O (fun hc1 => ?_) (fun hc1 => ?_)
 ·refine ar <| G5 <| ah fun _ G7 => au ?_
  obtain ⟨en, ex, ee, hin⟩ : ∃ a b d, intR s q = (a, b, d) := ⟨_, _, _, rfl⟩
  refine aa fun _ G8 => nv Y <| yp O <| yp O <| fun a Y => aw Y U call153 O (xJ hin hq hsl) fun a w2 Y U => nv Y <| yp O <| yo (ao O O) <| yo (ao O O) <| yo (ao O O) <| yq O <| yq O <| yq O <| fun a Y => G8 ?_
  replace Y := Y.p8 0 2 1 9 10 11 12 13 O
  refine ah fun _ G9 => aa fun _ G10 => nv Y <| yp O <| yo (v_ne O O) <| fun a Y => G10 <| cG Y O (fun hc2 => ?_) (fun hc2 => ?_)
  ·have hno : intsR mm (s.drop p) = none := by rw [hr, show mm - k = (mm - (k + 1)) + 1 from by omega, jn (ue hin hc2)]; rfl
   refine aa fun _ G11 => nv Y <| yq O <| yq O <| yq O <| fun a Y => G11 <| aq <| am Y results107 (ae O (ae O (ae O ag))) ?_
   exact .inr ⟨hno, O, U.ext⟩
  obtain ⟨r, hrd, hex, hdr, hrl⟩ := wT hin hc2
  refine ar <| G9 <| aa fun _ G12 => nv Y <| yp O <| yp O <| fun a Y => aE (E := 3) (sz := 1) O [[jv en]] kr sm O de de Y U fun a w3 Y U => ba (i := 1) (sT := 24) (inf := Tryz.t3) (z := jv 0) (b := 0) (off := 0) (m := 0) (c := 0) O O O (U.ow 0 O) sm underlying24 O O O O de Az AG AG de Y U fun a w4 s3 Y U _ => ?_
  replace U : St No w0 [own (.slice (some ⟨w2.hz, 0, none⟩) 1 1) 3 1 ([[jv en]]), own s3 3 1 ((pre ++ [en]).map fun n => [jv n])] w4 := by rw [zu]; exact U
  refine wla Y O fun a Y => G12 ?_
  replace U := U.k1 2 O
  refine al <| nv (Y.p5 0 2 10 12 9 O) <| yp O <| yq O <| fun a Y => ab <| G7 <| al <| nv Y <| yp O <| yo (aM O O ⟨om, om⟩) <| yq O <| fun a Y => ab ?_
  rw [hex] at Y
  refine ⟨_, ?_, k + 1, s.length - r.length, pre ++ [en], s3, O, om, om, (by rw [hr, show mm - k = (mm - (k + 1)) + 1 from by omega, gq hrd, hdr]; cases intsR (mm - (k + 1)) r <;> simp), (by rw [yx, hpl]; rfl), Y.pick [0, 2, 1, 9, 10], U.select [0] de⟩
  omega
 refine aP <| G3 <| aa fun _ G13 => nv Y <| yp O <| yp O <| yq O <| yq O <| yq O <| fun a Y => G13 ?_
 replace Y := Y.p3 6 7 8 O
 refine aq <| am Y results107 (ae O (ae O (ae O ag))) ?_
 have hmk : mm - k = 0 := by omega
 rw [hmk] at hr
 have hqq : s.length - (s.drop q).length = q := by rw [yV]; omega
 exact .inl ⟨pre, s.drop q, by rw [hr]; simp [intsR], v, by rw [hqq]; rfl, trivial, U.ext, St.out (E := [own v 3 1 ((pre).map fun n => [jv n])]) (H := []) U⟩
theorem kX {s : By} {p m : Nat} {l : List Int} {r : By} {w0 : World} (h : intsR m (s.drop p) = some (l, r)) (hp : p ≤ s.length) (hsl : s.length ≤ 1000000) (hm : m ≤ 100) : Ret Tryz.prog 107 #[sv s, jv (p : Int), jv (m : Int)] w0 (MemR w0 (fun lv : Value => .tuple #[lv, jv ((s.length - r.length : Nat) : Int), .bool true]) (fun lv => [own lv 3 1 ((l).map fun n => [jv n])]) (fun _ => True)) := by
 refine (my s p m w0 hp hsl hm).mono fun v w h2 => ?_
 rcases h2 with ⟨l2, r2, h3, h4⟩ | ⟨h3, _⟩
 ·rw [h] at h3; cases h3; exact h4
 ·rw [h] at h3; cases h3
theorem jj {s : By} {p m : Nat} {w0 : World} (h : intsR m (s.drop p) = none) (hp : p ≤ s.length) (hsl : s.length ≤ 1000000) (hm : m ≤ 100) : Ret Tryz.prog 107 #[sv s, jv (p : Int), jv (m : Int)] w0 fun v w => v = .tuple #[.slice none 0 0, jv 0, .bool false] ∧ Ext No w0 w := by
 refine (my s p m w0 hp hsl hm).mono fun v w h2 => ?_
 rcases h2 with ⟨l2, r2, h3, h4⟩ | ⟨_, h3⟩
 ·rw [h] at h3; cases h3
 ·exact h3
theorem pJ (x : Wsh) (lv : Value) (ps : List Pxy) (w0 : World) (hlv : SlAt w0 lv 7 (ps.map Pxy.cells)) :
  Ret Tryz.prog 106 #[.agg #[jv x.signer, jv x.holder, jv x.rf, jv x.rt, jv x.carrier, jv x.serial, jv x.sf, jv x.st, sv x.sig], lv] w0 fun v w => v = (match ch x ps with | some s => .tuple #[sv s, jv 0] | none => .tuple #[sv [], jv 150]) ∧ Ext No w0 w := by
 have hxb := hlv.2.1
 simp only [yu, big] at hxb
 refine Am func106 O ntmps106 (lb O) fun a Y U => aa fun _ G1 => aV Y U O [jv x.signer, jv x.holder, jv x.rf, jv x.rt, jv x.carrier, jv x.serial, jv x.sf, jv x.st, sv x.sig] O fun a w1 Y U => nv Y <| yq O <| yq O <| fun a Y => G1 <| ah fun _ G2 => aa fun _ G3 => nv Y <| yo (ap (U.g 0 O) O (isAgg90 _) (sizeOf90 _)) <| yp O <| fun a Y => aw Y U call152 O (qr x lv ps _ (U.arg hlv)) fun a w2 Y U => nv Y <| yo (bB O) <| yp O <| fun a Y => ?_
 rcases yz (!(bV x ps)) with hb1 | hb1
 ·rw [hb1] at Y
  try simp only [qz] at hb1
  refine nv Y <| yt <| yt <| yt <| yt <| yo (ax O O) <| fun a Y => G3 ?_
  replace Y := Y.p5 1 2 4 5 17 O
  refine aG Y O ?_
  refine aa fun _ G4 => nv Y <| yq O <| yq O <| fun a Y => G4 <| aq <| am Y results106 (ae O (ae O ag)) ?_
  exact ⟨by simp only [retv]; rw [gc (.inl (by simpa using hb1))]; rfl, U.ext⟩
 rw [hb1] at Y
 try simp only [qz] at hb1
 refine nv Y <| yr (ac (v := po w0.hz 8) O kr) <| yr (ld U 0 O O (isAgg9 _) O) <| yr (bd O O (runUnderlying9 _)) <| yr (v_ne O O) <| yo (ak O O) <| fun a Y => G3 ?_
 replace Y := Y.p5 1 2 4 5 17 O
 refine cG Y O (fun hc2 => ?_) (fun hc2 => ?_)
 ·refine aa fun _ G5 => nv Y <| yq O <| yq O <| fun a Y => G5 <| aq <| am Y results106 (ae O (ae O ag)) ?_
  exact ⟨by simp only [retv]; rw [gc (.inr (.inl (by simpa using hc2)))]; rfl, U.ext⟩
 refine ar <| G2 ?_
 have hfo : bV x ps = true := by simpa using hb1
 have hsx : x.sig.length = 32 := by omega
 have h4 := gR hfo
 have hxo := gY hfo
 refine aa fun _ G6 => nv Y <| yp O <| yo ((aO (sT := 91) (U.arg hlv) O O (runUnderlying91 _)).asi (m' := (ps.length : Int)) AO) <| fun a Y => aE (E := 3) (sz := 1) O [[jv (ps.length : Int)]] kr sm O de de Y U fun a w3 Y U => aw Y U call97 O (kD [(ps.length : Int)] (.slice (some ⟨w2.hz, 0, none⟩) 1 1) _ (U.ow 0 O) (by intro z hz; rw [yT.1 hz]; unfold small; omega) sm) fun a w4 Y U => wla Y O fun a Y => G6 <| ah fun _ G7 => aa fun _ G8 => wla Y O fun a Y => G8 <| au ?_
 have hz0 : puts [(ps.length : Int)] = encX ps 0 := by unfold encX; simp
 rw [hz0] at Y
 refine aZ (fun m a w => ∃ (k : Nat), m = ps.length - k ∧ (k ≤ ps.length) ∧ (∀ p ∈ ps.take k, p.sig.length = 32) ∧ Fr 55 [(1, lv), (2, pq w0.hz), (7, jv (k : Int)), (6, sv (encX ps k))] [] a ∧ St No w0 [blk w0.hz [jv x.signer, jv x.holder, jv x.rf, jv x.rt, jv x.carrier, jv x.serial, jv x.sf, jv x.st, sv x.sig] 90] w) _ ⟨0, O, yQ _, sm, Y.pick [1, 2, 7, 6], U.select [1] de⟩ ?_
 rintro _ a w5 ⟨k, rfl, hk, hsg, Y, U⟩
 refine ah fun _ G9 => aa fun _ G10 => nv Y <| yp O <| yp O <| yo ((aO (sT := 91) (U.arg hlv) O O (runUnderlying91 _)).asi (m' := (ps.length : Int)) AO) <| yo (v_lt O O) <| fun a Y => G10 <| aA Y O (fun hc3 => ?_) (fun hc3 => ?_)
 ·have hkx : k < ps.length := by omega
  have hpk := kI hfo _ (bD (d := Pxy.z) hkx)
  refine ar <| G9 <| ah fun _ G11 => au <| ah fun _ G12 => aa fun _ G13 => nv Y <| yp O <| yp O <| yo ((aj (i := (k : Int)) (sT := 91) (U.arg hlv) O O (runUnderlying91 _) (sizeOf144 _) om Aw).as (v' := slAddr lv (k * 7)) O) <| yo (cI (k := k * 7) (j := 6) (U.arg hlv) (i := k) Aw O (fun _ _ => by kernel_rfl)) <| yo (aB (u := sv ((ps.getD k Pxy.z).sig)) (i := k) (j := 6) (U.arg hlv) Aw O (isAgg9 _) Ba) <| yo (bd O O (runUnderlying9 _)) <| yo (v_ne O O) <| fun a Y => G13 ?_
  replace Y := Y.p5 1 2 7 6 34 O
  refine cG Y O (fun hc4 => ?_) (fun hc4 => ?_)
  ·refine aa fun _ G14 => nv Y <| yq O <| yq O <| fun a Y => G14 <| aq <| am Y results106 (ae O (ae O ag)) ?_
   exact ⟨by simp only [retv]; rw [wA hkx hc4]; rfl, U.ext⟩
  have hsk : (ps.getD k Pxy.z).sig.length = 32 := by omega
  refine ar <| G12 <| aH (aI fun w6 hxz => ?_)
  replace U := U.grow hxz
  refine aR (k := 0) 12 [6, 11] Y ?_
  replace Y := Y.p4 1 2 7 6 O
  refine bL 12 Y U <| pl_m O <| pl_m O <| pl_m O <| pl_w (fun U => (aj (i := (k : Int)) (sT := 91) (U.arg hlv) O O (runUnderlying91 _) (sizeOf144 _) om Aw).as (v' := slAddr lv (k * 7)) O) <| pl_w (fun U => (bP (U.arg hlv) (i := k) Aw O (isAgg144 _) (sizeOf144 _)).as (v' := .agg #[jv ((ps.getD k Pxy.z).frm), jv ((ps.getD k Pxy.z).to), jv ((ps.getD k Pxy.z).rf), jv ((ps.getD k Pxy.z).rt), jv ((ps.getD k Pxy.z).sf), jv ((ps.getD k Pxy.z).st), sv ((ps.getD k Pxy.z).sig)]) Ba) <| pl_r (fun U => br call134 O (ie (ps.getD k Pxy.z) _ (Pxy.smalls_of hpk))) ?_
  refine pl_v (dJ O O AY) <| pl_m O <| pl_m O <| pl_w (fun U => (aj (i := (k : Int)) (sT := 91) (U.arg hlv) O O (runUnderlying91 _) (sizeOf144 _) om Aw).as (v' := slAddr lv (k * 7)) O) <| pl_w (fun U => cI (k := k * 7) (j := 6) (U.arg hlv) (i := k) Aw O (fun _ _ => by kernel_rfl)) <| pl_w (fun U => aB (u := sv ((ps.getD k Pxy.z).sig)) (i := k) (j := 6) (U.arg hlv) Aw O (isAgg9 _) Ba) fun a w7 Y U => ?_
  replace Y := Y.p5 1 2 7 41 46 O
  refine ab <| aL (k := 12) 14 [13] ?_
  refine nv Y <| yo (dJ O O AY) <| yq O <| fun a Y => ab <| aS <| G11 <| al <| nv Y <| yp O <| yo (aM O O ⟨om, om⟩) <| yq O <| fun a Y => ab ?_
  rw [show ((encX ps k) ++ ((ps.getD k Pxy.z).content)) ++ ((ps.getD k Pxy.z).sig) = encX ps (k + 1) from by rw [mT hkx]] at Y
  refine ⟨_, ?_, k + 1, O, om, (by intro p hp; rw [cF Pxy.z hkx] at hp; rcases zC.1 hp with hp | hp; exact hsg p hp; rw [yT.1 hp]; exact hsk), Y.pick [1, 2, 7, 6], U.select [0] de⟩
  omega
 have hke : k = ps.length := by omega
 have hal := uD hsg hke
 refine aP <| G7 <| ah fun _ G15 => aH (aI fun w8 hxz => ?_)
 replace U := U.grow hxz
 refine aR (k := 0) 6 [3, 5] Y ?_
 refine bL 6 (Y.p7 1 2 7 6 22 23 24 O) U <| pl_m O <| pl_w (fun U => ap (U.g 0 O) O (isAgg90 _) (sizeOf90 _)) <| pl_r (fun U => br call37 O (im x _ (Wsh.smalls_of hxo))) <| pl_v (dJ O O AY) <| pl_v (ac (v := po w0.hz 8) O kr) <| pl_w (fun U => ld U 0 O O (isAgg9 _) O) fun a w9 Y U => ?_
 replace Y := Y.p2 51 53 O
 refine ab <| aL (k := 6) 9 [8] ?_
 refine nv Y <| yo (dJ O O AY) <| yq O <| yq O <| fun a Y => ab <| aS <| G15 <| aq <| am Y results106 (ae O (ae O ag)) ?_
 exact ⟨by simp only [retv]; rw [qP hfo hsx hal, hke]; try rfl, U.ext⟩
theorem jl {x : Wsh} {lv : Value} {ps : List Pxy} {t : By} {e : Int} {w0 : World} (h : encT x ps = (t, e)) (hlv : SlAt w0 lv 7 (ps.map Pxy.cells)) : Ret Tryz.prog 106 #[.agg #[jv x.signer, jv x.holder, jv x.rf, jv x.rt, jv x.carrier, jv x.serial, jv x.sf, jv x.st, sv x.sig], lv] w0 fun v w => v = .tuple #[sv t, jv e] ∧ Ext No w0 w := by
 have := pJ x lv ps w0 hlv
 rw [enc_T, h] at this
 exact this
def isS (m : Nat) (s : By) : Bool := (intsR m s).isSome
theorem uq {m : Nat} {s : By} (h : isS m s = true) : ∃ l r, intsR m s = some (l, r) := by
 unfold isS at h
 cases hq : intsR m s with
 | none => rw [hq] at h; cases h
 | some z => exact ⟨z.1, z.2, rfl⟩
theorem uk {m : Nat} {s : By} (h : isS m s = false) : intsR m s = none := by
 unfold isS at h
 cases hq : intsR m s with
 | none => rfl
 | some z => rw [hq] at h; cases h
def accR (acc : List Pxy) (m : Nat) (t : By) : Option (Wsh × List Pxy) := match pxysR m t with
 | none => none
 | some (l, q) => wishR (acc ++ l) q
theorem pO {s : By} (h : intsR 1 (s.drop 0) = none) : readR s = none := by
 rw [List.drop_zero] at h
 unfold readR
 cases hq : rdI s with
 | none => rfl
 | some z => obtain ⟨n, r⟩ := z; rw [gq hq] at h; cases h
theorem od {s r : By} {l : List Int} (h : intsR 1 (s.drop 0) = some (l, r)) : readR s = if inB (l.getD 0 0) 0 4 = true then accR [] (l.getD 0 0).toNat r else none := by
 rw [List.drop_zero] at h
 unfold readR accR
 cases hq : rdI s with
 | none => rw [jn hq] at h; cases h
 | some z =>
  obtain ⟨n, q⟩ := z
  rw [gq hq] at h
  cases h
  rfl
theorem sq {acc : List Pxy} {m : Nat} {t r : By} {l : List Int} (h : intsR 7 t = some (l, r)) (h2 : 32 ≤ r.length) : accR acc (m + 1) t = accR (acc ++ [pxyN l (r.take 32)]) m (r.drop 32) := by
 have e : pxyR t = some (pxyN l (r.take 32), r.drop 32) := by unfold pxyR; rw [h]; exact yR h2
 unfold accR
 rw [oA e]
 cases pxysR m (r.drop 32) with
 | none => rfl
 | some z => simp
theorem sO {acc : List Pxy} {m : Nat} {t : By} (h : intsR 7 t = none) : accR acc (m + 1) t = none := by
 unfold accR
 rw [mL (by unfold pxyR; rw [h])]
theorem sj {acc : List Pxy} {m : Nat} {t r : By} {l : List Int} (h : intsR 7 t = some (l, r)) (h2 : ¬ 32 ≤ r.length) : accR acc (m + 1) t = none := by
 unfold accR
 rw [mL (by unfold pxyR; rw [h]; exact yO h2)]
theorem vy {acc : List Pxy} {t r : By} {l : List Int} (h : intsR 9 t = some (l, r)) : accR acc 0 t = some (wshN l r, acc) := by
 unfold accR pxysR wishR
 simp only [zI]
 rw [h]
theorem oU {acc : List Pxy} {t : By} (h : intsR 9 t = none) : accR acc 0 t = none := by
 unfold accR pxysR wishR
 simp only
 rw [h]
theorem xy {x : Wsh} {ps : List Pxy} {t s : By} {e : Int} (h : encT x ps = (t, e)) (he : e = 0) (ht : t = s) : ch x ps = some s := by
 unfold encT at h
 cases hq : ch x ps with
 | none => rw [hq] at h; cases h; cases he
 | some z => rw [hq] at h; cases h; rw [ht]
theorem qQ {x : Wsh} {ps : List Pxy} {t s : By} {e : Int} (h : encT x ps = (t, e)) (hn : ¬ e = 0 ∨ ¬ t = s) : ch x ps ≠ some s := by
 intro hq
 unfold encT at h
 rw [hq] at h
 cases h
 rcases hn with hn | hn
 ·exact hn O
 ·exact hn O
theorem inB_b {n a b : Int} (h : inB n a b = true) : a ≤ n ∧ n ≤ b := by simpa [inB] using h
theorem jM (s : By) (w0 : World) (hsl : s.length ≤ 1000000) :
  Ret Tryz.prog 46 #[sv s] w0 fun v w => (∃ x ps, bH s = some (x, ps) ∧ MemR w0 (fun lv : Value => .tuple #[.agg x.cells.toArray, lv, jv 0]) (fun lv => [own lv 144 7 (ps.map Pxy.cells)]) (fun _ => True) v w) ∨ (bH s = none ∧ v = .tuple #[.agg #[jv 0, jv 0, jv 0, jv 0, jv 0, jv 0, jv 0, jv 0, sv ([] : By)], .slice none 0 0, jv 150] ∧ Ext No w0 w) := by
 refine An func46 O ntmps46 (lb O) fun a Y U => aa fun _ G1 => aD Y U (zeroValue90 _) [jv 0, jv 0, jv 0, jv 0, jv 0, jv 0, jv 0, jv 0, .string (⟨#[]⟩)] O fun a w1 Y U => nv Y <| yq O <| yq O <| fun a Y => G1 <| aa fun _ G2 => wlm Y O fun a Y => ?_
 rcases yz (isS 1 (s.drop 0)) with hb1 | hb1
 ·obtain ⟨l1, r1, h1⟩ := uq hb1
  have hl1 := (fC h1).1
  have hd1 := gV A7 h1
  refine bu Y U call107 O (kX h1 A7 hsl de) fun a w2 x3 hp Y U => ?_
  revert x3 hp Y U; rintro iv2 hp Y U
  clear hp
  replace U := U.n2 O
  refine nv Y <| yp O <| yo (ao O O) <| yo (ao O O) <| yo (ao O O) <| yq O <| yq O <| yq O <| fun a Y => G2 ?_
  refine ah fun _ G3 => aa fun _ G4 => nv (Y.p7 0 2 3 4 5 6 7 O) <| yp O <| yo ((bB O).asb (b' := false) O) <| yp O <| yr (ay O) <| yr ((aj (i := 0) (sT := 24) (U.ow 0 O) O O (runUnderlying24 _) (sizeOf3 _) om Aw).as (v' := slAddr iv2 (0 * 1)) O) <| yr (aB (u := jv (l1.getD 0 0)) (i := 0) (j := 0) (U.ow 0 O) Aw O (isAgg3 _) AM) <| fun a Y => aF Y U call108 O (lq (l1.getD 0 0) 0 4 _) fun a w3 Y U => nv Y <| yr (bB O) <| yo (ak O O) <| fun a Y => G4 ?_
  replace Y := Y.p7 0 2 3 4 5 6 33 O
  refine bC Y O (fun hc4 => ?_) (fun hc4 => ?_)
  ·try simp only [qz] at hc4
   have hno : readR s = none := by rw [od h1]; exact yO (by rw [show inB (l1.getD 0 0) 0 4 = false from by first | exact hc4 | simpa using hc4]; decide)
   refine aa fun _ G5 => wlv Y (aW (v := .agg #[jv 0, jv 0, jv 0, jv 0, jv 0, jv 0, jv 0, jv 0, sv ([] : By)]) O kr) fun a Y => az 1 Y U [jv 0, jv 0, jv 0, jv 0, jv 0, jv 0, jv 0, jv 0, sv ([] : By)] O (sizeOf90 _) fun a w4 Y U => nv Y <| yq O <| yq O <| fun a Y => G5 <| aq <| am Y results46 (ai O (aY (U.g 1 O) (isAgg90 _) (sizeOf90 _)) (ae O (ae O ag))) ?_
   exact .inr ⟨eL hno, O, U.ext⟩
  try simp only [qz] at hc4
  have hib : inB (l1.getD 0 0) 0 4 = true := by simpa using hc4
  have hn4 := inB_b hib
  have hin := od h1
  rw [yR hib] at hin
  refine ar <| G3 <| aa fun _ G6 => wla Y O fun a Y => G6 <| ah fun _ G7 => aa fun _ G8 => wla Y O fun a Y => G8 <| au ?_
  replace U : St No w0 [own (.slice none 0 0) 144 7 (([] : List Pxy).map Pxy.cells), own iv2 3 1 ((l1).map fun n => [jv n]), blk w0.hz [jv 0, jv 0, jv 0, jv 0, jv 0, jv 0, jv 0, jv 0, .string (⟨#[]⟩)] 90] w3 := U.nil_own
  refine aZ (fun m a w => ∃ (k : Nat) (q : Nat) (acc : List Pxy) (lv : Value), m = (l1.getD 0 0).toNat - k ∧ ((k : Int) ≤ (l1.getD 0 0)) ∧ (q ≤ s.length) ∧ (readR s = accR acc ((l1.getD 0 0).toNat - k) (s.drop q)) ∧ (acc.length = k) ∧ Fr 146 [(0, sv s), (2, pq w0.hz), (5, iv2), (6, jv (q : Int)), (8, lv), (9, jv (k : Int))] [] a ∧ St No w0 [own lv 144 7 ((acc).map Pxy.cells), own iv2 3 1 ((l1).map fun n => [jv n]), blk w0.hz [jv 0, jv 0, jv 0, jv 0, jv 0, jv 0, jv 0, jv 0, .string (⟨#[]⟩)] 90] w) _ ⟨0, s.length - r1.length, [], .slice none 0 0, O, om, om, (by rw [hin, hd1.1]; rfl), O, Y.pick [0, 2, 5, 6, 8, 9], U.select [0, 1, 2] de⟩ ?_
  rintro _ a w5 ⟨k, q, acc, lv, rfl, hk, hq, hacc, hal, Y, U⟩
  refine ah fun _ G9 => aa fun _ G10 => nv Y <| yp O <| yp O <| yo ((aj (i := 0) (sT := 24) (U.ow 1 O) O O (runUnderlying24 _) (sizeOf3 _) om Aw).as (v' := slAddr iv2 (0 * 1)) O) <| yo (aB (u := jv (l1.getD 0 0)) (i := 0) (j := 0) (U.ow 1 O) Aw O (isAgg3 _) AM) <| yo (v_lt O O) <| fun a Y => G10 <| aA Y O (fun hc5 => ?_) (fun hc5 => ?_)
  ·rw [show (l1.getD 0 0).toNat - k = ((l1.getD 0 0).toNat - (k + 1)) + 1 from by omega] at hacc
   refine ar <| G9 <| ah fun _ G11 => au <| aa fun _ G12 => nv Y <| yp O <| yp O <| fun a Y => ?_
   rcases yz (isS 7 (s.drop q)) with hb6 | hb6
   ·obtain ⟨l7, r7, h7⟩ := uq hb6
    have hl7 := (fC h7).1
    have hd7 := gV A7 h7
    refine bu Y U call107 O (kX h7 A7 hsl de) fun a w6 x8 hp Y U => ?_
    revert x8 hp Y U; rintro iv7 hp Y U
    clear hp
    replace U := U.n4 O
    refine nv Y <| yp O <| yo (ao O O) <| yo (ao O O) <| yo (ao O O) <| yq O <| yq O <| yq O <| fun a Y => G12 ?_
    refine ah fun _ G13 => aa fun _ G14 => nv (Y.p9 0 2 5 6 8 9 10 11 12 O) <| yp O <| yo ((bB O).asb (b' := false) O) <| yp O <| yr (ay O) <| yr (bd O O (runUnderlying9 _)) <| yr (ay O) <| yr (bK O O ⟨om, om⟩) <| yr (v_lt O O) <| yo (ak O O) <| fun a Y => G14 ?_
    replace Y := Y.p8 0 2 5 8 9 10 11 57 O
    refine aA Y O (fun hc9 => ?_) (fun hc9 => ?_)
    ·have hno : readR s = none := by rw [hacc]; exact sj h7 om
     refine aa fun _ G15 => wlv Y (aW (v := .agg #[jv 0, jv 0, jv 0, jv 0, jv 0, jv 0, jv 0, jv 0, sv ([] : By)]) O kr) fun a Y => az 3 Y U [jv 0, jv 0, jv 0, jv 0, jv 0, jv 0, jv 0, jv 0, sv ([] : By)] O (sizeOf90 _) fun a w7 Y U => nv Y <| yq O <| yq O <| fun a Y => G15 <| aq <| am Y results46 (ai O (aY (U.g 3 O) (isAgg90 _) (sizeOf90 _)) (ae O (ae O ag))) ?_
     exact .inr ⟨eL hno, O, U.ext⟩
    have h32 : 32 ≤ r7.length := by omega
    rw [sq h7 h32] at hacc
    refine ar <| G13 <| ah fun _ G16 => aH (aI fun w8 hxz => ?_)
    replace U := U.grow hxz
    refine aR (k := 0) 28 [0, 27] Y ?_
    replace Y := Y.p7 0 2 5 8 9 10 11 O
    refine bJ [27] (fun i => match i with | 27 => pm (fun b : Nat => .slice (some ⟨b, 0, none⟩) 1 1) (fun b => [own (.slice (some ⟨b, 0, none⟩) 1 1) 144 7 [[jv (l7.getD 1 0), jv (l7.getD 2 0), jv (l7.getD 3 0), jv (l7.getD 4 0), jv (l7.getD 5 0), jv (l7.getD 6 0), sv ((s.drop (s.length - r7.length)).take (((s.length - r7.length) + 32) - (s.length - r7.length)))]]]) (fun _ => True) | _ => fun _ _ => False) 28 [[], [], [1], [2], [], [4], [5], [], [7], [8], [], [10], [11], [9, 12], [], [14], [15], [], [17], [18], [16, 19], [], [], [], [23], [21, 22, 24], [3, 6, 13, 20, 25], [26]] [lv, iv7, slAddr iv7 (1 * 1), jv (l7.getD 1 0), iv7, slAddr iv7 (2 * 1), jv (l7.getD 2 0), iv7, slAddr iv7 (3 * 1), jv (l7.getD 3 0), iv7, slAddr iv7 (4 * 1), jv (l7.getD 4 0), .agg #[jv (l7.getD 3 0), jv (l7.getD 4 0)], iv7, slAddr iv7 (5 * 1), jv (l7.getD 5 0), iv7, slAddr iv7 (6 * 1), jv (l7.getD 6 0), .agg #[jv (l7.getD 5 0), jv (l7.getD 6 0)], sv s, jv ((s.length - r7.length : Nat) : Int), jv ((s.length - r7.length : Nat) : Int), jv (((s.length - r7.length : Nat) : Int) + 32), sv ((s.drop (s.length - r7.length)).take (((s.length - r7.length) + 32) - (s.length - r7.length))), .agg #[jv (l7.getD 1 0), jv (l7.getD 2 0), jv (l7.getD 3 0), jv (l7.getD 4 0), jv (l7.getD 5 0), jv (l7.getD 6 0), sv ((s.drop (s.length - r7.length)).take (((s.length - r7.length) + 32) - (s.length - r7.length)))], undef] Y U ?_ ?_ ?_
    ·exact Au <| hqv (ay rfl) <| hqv (ay rfl) <| hqw (fun U => (aj (i := 1) (sT := 24) (U.ow 0 rfl) rfl rfl (runUnderlying24 _) (sizeOf3 _) om Aw).as (v' := slAddr iv7 (1 * 1)) rfl) <| hqw (fun U => aB (u := jv (l7.getD 1 0)) (i := 1) (j := 0) (U.ow 0 rfl) Aw rfl (isAgg3 _) AM) <| hqv (ay rfl) <| hqw (fun U => (aj (i := 2) (sT := 24) (U.ow 0 rfl) rfl rfl (runUnderlying24 _) (sizeOf3 _) om Aw).as (v' := slAddr iv7 (2 * 1)) rfl) <| hqw (fun U => aB (u := jv (l7.getD 2 0)) (i := 2) (j := 0) (U.ow 0 rfl) Aw rfl (isAgg3 _) AM) <| hqv (ay rfl) <| hqw (fun U => (aj (i := 3) (sT := 24) (U.ow 0 rfl) rfl rfl (runUnderlying24 _) (sizeOf3 _) om Aw).as (v' := slAddr iv7 (3 * 1)) rfl) <|
      hqw (fun U => aB (u := jv (l7.getD 3 0)) (i := 3) (j := 0) (U.ow 0 rfl) Aw rfl (isAgg3 _) AM) <| hqv (ay rfl) <| hqw (fun U => (aj (i := 4) (sT := 24) (U.ow 0 rfl) rfl rfl (runUnderlying24 _) (sizeOf3 _) om Aw).as (v' := slAddr iv7 (4 * 1)) rfl) <| hqw (fun U => aB (u := jv (l7.getD 4 0)) (i := 4) (j := 0) (U.ow 0 rfl) Aw rfl (isAgg3 _) AM) <| hqv (aW (v := .agg #[jv (l7.getD 3 0), jv (l7.getD 4 0)]) rfl kr) <| hqv (ay rfl) <| hqw (fun U => (aj (i := 5) (sT := 24) (U.ow 0 rfl) rfl rfl (runUnderlying24 _) (sizeOf3 _) om Aw).as (v' := slAddr iv7 (5 * 1)) rfl) <| hqw (fun U => aB (u := jv (l7.getD 5 0)) (i := 5) (j := 0) (U.ow 0 rfl) Aw rfl (isAgg3 _) AM) <| hqv (ay rfl) <|
      hqw (fun U => (aj (i := 6) (sT := 24) (U.ow 0 rfl) rfl rfl (runUnderlying24 _) (sizeOf3 _) om Aw).as (v' := slAddr iv7 (6 * 1)) rfl) <| hqw (fun U => aB (u := jv (l7.getD 6 0)) (i := 6) (j := 0) (U.ow 0 rfl) Aw rfl (isAgg3 _) AM) <| hqv (aW (v := .agg #[jv (l7.getD 5 0), jv (l7.getD 6 0)]) rfl kr) <| hqv (ay rfl) <| hqv (ay rfl) <| hqv (ay rfl) <| hqv (aM rfl rfl ⟨om, om⟩) <|
      hqv ((eZ (xs := s) (l := (s.length - r7.length)) (h := ((s.length - r7.length) + 32)) rfl rfl rfl underlying9 (.inr (by rw [show (((s.length - r7.length : Nat) : Int) : Int) = (((s.length - r7.length) : Nat) : Int) from by omega] <;> rfl)) (.inr (by rw [show (((s.length - r7.length : Nat) : Int) + 32 : Int) = ((((s.length - r7.length) + 32) : Nat) : Int) from by omega] <;> rfl)) om BN).as (v' := sv ((s.drop (s.length - r7.length)).take (((s.length - r7.length) + 32) - (s.length - r7.length)))) rfl) <| hqv (aW (v := .agg #[jv (l7.getD 1 0), jv (l7.getD 2 0), jv (l7.getD 3 0), jv (l7.getD 4 0), jv (l7.getD 5 0), jv (l7.getD 6 0), sv ((s.drop (s.length - r7.length)).take (((s.length - r7.length) + 32) - (s.length - r7.length)))]) rfl kr) <| As (fun h => absurd sm h) <| At
    ·intro i hi
     simp only [yE, yI, y9] at hi
     subst hi
     ·intro w U
      exact bG (E := 144) (sz := 7) O [[jv (l7.getD 1 0), jv (l7.getD 2 0), jv (l7.getD 3 0), jv (l7.getD 4 0), jv (l7.getD 5 0), jv (l7.getD 6 0), sv ((s.drop (s.length - r7.length)).take (((s.length - r7.length) + 32) - (s.length - r7.length)))]] (fun _ => by kernel_rfl) sm O de
    clear Y U
    rintro _ _ ⟨b10, rfl, -, rfl⟩ a w9 Y U
    replace Y := Y.p7 59 86 0 2 5 9 11 O
    replace U := U.n5 O
    refine ab <| aL (k := 28) 30 [29] ?_
    refine ba (i := 2) (sT := 91) (inf := Tryz.t144) (z := .agg #[jv 0, jv 0, jv 0, jv 0, jv 0, jv 0, .string (⟨#[]⟩)]) (b := 0) (off := 0) (m := 0) (c := 0) O O O (U.ow 0 O) sm underlying91 O O O O de Az Bc Bc de Y U fun a w10 s11 Y U _ => wla Y O fun a Y => ab <| aS <| G16 ?_
    replace U := U.k3 28 O
    refine al <| nv (Y.p6 0 2 5 9 11 8 O) <| yp O <| yo (aM O O ⟨om, om⟩) <| yq O <| fun a Y => ab <| G11 <| al <| nv Y <| yp O <| yo (aM O O ⟨om, om⟩) <| yq O <| fun a Y => ab ?_
    replace U : St No w0 [own s11 144 7 (((acc ++ [pxyN l7 (r7.take 32)])).map Pxy.cells), own iv2 3 1 ((l1).map fun n => [jv n]), blk w0.hz [jv 0, jv 0, jv 0, jv 0, jv 0, jv 0, jv 0, jv 0, .string (⟨#[]⟩)] 90] w10 := by
     rw [hd7.1, show s.length - r7.length + 32 - (s.length - r7.length) = 32 from by omega] at U
     rw [zu]; exact U
    refine ⟨_, ?_, k + 1, s.length - r7.length + 32, (acc ++ [pxyN l7 (r7.take 32)]), s11, O, om, om, (by rw [hacc, ← Aa, hd7.1]), (by rw [yx, hal]; rfl), Y.pick [0, 2, 5, 6, 8, 9], U.select [0, 1, 2] de⟩
    omega
   have h7 := uk hb6
   have hno : readR s = none := by rw [hacc]; exact sO h7
   refine aw Y U call107 O (jj h7 A7 hsl de) fun a w11 Y U => nv Y <| yp O <| yo (ao O O) <| yo (ao O O) <| yo (ao O O) <| yq O <| yq O <| yq O <| fun a Y => G12 ?_
   refine ah fun _ G17 => aa fun _ G18 => nv (Y.p9 0 2 5 6 8 9 10 11 12 O) <| yp O <| yo ((bB O).asb (b' := true) O) <| yp O <| yt <| yt <| yt <| yt <| yt <| yo (ax O O) <| fun a Y => G18 ?_
   replace Y := Y.p8 0 2 5 8 9 10 11 57 O
   refine aG Y O ?_
   refine aa fun _ G19 => wlv Y (aW (v := .agg #[jv 0, jv 0, jv 0, jv 0, jv 0, jv 0, jv 0, jv 0, sv ([] : By)]) O kr) fun a Y => az 2 Y U [jv 0, jv 0, jv 0, jv 0, jv 0, jv 0, jv 0, jv 0, sv ([] : By)] O (sizeOf90 _) fun a w12 Y U => nv Y <| yq O <| yq O <| fun a Y => G19 <| aq <| am Y results46 (ai O (aY (U.g 2 O) (isAgg90 _) (sizeOf90 _)) (ae O (ae O ag))) ?_
   exact .inr ⟨eL hno, O, U.ext⟩
  rw [show (l1.getD 0 0).toNat - k = 0 from by omega] at hacc
  refine aP <| G7 <| aa fun _ G20 => nv Y <| yp O <| yp O <| fun a Y => ?_
  rcases yz (isS 9 (s.drop q)) with hb12 | hb12
  ·obtain ⟨l9, r9, h9⟩ := uq hb12
   have hl9 := (fC h9).1
   have hd9 := gV A7 h9
   refine bu Y U call107 O (kX h9 A7 hsl de) fun a w13 x14 hp Y U => ?_
   revert x14 hp Y U; rintro iv13 hp Y U
   clear hp
   replace U := U.n4 O
   refine nv Y <| yp O <| yo (ao O O) <| yo (ao O O) <| yo (ao O O) <| yq O <| yq O <| yq O <| fun a Y => G20 ?_
   replace U := U.k3 11 O
   refine ah fun _ G21 => aa fun _ G22 => nv (Y.p6 0 2 8 13 14 15 O) <| yp O <| yo ((bB O).asb (b' := false) O) <| fun a Y => G22 <| aJ Y O ?_
   refine ar <| G21 <| ah fun _ G23 => aH (aI fun w14 hxz => ?_)
   replace U := U.grow hxz
   refine aR (k := 0) 31 [29, 30] Y ?_
   replace Y := Y.p8 0 2 8 13 14 15 97 98 O
   refine bJ [30] (fun i => match i with | 30 => pm (fun b : Nat => pq b) (fun b => [blk b [jv 0, jv 0, jv 0, jv 0, jv 0, jv 0, jv 0, jv 0, .string (⟨#[]⟩)] 90]) (fun _ => True) | _ => fun _ _ => False) 31 [[], [0], [1], [], [3], [4], [], [6], [7], [], [9], [10], [8, 11], [], [13], [14], [], [16], [17], [], [19], [20], [], [22], [23], [21, 24], [], [], [26, 27], [2, 5, 12, 15, 18, 25, 28], []] [iv13, slAddr iv13 (1 * 1), jv (l9.getD 1 0), iv13, slAddr iv13 (2 * 1), jv (l9.getD 2 0), iv13, slAddr iv13 (3 * 1), jv (l9.getD 3 0), iv13, slAddr iv13 (4 * 1), jv (l9.getD 4 0), .agg #[jv (l9.getD 3 0), jv (l9.getD 4 0)], iv13, slAddr iv13 (5 * 1), jv (l9.getD 5 0), iv13, slAddr iv13 (6 * 1), jv (l9.getD 6 0), iv13, slAddr iv13 (7 * 1), jv (l9.getD 7 0), iv13, slAddr iv13 (8 * 1), jv (l9.getD 8 0), .agg #[jv (l9.getD 7 0), jv (l9.getD 8 0)], sv s, jv ((s.length - r9.length : Nat) : Int), sv (s.drop (s.length - r9.length)), .agg #[jv (l9.getD 1 0), jv (l9.getD 2 0), jv (l9.getD 3 0), jv (l9.getD 4 0), jv (l9.getD 5 0), jv (l9.getD 6 0), jv (l9.getD 7 0), jv (l9.getD 8 0), sv (s.drop (s.length - r9.length))], undef] Y U ?_ ?_ ?_
   ·exact Au <| hqv (ay rfl) <| hqw (fun U => (aj (i := 1) (sT := 24) (U.ow 0 rfl) rfl rfl (runUnderlying24 _) (sizeOf3 _) om Aw).as (v' := slAddr iv13 (1 * 1)) rfl) <| hqw (fun U => aB (u := jv (l9.getD 1 0)) (i := 1) (j := 0) (U.ow 0 rfl) Aw rfl (isAgg3 _) AM) <| hqv (ay rfl) <| hqw (fun U => (aj (i := 2) (sT := 24) (U.ow 0 rfl) rfl rfl (runUnderlying24 _) (sizeOf3 _) om Aw).as (v' := slAddr iv13 (2 * 1)) rfl) <| hqw (fun U => aB (u := jv (l9.getD 2 0)) (i := 2) (j := 0) (U.ow 0 rfl) Aw rfl (isAgg3 _) AM) <| hqv (ay rfl) <| hqw (fun U => (aj (i := 3) (sT := 24) (U.ow 0 rfl) rfl rfl (runUnderlying24 _) (sizeOf3 _) om Aw).as (v' := slAddr iv13 (3 * 1)) rfl) <|
     hqw (fun U => aB (u := jv (l9.getD 3 0)) (i := 3) (j := 0) (U.ow 0 rfl) Aw rfl (isAgg3 _) AM) <| hqv (ay rfl) <| hqw (fun U => (aj (i := 4) (sT := 24) (U.ow 0 rfl) rfl rfl (runUnderlying24 _) (sizeOf3 _) om Aw).as (v' := slAddr iv13 (4 * 1)) rfl) <| hqw (fun U => aB (u := jv (l9.getD 4 0)) (i := 4) (j := 0) (U.ow 0 rfl) Aw rfl (isAgg3 _) AM) <| hqv (aW (v := .agg #[jv (l9.getD 3 0), jv (l9.getD 4 0)]) rfl kr) <| hqv (ay rfl) <| hqw (fun U => (aj (i := 5) (sT := 24) (U.ow 0 rfl) rfl rfl (runUnderlying24 _) (sizeOf3 _) om Aw).as (v' := slAddr iv13 (5 * 1)) rfl) <| hqw (fun U => aB (u := jv (l9.getD 5 0)) (i := 5) (j := 0) (U.ow 0 rfl) Aw rfl (isAgg3 _) AM) <| hqv (ay rfl) <|
     hqw (fun U => (aj (i := 6) (sT := 24) (U.ow 0 rfl) rfl rfl (runUnderlying24 _) (sizeOf3 _) om Aw).as (v' := slAddr iv13 (6 * 1)) rfl) <| hqw (fun U => aB (u := jv (l9.getD 6 0)) (i := 6) (j := 0) (U.ow 0 rfl) Aw rfl (isAgg3 _) AM) <| hqv (ay rfl) <| hqw (fun U => (aj (i := 7) (sT := 24) (U.ow 0 rfl) rfl rfl (runUnderlying24 _) (sizeOf3 _) om Aw).as (v' := slAddr iv13 (7 * 1)) rfl) <| hqw (fun U => aB (u := jv (l9.getD 7 0)) (i := 7) (j := 0) (U.ow 0 rfl) Aw rfl (isAgg3 _) AM) <| hqv (ay rfl) <| hqw (fun U => (aj (i := 8) (sT := 24) (U.ow 0 rfl) rfl rfl (runUnderlying24 _) (sizeOf3 _) om Aw).as (v' := slAddr iv13 (8 * 1)) rfl) <|
     hqw (fun U => aB (u := jv (l9.getD 8 0)) (i := 8) (j := 0) (U.ow 0 rfl) Aw rfl (isAgg3 _) AM) <| hqv (aW (v := .agg #[jv (l9.getD 7 0), jv (l9.getD 8 0)]) rfl kr) <| hqv (ay rfl) <| hqv (ay rfl) <| hqv ((eZ (xs := s) (l := (s.length - r9.length)) (h := s.length) rfl rfl rfl underlying9 (.inr (by rw [show (((s.length - r9.length : Nat) : Int) : Int) = (((s.length - r9.length) : Nat) : Int) from by omega] <;> rfl)) (.inl ⟨rfl, rfl⟩) om (zb _)).as (v' := sv (s.drop (s.length - r9.length))) (by rw [zA Bd])) <| hqv (aW (v := .agg #[jv (l9.getD 1 0), jv (l9.getD 2 0), jv (l9.getD 3 0), jv (l9.getD 4 0), jv (l9.getD 5 0), jv (l9.getD 6 0), jv (l9.getD 7 0), jv (l9.getD 8 0), sv (s.drop (s.length - r9.length))]) rfl kr) <| As (fun h => absurd sm h) <| At
   ·intro i hi
    simp only [yE, yI, y9] at hi
    subst hi
    ·intro w U
     exact gG (zeroValue90 _) (cs := [jv 0, jv 0, jv 0, jv 0, jv 0, jv 0, jv 0, jv 0, .string (⟨#[]⟩)]) O
   clear Y U
   rintro _ _ ⟨b15, rfl, -, rfl⟩ a w15 Y U
   replace Y := Y.p5 129 16 0 2 8 O
   replace U := U.n4 O
   refine ab <| aL (k := 31) 32 [31] ?_
   refine az 0 Y U [jv (l9.getD 1 0), jv (l9.getD 2 0), jv (l9.getD 3 0), jv (l9.getD 4 0), jv (l9.getD 5 0), jv (l9.getD 6 0), jv (l9.getD 7 0), jv (l9.getD 8 0), sv (s.drop (s.length - r9.length))] O (sizeOf90 _) fun a w16 Y U => ab <| aS <| G23 ?_
   replace Y := Y.p4 0 2 8 16 O
   replace U := U.k3 13 O
   replace U : St No w0 [blk b15 [jv (l9.getD 1 0), jv (l9.getD 2 0), jv (l9.getD 3 0), jv (l9.getD 4 0), jv (l9.getD 5 0), jv (l9.getD 6 0), jv (l9.getD 7 0), jv (l9.getD 8 0), sv r9] 90, own lv 144 7 ((acc).map Pxy.cells), blk w0.hz [jv 0, jv 0, jv 0, jv 0, jv 0, jv 0, jv 0, jv 0, .string (⟨#[]⟩)] 90] w16 := by rw [hd9.1] at U; exact U
   obtain ⟨et, ee, hen⟩ : ∃ t e, encT (wshN l9 r9) acc = (t, e) := ⟨_, _, rfl⟩
   have hrd := hacc.trans (vy h9)
   refine aa fun _ G24 => nv Y <| yo (ap (U.g 0 O) O (isAgg90 _) (sizeOf90 _)) <| yp O <| fun a Y => aw Y U call106 O (jl (x := wshN l9 r9) (ps := acc) (t := et) (e := ee) hen (U.ow 1 O)) fun a w17 Y U => nv Y <| yp O <| yo (ao O O) <| yo (ao O O) <| yq O <| yq O <| fun a Y => G24 ?_
   refine ah fun _ G25 => aa fun _ G26 => nv (Y.p6 0 2 8 16 17 18 O) <| yp O <| yo (v_ne O O) <| yp O <| fun a Y => ?_
   rcases (Decidable.em (ee = 0)).symm with hb16 | hb16
   ·rw [yD hb16] at Y
    refine nv Y <| yt <| yt <| yt <| yo (ax O O) <| fun a Y => G26 ?_
    replace Y := Y.p4 2 8 16 142 O
    refine aG Y O ?_
    refine aa fun _ G27 => wlv Y (aW (v := .agg #[jv 0, jv 0, jv 0, jv 0, jv 0, jv 0, jv 0, jv 0, sv ([] : By)]) O kr) fun a Y => az 2 Y U [jv 0, jv 0, jv 0, jv 0, jv 0, jv 0, jv 0, jv 0, sv ([] : By)] O (sizeOf90 _) fun a w18 Y U => nv Y <| yq O <| yq O <| fun a Y => G27 <| aq <| am Y results46 (ai O (aY (U.g 2 O) (isAgg90 _) (sizeOf90 _)) (ae O (ae O ag))) ?_
    exact .inr ⟨lX hrd (qQ hen (.inl hb16)), O, U.ext⟩
   rw [yy hb16] at Y
   refine nv Y <| yr (ay O) <| yr (ay O) <| yr (nJ O O) <| yo (ak O O) <| fun a Y => G26 ?_
   replace Y := Y.p4 2 8 16 142 O
   refine cG Y O (fun hc17 => ?_) (fun hc17 => ?_)
   ·refine aa fun _ G28 => wlv Y (aW (v := .agg #[jv 0, jv 0, jv 0, jv 0, jv 0, jv 0, jv 0, jv 0, sv ([] : By)]) O kr) fun a Y => az 2 Y U [jv 0, jv 0, jv 0, jv 0, jv 0, jv 0, jv 0, jv 0, sv ([] : By)] O (sizeOf90 _) fun a w19 Y U => nv Y <| yq O <| yq O <| fun a Y => G28 <| aq <| am Y results46 (ai O (aY (U.g 2 O) (isAgg90 _) (sizeOf90 _)) (ae O (ae O ag))) ?_
    exact .inr ⟨lX hrd (qQ hen (.inr hc17)), O, U.ext⟩
   refine ar <| G25 <| aa fun _ G29 => nv Y <| yo (ap (U.g 0 O) O (isAgg90 _) (sizeOf90 _)) <| yp O <| fun a Y => az 2 Y U [jv (l9.getD 1 0), jv (l9.getD 2 0), jv (l9.getD 3 0), jv (l9.getD 4 0), jv (l9.getD 5 0), jv (l9.getD 6 0), jv (l9.getD 7 0), jv (l9.getD 8 0), sv r9] O (sizeOf90 _) fun a w20 Y U => nv Y <| yq O <| yq O <| fun a Y => G29 <| aq <| am Y results46 (ai O (aY (U.g 2 O) (isAgg90 _) (sizeOf90 _)) (ae O (ae O ag))) ?_
   exact .inl ⟨wshN l9 r9, acc, vx hrd (xy hen hb16 hc17), _, O, trivial, U.ext, St.out (E := [own lv 144 7 (acc.map Pxy.cells)]) (H := []) (U.select [1] de)⟩
  have h9 := uk hb12
  have hno : readR s = none := by rw [hacc]; exact oU h9
  refine aw Y U call107 O (jj h9 A7 hsl de) fun a w21 Y U => nv Y <| yp O <| yo (ao O O) <| yo (ao O O) <| yo (ao O O) <| yq O <| yq O <| yq O <| fun a Y => G20 ?_
  replace U := U.k2 5 O
  refine ah fun _ G30 => aa fun _ G31 => nv (Y.p6 0 2 8 13 14 15 O) <| yp O <| yo ((bB O).asb (b' := true) O) <| fun a Y => G31 <| aG Y O ?_
  refine aa fun _ G32 => wlv Y (aW (v := .agg #[jv 0, jv 0, jv 0, jv 0, jv 0, jv 0, jv 0, jv 0, sv ([] : By)]) O kr) fun a Y => az 1 Y U [jv 0, jv 0, jv 0, jv 0, jv 0, jv 0, jv 0, jv 0, sv ([] : By)] O (sizeOf90 _) fun a w22 Y U => nv Y <| yq O <| yq O <| fun a Y => G32 <| aq <| am Y results46 (ai O (aY (U.g 1 O) (isAgg90 _) (sizeOf90 _)) (ae O (ae O ag))) ?_
  exact .inr ⟨eL hno, O, U.ext⟩
 have h1 := uk hb1
 have hno : readR s = none := pO h1
 refine aw Y U call107 O (jj h1 A7 hsl de) fun a w23 Y U => nv Y <| yp O <| yo (ao O O) <| yo (ao O O) <| yo (ao O O) <| yq O <| yq O <| yq O <| fun a Y => G2 ?_
 refine ah fun _ G33 => aa fun _ G34 => nv (Y.p7 0 2 3 4 5 6 7 O) <| yp O <| yo ((bB O).asb (b' := true) O) <| yp O <| yt <| yt <| yt <| yt <| yt <| yo (ax O O) <| fun a Y => G34 ?_
 replace Y := Y.p7 0 2 3 4 5 6 33 O
 refine aG Y O ?_
 refine aa fun _ G35 => wlv Y (aW (v := .agg #[jv 0, jv 0, jv 0, jv 0, jv 0, jv 0, jv 0, jv 0, sv ([] : By)]) O kr) fun a Y => az 0 Y U [jv 0, jv 0, jv 0, jv 0, jv 0, jv 0, jv 0, jv 0, sv ([] : By)] O (sizeOf90 _) fun a w24 Y U => nv Y <| yq O <| yq O <| fun a Y => G35 <| aq <| am Y results46 (ai O (aY (U.g 0 O) (isAgg90 _) (sizeOf90 _)) (ae O (ae O ag))) ?_
 exact .inr ⟨eL hno, O, U.ext⟩
end Go.Proofs.YtliklcmddmpdfaaGreatDoor
