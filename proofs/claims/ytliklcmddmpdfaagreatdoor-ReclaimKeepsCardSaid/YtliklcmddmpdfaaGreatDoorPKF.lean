/- Texts joined: WshO, WshS, RefI, LgA, WshV, RefV, RefJ, RefK, RclA, RclB. -/
import Derived.Test.YtliklcmddmpdfaaGreatDoorPKE
import Derived.Test.YtliklcmddmpdfaaGreatDoorPKB
import Derived.Test.YtliklcmddmpdfaaGreatDoorPKD
import Derived.Test.YtliklcmddmpdfaaGreatDoorPKA
set_option linter.unusedVariables false
set_option linter.unusedSimpArgs false
set_option maxRecDepth 4000
set_option maxHeartbeats 4000000
namespace Go.Proofs.YtliklcmddmpdfaaGreatDoor
open Go.RowKit Go.PW _root_.Go.Proofs.Tryz
def kdI (x : Int) (r : By) : Option By := match rdI r with
 | some (n, q) => if n = x then some q else none
 | none => none
def dgI (r : By) : Option (By × By) := if 32 ≤ r.length then some (r.take 32, r.drop 32) else none
section
variable {α : Type} {r q g : By} {x n : Int}
theorem kq (h : kdI x r = some q) : rdI r = some (x, q) := by
 unfold kdI at h
 split at h
 ·rename_i n q2 hq
  split at h
  ·rename_i e; cases h; rw [hq, e]
  ·cases h
 ·cases h
theorem oZ (h : kdI x r = none) : rdI r = none ∨ ∃ n q, rdI r = some (n, q) ∧ ¬ n = x := by
 unfold kdI at h
 split at h
 ·rename_i n q2 hq
  split at h
  ·cases h
  ·rename_i e; exact .inr ⟨n, q2, hq, e⟩
 ·rename_i hq; exact .inl hq
theorem oT {k : By → Option α} (h : kdI x r = some q) : kindI x r k = k q := by
 unfold kindI; rw [cR (kq h), xY rfl]
theorem lB {k : By → Option α} (h : kdI x r = none) : kindI x r k = none := by
 unfold kindI
 rcases oZ h with h | ⟨n, q, h, e⟩
 ·exact cI h
 ·rw [cR h, xW e]
theorem ln {k : By → By → Option α} (h : dgI r = some (g, q)) : getD32 r k = k g q := by
 unfold dgI at h; unfold getD32
 split at h
 ·rename_i hl; cases h; rw [xY hl]
 ·cases h
theorem kx {k : By → By → Option α} (h : dgI r = none) : getD32 r k = none := by
 unfold dgI at h; unfold getD32
 split at h
 ·cases h
 ·rename_i hl; rw [xW hl]
theorem dh (h : rdI r = some (n, q)) : q <:+ r := by
 obtain ⟨_, rfl⟩ := eL h; exact List.suffix_append _ _
theorem qO (h : kdI x r = some q) : q <:+ r := dh (kq h)
theorem qU (h : dgI r = some (g, q)) : q <:+ r := by
 unfold dgI at h
 split at h
 ·cases h; exact List.drop_suffix _ _
 ·cases h
end
theorem xj {s r r2 : By} {n z : Int} {w0 : World} (hz : z = ((s.length - r.length : Nat) : Int)) (hsf : r <:+ s) (hsl : s.length ≤ 1000000) (hq : rdI r = some (n, r2)) :
  Ret Tryz.prog 63 #[sv s, jv z] w0 fun v w => v = .tuple #[jv n, jv ((s.length - r2.length : Nat) : Int), jv 0] ∧ Ext No w0 w := by
 subst hz
 have := hZ s (s.length - r.length) w0 om hsl
 unfold intV at this
 rw [← List.suffix_iff_eq_drop.1 hsf, hq] at this
 exact this
theorem vk {s r : By} {z : Int} {w0 : World} (hz : z = ((s.length - r.length : Nat) : Int)) (hsf : r <:+ s) (hsl : s.length ≤ 1000000) (hq : rdI r = none) :
  Ret Tryz.prog 63 #[sv s, jv z] w0 fun v w => v = .tuple #[jv 0, jv 0, jv 10] ∧ Ext No w0 w := by
 subst hz
 have := hZ s (s.length - r.length) w0 om hsl
 unfold intV at this
 rw [← List.suffix_iff_eq_drop.1 hsf, hq] at this
 exact this
theorem cj {M : Nat → Prop} {w0 : World} (b : Nat) (s r r2 : By) (n z : Int) (ws : World) (hz : z = ((s.length - r.length : Nat) : Int)) (hsf : r <:+ s) (hsl : s.length ≤ 1000000) (hq : rdI r = some (n, r2)) (Y : St M w0 [blk b [sv s, jv z] 174] ws) :
  Ret Tryz.prog 99 #[pq b] ws fun u w => u = jv n ∧ St M w0 [blk b [sv s, jv ((s.length - r2.length : Nat) : Int)] 174] w := by
 refine aB func99 O ntmps99 (lb O) fun a Z => ?_
 replace Z := Z.p1 0 O
 skip
 refine aa fun _ G1 => wla Z O fun a Z => G1 <| ah fun _ G2 => ?_
 refine aM (aN fun w1 hxz => ?_)
 replace Y := Y.grow hxz
 refine aU (k := 0) 8 [3, 7] Z ?_
 refine bQ 8 (Z.p2 0 2 O) Y <| pl_m O <| pl_v (aQ O) <| pl_v (ac (v := pq b) O kr) <| pl_w (fun Y => ld Y 0 O O (isAgg9 _) O) <| pl_m O <| pl_v (aQ O) <| pl_v (ac (v := po b 1) O kr) <| pl_w (fun Y => ld Y 0 O O (isAgg3 _) O) fun a w2 Z Y => ?_
 replace Z := Z.p4 0 2 10 14 O
 refine ab <| aK (k := 8) 10 [9] ?_
 refine ax Z Y call63 O (xj hz hsf hsl hq) fun a w3 Z Y => wlm Z O fun a Z => ab <| aU (k := 10) 15 [12, 14] Z ?_
 refine bQ 5 (Z.p6 0 2 10 14 15 6 O) Y <| pl_v (aq O O) <| pl_v (aq O O) <| pl_v (aq O O) <| pl_v (cG O) <| pl_v (cG O) fun a w4 Z Y => ?_
 replace Z := Z.p5 0 2 18 3 4 O
 refine ab <| aK (k := 15) 16 [15] ?_
 refine wla Z O fun a Z => ab <| aT <| G2 <| ah fun _ G3 => aa fun _ G4 => nv Z <| xy O <| xx ((v_ne O O).asb (b' := false) O) <| fun a Z => G4 <| aJ Z O ?_
 refine au <| G3 <| aa fun _ G5 => nv Z <| xy O <| xy O <| xx (aQ O) <| xx (ac (v := po b 1) O kr) <| fun a Z => az 0 Z Y [sv s, jv ((s.length - r2.length : Nat) : Int)] O (sizeOf3 _) fun a w5 Z Y => G5 ?_
 refine aa fun _ G6 => nv (Z.p2 2 3 O) <| xy O <| xz O <| fun a Z => G6 <| ap ?_
 refine al Z results99 (ag O ae) ?_
 exact ⟨O, Y.select [0] de⟩
theorem cb {M : Nat → Prop} {w0 : World} (b : Nat) (s r  : By) (z : Int) (ws : World) (hz : z = ((s.length - r.length : Nat) : Int)) (hsf : r <:+ s) (hsl : s.length ≤ 1000000) (hq : rdI r = none) (Y : St M w0 [blk b [sv s, jv z] 174] ws) :
  Pan Tryz.prog 99 #[pq b] ws fun c w => c = [{ v := .iface 171 (.agg #[]), recovered := false }] ∧ St M w0 [blk b [sv s, jv z] 174] w := by
 refine m8 func99 O ntmps99 (lb O) fun a Z => ?_
 replace Z := Z.p1 0 O
 skip
 refine aa fun _ G1 => wla Z O fun a Z => G1 <| ah fun _ G2 => ?_
 refine aM (aN fun w1 hxz => ?_)
 replace Y := Y.grow hxz
 refine aU (k := 0) 8 [3, 7] Z ?_
 refine bQ 8 (Z.p2 0 2 O) Y <| pl_m O <| pl_v (aQ O) <| pl_v (ac (v := pq b) O kr) <| pl_w (fun Y => ld Y 0 O O (isAgg9 _) O) <| pl_m O <| pl_v (aQ O) <| pl_v (ac (v := po b 1) O kr) <| pl_w (fun Y => ld Y 0 O O (isAgg3 _) O) fun a w2 Z Y => ?_
 replace Z := Z.p4 0 2 10 14 O
 refine ab <| aK (k := 8) 10 [9] ?_
 refine ax Z Y call63 O (vk hz hsf hsl hq) fun a w3 Z Y => wlm Z O fun a Z => ab <| aU (k := 10) 15 [12, 14] Z ?_
 refine bQ 5 (Z.p6 0 2 10 14 15 6 O) Y <| pl_v (aq O O) <| pl_v (aq O O) <| pl_v (aq O O) <| pl_v (cG O) <| pl_v (cG O) fun a w4 Z Y => ?_
 replace Z := Z.p5 0 2 18 3 4 O
 refine ab <| aK (k := 15) 16 [15] ?_
 refine wla Z O fun a Z => ab <| aT <| G2 <| ah fun _ G3 => aa fun _ G4 => nv Z <| xy O <| xx ((v_ne O O).asb (b' := true) O) <| fun a Z => G4 <| aH Z O ?_
 refine bE <| aR 2 ?_
 refine nv Z <| xx (aX (v := .agg #[]) O kr) <| xx (cZ O underlying171) <| fun a Z => ab <| dP Z O ?_
 exact eF (X := fun c w => c = [{ v := .iface 171 (.agg #[]), recovered := false }] ∧ St M w0 [blk b [sv s, jv z] 174] w) Z ⟨O, Y.select [0] de⟩
theorem qY {M : Nat → Prop} {w0 : World} (b : Nat) (s r r2 : By) (x z : Int) (ws : World) (hz : z = ((s.length - r.length : Nat) : Int)) (hsf : r <:+ s) (hsl : s.length ≤ 1000000) (hq : kdI x r = some r2) (Y : St M w0 [blk b [sv s, jv z] 174] ws) :
  Ret Tryz.prog 101 #[pq b, jv x] ws fun u w => u = .tuple #[] ∧ St M w0 [blk b [sv s, jv ((s.length - r2.length : Nat) : Int)] 174] w := by
 refine aB func101 O ntmps101 (lb O) fun a Z => ?_
 replace Z := Z.p2 0 1 O
 skip
 refine aa fun _ G1 => wlm Z O fun a Z => aZ (R := fun u e' => u = jv x ∧ e' = blk b [sv s, jv ((s.length - r2.length : Nat) : Int)] 174) 0 Z Y O de call99 O (fun h => (cj b s _ r2 x _ _ hz hsf hsl (kq hq) h).mono fun u w ⟨h1, h2⟩ => ⟨_, ⟨h1, O⟩, h2⟩) ?_
 clear Z Y
 rintro a w1 _ _ ⟨rfl, rfl⟩ Z Y
 try dsimp only at Y
 replace Y := Y.n1 O
 refine nv Z <| xy O <| xx ((v_ne O O).asb (b' := false) sm) <| fun a Z => G1 <| aJ Z O ?_
 refine au <| cN Z results101 ae ?_
 exact ⟨O, Y.select [0] de⟩
theorem oP {M : Nat → Prop} {w0 : World} (b : Nat) (s r  : By) (x z : Int) (ws : World) (hz : z = ((s.length - r.length : Nat) : Int)) (hsf : r <:+ s) (hsl : s.length ≤ 1000000) (hq : kdI x r = none) (Y : St M w0 [blk b [sv s, jv z] 174] ws) :
  Pan Tryz.prog 101 #[pq b, jv x] ws fun c w => c = [{ v := .iface 171 (.agg #[]), recovered := false }] ∧ Ext M w0 w := by
 refine m8 func101 O ntmps101 (lb O) fun a Z => ?_
 replace Z := Z.p2 0 1 O
 skip
 refine bR fun _ G1 hP1 => aR 1 ?_
 refine wlm Z O fun a Z => ab ?_
 rcases oZ hq with hq1 | ⟨n, r2, hq1, hnx⟩
 ·refine cH (X := fun c => c = [{ v := .iface 171 (.agg #[]), recovered := false }]) 0 Z Y O call99 O (fun h => (cb b s r z _ hz hsf hsl hq1 h).mono fun e w ⟨c, h1, h2, h3⟩ => ⟨c, h1, _, h2, h3⟩) ?_
  clear Y
  rintro _ w1 e9 rfl Y
  refine hP1 _ _ _ ?_
  exact eF (X := fun c w => c = [{ v := .iface 171 (.agg #[]), recovered := false }] ∧ Ext M w0 w) Z ⟨O, Y.ext⟩
 refine aR 1 ?_
 refine aZ (R := fun u e' => u = jv n ∧ e' = blk b [sv s, jv ((s.length - r2.length : Nat) : Int)] 174) 0 Z Y O de call99 O (fun h => (cj b s _ r2 n _ _ hz hsf hsl hq1 h).mono fun u w ⟨h1, h2⟩ => ⟨_, ⟨h1, O⟩, h2⟩) ?_
 clear Z Y
 rintro a w2 _ _ ⟨rfl, rfl⟩ Z Y
 try dsimp only at Y
 replace Y := Y.n1 O
 refine ab <| dw <| nv Z <| xy O <| xx (v_ne O O) <| fun a Z => G1 <| dm Z O (fun hc1 => ?_) (fun hc1 => ?_)
 ·refine bE <| aR 2 ?_
  refine nv Z <| xx (aX (v := .agg #[]) O kr) <| xx (cZ O underlying171) <| fun a Z => ab <| dP Z O ?_
  exact eF (X := fun c w => c = [{ v := .iface 171 (.agg #[]), recovered := false }] ∧ Ext M w0 w) Z ⟨O, Y.ext⟩
 exact absurd hc1 hnx
theorem uj {r g q : By} (h : dgI r = some (g, q)) : 32 ≤ r.length ∧ q.length + 32 = r.length ∧ g = r.take 32 := by
 unfold dgI at h
 split at h
 ·rename_i hl; cases h; exact ⟨hl, by rw [ym]; omega, rfl⟩
 ·cases h
theorem wT {s r g q : By} (h : dgI r = some (g, q)) (hs : r <:+ s) : g = (s.drop (s.length - r.length)).take (s.length - r.length + 32 - (s.length - r.length)) := by
 rw [← List.suffix_iff_eq_drop.1 hs, show s.length - r.length + 32 - (s.length - r.length) = 32 from by omega]; exact (uj h).2.2
theorem dg_no {r : By} (h : dgI r = none) : r.length < 32 := by
 unfold dgI at h
 split at h
 ·cases h
 ·omega
theorem tw {M : Nat → Prop} {w0 : World} (b : Nat) (s r r2 g : By) (z : Int) (ws : World) (hz : z = ((s.length - r.length : Nat) : Int)) (hsf : r <:+ s) (hsl : s.length ≤ 1000000) (hq : dgI r = some (g, r2)) (Y : St M w0 [blk b [sv s, jv z] 174] ws) :
  Ret Tryz.prog 102 #[pq b] ws fun u w => u = sv g ∧ St M w0 [blk b [sv s, jv ((s.length - r2.length : Nat) : Int)] 174] w := by
 have hsu := hsf.length_le
 obtain ⟨hd1, hd2, -⟩ := uj hq
 have hzz := hz
 refine aB func102 O ntmps102 (lb O) fun a Z => ?_
 replace Z := Z.p1 0 O
 skip
 refine aa fun _ G1 => wla Z O fun a Z => G1 <| ah fun _ G2 => ?_
 refine ah fun _ G3 => aM (aN fun w1 hxz => ?_)
 replace Y := Y.grow hxz
 refine aU (k := 0) 9 [4, 8] Z ?_
 refine bQ 9 (Z.p2 0 2 O) Y <| pl_m O <| pl_v (aQ O) <| pl_v (ac (v := pq b) O kr) <| pl_w (fun Y => ld Y 0 O O (isAgg9 _) O) <| pl_v (bn O O (runUnderlying9 _)) <| pl_m O <| pl_v (aQ O) <| pl_v (ac (v := po b 1) O kr) <| pl_w (fun Y => ld Y 0 O O (isAgg3 _) O) fun a w2 Z Y => ?_
 replace Z := Z.p4 0 2 8 12 O
 refine ab <| aK (k := 9) 11 [10] ?_
 refine nv Z <| xx (bH O O ⟨om, om⟩) <| xx ((v_lt O O).asb (b' := false) (by exact xK (by rw [hz]; omega))) <| fun a Z => ab <| aT <| G3 <| aJ Z O ?_
 refine au <| G2 <| ah fun _ G4 => aM (aN fun w3 hxz => ?_)
 replace Y := Y.grow hxz
 refine aU (k := 0) 13 [3, 7, 12] Z ?_
 refine bQ 13 (Z.p6 0 2 8 12 13 14 O) Y <| pl_m O <| pl_v (aQ O) <| pl_v (ac (v := pq b) O kr) <| pl_w (fun Y => ld Y 0 O O (isAgg9 _) O) <| pl_m O <| pl_v (aQ O) <| pl_v (ac (v := po b 1) O kr) <| pl_w (fun Y => ld Y 0 O O (isAgg3 _) O) <| pl_m O <| pl_v (aQ O) <| pl_v (ac (v := po b 1) O kr) <| pl_w (fun Y => ld Y 0 O O (isAgg3 _) O) <| pl_v ((aP O O ⟨om, om⟩).asi (m' := ((s.length - r2.length : Nat) : Int)) om) fun a w4 Z Y => ?_
 replace Z := Z.p5 0 2 20 24 29 O
 refine ab <| aK (k := 13) 15 [14] ?_
 refine nv Z <| xx ((iC (xs := s) (l := s.length - r.length) (h := s.length - r.length + 32) O O O underlying9 (.inr ⟨.i64, yf (fun i => some (jv i)) hz⟩) (.inr ⟨.i64, yf (fun i => some (jv i)) om⟩) om om).as (v' := sv g) (by rw [← wT hq hsf])) <| xz O <| fun a Z => ab <| aT <| G4 <| aa fun _ G5 => nv Z <| xy O <| xx (aQ O) <| xx (ac (v := po b 1) O kr) <| xx (ld Y 0 O O (isAgg3 _) O) <| xx ((aP O O ⟨om, om⟩).asi (m' := ((s.length - r2.length : Nat) : Int)) om) <| xx (aQ O) <| xx (ac (v := po b 1) O kr) <| fun a Z => az 0 Z Y [sv s, jv ((s.length - r2.length : Nat) : Int)] O (sizeOf3 _) fun a w5 Z Y => G5 ?_
 refine aa fun _ G6 => nv (Z.p2 2 3 O) <| xy O <| xz O <| fun a Z => G6 <| ap ?_
 refine al Z results102 (ag O ae) ?_
 exact ⟨O, Y.select [0] de⟩
theorem qH {M : Nat → Prop} {w0 : World} (b : Nat) (s r  : By) (z : Int) (ws : World) (hz : z = ((s.length - r.length : Nat) : Int)) (hsf : r <:+ s) (hsl : s.length ≤ 1000000) (hq : dgI r = none) (Y : St M w0 [blk b [sv s, jv z] 174] ws) :
  Pan Tryz.prog 102 #[pq b] ws fun c w => c = [{ v := .iface 171 (.agg #[]), recovered := false }] ∧ St M w0 [blk b [sv s, jv z] 174] w := by
 have hsu := hsf.length_le
 have hd1 := dg_no hq
 refine m8 func102 O ntmps102 (lb O) fun a Z => ?_
 replace Z := Z.p1 0 O
 skip
 refine aa fun _ G1 => wla Z O fun a Z => G1 <| ah fun _ G2 => ?_
 refine ah fun _ G3 => aM (aN fun w1 hxz => ?_)
 replace Y := Y.grow hxz
 refine aU (k := 0) 9 [4, 8] Z ?_
 refine bQ 9 (Z.p2 0 2 O) Y <| pl_m O <| pl_v (aQ O) <| pl_v (ac (v := pq b) O kr) <| pl_w (fun Y => ld Y 0 O O (isAgg9 _) O) <| pl_v (bn O O (runUnderlying9 _)) <| pl_m O <| pl_v (aQ O) <| pl_v (ac (v := po b 1) O kr) <| pl_w (fun Y => ld Y 0 O O (isAgg3 _) O) fun a w2 Z Y => ?_
 replace Z := Z.p4 0 2 8 12 O
 refine ab <| aK (k := 9) 11 [10] ?_
 refine nv Z <| xx (bH O O ⟨om, om⟩) <| xx ((v_lt O O).asb (b' := true) (by exact xF (by rw [hz]; omega))) <| fun a Z => ab <| aT <| G3 <| aH Z O ?_
 refine bE <| aR 2 ?_
 refine nv Z <| xx (aX (v := .agg #[]) O kr) <| xx (cZ O underlying171) <| fun a Z => ab <| dP Z O ?_
 exact eF (X := fun c w => c = [{ v := .iface 171 (.agg #[]), recovered := false }] ∧ St M w0 [blk b [sv s, jv z] 174] w) Z ⟨O, Y.select [0] de⟩
end Go.Proofs.YtliklcmddmpdfaaGreatDoor
namespace Go.Proofs.YtliklcmddmpdfaaGreatDoor
open Go.RowKit Go.PW _root_.Go.Proofs.Tryz
theorem rO {P : Program} {w : World} {L : List (Nat × Value)} {dst : Option Tmp} {T T' ty : TypeId} {pos : String} {af : Array Edge} {x y : Operand} (hx : ev L x = some .nilIface) (hy : ev L y = some .nilIface) (hr : (binOp .eql T .nilIface .nilIface).run P w = .ok (.bool true) w) (hg : (eqGuard .eql T x y .nilIface .nilIface).run P w = .ok () w) : OpV P ⟨dst, .binOp .eql T x y T', ty, pos, af, none⟩ L w (.bool true) :=
 ⟨rfl, fun N df a h => by
  simp only [execOp, h.eval hx, h.eval hy, yh, hg, hr, xV]; rfl⟩
theorem bZ {M : Nat → Prop} {w0 : World} (b2 b3 b4 : Nat) (c0 c1 c2 c3 c4 c5 c6 c7 c8 c9 c10 : Value) (ws : World) (Y : St M w0 [blk b2 [c0, c1, c2, c3, c4, c5, c6, c7, c8] 90, blk b3 [c9] 91, blk b4 [c10] 41] ws) :
  CallsDIn Fence.wide 0 Tryz.prog 98 #[pq b2, pq b3, pq b4] (.panicking [{ v := .iface 171 (.agg #[]), recovered := false }]) ws fun e u' w => u' = (.panicking [{ v := .iface 171 (.agg #[]), recovered := true }]) ∧ ∃ x, e = .returned x ∧ St M w0 [blk b2 [jv 0, jv 0, jv 0, jv 0, jv 0, jv 0, jv 0, jv 0, sv ([] : By)] 90, blk b3 [.slice none 0 0] 91, blk b4 [jv 150] 41] w  := by
 refine na (args := [pq b2, pq b3, pq b4]) func98 O ntmps98 (lb O) O O de (fun _ _ => O) (.inr ⟨O, O⟩) fun a Z => ?_
 replace Z := Z.p4 6 0 1 2 O
 skip
 refine ar <| aa fun _ G1 => wlv Z (kG O O kr kr) fun a Z => G1 <| aJ Z O ?_
 refine aa fun _ G2 => nv Z <| xx (iF O underlying171) <| xx (aq O O) <| xx (aq O O) <| fun a Z => G2 <| aH Z O ?_
 refine aa fun _ G3 => aC Z Y (zeroValue171 _) [] O fun a w1 Z Y => az 0 Z Y [] O (sizeOf171 _) fun a w2 Z Y => G3 ?_
 replace Y := Y.k3 14 O
 refine aj <| wlv (Z.p3 0 1 2 O) (aX (v := .agg #[jv 0, jv 0, jv 0, jv 0, jv 0, jv 0, jv 0, jv 0, .string (⟨#[]⟩)]) O kr) fun a Z => az 0 Z Y [jv 0, jv 0, jv 0, jv 0, jv 0, jv 0, jv 0, jv 0, .string (⟨#[]⟩)] O (sizeOf90 _) fun a w3 Z Y => az 1 Z Y [.slice none 0 0] O (sizeOf91 _) fun a w4 Z Y => az 2 Z Y [jv 150] O (sizeOf41 _) fun a w5 Z Y => ab ?_
 refine ie Z results98 ae ?_
 exact Y.select [0, 1, 2] de
theorem tt (b2 b3 b4 : Nat) (ws : World) :
  CallsDIn Fence.wide 0 Tryz.prog 98 #[pq b2, pq b3, pq b4] .returning ws fun e u' w => u' = .returning ∧ ∃ x, e = .returned x ∧ Ext No ws w  := by
 refine na (args := [pq b2, pq b3, pq b4]) func98 O ntmps98 (lb O) O O de (fun _ _ => O) (.inl ⟨O, O, O⟩) fun a Z => ?_
 replace Y : St No ws [] ws := St.init ws
 refine ar <| aa fun _ G1 => wlv (Z.p4 6 0 1 2 O) (rO O O kr kr) fun a Z => G1 <| aH Z O ?_
 refine aj <| wla Z O fun a Z => ab ?_
 refine ie Z results98 ae ?_
 exact Y.ext
theorem og {M : Nat → Prop} {w0 w : World} (h : Ext M w0 w) : St M w0 [join []] w :=
 ⟨h, fun e he => by rw [ya.1 he]; exact ⟨⟨fun e he => (by cases he), List.Pairwise.nil⟩, fun k ⟨e, he, _⟩ => (by cases he)⟩, List.pairwise_singleton _ _⟩
theorem uK {l : List Pxy} {w : Wsh} {r : By} (h : r ≠ []) : shutH l w r = none := xW fun hh => h hh.1
theorem tg {l : List Pxy} {w : Wsh} {r : By} (h : bT w l = false) : shutH l w r = none := xW fun hh => by rw [h] at hh; cases hh.2
theorem ua {l : List Pxy} {w : Wsh} {r : By} (h1 : r = []) (h2 : bT w l = true) : shutH l w r = some (w, l) := xY ⟨h1, h2⟩
theorem wp {n a b : Int} (h : inB n a b = true) : a ≤ n ∧ n ≤ b := by simpa [inB] using h
theorem kJ (s : By) (w0 : World) (hsl : s.length ≤ 1000000) :
  Ret Tryz.prog 39 #[sv s] w0 fun v w => (∃ x ps, bU s = some (x, ps) ∧ MemR w0 (fun lv : Value => .tuple #[.agg x.cells.toArray, lv, jv 0]) (fun lv => [own lv 144 7 (ps.map Pxy.cells)]) (fun _ => True) v w) ∨ (bU s = none ∧ v = .tuple #[.agg #[jv 0, jv 0, jv 0, jv 0, jv 0, jv 0, jv 0, jv 0, sv ([] : By)], .slice none 0 0, jv 150] ∧ Ext No w0 w) := by
 refine qM func39 O ntmps39 (lb O) fun a Z => ?_
 replace Y : St No w0 [] w0 := St.init w0
 refine aa fun _ G1 => aC (Z.p1 0 O) Y (zeroValue90 _) [jv 0, jv 0, jv 0, jv 0, jv 0, jv 0, jv 0, jv 0, .string (⟨#[]⟩)] O fun a w1 Z Y => aC Z Y (zeroValue91 _) [.slice none 0 0] O fun a w2 Z Y => aC Z Y (zeroValue41 _) [jv 0] O fun a w3 Z Y => G1 <| aa fun _ G2 => ?_
 refine wlv Z (cd O O) fun a Z => od Z O fun a Z => G2 <| aa fun _ G3 => ?_
 refine nv Z <| xy O <| xx (aX (v := .agg #[sv s, jv 0]) O kr) <| fun a Z => aS Z Y O [sv s, jv 0] O fun a w4 Z Y => wla Z O fun a Z => G3 ?_
 have hd0 : bU s = getI s (fun n r => if inB n 0 4 = true then rdPxys n.toNat [] r tailH else none) := rfl
 refine bR fun _ G4 hP4 => aR 1 ?_
 refine wlm Z O fun a Z => ab ?_
 rcases hq1 : rdI s with _ | ⟨n3, r2⟩
 ·have hdn := hd0.trans (cI hq1)
  refine cH (X := fun c => c = [{ v := .iface 171 (.agg #[]), recovered := false }]) 0 Z Y O call99 O (fun h => (cb w3.hz s s  0 _ sm (List.suffix_refl s) hsl hq1 h).mono fun e w ⟨c, h1, h2, h3⟩ => ⟨c, h1, _, h2, h3⟩) ?_
  clear Y
  rintro _ w5 e9 rfl Y
  refine hP4 _ _ _ ?_
  replace Y := Y.s3 [3, 2, 1] de rfl
  exact br Z call98 (bZ _ _ _ _ _ _ _ _ _ _ _ _ _ _ _ Y) results39 (fun w9 Y => ⟨(ak O (bf (Y.g 0 O) (isAgg90 _) (sizeOf90 _)) (ak O (aG (Y.g 1 O) (isAgg91 _)) (ak O (aG (Y.g 2 O) (isAgg41 _)) ae))), .inr ⟨hdn, O, Y.ext⟩⟩)
 have hd4 := hd0.trans (cR hq1)
 have hs5 := (dh hq1).trans (List.suffix_refl s)
 refine aR 1 ?_
 refine aZ (R := fun u e' => u = jv n3 ∧ e' = blk w3.hz [sv s, jv ((s.length - r2.length : Nat) : Int)] 174) 0 Z Y O de call99 O (fun h => (cj w3.hz s s r2 n3 0 _ sm (List.suffix_refl s) hsl hq1 h).mono fun u w ⟨h1, h2⟩ => ⟨_, ⟨h1, O⟩, h2⟩) ?_
 clear Z Y
 rintro a w6 _ _ ⟨rfl, rfl⟩ Z Y
 try dsimp only at Y
 replace Y := Y.n4 O
 refine ab <| dw <| wla Z O fun a Z => G4 ?_
 replace Z := Z.p6 0 2 3 4 5 6 O
 refine ah fun _ G5 => aa fun _ G6 => wlm Z O fun a Z => ax Z Y call100 O (cY n3 0 4 _) fun a w7 Z Y => wlv Z (bD O) fun a Z => G6 <| bu Z O (fun hc6 => ?_) (fun hc6 => ?_)
 ·try simp only [qz] at hc6
  have hdn : bU s = none := hd4.trans (xW (by rw [hc6]; decide))
  refine bE <| aR 2 ?_
  refine nv Z <| xx (aX (v := .agg #[]) O kr) <| xx (cZ O underlying171) <| fun a Z => ab <| dP Z O ?_
  replace Y := Y.s3 [3, 2, 1] de rfl
  exact br Z call98 (bZ _ _ _ _ _ _ _ _ _ _ _ _ _ _ _ Y) results39 (fun w9 Y => ⟨(ak O (bf (Y.g 0 O) (isAgg90 _) (sizeOf90 _)) (ak O (aG (Y.g 1 O) (isAgg91 _)) (ak O (aG (Y.g 2 O) (isAgg41 _)) ae))), .inr ⟨hdn, O, Y.ext⟩⟩)
 try simp only [qz] at hc6
 have hd9 := hd4.trans (xY hc6)
 have hib := wp hc6
 refine au <| G5 <| ah fun _ G7 => ?_
 replace Y : St No w0 [own (.slice none 0 0) 144 7 (([] : List Pxy).map Pxy.cells), blk w3.hz [sv s, jv ((s.length - r2.length : Nat) : Int)] 174, blk w2.hz [jv 0] 41, blk w1.hz [.slice none 0 0] 91, blk w0.hz [jv 0, jv 0, jv 0, jv 0, jv 0, jv 0, jv 0, jv 0, .string (⟨#[]⟩)] 90] w7 := Y.nil_own
 refine aa fun _ G8 => nv Z <| xy O <| xy O <| fun a Z => G8 <| ar ?_
 refine aW (fun m a w => ∃ (k : Nat) (acc : List Pxy) (r : By) (lv : Value), m = n3.toNat - k ∧ ((k : Int) ≤ n3) ∧ (bU s = rdPxys (n3.toNat - k) acc r tailH) ∧ (r <:+ s) ∧ (acc.length = k) ∧ Fr 98 [(0, sv s), (2, pq w0.hz), (3, pq w1.hz), (4, pq w2.hz), (5, pq w3.hz), (23, jv n3), (24, jv (k : Int))] [{ target := .fn (.func 98) #[pq w0.hz, pq w1.hz, pq w2.hz], args := #[] }] a ∧ St No w0 [blk w3.hz [sv s, jv ((s.length - r.length : Nat) : Int)] 174, blk w0.hz [jv 0, jv 0, jv 0, jv 0, jv 0, jv 0, jv 0, jv 0, .string (⟨#[]⟩)] 90, blk w1.hz [lv] 91, blk w2.hz [jv 0] 41, own lv 144 7 ((acc).map Pxy.cells)] w) _ ⟨0, [], r2, .slice none 0 0, O, om, hd9, hs5, O, Z.pick [0, 2, 3, 4, 5, 23, 24], Y.select [1, 4, 3, 2, 0] de⟩ ?_
 rintro _ a w8 ⟨k, acc, r, lv, rfl, hk, hdl, hsl2, hal, Z, Y⟩
 refine aa fun _ G9 => wlv Z (v_lt O O) fun a Z => G9 <| ah fun _ G10 => ?_
 refine aA Z O (fun hc7 => ?_) (fun hc7 => ?_)
 ·obtain ⟨mm, hm⟩ : ∃ m, n3.toNat - k = m + 1 := ⟨n3.toNat - k - 1, by omega⟩
  rw [hm] at hdl
  have hdk : bU s = kindI 2 r _ := hdl
  refine au <| G10 <| ah fun _ G11 => ar <| aa fun _ G12 => aC Z Y (zeroValue144 _) [jv 0, jv 0, jv 0, jv 0, jv 0, jv 0, .string (⟨#[]⟩)] O fun a w9 Z Y => G12 <| bR fun _ G13 hP13 => ?_
  refine aR 1 ?_
  refine wlm Z O fun a Z => ab ?_
  rcases hq8 : kdI 2 r with _ | r9
  ·have hdn := hdk.trans (lB hq8)
   refine cH (X := fun c => c = [{ v := .iface 171 (.agg #[]), recovered := false }]) 1 Z Y O call101 O (fun h => (oP w3.hz s r  2 ((s.length - r.length : Nat) : Int) _ O hsl2 hsl hq8 h).mono fun e w ⟨c, h1, h2, h3⟩ => ⟨c, h1, _, h2, og h3⟩) ?_
   clear Y
   rintro _ w10 e9 rfl Y
   refine hP13 _ _ _ ?_
   replace Y := Y.s3 [2, 3, 4] de rfl
   exact br Z call98 (bZ _ _ _ _ _ _ _ _ _ _ _ _ _ _ _ Y) results39 (fun w9 Y => ⟨(ak O (bf (Y.g 0 O) (isAgg90 _) (sizeOf90 _)) (ak O (aG (Y.g 1 O) (isAgg91 _)) (ak O (aG (Y.g 2 O) (isAgg41 _)) ae))), .inr ⟨hdn, O, Y.ext⟩⟩)
  have hd10 := hdk.trans (oT hq8)
  have hs11 := (qO hq8).trans hsl2
  refine aR 1 ?_
  refine aZ (R := fun u e' => u = .tuple #[] ∧ e' = blk w3.hz [sv s, jv ((s.length - r9.length : Nat) : Int)] 174) 1 Z Y O de call101 O (fun h => (qY w3.hz s r r9 2 ((s.length - r.length : Nat) : Int) _ O hsl2 hsl hq8 h).mono fun u w ⟨h1, h2⟩ => ⟨_, ⟨h1, O⟩, h2⟩) ?_
  clear Z Y
  rintro a w11 _ _ ⟨rfl, rfl⟩ Z Y
  try dsimp only at Y
  replace Y := Y.n6 O
  refine ab <| dw <| G13 <| ah fun _ G14 => ?_
  refine aa fun _ G15 => nv Z <| xx (ac (v := pq w8.hz) O kr) <| xx (ac (v := po w8.hz 1) O kr) <| xx (ac (v := po w8.hz 2) O kr) <| xx (ac (v := po w8.hz 2) O kr) <| xx (ac (v := po w8.hz 2) O kr) <| xx (ac (v := po w8.hz 3) O kr) <| xx (ac (v := po w8.hz 4) O kr) <| xx (ac (v := po w8.hz 4) O kr) <| xx (ac (v := po w8.hz 4) O kr) <| xx (ac (v := po w8.hz 5) O kr) <| xx (aX (v := .agg #[pq w8.hz, po w8.hz 1, po w8.hz 2, po w8.hz 3, po w8.hz 4, po w8.hz 5]) O kr) <| xy O <| fun a Z => G15 ?_
  replace Z := Z.p10 0 2 3 4 5 23 24 7 38 39 O
  refine ar <| eA 7 ?_
  refine bN <| aa fun _ G16 => wlv Z ((v_lt O O).asb (b' := true) O) fun a Z => G16 <| ah fun _ G17 => ?_
  refine aH Z O ?_
  refine au <| G17 <| ah fun _ G18 => ar <| aa fun _ G19 => nv Z <| xx (cg (v := pq w8.hz) O O kr) <| xz O <| fun a Z => G19 <| bE ?_
  refine aR 2 ?_
  refine nv Z <| xy O <| xy O <| fun a Z => ab ?_
  rcases hq12 : rdI r9 with _ | ⟨n14, r13⟩
  ·have hdn := hd10.trans (cI hq12)
   refine cH (X := fun c => c = [{ v := .iface 171 (.agg #[]), recovered := false }]) 1 Z Y O call99 O (fun h => (cb w3.hz s r9  ((s.length - r9.length : Nat) : Int) _ O hs11 hsl hq12 h).mono fun e w ⟨c, h1, h2, h3⟩ => ⟨c, h1, _, h2, h3⟩) ?_
   clear Y
   rintro _ w12 e9 rfl Y
   replace Y := Y.s3 [2, 3, 4] de rfl
   exact br Z call98 (bZ _ _ _ _ _ _ _ _ _ _ _ _ _ _ _ Y) results39 (fun w9 Y => ⟨(ak O (bf (Y.g 0 O) (isAgg90 _) (sizeOf90 _)) (ak O (aG (Y.g 1 O) (isAgg91 _)) (ak O (aG (Y.g 2 O) (isAgg41 _)) ae))), .inr ⟨hdn, O, Y.ext⟩⟩)
  have hd15 := hd10.trans (cR hq12)
  have hs16 := (dh hq12).trans hs11
  refine aR 1 ?_
  refine aZ (R := fun u e' => u = jv n14 ∧ e' = blk w3.hz [sv s, jv ((s.length - r13.length : Nat) : Int)] 174) 1 Z Y O de call99 O (fun h => (cj w3.hz s r9 r13 n14 ((s.length - r9.length : Nat) : Int) _ O hs11 hsl hq12 h).mono fun u w ⟨h1, h2⟩ => ⟨_, ⟨h1, O⟩, h2⟩) ?_
  clear Z Y
  rintro a w13 _ _ ⟨rfl, rfl⟩ Z Y
  try dsimp only at Y
  replace Y := Y.n6 O
  refine ab <| dw <| wlv Z (aQ O) fun a Z => az 0 Z Y [jv n14, jv 0, jv 0, jv 0, jv 0, jv 0, .string (⟨#[]⟩)] O (sizeOf3 _) fun a w14 Z Y => ab <| G18 ?_
  refine aj <| nv (Z.p10 0 2 3 4 5 23 24 7 38 39 O) <| xx ((aP O O de).asi (m' := 1) O) <| xy O <| fun a Z => ab <| bN <| aa fun _ G20 => wlv Z ((v_lt O O).asb (b' := true) O) fun a Z => G20 <| ah fun _ G21 => ?_
  refine aH Z O ?_
  refine au <| G21 <| ah fun _ G22 => ar <| aa fun _ G23 => nv Z <| xx (cg (v := po w8.hz 1) O O kr) <| xz O <| fun a Z => G23 <| bE ?_
  refine aR 2 ?_
  refine nv Z <| xy O <| xy O <| fun a Z => ab ?_
  rcases hq17 : rdI r13 with _ | ⟨n19, r18⟩
  ·have hdn := hd15.trans (cI hq17)
   refine cH (X := fun c => c = [{ v := .iface 171 (.agg #[]), recovered := false }]) 1 Z Y O call99 O (fun h => (cb w3.hz s r13  ((s.length - r13.length : Nat) : Int) _ O hs16 hsl hq17 h).mono fun e w ⟨c, h1, h2, h3⟩ => ⟨c, h1, _, h2, h3⟩) ?_
   clear Y
   rintro _ w15 e9 rfl Y
   replace Y := Y.s3 [2, 3, 4] de rfl
   exact br Z call98 (bZ _ _ _ _ _ _ _ _ _ _ _ _ _ _ _ Y) results39 (fun w9 Y => ⟨(ak O (bf (Y.g 0 O) (isAgg90 _) (sizeOf90 _)) (ak O (aG (Y.g 1 O) (isAgg91 _)) (ak O (aG (Y.g 2 O) (isAgg41 _)) ae))), .inr ⟨hdn, O, Y.ext⟩⟩)
  have hd20 := hd15.trans (cR hq17)
  have hs21 := (dh hq17).trans hs16
  refine aR 1 ?_
  refine aZ (R := fun u e' => u = jv n19 ∧ e' = blk w3.hz [sv s, jv ((s.length - r18.length : Nat) : Int)] 174) 1 Z Y O de call99 O (fun h => (cj w3.hz s r13 r18 n19 ((s.length - r13.length : Nat) : Int) _ O hs16 hsl hq17 h).mono fun u w ⟨h1, h2⟩ => ⟨_, ⟨h1, O⟩, h2⟩) ?_
  clear Z Y
  rintro a w16 _ _ ⟨rfl, rfl⟩ Z Y
  try dsimp only at Y
  replace Y := Y.n6 O
  refine ab <| dw <| wlv Z (aQ O) fun a Z => az 0 Z Y [jv n14, jv n19, jv 0, jv 0, jv 0, jv 0, .string (⟨#[]⟩)] O (sizeOf3 _) fun a w17 Z Y => ab <| G22 ?_
  refine aj <| nv (Z.p10 0 2 3 4 5 23 24 7 38 39 O) <| xx ((aP O O de).asi (m' := 2) O) <| xy O <| fun a Z => ab <| bN <| aa fun _ G24 => wlv Z ((v_lt O O).asb (b' := true) O) fun a Z => G24 <| ah fun _ G25 => ?_
  refine aH Z O ?_
  refine au <| G25 <| ah fun _ G26 => ar <| aa fun _ G27 => nv Z <| xx (cg (v := po w8.hz 2) O O kr) <| xz O <| fun a Z => G27 <| bE ?_
  refine aR 2 ?_
  refine nv Z <| xy O <| xy O <| fun a Z => ab ?_
  rcases hq22 : rdI r18 with _ | ⟨n24, r23⟩
  ·have hdn := hd20.trans (cI hq22)
   refine cH (X := fun c => c = [{ v := .iface 171 (.agg #[]), recovered := false }]) 1 Z Y O call99 O (fun h => (cb w3.hz s r18  ((s.length - r18.length : Nat) : Int) _ O hs21 hsl hq22 h).mono fun e w ⟨c, h1, h2, h3⟩ => ⟨c, h1, _, h2, h3⟩) ?_
   clear Y
   rintro _ w18 e9 rfl Y
   replace Y := Y.s3 [2, 3, 4] de rfl
   exact br Z call98 (bZ _ _ _ _ _ _ _ _ _ _ _ _ _ _ _ Y) results39 (fun w9 Y => ⟨(ak O (bf (Y.g 0 O) (isAgg90 _) (sizeOf90 _)) (ak O (aG (Y.g 1 O) (isAgg91 _)) (ak O (aG (Y.g 2 O) (isAgg41 _)) ae))), .inr ⟨hdn, O, Y.ext⟩⟩)
  have hd25 := hd20.trans (cR hq22)
  have hs26 := (dh hq22).trans hs21
  refine aR 1 ?_
  refine aZ (R := fun u e' => u = jv n24 ∧ e' = blk w3.hz [sv s, jv ((s.length - r23.length : Nat) : Int)] 174) 1 Z Y O de call99 O (fun h => (cj w3.hz s r18 r23 n24 ((s.length - r18.length : Nat) : Int) _ O hs21 hsl hq22 h).mono fun u w ⟨h1, h2⟩ => ⟨_, ⟨h1, O⟩, h2⟩) ?_
  clear Z Y
  rintro a w19 _ _ ⟨rfl, rfl⟩ Z Y
  try dsimp only at Y
  replace Y := Y.n6 O
  refine ab <| dw <| wlv Z (aQ O) fun a Z => az 0 Z Y [jv n14, jv n19, jv n24, jv 0, jv 0, jv 0, .string (⟨#[]⟩)] O (sizeOf3 _) fun a w20 Z Y => ab <| G26 ?_
  refine aj <| nv (Z.p10 0 2 3 4 5 23 24 7 38 39 O) <| xx ((aP O O de).asi (m' := 3) O) <| xy O <| fun a Z => ab <| bN <| aa fun _ G28 => wlv Z ((v_lt O O).asb (b' := true) O) fun a Z => G28 <| ah fun _ G29 => ?_
  refine aH Z O ?_
  refine au <| G29 <| ah fun _ G30 => ar <| aa fun _ G31 => nv Z <| xx (cg (v := po w8.hz 3) O O kr) <| xz O <| fun a Z => G31 <| bE ?_
  refine aR 2 ?_
  refine nv Z <| xy O <| xy O <| fun a Z => ab ?_
  rcases hq27 : rdI r23 with _ | ⟨n29, r28⟩
  ·have hdn := hd25.trans (cI hq27)
   refine cH (X := fun c => c = [{ v := .iface 171 (.agg #[]), recovered := false }]) 1 Z Y O call99 O (fun h => (cb w3.hz s r23  ((s.length - r23.length : Nat) : Int) _ O hs26 hsl hq27 h).mono fun e w ⟨c, h1, h2, h3⟩ => ⟨c, h1, _, h2, h3⟩) ?_
   clear Y
   rintro _ w21 e9 rfl Y
   replace Y := Y.s3 [2, 3, 4] de rfl
   exact br Z call98 (bZ _ _ _ _ _ _ _ _ _ _ _ _ _ _ _ Y) results39 (fun w9 Y => ⟨(ak O (bf (Y.g 0 O) (isAgg90 _) (sizeOf90 _)) (ak O (aG (Y.g 1 O) (isAgg91 _)) (ak O (aG (Y.g 2 O) (isAgg41 _)) ae))), .inr ⟨hdn, O, Y.ext⟩⟩)
  have hd30 := hd25.trans (cR hq27)
  have hs31 := (dh hq27).trans hs26
  refine aR 1 ?_
  refine aZ (R := fun u e' => u = jv n29 ∧ e' = blk w3.hz [sv s, jv ((s.length - r28.length : Nat) : Int)] 174) 1 Z Y O de call99 O (fun h => (cj w3.hz s r23 r28 n29 ((s.length - r23.length : Nat) : Int) _ O hs26 hsl hq27 h).mono fun u w ⟨h1, h2⟩ => ⟨_, ⟨h1, O⟩, h2⟩) ?_
  clear Z Y
  rintro a w22 _ _ ⟨rfl, rfl⟩ Z Y
  try dsimp only at Y
  replace Y := Y.n6 O
  refine ab <| dw <| wlv Z (aQ O) fun a Z => az 0 Z Y [jv n14, jv n19, jv n24, jv n29, jv 0, jv 0, .string (⟨#[]⟩)] O (sizeOf3 _) fun a w23 Z Y => ab <| G30 ?_
  refine aj <| nv (Z.p10 0 2 3 4 5 23 24 7 38 39 O) <| xx ((aP O O de).asi (m' := 4) O) <| xy O <| fun a Z => ab <| bN <| aa fun _ G32 => wlv Z ((v_lt O O).asb (b' := true) O) fun a Z => G32 <| ah fun _ G33 => ?_
  refine aH Z O ?_
  refine au <| G33 <| ah fun _ G34 => ar <| aa fun _ G35 => nv Z <| xx (cg (v := po w8.hz 4) O O kr) <| xz O <| fun a Z => G35 <| bE ?_
  refine aR 2 ?_
  refine nv Z <| xy O <| xy O <| fun a Z => ab ?_
  rcases hq32 : rdI r28 with _ | ⟨n34, r33⟩
  ·have hdn := hd30.trans (cI hq32)
   refine cH (X := fun c => c = [{ v := .iface 171 (.agg #[]), recovered := false }]) 1 Z Y O call99 O (fun h => (cb w3.hz s r28  ((s.length - r28.length : Nat) : Int) _ O hs31 hsl hq32 h).mono fun e w ⟨c, h1, h2, h3⟩ => ⟨c, h1, _, h2, h3⟩) ?_
   clear Y
   rintro _ w24 e9 rfl Y
   replace Y := Y.s3 [2, 3, 4] de rfl
   exact br Z call98 (bZ _ _ _ _ _ _ _ _ _ _ _ _ _ _ _ Y) results39 (fun w9 Y => ⟨(ak O (bf (Y.g 0 O) (isAgg90 _) (sizeOf90 _)) (ak O (aG (Y.g 1 O) (isAgg91 _)) (ak O (aG (Y.g 2 O) (isAgg41 _)) ae))), .inr ⟨hdn, O, Y.ext⟩⟩)
  have hd35 := hd30.trans (cR hq32)
  have hs36 := (dh hq32).trans hs31
  refine aR 1 ?_
  refine aZ (R := fun u e' => u = jv n34 ∧ e' = blk w3.hz [sv s, jv ((s.length - r33.length : Nat) : Int)] 174) 1 Z Y O de call99 O (fun h => (cj w3.hz s r28 r33 n34 ((s.length - r28.length : Nat) : Int) _ O hs31 hsl hq32 h).mono fun u w ⟨h1, h2⟩ => ⟨_, ⟨h1, O⟩, h2⟩) ?_
  clear Z Y
  rintro a w25 _ _ ⟨rfl, rfl⟩ Z Y
  try dsimp only at Y
  replace Y := Y.n6 O
  refine ab <| dw <| wlv Z (aQ O) fun a Z => az 0 Z Y [jv n14, jv n19, jv n24, jv n29, jv n34, jv 0, .string (⟨#[]⟩)] O (sizeOf3 _) fun a w26 Z Y => ab <| G34 ?_
  refine aj <| nv (Z.p10 0 2 3 4 5 23 24 7 38 39 O) <| xx ((aP O O de).asi (m' := 5) O) <| xy O <| fun a Z => ab <| bN <| aa fun _ G36 => wlv Z ((v_lt O O).asb (b' := true) O) fun a Z => G36 <| ah fun _ G37 => ?_
  refine aH Z O ?_
  refine au <| G37 <| ah fun _ G38 => ar <| aa fun _ G39 => nv Z <| xx (cg (v := po w8.hz 5) O O kr) <| xz O <| fun a Z => G39 <| bE ?_
  refine aR 2 ?_
  refine nv Z <| xy O <| xy O <| fun a Z => ab ?_
  rcases hq37 : rdI r33 with _ | ⟨n39, r38⟩
  ·have hdn := hd35.trans (cI hq37)
   refine cH (X := fun c => c = [{ v := .iface 171 (.agg #[]), recovered := false }]) 1 Z Y O call99 O (fun h => (cb w3.hz s r33  ((s.length - r33.length : Nat) : Int) _ O hs36 hsl hq37 h).mono fun e w ⟨c, h1, h2, h3⟩ => ⟨c, h1, _, h2, h3⟩) ?_
   clear Y
   rintro _ w27 e9 rfl Y
   replace Y := Y.s3 [2, 3, 4] de rfl
   exact br Z call98 (bZ _ _ _ _ _ _ _ _ _ _ _ _ _ _ _ Y) results39 (fun w9 Y => ⟨(ak O (bf (Y.g 0 O) (isAgg90 _) (sizeOf90 _)) (ak O (aG (Y.g 1 O) (isAgg91 _)) (ak O (aG (Y.g 2 O) (isAgg41 _)) ae))), .inr ⟨hdn, O, Y.ext⟩⟩)
  have hd40 := hd35.trans (cR hq37)
  have hs41 := (dh hq37).trans hs36
  refine aR 1 ?_
  refine aZ (R := fun u e' => u = jv n39 ∧ e' = blk w3.hz [sv s, jv ((s.length - r38.length : Nat) : Int)] 174) 1 Z Y O de call99 O (fun h => (cj w3.hz s r33 r38 n39 ((s.length - r33.length : Nat) : Int) _ O hs36 hsl hq37 h).mono fun u w ⟨h1, h2⟩ => ⟨_, ⟨h1, O⟩, h2⟩) ?_
  clear Z Y
  rintro a w28 _ _ ⟨rfl, rfl⟩ Z Y
  try dsimp only at Y
  replace Y := Y.n6 O
  refine ab <| dw <| wlv Z (aQ O) fun a Z => az 0 Z Y [jv n14, jv n19, jv n24, jv n29, jv n34, jv n39, .string (⟨#[]⟩)] O (sizeOf3 _) fun a w29 Z Y => ab <| G38 ?_
  refine aj <| nv (Z.p10 0 2 3 4 5 23 24 7 38 39 O) <| xx ((aP O O de).asi (m' := 6) O) <| xy O <| fun a Z => ab <| bN <| aa fun _ G40 => wlv Z ((v_lt O O).asb (b' := false) O) fun a Z => G40 <| ah fun _ G41 => ?_
  refine aJ Z O ?_
  refine aO <| G14 <| bR fun _ G42 hP42 => aR 1 ?_
  refine wlm Z O fun a Z => ab ?_
  rcases hq42 : dgI r38 with _ | ⟨n44, r43⟩
  ·have hdn := hd40.trans (kx hq42)
   refine cH (X := fun c => c = [{ v := .iface 171 (.agg #[]), recovered := false }]) 1 Z Y O call102 O (fun h => (qH w3.hz s r38  ((s.length - r38.length : Nat) : Int) _ O hs41 hsl hq42 h).mono fun e w ⟨c, h1, h2, h3⟩ => ⟨c, h1, _, h2, h3⟩) ?_
   clear Y
   rintro _ w30 e9 rfl Y
   refine hP42 _ _ _ ?_
   replace Y := Y.s3 [2, 3, 4] de rfl
   exact br Z call98 (bZ _ _ _ _ _ _ _ _ _ _ _ _ _ _ _ Y) results39 (fun w9 Y => ⟨(ak O (bf (Y.g 0 O) (isAgg90 _) (sizeOf90 _)) (ak O (aG (Y.g 1 O) (isAgg91 _)) (ak O (aG (Y.g 2 O) (isAgg41 _)) ae))), .inr ⟨hdn, O, Y.ext⟩⟩)
  have hd45 := hd40.trans (ln hq42)
  have hs46 := (qU hq42).trans hs41
  refine aR 1 ?_
  refine aZ (R := fun u e' => u = sv n44 ∧ e' = blk w3.hz [sv s, jv ((s.length - r43.length : Nat) : Int)] 174) 1 Z Y O de call102 O (fun h => (tw w3.hz s r38 r43 n44 ((s.length - r38.length : Nat) : Int) _ O hs41 hsl hq42 h).mono fun u w ⟨h1, h2⟩ => ⟨_, ⟨h1, O⟩, h2⟩) ?_
  clear Z Y
  rintro a w31 _ _ ⟨rfl, rfl⟩ Z Y
  try dsimp only at Y
  replace Y := Y.n6 O
  refine ab <| dw <| wlv Z (ac (v := po w8.hz 6) O kr) fun a Z => az 0 Z Y [jv n14, jv n19, jv n24, jv n29, jv n34, jv n39, sv n44] O (sizeOf9 _) fun a w32 Z Y => G42 ?_
  refine aj <| nv (Z.p8 0 2 3 4 5 23 24 7 O) <| xx (ld Y 3 O O (isAgg91 _) O) <| xx (ao (Y.g 0 O) O (isAgg144 _) (sizeOf144 _)) <| fun a Z => aE (E := 144) (sz := 7) O [[jv n14, jv n19, jv n24, jv n29, jv n34, jv n39, sv n44]] kr sm O de de Z Y fun a w33 Z Y => aY (i := 6) (sT := 91) (inf := Tryz.t144) (z := .agg #[jv 0, jv 0, jv 0, jv 0, jv 0, jv 0, .string (⟨#[]⟩)]) (b := 0) (off := 0) (m := 0) (c := 0) O O O (Y.ow 0 O) sm underlying91 O O O O de zN (by have hby : Tryz.t144.bytes = 64 := O; simp [big, hby]; omega) (by have hby : Tryz.t144.bytes = 64 := O; simp [big, hby]; omega) de Z Y fun a w34 s47 Z Y _ => ?_
  replace Y : St No w0 [own (.slice (some ⟨w32.hz, 0, none⟩) 1 1) 144 7 ([[jv n14, jv n19, jv n24, jv n29, jv n34, jv n39, sv n44]]), blk w8.hz [jv n14, jv n19, jv n24, jv n29, jv n34, jv n39, sv n44] 144, blk w3.hz [sv s, jv ((s.length - r43.length : Nat) : Int)] 174, blk w0.hz [jv 0, jv 0, jv 0, jv 0, jv 0, jv 0, jv 0, jv 0, .string (⟨#[]⟩)] 90, blk w1.hz [lv] 91, blk w2.hz [jv 0] 41, own s47 144 7 ((acc ++ [(⟨n14, n19, n24, n29, n34, n39, n44⟩ : Pxy)]).map Pxy.cells)] w34 := by rw [yE]; exact Y
  refine ce 4 Z Y (Y.ow 6 O) O O O (sizeOf91 _) (lb O) (ds := [s47]) O O fun a w35 Z Y => ab <| G11 <| aj <| nv Z <| xx (aP O O ⟨om, om⟩) <| xy O <| fun a Z => ab ?_
  refine ⟨_, ?_, k + 1, acc ++ [(⟨n14, n19, n24, n29, n34, n39, n44⟩ : Pxy)], r43, s47, O, om, (by rw [show n3.toNat - (k + 1) = mm from by omega]; exact hd45), hs46, (by rw [xE, hal]; rfl), Z.pick [0, 2, 3, 4, 5, 23, 24], Y.select [2, 3, 4, 5, 6] de⟩
  omega
 have hm : n3.toNat - k = 0 := by omega
 rw [hm] at hdl
 have hdk : bU s = kindI 1 r _ := hdl
 refine aO <| G7 <| bR fun _ G43 hP43 => aR 1 ?_
 refine wlm Z O fun a Z => ab ?_
 rcases hq48 : kdI 1 r with _ | r49
 ·have hdn := hdk.trans (lB hq48)
  refine cH (X := fun c => c = [{ v := .iface 171 (.agg #[]), recovered := false }]) 0 Z Y O call101 O (fun h => (oP w3.hz s r  1 ((s.length - r.length : Nat) : Int) _ O hsl2 hsl hq48 h).mono fun e w ⟨c, h1, h2, h3⟩ => ⟨c, h1, _, h2, og h3⟩) ?_
  clear Y
  rintro _ w36 e9 rfl Y
  refine hP43 _ _ _ ?_
  replace Y := Y.s3 [1, 2, 3] de rfl
  exact br Z call98 (bZ _ _ _ _ _ _ _ _ _ _ _ _ _ _ _ Y) results39 (fun w9 Y => ⟨(ak O (bf (Y.g 0 O) (isAgg90 _) (sizeOf90 _)) (ak O (aG (Y.g 1 O) (isAgg91 _)) (ak O (aG (Y.g 2 O) (isAgg41 _)) ae))), .inr ⟨hdn, O, Y.ext⟩⟩)
 have hd50 := hdk.trans (oT hq48)
 have hs51 := (qO hq48).trans hsl2
 refine aR 1 ?_
 refine aZ (R := fun u e' => u = .tuple #[] ∧ e' = blk w3.hz [sv s, jv ((s.length - r49.length : Nat) : Int)] 174) 0 Z Y O de call101 O (fun h => (qY w3.hz s r r49 1 ((s.length - r.length : Nat) : Int) _ O hsl2 hsl hq48 h).mono fun u w ⟨h1, h2⟩ => ⟨_, ⟨h1, O⟩, h2⟩) ?_
 clear Z Y
 rintro a w37 _ _ ⟨rfl, rfl⟩ Z Y
 try dsimp only at Y
 replace Y := Y.n5 O
 refine ab <| dw <| G43 ?_
 refine ah fun _ G44 => aa fun _ G45 => nv (Z.p5 0 2 3 4 5 O) <| xx (ac (v := pq w0.hz) O kr) <| xx (ac (v := po w0.hz 1) O kr) <| xx (ac (v := po w0.hz 2) O kr) <| xx (ac (v := po w0.hz 2) O kr) <| xx (ac (v := po w0.hz 2) O kr) <| xx (ac (v := po w0.hz 3) O kr) <| xx (ac (v := po w0.hz 4) O kr) <| xx (ac (v := po w0.hz 5) O kr) <| xx (ac (v := po w0.hz 6) O kr) <| xx (ac (v := po w0.hz 6) O kr) <| xx (ac (v := po w0.hz 6) O kr) <| xx (ac (v := po w0.hz 7) O kr) <| xx (aX (v := .agg #[pq w0.hz, po w0.hz 1, po w0.hz 2, po w0.hz 3, po w0.hz 4, po w0.hz 5, po w0.hz 6, po w0.hz 7]) O kr) <| xy O <| fun a Z => G45 ?_
 replace Z := Z.p7 0 2 3 4 5 69 70 O
 refine ar <| eA 9 ?_
 refine bN <| aa fun _ G46 => wlv Z ((v_lt O O).asb (b' := true) O) fun a Z => G46 <| ah fun _ G47 => ?_
 refine aH Z O ?_
 refine au <| G47 <| ah fun _ G48 => ar <| aa fun _ G49 => nv Z <| xx (cg (v := pq w0.hz) O O kr) <| xz O <| fun a Z => G49 <| bE ?_
 refine aR 2 ?_
 refine nv Z <| xy O <| xy O <| fun a Z => ab ?_
 rcases hq52 : rdI r49 with _ | ⟨n54, r53⟩
 ·have hdn := hd50.trans (cI hq52)
  refine cH (X := fun c => c = [{ v := .iface 171 (.agg #[]), recovered := false }]) 0 Z Y O call99 O (fun h => (cb w3.hz s r49  ((s.length - r49.length : Nat) : Int) _ O hs51 hsl hq52 h).mono fun e w ⟨c, h1, h2, h3⟩ => ⟨c, h1, _, h2, h3⟩) ?_
  clear Y
  rintro _ w38 e9 rfl Y
  replace Y := Y.s3 [1, 2, 3] de rfl
  exact br Z call98 (bZ _ _ _ _ _ _ _ _ _ _ _ _ _ _ _ Y) results39 (fun w9 Y => ⟨(ak O (bf (Y.g 0 O) (isAgg90 _) (sizeOf90 _)) (ak O (aG (Y.g 1 O) (isAgg91 _)) (ak O (aG (Y.g 2 O) (isAgg41 _)) ae))), .inr ⟨hdn, O, Y.ext⟩⟩)
 have hd55 := hd50.trans (cR hq52)
 have hs56 := (dh hq52).trans hs51
 refine aR 1 ?_
 refine aZ (R := fun u e' => u = jv n54 ∧ e' = blk w3.hz [sv s, jv ((s.length - r53.length : Nat) : Int)] 174) 0 Z Y O de call99 O (fun h => (cj w3.hz s r49 r53 n54 ((s.length - r49.length : Nat) : Int) _ O hs51 hsl hq52 h).mono fun u w ⟨h1, h2⟩ => ⟨_, ⟨h1, O⟩, h2⟩) ?_
 clear Z Y
 rintro a w39 _ _ ⟨rfl, rfl⟩ Z Y
 try dsimp only at Y
 replace Y := Y.n5 O
 refine ab <| dw <| wlv Z (aQ O) fun a Z => az 1 Z Y [jv n54, jv 0, jv 0, jv 0, jv 0, jv 0, jv 0, jv 0, .string (⟨#[]⟩)] O (sizeOf3 _) fun a w40 Z Y => ab <| G48 ?_
 refine aj <| nv (Z.p7 0 2 3 4 5 69 70 O) <| xx ((aP O O de).asi (m' := 1) O) <| xy O <| fun a Z => ab <| bN <| aa fun _ G50 => wlv Z ((v_lt O O).asb (b' := true) O) fun a Z => G50 <| ah fun _ G51 => ?_
 refine aH Z O ?_
 refine au <| G51 <| ah fun _ G52 => ar <| aa fun _ G53 => nv Z <| xx (cg (v := po w0.hz 1) O O kr) <| xz O <| fun a Z => G53 <| bE ?_
 refine aR 2 ?_
 refine nv Z <| xy O <| xy O <| fun a Z => ab ?_
 rcases hq57 : rdI r53 with _ | ⟨n59, r58⟩
 ·have hdn := hd55.trans (cI hq57)
  refine cH (X := fun c => c = [{ v := .iface 171 (.agg #[]), recovered := false }]) 0 Z Y O call99 O (fun h => (cb w3.hz s r53  ((s.length - r53.length : Nat) : Int) _ O hs56 hsl hq57 h).mono fun e w ⟨c, h1, h2, h3⟩ => ⟨c, h1, _, h2, h3⟩) ?_
  clear Y
  rintro _ w41 e9 rfl Y
  replace Y := Y.s3 [1, 2, 3] de rfl
  exact br Z call98 (bZ _ _ _ _ _ _ _ _ _ _ _ _ _ _ _ Y) results39 (fun w9 Y => ⟨(ak O (bf (Y.g 0 O) (isAgg90 _) (sizeOf90 _)) (ak O (aG (Y.g 1 O) (isAgg91 _)) (ak O (aG (Y.g 2 O) (isAgg41 _)) ae))), .inr ⟨hdn, O, Y.ext⟩⟩)
 have hd60 := hd55.trans (cR hq57)
 have hs61 := (dh hq57).trans hs56
 refine aR 1 ?_
 refine aZ (R := fun u e' => u = jv n59 ∧ e' = blk w3.hz [sv s, jv ((s.length - r58.length : Nat) : Int)] 174) 0 Z Y O de call99 O (fun h => (cj w3.hz s r53 r58 n59 ((s.length - r53.length : Nat) : Int) _ O hs56 hsl hq57 h).mono fun u w ⟨h1, h2⟩ => ⟨_, ⟨h1, O⟩, h2⟩) ?_
 clear Z Y
 rintro a w42 _ _ ⟨rfl, rfl⟩ Z Y
 try dsimp only at Y
 replace Y := Y.n5 O
 refine ab <| dw <| wlv Z (aQ O) fun a Z => az 1 Z Y [jv n54, jv n59, jv 0, jv 0, jv 0, jv 0, jv 0, jv 0, .string (⟨#[]⟩)] O (sizeOf3 _) fun a w43 Z Y => ab <| G52 ?_
 refine aj <| nv (Z.p7 0 2 3 4 5 69 70 O) <| xx ((aP O O de).asi (m' := 2) O) <| xy O <| fun a Z => ab <| bN <| aa fun _ G54 => wlv Z ((v_lt O O).asb (b' := true) O) fun a Z => G54 <| ah fun _ G55 => ?_
 refine aH Z O ?_
 refine au <| G55 <| ah fun _ G56 => ar <| aa fun _ G57 => nv Z <| xx (cg (v := po w0.hz 2) O O kr) <| xz O <| fun a Z => G57 <| bE ?_
 refine aR 2 ?_
 refine nv Z <| xy O <| xy O <| fun a Z => ab ?_
 rcases hq62 : rdI r58 with _ | ⟨n64, r63⟩
 ·have hdn := hd60.trans (cI hq62)
  refine cH (X := fun c => c = [{ v := .iface 171 (.agg #[]), recovered := false }]) 0 Z Y O call99 O (fun h => (cb w3.hz s r58  ((s.length - r58.length : Nat) : Int) _ O hs61 hsl hq62 h).mono fun e w ⟨c, h1, h2, h3⟩ => ⟨c, h1, _, h2, h3⟩) ?_
  clear Y
  rintro _ w44 e9 rfl Y
  replace Y := Y.s3 [1, 2, 3] de rfl
  exact br Z call98 (bZ _ _ _ _ _ _ _ _ _ _ _ _ _ _ _ Y) results39 (fun w9 Y => ⟨(ak O (bf (Y.g 0 O) (isAgg90 _) (sizeOf90 _)) (ak O (aG (Y.g 1 O) (isAgg91 _)) (ak O (aG (Y.g 2 O) (isAgg41 _)) ae))), .inr ⟨hdn, O, Y.ext⟩⟩)
 have hd65 := hd60.trans (cR hq62)
 have hs66 := (dh hq62).trans hs61
 refine aR 1 ?_
 refine aZ (R := fun u e' => u = jv n64 ∧ e' = blk w3.hz [sv s, jv ((s.length - r63.length : Nat) : Int)] 174) 0 Z Y O de call99 O (fun h => (cj w3.hz s r58 r63 n64 ((s.length - r58.length : Nat) : Int) _ O hs61 hsl hq62 h).mono fun u w ⟨h1, h2⟩ => ⟨_, ⟨h1, O⟩, h2⟩) ?_
 clear Z Y
 rintro a w45 _ _ ⟨rfl, rfl⟩ Z Y
 try dsimp only at Y
 replace Y := Y.n5 O
 refine ab <| dw <| wlv Z (aQ O) fun a Z => az 1 Z Y [jv n54, jv n59, jv n64, jv 0, jv 0, jv 0, jv 0, jv 0, .string (⟨#[]⟩)] O (sizeOf3 _) fun a w46 Z Y => ab <| G56 ?_
 refine aj <| nv (Z.p7 0 2 3 4 5 69 70 O) <| xx ((aP O O de).asi (m' := 3) O) <| xy O <| fun a Z => ab <| bN <| aa fun _ G58 => wlv Z ((v_lt O O).asb (b' := true) O) fun a Z => G58 <| ah fun _ G59 => ?_
 refine aH Z O ?_
 refine au <| G59 <| ah fun _ G60 => ar <| aa fun _ G61 => nv Z <| xx (cg (v := po w0.hz 3) O O kr) <| xz O <| fun a Z => G61 <| bE ?_
 refine aR 2 ?_
 refine nv Z <| xy O <| xy O <| fun a Z => ab ?_
 rcases hq67 : rdI r63 with _ | ⟨n69, r68⟩
 ·have hdn := hd65.trans (cI hq67)
  refine cH (X := fun c => c = [{ v := .iface 171 (.agg #[]), recovered := false }]) 0 Z Y O call99 O (fun h => (cb w3.hz s r63  ((s.length - r63.length : Nat) : Int) _ O hs66 hsl hq67 h).mono fun e w ⟨c, h1, h2, h3⟩ => ⟨c, h1, _, h2, h3⟩) ?_
  clear Y
  rintro _ w47 e9 rfl Y
  replace Y := Y.s3 [1, 2, 3] de rfl
  exact br Z call98 (bZ _ _ _ _ _ _ _ _ _ _ _ _ _ _ _ Y) results39 (fun w9 Y => ⟨(ak O (bf (Y.g 0 O) (isAgg90 _) (sizeOf90 _)) (ak O (aG (Y.g 1 O) (isAgg91 _)) (ak O (aG (Y.g 2 O) (isAgg41 _)) ae))), .inr ⟨hdn, O, Y.ext⟩⟩)
 have hd70 := hd65.trans (cR hq67)
 have hs71 := (dh hq67).trans hs66
 refine aR 1 ?_
 refine aZ (R := fun u e' => u = jv n69 ∧ e' = blk w3.hz [sv s, jv ((s.length - r68.length : Nat) : Int)] 174) 0 Z Y O de call99 O (fun h => (cj w3.hz s r63 r68 n69 ((s.length - r63.length : Nat) : Int) _ O hs66 hsl hq67 h).mono fun u w ⟨h1, h2⟩ => ⟨_, ⟨h1, O⟩, h2⟩) ?_
 clear Z Y
 rintro a w48 _ _ ⟨rfl, rfl⟩ Z Y
 try dsimp only at Y
 replace Y := Y.n5 O
 refine ab <| dw <| wlv Z (aQ O) fun a Z => az 1 Z Y [jv n54, jv n59, jv n64, jv n69, jv 0, jv 0, jv 0, jv 0, .string (⟨#[]⟩)] O (sizeOf3 _) fun a w49 Z Y => ab <| G60 ?_
 refine aj <| nv (Z.p7 0 2 3 4 5 69 70 O) <| xx ((aP O O de).asi (m' := 4) O) <| xy O <| fun a Z => ab <| bN <| aa fun _ G62 => wlv Z ((v_lt O O).asb (b' := true) O) fun a Z => G62 <| ah fun _ G63 => ?_
 refine aH Z O ?_
 refine au <| G63 <| ah fun _ G64 => ar <| aa fun _ G65 => nv Z <| xx (cg (v := po w0.hz 4) O O kr) <| xz O <| fun a Z => G65 <| bE ?_
 refine aR 2 ?_
 refine nv Z <| xy O <| xy O <| fun a Z => ab ?_
 rcases hq72 : rdI r68 with _ | ⟨n74, r73⟩
 ·have hdn := hd70.trans (cI hq72)
  refine cH (X := fun c => c = [{ v := .iface 171 (.agg #[]), recovered := false }]) 0 Z Y O call99 O (fun h => (cb w3.hz s r68  ((s.length - r68.length : Nat) : Int) _ O hs71 hsl hq72 h).mono fun e w ⟨c, h1, h2, h3⟩ => ⟨c, h1, _, h2, h3⟩) ?_
  clear Y
  rintro _ w50 e9 rfl Y
  replace Y := Y.s3 [1, 2, 3] de rfl
  exact br Z call98 (bZ _ _ _ _ _ _ _ _ _ _ _ _ _ _ _ Y) results39 (fun w9 Y => ⟨(ak O (bf (Y.g 0 O) (isAgg90 _) (sizeOf90 _)) (ak O (aG (Y.g 1 O) (isAgg91 _)) (ak O (aG (Y.g 2 O) (isAgg41 _)) ae))), .inr ⟨hdn, O, Y.ext⟩⟩)
 have hd75 := hd70.trans (cR hq72)
 have hs76 := (dh hq72).trans hs71
 refine aR 1 ?_
 refine aZ (R := fun u e' => u = jv n74 ∧ e' = blk w3.hz [sv s, jv ((s.length - r73.length : Nat) : Int)] 174) 0 Z Y O de call99 O (fun h => (cj w3.hz s r68 r73 n74 ((s.length - r68.length : Nat) : Int) _ O hs71 hsl hq72 h).mono fun u w ⟨h1, h2⟩ => ⟨_, ⟨h1, O⟩, h2⟩) ?_
 clear Z Y
 rintro a w51 _ _ ⟨rfl, rfl⟩ Z Y
 try dsimp only at Y
 replace Y := Y.n5 O
 refine ab <| dw <| wlv Z (aQ O) fun a Z => az 1 Z Y [jv n54, jv n59, jv n64, jv n69, jv n74, jv 0, jv 0, jv 0, .string (⟨#[]⟩)] O (sizeOf3 _) fun a w52 Z Y => ab <| G64 ?_
 refine aj <| nv (Z.p7 0 2 3 4 5 69 70 O) <| xx ((aP O O de).asi (m' := 5) O) <| xy O <| fun a Z => ab <| bN <| aa fun _ G66 => wlv Z ((v_lt O O).asb (b' := true) O) fun a Z => G66 <| ah fun _ G67 => ?_
 refine aH Z O ?_
 refine au <| G67 <| ah fun _ G68 => ar <| aa fun _ G69 => nv Z <| xx (cg (v := po w0.hz 5) O O kr) <| xz O <| fun a Z => G69 <| bE ?_
 refine aR 2 ?_
 refine nv Z <| xy O <| xy O <| fun a Z => ab ?_
 rcases hq77 : rdI r73 with _ | ⟨n79, r78⟩
 ·have hdn := hd75.trans (cI hq77)
  refine cH (X := fun c => c = [{ v := .iface 171 (.agg #[]), recovered := false }]) 0 Z Y O call99 O (fun h => (cb w3.hz s r73  ((s.length - r73.length : Nat) : Int) _ O hs76 hsl hq77 h).mono fun e w ⟨c, h1, h2, h3⟩ => ⟨c, h1, _, h2, h3⟩) ?_
  clear Y
  rintro _ w53 e9 rfl Y
  replace Y := Y.s3 [1, 2, 3] de rfl
  exact br Z call98 (bZ _ _ _ _ _ _ _ _ _ _ _ _ _ _ _ Y) results39 (fun w9 Y => ⟨(ak O (bf (Y.g 0 O) (isAgg90 _) (sizeOf90 _)) (ak O (aG (Y.g 1 O) (isAgg91 _)) (ak O (aG (Y.g 2 O) (isAgg41 _)) ae))), .inr ⟨hdn, O, Y.ext⟩⟩)
 have hd80 := hd75.trans (cR hq77)
 have hs81 := (dh hq77).trans hs76
 refine aR 1 ?_
 refine aZ (R := fun u e' => u = jv n79 ∧ e' = blk w3.hz [sv s, jv ((s.length - r78.length : Nat) : Int)] 174) 0 Z Y O de call99 O (fun h => (cj w3.hz s r73 r78 n79 ((s.length - r73.length : Nat) : Int) _ O hs76 hsl hq77 h).mono fun u w ⟨h1, h2⟩ => ⟨_, ⟨h1, O⟩, h2⟩) ?_
 clear Z Y
 rintro a w54 _ _ ⟨rfl, rfl⟩ Z Y
 try dsimp only at Y
 replace Y := Y.n5 O
 refine ab <| dw <| wlv Z (aQ O) fun a Z => az 1 Z Y [jv n54, jv n59, jv n64, jv n69, jv n74, jv n79, jv 0, jv 0, .string (⟨#[]⟩)] O (sizeOf3 _) fun a w55 Z Y => ab <| G68 ?_
 refine aj <| nv (Z.p7 0 2 3 4 5 69 70 O) <| xx ((aP O O de).asi (m' := 6) O) <| xy O <| fun a Z => ab <| bN <| aa fun _ G70 => wlv Z ((v_lt O O).asb (b' := true) O) fun a Z => G70 <| ah fun _ G71 => ?_
 refine aH Z O ?_
 refine au <| G71 <| ah fun _ G72 => ar <| aa fun _ G73 => nv Z <| xx (cg (v := po w0.hz 6) O O kr) <| xz O <| fun a Z => G73 <| bE ?_
 refine aR 2 ?_
 refine nv Z <| xy O <| xy O <| fun a Z => ab ?_
 rcases hq82 : rdI r78 with _ | ⟨n84, r83⟩
 ·have hdn := hd80.trans (cI hq82)
  refine cH (X := fun c => c = [{ v := .iface 171 (.agg #[]), recovered := false }]) 0 Z Y O call99 O (fun h => (cb w3.hz s r78  ((s.length - r78.length : Nat) : Int) _ O hs81 hsl hq82 h).mono fun e w ⟨c, h1, h2, h3⟩ => ⟨c, h1, _, h2, h3⟩) ?_
  clear Y
  rintro _ w56 e9 rfl Y
  replace Y := Y.s3 [1, 2, 3] de rfl
  exact br Z call98 (bZ _ _ _ _ _ _ _ _ _ _ _ _ _ _ _ Y) results39 (fun w9 Y => ⟨(ak O (bf (Y.g 0 O) (isAgg90 _) (sizeOf90 _)) (ak O (aG (Y.g 1 O) (isAgg91 _)) (ak O (aG (Y.g 2 O) (isAgg41 _)) ae))), .inr ⟨hdn, O, Y.ext⟩⟩)
 have hd85 := hd80.trans (cR hq82)
 have hs86 := (dh hq82).trans hs81
 refine aR 1 ?_
 refine aZ (R := fun u e' => u = jv n84 ∧ e' = blk w3.hz [sv s, jv ((s.length - r83.length : Nat) : Int)] 174) 0 Z Y O de call99 O (fun h => (cj w3.hz s r78 r83 n84 ((s.length - r78.length : Nat) : Int) _ O hs81 hsl hq82 h).mono fun u w ⟨h1, h2⟩ => ⟨_, ⟨h1, O⟩, h2⟩) ?_
 clear Z Y
 rintro a w57 _ _ ⟨rfl, rfl⟩ Z Y
 try dsimp only at Y
 replace Y := Y.n5 O
 refine ab <| dw <| wlv Z (aQ O) fun a Z => az 1 Z Y [jv n54, jv n59, jv n64, jv n69, jv n74, jv n79, jv n84, jv 0, .string (⟨#[]⟩)] O (sizeOf3 _) fun a w58 Z Y => ab <| G72 ?_
 refine aj <| nv (Z.p7 0 2 3 4 5 69 70 O) <| xx ((aP O O de).asi (m' := 7) O) <| xy O <| fun a Z => ab <| bN <| aa fun _ G74 => wlv Z ((v_lt O O).asb (b' := true) O) fun a Z => G74 <| ah fun _ G75 => ?_
 refine aH Z O ?_
 refine au <| G75 <| ah fun _ G76 => ar <| aa fun _ G77 => nv Z <| xx (cg (v := po w0.hz 7) O O kr) <| xz O <| fun a Z => G77 <| bE ?_
 refine aR 2 ?_
 refine nv Z <| xy O <| xy O <| fun a Z => ab ?_
 rcases hq87 : rdI r83 with _ | ⟨n89, r88⟩
 ·have hdn := hd85.trans (cI hq87)
  refine cH (X := fun c => c = [{ v := .iface 171 (.agg #[]), recovered := false }]) 0 Z Y O call99 O (fun h => (cb w3.hz s r83  ((s.length - r83.length : Nat) : Int) _ O hs86 hsl hq87 h).mono fun e w ⟨c, h1, h2, h3⟩ => ⟨c, h1, _, h2, h3⟩) ?_
  clear Y
  rintro _ w59 e9 rfl Y
  replace Y := Y.s3 [1, 2, 3] de rfl
  exact br Z call98 (bZ _ _ _ _ _ _ _ _ _ _ _ _ _ _ _ Y) results39 (fun w9 Y => ⟨(ak O (bf (Y.g 0 O) (isAgg90 _) (sizeOf90 _)) (ak O (aG (Y.g 1 O) (isAgg91 _)) (ak O (aG (Y.g 2 O) (isAgg41 _)) ae))), .inr ⟨hdn, O, Y.ext⟩⟩)
 have hd90 := hd85.trans (cR hq87)
 have hs91 := (dh hq87).trans hs86
 refine aR 1 ?_
 refine aZ (R := fun u e' => u = jv n89 ∧ e' = blk w3.hz [sv s, jv ((s.length - r88.length : Nat) : Int)] 174) 0 Z Y O de call99 O (fun h => (cj w3.hz s r83 r88 n89 ((s.length - r83.length : Nat) : Int) _ O hs86 hsl hq87 h).mono fun u w ⟨h1, h2⟩ => ⟨_, ⟨h1, O⟩, h2⟩) ?_
 clear Z Y
 rintro a w60 _ _ ⟨rfl, rfl⟩ Z Y
 try dsimp only at Y
 replace Y := Y.n5 O
 refine ab <| dw <| wlv Z (aQ O) fun a Z => az 1 Z Y [jv n54, jv n59, jv n64, jv n69, jv n74, jv n79, jv n84, jv n89, .string (⟨#[]⟩)] O (sizeOf3 _) fun a w61 Z Y => ab <| G76 ?_
 refine aj <| nv (Z.p7 0 2 3 4 5 69 70 O) <| xx ((aP O O de).asi (m' := 8) O) <| xy O <| fun a Z => ab <| bN <| aa fun _ G78 => wlv Z ((v_lt O O).asb (b' := false) O) fun a Z => G78 <| ah fun _ G79 => ?_
 refine aJ Z O ?_
 refine aO <| G44 <| bR fun _ G80 hP80 => aR 1 ?_
 refine wlm Z O fun a Z => ab ?_
 rcases hq92 : dgI r88 with _ | ⟨n94, r93⟩
 ·have hdn := hd90.trans (kx hq92)
  refine cH (X := fun c => c = [{ v := .iface 171 (.agg #[]), recovered := false }]) 0 Z Y O call102 O (fun h => (qH w3.hz s r88  ((s.length - r88.length : Nat) : Int) _ O hs91 hsl hq92 h).mono fun e w ⟨c, h1, h2, h3⟩ => ⟨c, h1, _, h2, h3⟩) ?_
  clear Y
  rintro _ w62 e9 rfl Y
  refine hP80 _ _ _ ?_
  replace Y := Y.s3 [1, 2, 3] de rfl
  exact br Z call98 (bZ _ _ _ _ _ _ _ _ _ _ _ _ _ _ _ Y) results39 (fun w9 Y => ⟨(ak O (bf (Y.g 0 O) (isAgg90 _) (sizeOf90 _)) (ak O (aG (Y.g 1 O) (isAgg91 _)) (ak O (aG (Y.g 2 O) (isAgg41 _)) ae))), .inr ⟨hdn, O, Y.ext⟩⟩)
 have hd95 := hd90.trans (ln hq92)
 have hs96 := (qU hq92).trans hs91
 refine aR 1 ?_
 refine aZ (R := fun u e' => u = sv n94 ∧ e' = blk w3.hz [sv s, jv ((s.length - r93.length : Nat) : Int)] 174) 0 Z Y O de call102 O (fun h => (tw w3.hz s r88 r93 n94 ((s.length - r88.length : Nat) : Int) _ O hs91 hsl hq92 h).mono fun u w ⟨h1, h2⟩ => ⟨_, ⟨h1, O⟩, h2⟩) ?_
 clear Z Y
 rintro a w63 _ _ ⟨rfl, rfl⟩ Z Y
 try dsimp only at Y
 replace Y := Y.n5 O
 refine ab <| dw <| wlv Z (ac (v := po w0.hz 8) O kr) fun a Z => az 1 Z Y [jv n54, jv n59, jv n64, jv n69, jv n74, jv n79, jv n84, jv n89, sv n94] O (sizeOf9 _) fun a w64 Z Y => G80 ?_
 refine ah fun _ G81 => aa fun _ G82 => nv (Z.p5 0 2 3 4 5 O) <| xy O <| xx (aQ O) <| xx (ac (v := po w3.hz 1) O kr) <| xx (ld Y 0 O O (isAgg3 _) O) <| xy O <| xx (bn O O (runUnderlying9 _)) <| xx (v_lt O O) <| xy O <| fun a Z => ?_
 rcases Decidable.em (((s.length - r93.length : Nat) : Int) < (s.length : Int)) with hb97 | hb97
 ·rw [xF hb97] at Z
  have hdn := hd95.trans (uK (by intro h0; have h1 := yf List.length h0; rw [xP] at h1; omega))
  refine nv Z <| xB <| xB <| xB <| xB <| xx (aw O O) <| fun a Z => G82 ?_
  replace Z := Z.p4 2 3 4 93 O
  replace Y := Y.k4 30 O
  refine aH Z O ?_
  refine bE <| aR 2 ?_
  refine nv Z <| xx (aX (v := .agg #[]) O kr) <| xx (cZ O underlying171) <| fun a Z => ab <| dP Z O ?_
  replace Y := Y.s3 [0, 1, 2] de rfl
  exact br Z call98 (bZ _ _ _ _ _ _ _ _ _ _ _ _ _ _ _ Y) results39 (fun w9 Y => ⟨(ak O (bf (Y.g 0 O) (isAgg90 _) (sizeOf90 _)) (ak O (aG (Y.g 1 O) (isAgg91 _)) (ak O (aG (Y.g 2 O) (isAgg41 _)) ae))), .inr ⟨hdn, O, Y.ext⟩⟩)
 rw [xK hb97] at Z
 have hrn : r93 = [] := yp (by have := hs96.length_le; omega)
 refine nv Z <| xA (ao (Y.g 1 O) O (isAgg90 _) (sizeOf90 _)) <| xA (ld Y 2 O O (isAgg91 _) O) <| fun a Z => aF Z Y call90 O (ol (x := (⟨n54, n59, n64, n69, n74, n79, n84, n89, n94⟩ : Wsh)) (ps := acc) (Y.ow 4 O)) fun a w65 Z Y => nv Z <| xA (bD O) <| xx (ai O O) <| fun a Z => G82 ?_
 replace Z := Z.p4 2 3 4 93 O
 replace Y := Y.k4 30 O
 refine bu Z O (fun hc98 => ?_) (fun hc98 => ?_)
 ·try simp only [qz] at hc98
  have hdn := hd95.trans (tg hc98)
  refine bE <| aR 2 ?_
  refine nv Z <| xx (aX (v := .agg #[]) O kr) <| xx (cZ O underlying171) <| fun a Z => ab <| dP Z O ?_
  replace Y := Y.s3 [0, 1, 2] de rfl
  exact br Z call98 (bZ _ _ _ _ _ _ _ _ _ _ _ _ _ _ _ Y) results39 (fun w9 Y => ⟨(ak O (bf (Y.g 0 O) (isAgg90 _) (sizeOf90 _)) (ak O (aG (Y.g 1 O) (isAgg91 _)) (ak O (aG (Y.g 2 O) (isAgg41 _)) ae))), .inr ⟨hdn, O, Y.ext⟩⟩)
 try simp only [qz] at hc98
 have hd8 := hd95.trans (ua hrn hc98)
 refine au <| G81 <| ah fun _ G83 => aM (aN fun w66 hxz => ?_)
 replace Y := Y.grow hxz
 refine aU (k := 0) 3 [1, 2] Z ?_
 replace Z := Z.p3 2 3 4 O
 replace Y := Y.s4 [0, 1, 2, 3] de rfl
 refine jR [2] (fun q => if q = 2 then blk w0.hz [jv n54, jv n59, jv n64, jv n69, jv n74, jv n79, jv n84, jv n89, sv n94] 90 else join []) (fun q => if q = 2 then blk w0.hz [jv n54, jv n59, jv n64, jv n69, jv n74, jv n79, jv n84, jv n89, sv n94] 90 else join []) 3 [[], [], [0]] (fun i => match i with | 0 => pv (.agg #[jv n54, jv n59, jv n64, jv n69, jv n74, jv n79, jv n84, jv n89, sv n94]) | 1 => pv (lv) | 2 => fun v E => v = undef ∧ E = [] | _ => fun _ _ => False) Bl Z (H := [blk w1.hz [lv] 91, blk w2.hz [jv 0] 41, own lv 144 7 ((acc).map Pxy.cells)]) Y kr kr kr kr de de ?_ ?_ ?_ ?_ ?_ ?_
 ·intro i v E h
  match i, h with
  | 0, _ => exact by decide
  | 1, _ => exact by decide
  | 2, _ => exact by decide
  | i + 3, h => exact h.elim
 ·intro q v E hq h
  simp only [xL, xQ, yj] at hq
  rcases hq with rfl <;> exact h
 ·intro q hq
  simp only [xL, xQ, yj] at hq
  rcases hq with rfl <;> exact ⟨rfl, rfl⟩
 ·intro i hi hiq e
  match i, hi, hiq with
  | 0, _, _ => exact fun w Y => OpV.g (ao (wn (F := fun q => if q = 2 then blk w0.hz [jv n54, jv n59, jv n64, jv n69, jv n74, jv n79, jv n84, jv n89, sv n94] 90 else join []) (q := 2) (Y.g 0 O)) O (isAgg90 _) (sizeOf90 _))
  | 1, _, _ => exact fun w Y => OpV.g (ld Y 1 O O (isAgg91 _) O)
  | 2, _, h => exact absurd de h
 ·intro q hq
  simp only [xL, xQ, yj] at hq
  rcases hq with rfl
  ·rintro _ _ ⟨rfl, rfl⟩
   intro w h
   exact dF (cs := [jv n54, jv n59, jv n64, jv n69, jv n74, jv n79, jv n84, jv n89, sv n94]) (ds := [jv n54, jv n59, jv n64, jv n69, jv n74, jv n79, jv n84, jv n89, sv n94]) O O h (sizeOf90 _) O (lb O) O
 clear Z Y
 rintro _ _ ⟨rfl, rfl⟩ _ _ ⟨rfl, rfl⟩ a w67 Z Y
 replace Z := Z.p5 96 97 2 3 4 O
 try dsimp only at Y
 replace Y := Y.n4 O
 refine ab <| aK (k := 3) 5 [4] ?_
 refine ce 1 Z Y (Y.ow 3 O) O O O (sizeOf91 _) (lb O) (ds := [lv]) O O fun a w68 Z Y => az 2 Z Y [jv 0] O (sizeOf41 _) fun a w69 Z Y => ab <| aT <| G83 <| ap <| nJ (vs := [.agg #[jv n54, jv n59, jv n64, jv n69, jv n74, jv n79, jv n84, jv n89, sv n94], lv, jv 0]) Z call98 (tt _ _ _ _) results39 (fun w9 hx => ?_)
 have Y := Y.grow hx
 exact ⟨(ak O (bf (Y.g 0 O) (isAgg90 _) (sizeOf90 _)) (ak O (aG (Y.g 1 O) (isAgg91 _)) (ak O (aG (Y.g 2 O) (isAgg41 _)) ae))), .inl ⟨_, _, hd8, _, O, trivial, Y.ext, St.out (H := []) (Y.select [3] de)⟩⟩
theorem iE {r q : By} {n : Int} (h : rdI r = some (n, q)) : q <:+ r := by
 obtain ⟨_, rfl⟩ := eL h; exact List.suffix_append _ _
theorem tA {r x q : By} (h : rdS r = some (x, q)) : ∃ n r2, rdI r = some (n, r2) ∧ 0 ≤ n ∧ n ≤ 65536 ∧ n ≤ (r2.length : Int) ∧ x = r2.take n.toNat ∧ q = r2.drop n.toNat ∧ q.length = r2.length - n.toNat := by
 unfold rdS at h
 cases hq : rdI r with
 | none => rw [hq] at h; cases h
 | some p =>
  obtain ⟨n, t⟩ := p
  rw [hq] at h
  simp only at h
  split at h
  ·rename_i hc
   cases h
   exact ⟨n, t, O, hc.1, hc.2.1, hc.2.2, O, O, by rw [ym]⟩
  ·cases h
theorem xf {r : By} (h : rdS r = none) : rdI r = none ∨ ∃ n r2, rdI r = some (n, r2) ∧ (n < 0 ∨ 65536 < n ∨ (r2.length : Int) < n) := by
 unfold rdS at h
 cases hq : rdI r with
 | none => exact .inl rfl
 | some p =>
  obtain ⟨n, t⟩ := p
  rw [hq] at h
  simp only at h
  split at h
  ·cases h
  ·rename_i hc
   exact .inr ⟨n, t, O, by omega⟩
theorem vO {r x q : By} (h : rdS r = some (x, q)) : q <:+ r := by
 obtain ⟨n, r2, hi, _, _, _, _, rfl, _⟩ := tA h
 exact (List.drop_suffix _ _).trans (iE hi)
theorem vC {s r2 q x : By} {n : Int} (hs : r2 <:+ s) (hx : x = r2.take n.toNat) (h0 : 0 ≤ n) (hn : n ≤ (r2.length : Int)) (hq : q.length = r2.length - n.toNat) : x = (s.drop (s.length - r2.length)).take (s.length - q.length - (s.length - r2.length)) := by
 have := hs.length_le
 rw [← List.suffix_iff_eq_drop.1 hs, hx]
 congr 1
 omega
theorem mZ (s : By) (w0 : World) (hs : s.length ≤ 65536) :
  Ret Tryz.prog 61 #[sv s] w0 fun v w => v = .tuple #[sv (putS s), jv 0] ∧ Ext No w0 w := by
 have hpl := bY (s.length : Int)
 refine zA func61 O ntmps61 (lb O) fun a Z Y => ?_
 refine aa fun _ G1 => nv Z <| xz O <| xz O <| fun a Z => G1 <| ah fun _ G2 => ?_
 refine aa fun _ G3 => nv Z <| xy O <| xx (bn O O (runUnderlying9 _)) <| xx ((v_gt O O).asb (b' := false) AN) <| fun a Z => G3 <| aJ Z O ?_
 refine au <| G2 <| aa fun _ G4 => nv Z <| xy O <| xx (bn O O (runUnderlying9 _)) <| fun a Z => ax Z Y call60 O (fg (s.length : Int) _ zV) fun a w1 Z Y => nv Z <| xy O <| xx (aq O O) <| xx (aq O O) <| xz O <| xz O <| fun a Z => G4 ?_
 refine aa fun _ G5 => nv (Z.p4 0 2 3 4 O) <| xy O <| xy O <| xx (dH O O As) <| xz O <| xz O <| fun a Z => G5 <| ap ?_
 refine al Z results61 (ag O (ag O ae)) ?_
 exact ⟨by rfl, Y.ext⟩
theorem jA {s r r2 : By} {n z : Int} {w0 : World} (hz : z = ((s.length - r.length : Nat) : Int)) (hsf : r <:+ s) (hsl : s.length ≤ 1000000) (hq : rdI r = some (n, r2)) :
  Ret Tryz.prog 63 #[sv s, jv z] w0 fun v w => v = .tuple #[jv n, jv ((s.length - r2.length : Nat) : Int), jv 0] ∧ Ext No w0 w := by
 subst hz
 have := hZ s (s.length - r.length) w0 om hsl
 unfold intV at this
 rw [← List.suffix_iff_eq_drop.1 hsf, hq] at this
 exact this
theorem jS {s r : By} {z : Int} {w0 : World} (hz : z = ((s.length - r.length : Nat) : Int)) (hsf : r <:+ s) (hsl : s.length ≤ 1000000) (hq : rdI r = none) :
  Ret Tryz.prog 63 #[sv s, jv z] w0 fun v w => v = .tuple #[jv 0, jv 0, jv 10] ∧ Ext No w0 w := by
 subst hz
 have := hZ s (s.length - r.length) w0 om hsl
 unfold intV at this
 rw [← List.suffix_iff_eq_drop.1 hsf, hq] at this
 exact this
theorem rA (s r x q : By) (z : Int) (w0 : World) (hz : z = ((s.length - r.length : Nat) : Int)) (hsf : r <:+ s) (hsl : s.length ≤ 1000000) (hq : rdS r = some (x, q)) :
  Ret Tryz.prog 65 #[sv s, jv z] w0 fun v w => v = .tuple #[sv x, jv ((s.length - q.length : Nat) : Int), jv 0] ∧ Ext No w0 w := by
 obtain ⟨n, r2, hi, h0, h6, hl, hx, -, hql⟩ := tA hq
 have hsu := hsf.length_le
 have hsf2 := (iE hi).trans hsf
 have hsu2 := hsf2.length_le
 refine zy func65 O ntmps65 (lb O) fun a Z Y => ?_
 refine aa fun _ G1 => nv Z <| xz O <| xz O <| xz O <| fun a Z => G1 <| aa fun _ G2 => ?_
 refine nv Z <| xy O <| xy O <| fun a Z => ax Z Y call63 O (jA hz hsf hsl hi) fun a w1 Z Y => nv Z <| xy O <| xx (aq O O) <| xx (aq O O) <| xx (aq O O) <| xz O <| xz O <| xz O <| fun a Z => G2 ?_
 refine ah fun _ G3 => aa fun _ G4 => nv (Z.p7 0 4 5 6 7 8 9 O) <| xy O <| xx ((v_ne O O).asb (b' := false) O) <| fun a Z => G4 <| aJ Z O ?_
 refine au <| G3 <| ah fun _ G5 => aa fun _ G6 => nv Z <| xy O <| xx ((v_lt O O).asb (b' := false) AN) <| xy O <| xA (ay O) <| xA ((v_gt O O).asb (b' := false) AN) <| xx (ai O O) <| xy O <| xA (ay O) <| xA (ay O) <| xA (bn O O (runUnderlying9 _)) <| xA (ay O) <| xA (bH O O ⟨om, om⟩) <| xA ((v_gt O O).asb (b' := false) AN) <| xx (ai O O) <| fun a Z => G6 ?_
 replace Z := Z.p7 0 4 5 6 7 8 33 O
 refine aJ Z O ?_
 refine au <| G5 <| aa fun _ G7 => nv Z <| xy O <| xy O <| xy O <| xy O <| xx ((aP O O ⟨om, om⟩).asi (m' := ((s.length - q.length : Nat) : Int)) om) <| xx ((iC (xs := s) (l := s.length - r2.length) (h := s.length - q.length) O O O underlying9 (.inr ⟨.i64, O⟩) (.inr ⟨.i64, O⟩) om om).as (v' := sv x) (by rw [← vC hsf2 hx h0 hl hql])) <| xy O <| xy O <| xx ((aP O O ⟨om, om⟩).asi (m' := ((s.length - q.length : Nat) : Int)) om) <| xz O <| xz O <| xz O <| fun a Z => G7 ?_
 replace Z := Z.p3 4 5 6 O
 refine ap <| al Z results65 (ag O (ag O (ag O ae))) ?_
 exact ⟨by rfl, Y.ext⟩
theorem ob (s r r2 : By) (n z : Int) (w0 : World) (hz : z = ((s.length - r.length : Nat) : Int)) (hsf : r <:+ s) (hsl : s.length ≤ 1000000) (hi : rdI r = some (n, r2)) (hb : n < 0 ∨ 65536 < n ∨ (r2.length : Int) < n) :
  Ret Tryz.prog 65 #[sv s, jv z] w0 fun v w => v = .tuple #[sv ([] : By), jv 0, jv 10] ∧ Ext No w0 w := by
 have hsu := hsf.length_le
 have hsf2 := (iE hi).trans hsf
 have hsu2 := hsf2.length_le
 refine zy func65 O ntmps65 (lb O) fun a Z Y => ?_
 refine aa fun _ G1 => nv Z <| xz O <| xz O <| xz O <| fun a Z => G1 <| aa fun _ G2 => ?_
 refine nv Z <| xy O <| xy O <| fun a Z => ax Z Y call63 O (jA hz hsf hsl hi) fun a w1 Z Y => nv Z <| xy O <| xx (aq O O) <| xx (aq O O) <| xx (aq O O) <| xz O <| xz O <| xz O <| fun a Z => G2 ?_
 refine ah fun _ G3 => aa fun _ G4 => nv (Z.p7 0 4 5 6 7 8 9 O) <| xy O <| xx ((v_ne O O).asb (b' := false) O) <| fun a Z => G4 <| aJ Z O ?_
 refine au <| G3 <| ah fun _ G5 => aa fun _ G6 => nv Z <| xy O <| xx (v_lt O O) <| xy O <| fun a Z => ?_
 rcases Decidable.em (n < 0) with hb1 | hb1
 ·rw [xF hb1] at Z
  refine nv Z <| xB <| xB <| xx (aw O O) <| xy O <| xB <| xB <| xB <| xB <| xB <| xB <| xx (aw O O) <| fun a Z => G6 ?_
  replace Z := Z.p7 0 4 5 6 7 8 33 O
  refine aH Z O ?_
  refine aa fun _ G7 => nv Z <| xz O <| xz O <| xz O <| fun a Z => G7 <| ap ?_
  refine al Z results65 (ag O (ag O (ag O ae))) ?_
  exact ⟨by rfl, Y.ext⟩
 rw [xK hb1] at Z
 refine nv Z <| xA (ay O) <| xA (v_gt O O) <| xx (ai O O) <| xy O <| fun a Z => ?_
 rcases Decidable.em (65536 < n) with hb2 | hb2
 ·rw [xF hb2] at Z
  refine nv Z <| xB <| xB <| xB <| xB <| xB <| xB <| xx (aw O O) <| fun a Z => G6 ?_
  replace Z := Z.p7 0 4 5 6 7 8 33 O
  refine aH Z O ?_
  refine aa fun _ G8 => nv Z <| xz O <| xz O <| xz O <| fun a Z => G8 <| ap ?_
  refine al Z results65 (ag O (ag O (ag O ae))) ?_
  exact ⟨by rfl, Y.ext⟩
 rw [xK hb2] at Z
 refine nv Z <| xA (ay O) <| xA (ay O) <| xA (bn O O (runUnderlying9 _)) <| xA (ay O) <| xA (bH O O ⟨om, om⟩) <| xA (v_gt O O) <| xx (ai O O) <| fun a Z => G6 ?_
 replace Z := Z.p7 0 4 5 6 7 8 33 O
 refine aA Z O (fun hc3 => ?_) (fun hc3 => ?_)
 ·refine aa fun _ G9 => nv Z <| xz O <| xz O <| xz O <| fun a Z => G9 <| ap ?_
  refine al Z results65 (ag O (ag O (ag O ae))) ?_
  exact ⟨by rfl, Y.ext⟩
 exfalso; omega
theorem oD (s r : By) (z : Int) (w0 : World) (hz : z = ((s.length - r.length : Nat) : Int)) (hsf : r <:+ s) (hsl : s.length ≤ 1000000) (hi : rdI r = none) :
  Ret Tryz.prog 65 #[sv s, jv z] w0 fun v w => v = .tuple #[sv ([] : By), jv 0, jv 10] ∧ Ext No w0 w := by
 refine zy func65 O ntmps65 (lb O) fun a Z Y => ?_
 refine aa fun _ G1 => nv Z <| xz O <| xz O <| xz O <| fun a Z => G1 <| aa fun _ G2 => ?_
 refine nv Z <| xy O <| xy O <| fun a Z => ax Z Y call63 O (jS hz hsf hsl hi) fun a w1 Z Y => nv Z <| xy O <| xx (aq O O) <| xx (aq O O) <| xx (aq O O) <| xz O <| xz O <| xz O <| fun a Z => G2 ?_
 refine ah fun _ G3 => aa fun _ G4 => nv (Z.p7 0 4 5 6 7 8 9 O) <| xy O <| xx ((v_ne O O).asb (b' := true) O) <| fun a Z => G4 <| aH Z O ?_
 refine aa fun _ G5 => nv Z <| xy O <| xz O <| xz O <| xz O <| fun a Z => G5 <| ap ?_
 refine al Z results65 (ag O (ag O (ag O ae))) ?_
 exact ⟨by rfl, Y.ext⟩
theorem qh {s r : By} {z : Int} {w0 : World} (hz : z = ((s.length - r.length : Nat) : Int)) (hsf : r <:+ s) (hsl : s.length ≤ 1000000) (hq : rdS r = none) :
  Ret Tryz.prog 65 #[sv s, jv z] w0 fun v w => v = .tuple #[sv ([] : By), jv 0, jv 10] ∧ Ext No w0 w := by
 rcases xf hq with hi | ⟨n, r2, hi, hb⟩
 ·exact oD s r z w0 hz hsf hsl hi
 ·exact ob s r r2 n z w0 hz hsf hsl hi hb
theorem lh (s : By) (w0 : World) (hs : s.length ≤ 65536) :
  Ret Tryz.prog 130 #[sv s] w0 fun v w => v = .tuple #[sv (putS s), jv 0] ∧ Ext No w0 w := by
 have hpl := bY (s.length : Int)
 refine zA func130 O ntmps130 (lb O) fun a Z Y => ?_
 refine aa fun _ G1 => nv Z <| xz O <| xz O <| fun a Z => G1 <| ah fun _ G2 => ?_
 refine aa fun _ G3 => nv Z <| xy O <| xx (bn O O (runUnderlying9 _)) <| xx ((v_gt O O).asb (b' := false) AN) <| fun a Z => G3 <| aJ Z O ?_
 refine au <| G2 <| aa fun _ G4 => nv Z <| xy O <| xx (bn O O (runUnderlying9 _)) <| fun a Z => ax Z Y call129 O (fB (s.length : Int) _ zV) fun a w1 Z Y => nv Z <| xy O <| xx (aq O O) <| xx (aq O O) <| xz O <| xz O <| fun a Z => G4 ?_
 refine aa fun _ G5 => nv (Z.p4 0 2 3 4 O) <| xy O <| xy O <| xx (dH O O As) <| xz O <| xz O <| fun a Z => G5 <| ap ?_
 refine al Z results130 (ag O (ag O ae)) ?_
 exact ⟨by rfl, Y.ext⟩
section
variable {ks : List By} {x : Wsh} {ps : List Pxy} {n t : Int}
theorem lP : validH ks x ps n t = true ↔ (¬ formB ks x ps ∧ badIdx ps 0 = none ∧ inB t x.sf (x.st - 1) = true ∧ inB n x.rf (x.rt - 1) = true ∧ ck x.signer x.holder ps 0 = none ∧ bB x none ps 0 = none ∧ bM ks x ps 0 = none) := by
 unfold validH
 rw [xG]
 constructor
 ·intro h
  by_cases h0 : formB ks x ps
  ·rw [fW h0] at h; cases h
  ·cases hb : badIdx ps 0 with
   | some i => rw [qC h0 (by rw [jK, hb]; exact Int.natCast_nonneg i)] at h; cases h
   | none =>
    cases ht : inB t x.sf (x.st - 1) with
    | false => rw [kd h0 hb ht] at h; cases h
    | true =>
     cases hn : inB n x.rf (x.rt - 1) with
     | false => rw [mN h0 hb ht hn] at h; cases h
     | true =>
      have hp : whyP ks x ps n t := ⟨h0, hb, ht, hn⟩
      cases hc : ck x.signer x.holder ps 0 with
      | some i => rw [lR hp hc] at h; cases h
      | none =>
       cases hs : bB x none ps 0 with
       | some i => rw [mf hp hc hs] at h; cases h
       | none =>
        cases hl : bM ks x ps 0 with
        | some i => rw [gj hp hc hs hl] at h; cases h
        | none => exact ⟨h0, rfl, rfl, rfl, rfl, rfl, rfl⟩
 ·rintro ⟨h0, hb, ht, hn, hc, hs, hl⟩
  rw [kn ⟨h0, hb, ht, hn⟩ hc hs hl]
theorem mU {n0 t0 : Int} (h : validH ks x ps n0 t0 = true) (n t : Int) : whyH ks x ps n t = if inB t x.sf (x.st - 1) = false then (2, -1) else if inB n x.rf (x.rt - 1) = false then (3, -1) else (0, -1) := by
 obtain ⟨h0, hb, _, _, hc, hs, hl⟩ := lP.1 h
 by_cases ht : inB t x.sf (x.st - 1) = false
 ·rw [xY ht, kd h0 hb ht]
 ·rw [xW ht]
  by_cases hn : inB n x.rf (x.rt - 1) = false
  ·rw [xY hn, mN h0 hb (by simpa using ht) hn]
  ·rw [xW hn, kn ⟨h0, hb, by simpa using ht, by simpa using hn⟩ hc hs hl]
theorem jZ {n0 t0 : Int} (h : validH ks x ps n0 t0 = true) (n t : Int) : validH ks x ps n t = (inB t x.sf (x.st - 1) && inB n x.rf (x.rt - 1)) := by
 unfold validH
 rw [mU h]
 cases inB t x.sf (x.st - 1) <;> cases inB n x.rf (x.rt - 1) <;> rfl
theorem kQ : ∀ {l : List Pxy} {k : Nat}, bM ks x l k = none → (∀ p ∈ l, ∃ key, keyAt ks p.frm = some key ∧ p.sig = sealH key p.content) ∧ ∃ key, keyAt ks x.signer = some key ∧ x.sig = sealH key x.content
 | [], k, h => by
  rw [bM] at h
  split at h
  ·rename_i hc
   cases hq : keyAt ks x.signer with
   | none => rw [hq] at hc; cases hc
   | some key => rw [hq] at hc; exact ⟨by simp, key, rfl, by simpa using hc⟩
  ·cases h
 | p :: l, k, h => by
  rw [bM] at h
  split at h
  ·rename_i hc
   obtain ⟨h1, h2⟩ := kQ h
   refine ⟨fun q hq => ?_, h2⟩
   rcases xL.1 hq with rfl | hq
   ·cases he : keyAt ks q.frm with
    | none => rw [he] at hc; cases hc
    | some key => rw [he] at hc; exact ⟨key, rfl, by simpa using hc⟩
   ·exact h1 q hq
  ·cases h
theorem mn {h : Int} {key : By} (hk : keyAt keysH h = some key) : 0 ≤ h ∧ h < 10 ∧ key = keyH h := by
 unfold keyAt at hk
 split at hk
 ·cases hk
 ·rename_i h0
  have hl := (yg.1 hk).1
  rw [lG] at hl
  have h1 : h < 10 := by omega
  have := fU (h := h) om h1
  unfold keyAt at this
  rw [xW h0, hk] at this
  exact ⟨by omega, h1, yO this⟩
end
def Mk (x : Wsh) (ps : List Pxy) : Prop := validH keysH x ps x.rf x.sf = true
section
variable {x : Wsh} {ps : List Pxy}
theorem Mk.pieces (h : Mk x ps) : ¬ formB keysH x ps ∧ badIdx ps 0 = none ∧ ck x.signer x.holder ps 0 = none ∧ bB x none ps 0 = none ∧ bM keysH x ps 0 = none := by
 obtain ⟨h0, hb, _, _, hc, hs, hl⟩ := lP.1 h
 exact ⟨h0, hb, hc, hs, hl⟩
theorem Mk.ok (h : Mk x ps) : x.ok = true := by
 have := h.pieces.1
 cases hx : x.ok with
 | true => rfl
 | false => exact absurd (.inr (.inr (.inl hx))) this
theorem Mk.len (h : Mk x ps) : ps.length ≤ 4 := Nat.le_of_not_lt fun hl => h.pieces.1 (.inr (.inr (.inr hl)))
theorem Mk.formed (h : Mk x ps) : bT x ps = true := by
 unfold bT
 rw [h.ok, h.pieces.2.1, xF h.len]; rfl
theorem Mk.sgn (h : Mk x ps) : 0 ≤ x.signer ∧ x.signer < 10 ∧ x.sig = sealH (keyH x.signer) x.content := by
 obtain ⟨key, h1, h2⟩ := (kQ h.pieces.2.2.2.2).2
 obtain ⟨h3, h4, rfl⟩ := mn h1
 exact ⟨h3, h4, h2⟩
theorem Mk.each (h : Mk x ps) {p : Pxy} (hp : p ∈ ps) : 0 ≤ p.frm ∧ p.frm < 10 ∧ p.sig = sealH (keyH p.frm) p.content ∧ p.ok = true := by
 obtain ⟨key, h1, h2⟩ := (kQ h.pieces.2.2.2.2).1 p hp
 obtain ⟨h3, h4, rfl⟩ := mn h1
 exact ⟨h3, h4, h2, dW h.pieces.2.1 p hp⟩
theorem Mk.same (h : Mk x ps) : x.sealed (keyH x.signer) = x := by
 have := h.sgn.2.2
 unfold Wsh.sealed
 rw [← this]
theorem Mk.xsig (h : Mk x ps) : x.sig.length = 32 := by rw [h.sgn.2.2]; exact gr _ _
theorem Mk.psig (h : Mk x ps) : ∀ p ∈ ps, p.sig.length = 32 := fun p hp => by rw [(h.each hp).2.2.1]; exact gr _ _
theorem Mk.enc (h : Mk x ps) : ∃ s, cO x ps = some s := ⟨_, cU.2 ⟨h.formed, h.xsig, h.psig, rfl⟩⟩
theorem Mk.valid (h : Mk x ps) (n t : Int) : validH keysH x ps n t = (inB t x.sf (x.st - 1) && inB n x.rf (x.rt - 1)) := jZ h n t
theorem Mk.here (h : Mk x ps) : validH keysH x ps x.rf x.sf = true := h
end
theorem wm (holder r0 r1 s0 s1 carrier serial : Int) (l : List Cin) : Mk (madeW holder r0 r1 s0 s1 carrier serial l) (madeL holder r0 r1 s0 s1 l) := by
 have hb := Wsh.ok_bnd (oH holder r0 r1 s0 s1 carrier serial l)
 unfold Mk validH
 rw [uk, xW, xW]
 ·rfl
 ·simp [inB]; omega
 ·simp [inB]; omega
theorem xc {holder r0 r1 s0 s1 carrier serial : Int} {cv : Value} {ys : List Cin} {w0 : World} {x : Wsh} {ps : List Pxy} (hx : madeW holder r0 r1 s0 s1 carrier serial ys = x) (hps : madeL holder r0 r1 s0 s1 ys = ps) (hcv : SlAt w0 cv 5 (ys.map Cin.cells)) (hys : ∀ y ∈ ys, y.wt) (h0 : i64 holder) (h1 : i64 r0) (h2 : i64 r1) (h3 : i64 s0) (h4 : i64 s1) (h5 : i64 carrier) (h6 : i64 serial) :
  Ret Tryz.prog 32 #[.agg #[jv holder, jv r0, jv r1, jv s0, jv s1, jv carrier, jv serial, cv]] w0 (MemR w0 (fun v : Value => .tuple #[.agg #[jv x.signer, jv x.holder, jv x.rf, jv x.rt, jv x.carrier, jv x.serial, jv x.sf, jv x.st, sv x.sig], v]) (fun v => [own v 144 7 (ps.map Pxy.cells)]) (fun _ => True)) := by
 subst hx; subst hps
 exact wC holder r0 r1 s0 s1 carrier serial cv ys w0 hcv hys h0 h1 h2 h3 h4 h5 h6
end Go.Proofs.YtliklcmddmpdfaaGreatDoor
namespace Go.Proofs.YtliklcmddmpdfaaGreatDoor
open Go.RowKit Go.PW _root_.Go.Proofs.Tryz
theorem Pxy.ok_bnd {p : Pxy} (h : p.ok = true) : 0 ≤ p.rt ∧ p.rt ≤ 100000000 := by
 simp only [Pxy.ok, cF, xD, xG] at h; omega
theorem wM {x bw : Wsh} {how n : Int} {w0 : World} (hbw : bentW x how n = bw) (hh : -9223372036854775808 ≤ how ∧ how ≤ 9223372036854775807) (hx : x.rt < 9223372036854775807) (hx2 : -9223372036854775808 ≤ x.rt) :
  Ret Tryz.prog 105 #[.agg #[jv x.signer, jv x.holder, jv x.rf, jv x.rt, jv x.carrier, jv x.serial, jv x.sf, jv x.st, sv x.sig], jv how, jv n] w0 fun v w => v = .tuple #[.agg #[jv bw.signer, jv bw.holder, jv bw.rf, jv bw.rt, jv bw.carrier, jv bw.serial, jv bw.sf, jv bw.st, sv bw.sig], .bool (!(decide (bw = x)))] ∧ Ext No w0 w := by
 subst hbw; exact vn x how n w0 hh hx hx2
section
variable {ks : List By} {x : Wsh} {ps : List Pxy} {number t : Int}
theorem tK {k : Nat} (hk : k < ps.length) (h : (ps.getD k Pxy.z).ok = true) : badIdx (ps.drop k) k = badIdx (ps.drop (k + 1)) (k + 1) := by
 rw [dB Pxy.z hk, badIdx, xY h]
theorem mO {k : Nat} (hk : k < ps.length) (h : (ps.getD k Pxy.z).ok = false) : badIdx (ps.drop k) k = some k := by
 rw [dB Pxy.z hk, badIdx, xW (by rw [h]; simp)]
end
theorem pG (x : Wsh) (lv : Value) (ps : List Pxy) (w0 : World) (hlv : SlAt w0 lv 7 (ps.map Pxy.cells)) :
  Ret Tryz.prog 152 #[.agg #[jv x.signer, jv x.holder, jv x.rf, jv x.rt, jv x.carrier, jv x.serial, jv x.sf, jv x.st, sv x.sig], lv] w0 fun v w => v = .bool (bT x ps) ∧ Ext No w0 w := by
 have hxb := hlv.2.1
 simp only [xC, big] at hxb
 refine zy func152 O ntmps152 (lb O) fun a Z Y => ?_
 refine aa fun _ G1 => aS Z Y O [jv x.signer, jv x.holder, jv x.rf, jv x.rt, jv x.carrier, jv x.serial, jv x.sf, jv x.st, sv x.sig] O fun a w1 Z Y => wla Z O fun a Z => G1 <| ah fun _ G2 => ?_
 refine aa fun _ G3 => wlv Z (ao (Y.g 0 O) O (isAgg90 _) (sizeOf90 _)) fun a Z => ax Z Y call135 O (nw x _) fun a w2 Z Y => nv Z <| xx (bD O) <| xy O <| fun a Z => ?_
 rcases xH (!x.ok) with hb1 | hb1
 ·rw [hb1] at Z
  try simp only [qz] at hb1
  refine nv Z <| xB <| xB <| xB <| xx (aw O O) <| fun a Z => G3 ?_
  replace Z := Z.p3 1 4 13 O
  replace Y := Y.k0 0 O
  refine aH Z O ?_
  refine aa fun _ G4 => wla Z O fun a Z => G4 <| ap ?_
  refine al Z results152 (ag O ae) ?_
  refine ⟨?_, Y.ext⟩
  simp only [retv]
  unfold bT
  first | (rw [hbi, mO hkx (by simpa using hb1)]; simp; done) | (rw [xK (by omega : ¬ ps.length ≤ 4)]; simp; done) | (rw [(by simpa using hb1 : x.ok = false)]; rfl)
 rw [hb1] at Z
 try simp only [qz] at hb1
 refine nv Z <| xA (ay O) <| xA ((aL (sT := 91) (Y.arg hlv) O O (runUnderlying91 _)).asi (m' := (ps.length : Int)) z6) <| xA (v_gt O O) <| xx (ai O O) <| fun a Z => G3 ?_
 replace Z := Z.p3 1 4 13 O
 replace Y := Y.k0 0 O
 refine aA Z O (fun hc2 => ?_) (fun hc2 => ?_)
 ·refine aa fun _ G5 => wla Z O fun a Z => G5 <| ap ?_
  refine al Z results152 (ag O ae) ?_
  refine ⟨?_, Y.ext⟩
  simp only [retv]
  unfold bT
  first | (rw [hbi, mO hkx (by simpa using hc2)]; simp; done) | (rw [xK (by omega : ¬ ps.length ≤ 4)]; simp; done) | (rw [(by simpa using hc2 : x.ok = false)]; rfl)
 refine au <| G2 <| ah fun _ G6 => ?_
 have hxo : x.ok = true := by simpa using hb1
 refine aa fun _ G7 => wla Z O fun a Z => G7 <| ar ?_
 refine aW (fun m a w => ∃ (k : Nat), m = ps.length - k ∧ (k ≤ ps.length) ∧ (badIdx ps 0 = badIdx (ps.drop k) k) ∧ Fr 26 [(1, lv), (5, jv (k : Int))] [] a ∧ St No w0 [] w) _ ⟨0, O, yc _, O, Z.pick [1, 5], Y.select [] de⟩ ?_
 rintro _ a w3 ⟨k, rfl, hk, hbi, Z, Y⟩
 refine ah fun _ G8 => aa fun _ G9 => nv Z <| xy O <| xy O <| xx ((aL (sT := 91) (Y.arg hlv) O O (runUnderlying91 _)).asi (m' := (ps.length : Int)) z6) <| xx (v_lt O O) <| fun a Z => G9 <| aA Z O (fun hc3 => ?_) (fun hc3 => ?_)
 ·have hkx : k < ps.length := by omega
  refine au <| G8 <| ah fun _ G10 => ar <| aa fun _ G11 => nv Z <| xy O <| xy O <| xx ((am (i := (k : Int)) (sT := 91) (Y.arg hlv) O O (runUnderlying91 _) (sizeOf144 _) om zL).as (v' := slAddr lv (k * 7)) O) <| xx ((bL (Y.arg hlv) (i := k) zL O (isAgg144 _) (sizeOf144 _)).as (v' := .agg #[jv ((ps.getD k Pxy.z).frm), jv ((ps.getD k Pxy.z).to), jv ((ps.getD k Pxy.z).rf), jv ((ps.getD k Pxy.z).rt), jv ((ps.getD k Pxy.z).sf), jv ((ps.getD k Pxy.z).st), sv ((ps.getD k Pxy.z).sig)]) Ap) <| fun a Z => ax Z Y call132 O (lr (ps.getD k Pxy.z) _) fun a w4 Z Y => wlv Z (bD O) fun a Z => G11 ?_
  replace Z := Z.p3 1 5 25 O
  refine bu Z O (fun hc4 => ?_) (fun hc4 => ?_)
  ·try simp only [qz] at hc4
   refine aa fun _ G12 => wla Z O fun a Z => G12 <| ap ?_
   refine al Z results152 (ag O ae) ?_
   refine ⟨?_, Y.ext⟩
   simp only [retv]
   unfold bT
   first | (rw [hbi, mO hkx (by simpa using hc4)]; simp; done) | (rw [xK (by omega : ¬ ps.length ≤ 4)]; simp; done) | (rw [(by simpa using hc4 : x.ok = false)]; rfl)
  try simp only [qz] at hc4
  refine au <| G10 <| aj <| nv Z <| xy O <| xx (aP O O ⟨om, om⟩) <| xz O <| fun a Z => ab ?_
  refine ⟨_, ?_, k + 1, O, om, (by rw [hbi]; exact tK hkx (by simpa using hc4)), Z.pick [1, 5], Y.select [] de⟩
  omega
 have hke : k = ps.length := by omega
 rw [hke, List.drop_length] at hbi
 refine aO <| G6 <| aa fun _ G13 => wla Z O fun a Z => G13 ?_
 replace Z := Z.p1 4 O
 refine ap <| al Z results152 (ag O ae) ?_
 exact ⟨by simp only [retv]; unfold bT; rw [hbi, badIdx, hxo, xF (by omega : ps.length ≤ 4)]; rfl, Y.ext⟩
end Go.Proofs.YtliklcmddmpdfaaGreatDoor
namespace Go.Proofs.YtliklcmddmpdfaaGreatDoor
open Go.RowKit Go.PW _root_.Go.Proofs.Tryz
theorem fE {ps : List Pxy} {k : Nat} (h : ∀ p ∈ ps.take k, p.sig.length = 32) (h4 : ps.length ≤ 4) : (encX ps k).length ≤ 10000 := by
 unfold encX
 have h1 := dO [(ps.length : Int)]
 have h2 := jc (l := ps.take k) h
 rw [xE]
 rw [xI] at h2
 simp only [xN, xP] at h1
 omega
theorem u0 {x : Wsh} {ps : List Pxy} {k : Nat} (hk : k < ps.length) (h : ¬ ((ps.getD k Pxy.z).sig.length : Int) = 32) : cO x ps = none := by
 cases he : cO x ps with
 | none => rfl
 | some s =>
  obtain ⟨_, _, h3, _⟩ := cU.1 he
  have := h3 _ (bt (d := Pxy.z) hk)
  omega
theorem uy {ps : List Pxy} {k : Nat} (h : ∀ p ∈ ps.take k, p.sig.length = 32) (hk : k = ps.length) : ∀ p ∈ ps, p.sig.length = 32 := by
 subst hk; rwa [List.take_length] at h
def encT (x : Wsh) (ps : List Pxy) : By × Int := match cO x ps with
 | some s => (s, 0)
 | none => ([], 150)
theorem enc_T (x : Wsh) (ps : List Pxy) : (match cO x ps with | some s => Value.tuple #[sv s, jv 0] | none => .tuple #[sv [], jv 150]) = .tuple #[sv (encT x ps).1, jv (encT x ps).2] := by
 unfold encT; cases cO x ps <;> rfl
theorem pA (x : Wsh) (lv : Value) (ps : List Pxy) (w0 : World) (hlv : SlAt w0 lv 7 (ps.map Pxy.cells)) :
  Ret Tryz.prog 106 #[.agg #[jv x.signer, jv x.holder, jv x.rf, jv x.rt, jv x.carrier, jv x.serial, jv x.sf, jv x.st, sv x.sig], lv] w0 fun v w => v = (match cO x ps with | some s => .tuple #[sv s, jv 0] | none => .tuple #[sv [], jv 150]) ∧ Ext No w0 w := by
 have hxb := hlv.2.1
 simp only [xC, big] at hxb
 refine zy func106 O ntmps106 (lb O) fun a Z Y => ?_
 refine aa fun _ G1 => aS Z Y O [jv x.signer, jv x.holder, jv x.rf, jv x.rt, jv x.carrier, jv x.serial, jv x.sf, jv x.st, sv x.sig] O fun a w1 Z Y => nv Z <| xz O <| xz O <| fun a Z => G1 <| ah fun _ G2 => ?_
 refine aa fun _ G3 => nv Z <| xx (ao (Y.g 0 O) O (isAgg90 _) (sizeOf90 _)) <| xy O <| fun a Z => ax Z Y call152 O (pG x lv ps _ (Y.arg hlv)) fun a w2 Z Y => nv Z <| xx (bD O) <| xy O <| fun a Z => ?_
 rcases xH (!(bT x ps)) with hb1 | hb1
 ·rw [hb1] at Z
  try simp only [qz] at hb1
  refine nv Z <| xB <| xB <| xB <| xB <| xx (aw O O) <| fun a Z => G3 ?_
  replace Z := Z.p5 1 2 4 5 17 O
  refine aH Z O ?_
  refine aa fun _ G4 => nv Z <| xz O <| xz O <| fun a Z => G4 <| ap ?_
  refine al Z results106 (ag O (ag O ae)) ?_
  exact ⟨by simp only [retv]; rw [gi (.inl (by simpa using hb1))]; rfl, Y.ext⟩
 rw [hb1] at Z
 try simp only [qz] at hb1
 refine nv Z <| xA (ac (v := po w0.hz 8) O kr) <| xA (ld Y 0 O O (isAgg9 _) O) <| xA (bn O O (runUnderlying9 _)) <| xA (v_ne O O) <| xx (ai O O) <| fun a Z => G3 ?_
 replace Z := Z.p5 1 2 4 5 17 O
 refine dm Z O (fun hc2 => ?_) (fun hc2 => ?_)
 ·refine aa fun _ G5 => nv Z <| xz O <| xz O <| fun a Z => G5 <| ap ?_
  refine al Z results106 (ag O (ag O ae)) ?_
  exact ⟨by simp only [retv]; rw [gi (.inr (.inl (by simpa using hc2)))]; rfl, Y.ext⟩
 refine au <| G2 ?_
 have hfo : bT x ps = true := by simpa using hb1
 have hsx : x.sig.length = 32 := by omega
 have h4 := gU hfo
 have hxo := kL hfo
 refine aa fun _ G6 => nv Z <| xy O <| xx ((aL (sT := 91) (Y.arg hlv) O O (runUnderlying91 _)).asi (m' := (ps.length : Int)) z6) <| fun a Z => aE (E := 3) (sz := 1) O [[jv (ps.length : Int)]] kr sm O de de Z Y fun a w3 Z Y => ax Z Y call97 O (jY [(ps.length : Int)] (.slice (some ⟨w2.hz, 0, none⟩) 1 1) _ (Y.ow 0 O) (by intro z hz; rw [ya.1 hz]; unfold small; omega) sm) fun a w4 Z Y => wla Z O fun a Z => G6 <| ah fun _ G7 => ?_
 refine aa fun _ G8 => wla Z O fun a Z => G8 <| ar ?_
 have hz0 : puts [(ps.length : Int)] = encX ps 0 := by unfold encX; simp
 rw [hz0] at Z
 refine aW (fun m a w => ∃ (k : Nat), m = ps.length - k ∧ (k ≤ ps.length) ∧ (∀ p ∈ ps.take k, p.sig.length = 32) ∧ Fr 55 [(1, lv), (2, pq w0.hz), (7, jv (k : Int)), (6, sv (encX ps k))] [] a ∧ St No w0 [blk w0.hz [jv x.signer, jv x.holder, jv x.rf, jv x.rt, jv x.carrier, jv x.serial, jv x.sf, jv x.st, sv x.sig] 90] w) _ ⟨0, O, yc _, sm, Z.pick [1, 2, 7, 6], Y.select [1] de⟩ ?_
 rintro _ a w5 ⟨k, rfl, hk, hsg, Z, Y⟩
 refine ah fun _ G9 => aa fun _ G10 => nv Z <| xy O <| xy O <| xx ((aL (sT := 91) (Y.arg hlv) O O (runUnderlying91 _)).asi (m' := (ps.length : Int)) z6) <| xx (v_lt O O) <| fun a Z => G10 <| aA Z O (fun hc3 => ?_) (fun hc3 => ?_)
 ·have hkx : k < ps.length := by omega
  have hpk := j4 hfo _ (bt (d := Pxy.z) hkx)
  refine au <| G9 <| ah fun _ G11 => ar <| ah fun _ G12 => aa fun _ G13 => nv Z <| xy O <| xy O <| xx ((am (i := (k : Int)) (sT := 91) (Y.arg hlv) O O (runUnderlying91 _) (sizeOf144 _) om zL).as (v' := slAddr lv (k * 7)) O) <| xx (cC (k := k * 7) (j := 6) (Y.arg hlv) (i := k) zL O (fun _ _ => by kernel_rfl)) <| xx (aD (u := sv ((ps.getD k Pxy.z).sig)) (i := k) (j := 6) (Y.arg hlv) zL O (isAgg9 _) Ap) <| xx (bn O O (runUnderlying9 _)) <| xx (v_ne O O) <| fun a Z => G13 ?_
  replace Z := Z.p5 1 2 7 6 34 O
  refine dm Z O (fun hc4 => ?_) (fun hc4 => ?_)
  ·refine aa fun _ G14 => nv Z <| xz O <| xz O <| fun a Z => G14 <| ap ?_
   refine al Z results106 (ag O (ag O ae)) ?_
   exact ⟨by simp only [retv]; rw [u0 hkx hc4]; rfl, Y.ext⟩
  have hsk : (ps.getD k Pxy.z).sig.length = 32 := by omega
  refine au <| G12 <| aM (aN fun w6 hxz => ?_)
  replace Y := Y.grow hxz
  refine aU (k := 0) 12 [6, 11] Z ?_
  replace Z := Z.p4 1 2 7 6 O
  refine bQ 12 Z Y <| pl_m O <| pl_m O <| pl_m O <| pl_w (fun Y => (am (i := (k : Int)) (sT := 91) (Y.arg hlv) O O (runUnderlying91 _) (sizeOf144 _) om zL).as (v' := slAddr lv (k * 7)) O) <| pl_w (fun Y => (bL (Y.arg hlv) (i := k) zL O (isAgg144 _) (sizeOf144 _)).as (v' := .agg #[jv ((ps.getD k Pxy.z).frm), jv ((ps.getD k Pxy.z).to), jv ((ps.getD k Pxy.z).rf), jv ((ps.getD k Pxy.z).rt), jv ((ps.getD k Pxy.z).sf), jv ((ps.getD k Pxy.z).st), sv ((ps.getD k Pxy.z).sig)]) Ap) <| pl_r (fun Y => bF call134 O (iH (ps.getD k Pxy.z) _ (Pxy.smalls_of hpk))) ?_
  refine pl_v (dH O O Ae) <| pl_m O <| pl_m O <| pl_w (fun Y => (am (i := (k : Int)) (sT := 91) (Y.arg hlv) O O (runUnderlying91 _) (sizeOf144 _) om zL).as (v' := slAddr lv (k * 7)) O) <| pl_w (fun Y => cC (k := k * 7) (j := 6) (Y.arg hlv) (i := k) zL O (fun _ _ => by kernel_rfl)) <| pl_w (fun Y => aD (u := sv ((ps.getD k Pxy.z).sig)) (i := k) (j := 6) (Y.arg hlv) zL O (isAgg9 _) Ap) fun a w7 Z Y => ?_
  replace Z := Z.p5 1 2 7 41 46 O
  refine ab <| aK (k := 12) 14 [13] ?_
  refine nv Z <| xx (dH O O Ae) <| xz O <| fun a Z => ab <| aT <| G11 <| aj <| nv Z <| xy O <| xx (aP O O ⟨om, om⟩) <| xz O <| fun a Z => ab ?_
  rw [show ((encX ps k) ++ ((ps.getD k Pxy.z).content)) ++ ((ps.getD k Pxy.z).sig) = encX ps (k + 1) from by rw [lq hkx]] at Z
  refine ⟨_, ?_, k + 1, O, om, (by intro p hp; rw [cz Pxy.z hkx] at hp; rcases yF.1 hp with hp | hp; exact hsg p hp; rw [ya.1 hp]; exact hsk), Z.pick [1, 2, 7, 6], Y.select [0] de⟩
  omega
 have hke : k = ps.length := by omega
 have hal := uy hsg hke
 refine aO <| G7 <| ah fun _ G15 => aM (aN fun w8 hxz => ?_)
 replace Y := Y.grow hxz
 refine aU (k := 0) 6 [3, 5] Z ?_
 refine bQ 6 (Z.p7 1 2 7 6 22 23 24 O) Y <| pl_m O <| pl_w (fun Y => ao (Y.g 0 O) O (isAgg90 _) (sizeOf90 _)) <| pl_r (fun Y => bF call37 O (il x _ (Wsh.smalls_of hxo))) <| pl_v (dH O O Ae) <| pl_v (ac (v := po w0.hz 8) O kr) <| pl_w (fun Y => ld Y 0 O O (isAgg9 _) O) fun a w9 Z Y => ?_
 replace Z := Z.p2 51 53 O
 refine ab <| aK (k := 6) 9 [8] ?_
 refine nv Z <| xx (dH O O Ae) <| xz O <| xz O <| fun a Z => ab <| aT <| G15 <| ap <| al Z results106 (ag O (ag O ae)) ?_
 exact ⟨by simp only [retv]; rw [qI hfo hsx hal, hke]; try rfl, Y.ext⟩
theorem mE {x : Wsh} {lv : Value} {ps : List Pxy} {t : By} {e : Int} {w0 : World} (h : encT x ps = (t, e)) (hlv : SlAt w0 lv 7 (ps.map Pxy.cells)) : Ret Tryz.prog 106 #[.agg #[jv x.signer, jv x.holder, jv x.rf, jv x.rt, jv x.carrier, jv x.serial, jv x.sf, jv x.st, sv x.sig], lv] w0 fun v w => v = .tuple #[sv t, jv e] ∧ Ext No w0 w := by
 have := pA x lv ps w0 hlv
 rw [enc_T, h] at this
 exact this
theorem tv {f : FuncId} {args : Array Value} {w : World} {a b : Value} (h : a = b) (hr : Ret Tryz.prog f args w fun v w' => v = a ∧ Ext No w w') : Ret Tryz.prog f args w fun v w' => v = b ∧ Ext No w w' := by subst h; exact hr
theorem cB {f : FuncId} {args : Array Value} {w : World} {b c : Bool} (h : b = c) (hr : Ret Tryz.prog f args w fun v w' => v = .bool b ∧ Ext No w w') : Ret Tryz.prog f args w fun v w' => v = .bool c ∧ Ext No w w' := by subst h; exact hr
theorem fL {f : FuncId} {args : Array Value} {w : World} {b c : Int} (h : b = c) (hr : Ret Tryz.prog f args w fun v w' => v = jv b ∧ Ext No w w') : Ret Tryz.prog f args w fun v w' => v = jv c ∧ Ext No w w' := by subst h; exact hr
def Cas.cells (x : Cas) : List Value := [jv x.n, jv x.t, sv x.ev]
def cE (x : Cas) : Int := if x.ok = true then 0 else 210
theorem qJ {acc : List Int} {m : Nat} {r q : By} {n : Int} (h : rdI r = some (n, q)) : decC acc (m + 1) r = decC (acc ++ [n]) m q := by
 unfold decC; rw [nY h]
 cases intsR m q with
 | none => rfl
 | some p => obtain ⟨l, t⟩ := p; simp
theorem nt {acc : List Int} {m : Nat} {r : By} (h : rdI r = none) : decC acc (m + 1) r = none := by unfold decC; rw [rL h]
theorem ta {s : By} : decCas s = decC [] 2 s := rfl
theorem pM {P : Program} {w : World} {L : List (Nat × Value)} {dst : Option Tmp} {T T' ty : TypeId} {pos : String} {af : Array Edge} {x y : Operand} (hx : ev L x = some .nilIface) (hy : ev L y = some .nilIface) (hr : (binOp .eql T .nilIface .nilIface).run P w = .ok (.bool true) w) (hg : (eqGuard .eql T x y .nilIface .nilIface).run P w = .ok () w) : OpV P ⟨dst, .binOp .eql T x y T', ty, pos, af, none⟩ L w (.bool true) :=
 ⟨rfl, fun N df a h => by
  simp only [execOp, h.eval hx, h.eval hy, yh, hg, hr, xV]; rfl⟩
theorem dj (n lo hi : Int) (w0 : World) :
  Ret Tryz.prog 49 #[jv n, jv lo, jv hi] w0 fun v w => v = .bool (inB n lo hi) ∧ Ext No w0 w := by
 refine zB func49 O ntmps49 (lb O) fun a Z Y => ?_
 refine aa fun _ G1 => wla Z O fun a Z => G1 <| aa fun _ G2 => ?_
 refine nv Z <| xy O <| xy O <| xx (v_le O O) <| xy O <| fun a Z => di (N := 15) (df := []) 4 [(14, .bool ((decide (lo ≤ n)) && (decide (n ≤ hi)))), (0, jv n), (1, jv lo), (2, jv hi), (6, .bool false)] ?_ (fun hj => ?_)
 rotate_left
 ·rcases xH (decide (lo ≤ n)) with hb1 | hb1
  ·rw [hb1] at Z
   have hb1b := hb1
   try simp only [qz, xD, xX, xT, xZ] at hb1
   refine nv Z <| xA (ay O) <| xA (ay O) <| xA (v_le O O) <| xx (aw O O) <| fun a Z => hj _ ?_
   try rw [hb1b]
   exact Z.pick [14, 0, 1, 2, 6]
  rw [hb1] at Z
  have hb1b := hb1
  try simp only [qz, xD, xX, xT, xZ] at hb1
  refine nv Z <| xB <| xB <| xB <| xx (ai O O) <| fun a Z => hj _ ?_
  try rw [hb1b]
  exact Z.pick [14, 0, 1, 2, 6]
 intro a Z
 refine wla Z O fun a Z => G2 <| ap ?_
 refine al Z results49 (ag O ae) ?_
 exact ⟨by rfl, Y.ext⟩
theorem gT (x : Cas) (w0 : World) :
  Ret Tryz.prog 59 #[.agg #[jv x.n, jv x.t, sv x.ev]] w0 fun v w => v = .bool x.ok ∧ Ext No w0 w := by
 refine zA func59 O ntmps59 (lb O) fun a Z Y => ?_
 refine aa fun _ G1 => aS Z Y O [jv x.n, jv x.t, sv x.ev] O fun a w1 Z Y => wla Z O fun a Z => G1 <| aa fun _ G2 => ?_
 refine nv Z <| xx (ac (v := pq w0.hz) O kr) <| xx (ld Y 0 O O (isAgg3 _) O) <| fun a Z => ax Z Y call49 O (dj x.n 0 99999999 _) fun a w2 Z Y => wlm Z O fun a Z => ?_
 rcases xH (inB x.n 0 99999999) with hb1 | hb1
 ·rw [hb1] at Z
  refine nv Z <| xA (ac (v := po w0.hz 1) O kr) <| xA (ld Y 0 O O (isAgg3 _) O) <| fun a Z => aF Z Y call49 O (dj x.t 0 10000000 _) fun a w3 Z Y => nv Z <| xx (aw O O) <| xy O <| fun a Z => ?_
  rcases xH (inB x.t 0 10000000) with hb2 | hb2
  ·rw [hb2] at Z
   refine nv Z <| xA (ac (v := po w0.hz 2) O kr) <| xA (ld Y 0 O O (isAgg9 _) O) <| xA (bn O O (runUnderlying9 _)) <| xA (v_le O O) <| xx (aw O O) <| xz O <| fun a Z => G2 ?_
   replace Z := Z.p1 2 O
   replace Y := Y.k0 0 O
   refine ap <| al Z results59 (ag O ae) ?_
   refine ⟨?_, Y.ext⟩
   simp only [retv]
   refine yf Value.bool ?_
   unfold Cas.ok
   simp only [hb1, hb2, yT]
   exact decide_eq_decide.2 om
  rw [hb2] at Z
  refine nv Z <| xB <| xB <| xB <| xB <| xx (ai O O) <| xz O <| fun a Z => G2 ?_
  replace Z := Z.p1 2 O
  replace Y := Y.k0 0 O
  refine ap <| al Z results59 (ag O ae) ?_
  refine ⟨?_, Y.ext⟩
  simp only [retv]
  refine yf Value.bool ?_
  unfold Cas.ok
  simp only [hb1, hb2, yT, zj]
 rw [hb1] at Z
 refine nv Z <| xB <| xB <| xB <| xx (ai O O) <| xy O <| xB <| xB <| xB <| xB <| xx (ai O O) <| xz O <| fun a Z => G2 ?_
 replace Z := Z.p1 2 O
 replace Y := Y.k0 0 O
 refine ap <| al Z results59 (ag O ae) ?_
 refine ⟨?_, Y.ext⟩
 simp only [retv]
 refine yf Value.bool ?_
 unfold Cas.ok
 simp only [hb1, yT, zj]
theorem vP (x : Cas) (w0 : World) :
  Ret Tryz.prog 19 #[.agg #[jv x.n, jv x.t, sv x.ev]] w0 fun v w => v = .tuple #[sv (encP x), jv (cE x)] ∧ Ext No w0 w := by
 refine zA func19 O ntmps19 (lb O) fun a Z Y => ?_
 refine aa fun _ G1 => aS Z Y O [jv x.n, jv x.t, sv x.ev] O fun a w1 Z Y => nv Z <| xz O <| xz O <| fun a Z => G1 <| ah fun _ G2 => ?_
 refine aa fun _ G3 => wlv Z (ao (Y.g 0 O) O (isAgg55 _) (sizeOf55 _)) fun a Z => ax Z Y call59 O (gT x _) fun a w2 Z Y => wlv Z (bD O) fun a Z => G3 <| bu Z O (fun hc1 => ?_) (fun hc1 => ?_)
 ·try simp only [qz] at hc1
  refine aa fun _ G4 => nv Z <| xz O <| xz O <| fun a Z => G4 <| ap ?_
  refine al Z results19 (ag O (ag O ae)) ?_
  exact ⟨by simp only [retv]; unfold encP cE; rw [xW (by rw [hc1]; decide), xW (by rw [hc1]; decide)]; rfl, Y.ext⟩
 try simp only [qz] at hc1
 have hbd := Cas.bnd hc1
 have hl1 := bY x.n
 have hl2 := bY x.t
 have hl3 := bY (x.ev.length : Int)
 have hl4 : (putS x.ev).length ≤ 1000 := by unfold putS; rw [xE]; omega
 refine au <| G2 <| aa fun _ G5 => nv Z <| xx (ac (v := pq w0.hz) O kr) <| xx (ld Y 0 O O (isAgg3 _) O) <| fun a Z => ax Z Y call60 O (fg x.n _ zV) fun a w3 Z Y => nv Z <| xy O <| xx (aq O O) <| xx (aq O O) <| xz O <| xz O <| fun a Z => G5 ?_
 refine aa fun _ G6 => nv (Z.p4 1 2 3 4 O) <| xx (ac (v := po w0.hz 1) O kr) <| xx (ld Y 0 O O (isAgg3 _) O) <| fun a Z => ax Z Y call60 O (fg x.t _ zV) fun a w4 Z Y => nv Z <| xy O <| xx (aq O O) <| xx (aq O O) <| xz O <| xz O <| fun a Z => G6 ?_
 refine aa fun _ G7 => nv (Z.p5 1 2 3 4 6 O) <| xx (ac (v := po w0.hz 2) O kr) <| xx (ld Y 0 O O (isAgg9 _) O) <| fun a Z => ax Z Y call61 O (mZ x.ev _ om) fun a w5 Z Y => nv Z <| xy O <| xx (aq O O) <| xx (aq O O) <| xz O <| xz O <| fun a Z => G7 ?_
 replace Y := Y.k0 0 O
 refine aa fun _ G8 => nv (Z.p5 2 3 4 6 8 O) <| xy O <| xy O <| xx (dH O O As) <| xy O <| xx (dH O O As) <| xz O <| xz O <| fun a Z => G8 ?_
 replace Z := Z.p2 2 3 O
 refine ap <| al Z results19 (ag O (ag O ae)) ?_
 exact ⟨by simp only [retv]; unfold encP cE; rw [xY hc1, xY hc1]; simp [Cas.enc, puts], Y.ext⟩
theorem kO (w0 : World) :
  Ret Tryz.prog 64 #[jv 0] w0 fun v w => v = .tuple #[] ∧ Ext No w0 w := by
 refine zA func64 O ntmps64 (lb O) fun a Z Y => ?_
 refine aa fun _ G1 => nv Z <| xy O <| xx ((v_ne O O).asb (b' := false) O) <| fun a Z => G1 <| aJ Z O ?_
 refine au <| cN Z results64 ae ?_
 exact ⟨by rfl, Y.ext⟩
theorem iL (w0 : World) :
  Pan Tryz.prog 64 #[jv 10] w0 fun c w => c = [{ v := .iface 126 (.agg #[]), recovered := false }] ∧ Ext No w0 w := by
 refine m8 func64 O ntmps64 (lb O) fun a Z => ?_
 replace Y : St No w0 [] w0 := St.init w0
 refine aa fun _ G1 => nv (Z.p1 0 O) <| xy O <| xx ((v_ne O O).asb (b' := true) O) <| fun a Z => G1 <| aH Z O ?_
 refine bE <| aR 2 ?_
 refine nv Z <| xx (aX (v := .agg #[]) O kr) <| xx (cZ O underlying126) <| fun a Z => ab <| dP Z O ?_
 exact eF (X := fun c w => c = [{ v := .iface 126 (.agg #[]), recovered := false }] ∧ Ext No w0 w) Z ⟨O, Y.ext⟩
theorem fm {M : Nat → Prop} {w0 : World} (b2 b3 : Nat) (c0 c1 c2 c5 : Value) (ws : World) (Y : St M w0 [blk b2 [c0, c1, c2] 55, blk b3 [c5] 41] ws) :
  CallsDIn Fence.wide 0 Tryz.prog 62 #[pq b2, pq b3] (.panicking [{ v := .iface 126 (.agg #[]), recovered := false }]) ws fun e u' w => u' = (.panicking [{ v := .iface 126 (.agg #[]), recovered := true }]) ∧ ∃ x, e = .returned x ∧ St M w0 [blk b2 [jv 0, jv 0, sv ([] : By)] 55, blk b3 [jv 210] 41] w  := by
 refine na (args := [pq b2, pq b3]) func62 O ntmps62 (lb O) O O de (fun _ _ => O) (.inr ⟨O, O⟩) fun a Z => ?_
 replace Z := Z.p3 5 0 1 O
 skip
 refine ar <| aa fun _ G1 => wlv Z (kG O O kr kr) fun a Z => G1 <| aJ Z O ?_
 refine aa fun _ G2 => nv Z <| xx (iF O underlying126) <| xx (aq O O) <| xx (aq O O) <| fun a Z => G2 <| aH Z O ?_
 refine aa fun _ G3 => aC Z Y (zeroValue126 _) [] O fun a w1 Z Y => az 0 Z Y [] O (sizeOf126 _) fun a w2 Z Y => G3 ?_
 replace Y := Y.k2 6 O
 refine aj <| wlv (Z.p2 0 1 O) (aX (v := .agg #[jv 0, jv 0, .string (⟨#[]⟩)]) O kr) fun a Z => az 0 Z Y [jv 0, jv 0, .string (⟨#[]⟩)] O (sizeOf55 _) fun a w3 Z Y => az 1 Z Y [jv 210] O (sizeOf41 _) fun a w4 Z Y => ab ?_
 refine ie Z results62 ae ?_
 exact Y.select [0, 1] de
theorem rb (b2 b3 : Nat) (ws : World) :
  CallsDIn Fence.wide 0 Tryz.prog 62 #[pq b2, pq b3] .returning ws fun e u' w => u' = .returning ∧ ∃ x, e = .returned x ∧ Ext No ws w  := by
 refine na (args := [pq b2, pq b3]) func62 O ntmps62 (lb O) O O de (fun _ _ => O) (.inl ⟨O, O, O⟩) fun a Z => ?_
 replace Y : St No ws [] ws := St.init ws
 refine ar <| aa fun _ G1 => wlv (Z.p3 5 0 1 O) (pM O O kr kr) fun a Z => G1 <| aH Z O ?_
 refine aj <| wla Z O fun a Z => ab ?_
 refine ie Z results62 ae ?_
 exact Y.ext
theorem tC (s : By) (w0 : World) (hsl : s.length ≤ 1000000) :
  Ret Tryz.prog 20 #[sv s] w0 fun v w => v = .tuple #[.agg (dcX s).cells.toArray, jv (dcE s)] ∧ Ext No w0 w := by
 refine qM func20 O ntmps20 (lb O) fun a Z => ?_
 replace Y : St No w0 [] w0 := St.init w0
 refine aa fun _ G1 => aC (Z.p1 0 O) Y (zeroValue55 _) [jv 0, jv 0, .string (⟨#[]⟩)] O fun a w1 Z Y => aC Z Y (zeroValue41 _) [jv 0] O fun a w2 Z Y => G1 <| aa fun _ G2 => ?_
 refine wlv Z (cd O O) fun a Z => od Z O fun a Z => G2 <| aa fun _ G3 => ?_
 refine wlm Z O fun a Z => ?_
 rcases xH ((rdI s).isSome) with hb1 | hb1
 ·obtain ⟨⟨n1, r1⟩, hq1⟩ := yH.1 hb1
  have hd1 := ta.trans (qJ hq1)
  have hsf1 := (iE hq1).trans (List.suffix_refl s)
  refine ax Z Y call63 O (jA sm (List.suffix_refl s) hsl hq1) fun a w3 Z Y => nv Z <| xy O <| xx (aq O O) <| xx (aq O O) <| xx (aq O O) <| xz O <| xz O <| xz O <| fun a Z => G3 ?_
  replace Z := Z.p6 0 2 3 4 5 6 O
  refine bR fun _ G4 hP4 => aR 1 ?_
  refine wlm Z O fun a Z => ab <| aR 1 ?_
  refine ax Z Y call64 O (kO _) fun a w4 Z Y => ab <| dw <| G4 <| aa fun _ G5 => ?_
  refine nv Z <| xy O <| xy O <| fun a Z => ?_
  rcases xH ((rdI r1).isSome) with hb2 | hb2
  ·obtain ⟨⟨n2, r2⟩, hq2⟩ := yH.1 hb2
   have hd2 := hd1.trans (qJ hq2)
   have hsf2 := (iE hq2).trans hsf1
   refine ax Z Y call63 O (jA O hsf1 hsl hq2) fun a w5 Z Y => nv Z <| xy O <| xx (aq O O) <| xx (aq O O) <| xx (aq O O) <| xz O <| xz O <| xz O <| fun a Z => G5 ?_
   replace Z := Z.p7 0 2 3 4 7 5 6 O
   refine bR fun _ G6 hP6 => aR 1 ?_
   refine wlm Z O fun a Z => ab <| aR 1 ?_
   refine ax Z Y call64 O (kO _) fun a w6 Z Y => ab <| dw <| G6 <| aa fun _ G7 => ?_
   refine nv Z <| xy O <| xy O <| fun a Z => ?_
   rcases xH ((rdS r2).isSome) with hb3 | hb3
   ·obtain ⟨⟨x9, r3⟩, hq3⟩ := yH.1 hb3
    have hd3 := hd2.trans (t7.trans (uA hq3))
    have hsf3 := (vO hq3).trans hsf2
    refine ax Z Y call65 O (rA s r2 x9 r3 _ _ O hsf2 hsl hq3) fun a w7 Z Y => nv Z <| xy O <| xx (aq O O) <| xx (aq O O) <| xx (aq O O) <| xz O <| xz O <| xz O <| fun a Z => G7 ?_
    replace Z := Z.p8 0 2 3 4 7 8 5 6 O
    refine bR fun _ G8 hP8 => aR 1 ?_
    refine wlm Z O fun a Z => ab <| aR 1 ?_
    refine ax Z Y call64 O (kO _) fun a w8 Z Y => ab <| dw <| G8 <| aa fun _ G9 => ?_
    refine nv Z <| xy O <| xy O <| xy O <| xx (aX (v := .agg #[jv n1, jv n2, sv x9]) O kr) <| fun a Z => az 1 Z Y [jv n1, jv n2, sv x9] O (sizeOf55 _) fun a w9 Z Y => G9 ?_
    refine ah fun _ G10 => aa fun _ G11 => nv (Z.p4 0 2 3 5 O) <| xy O <| xy O <| xx (bn O O (runUnderlying9 _)) <| xx (v_ne O O) <| xy O <| fun a Z => ?_
    rcases (Decidable.em (((s.length - r3.length : Nat) : Int) = (s.length : Int))).symm with hb4 | hb4
    ·rw [xK hb4] at Z
     have hdn := hd3.trans (rS (by intro h0; have h1 := yf List.length h0; rw [xP] at h1; omega))
     refine nv Z <| xB <| xB <| xB <| xx (aw O O) <| fun a Z => G11 ?_
     replace Z := Z.p3 2 3 48 O
     refine aH Z O ?_
     refine bE <| aR 2 ?_
     refine nv Z <| xx (aX (v := .agg #[]) O kr) <| xx (cZ O underlying126) <| fun a Z => ab <| dP Z O ?_
     replace Y := Y.s2 [1, 0] de rfl
     exact br Z call62 (fm _ _ _ _ _ _ _ Y) results20 (fun w9 Y => ⟨(ak O (bf (Y.g 0 O) (isAgg55 _) (sizeOf55 _)) (ak O (aG (Y.g 1 O) (isAgg41 _)) ae)), by simp only [retv]; unfold dcX dcE; rw [hdn]; rfl, Y.ext⟩)
    rw [xF hb4] at Z
    have hqn : r3 = [] := yp (by have := hsf3.length_le; omega)
    refine wly Z (ao (Y.g 1 O) O (isAgg55 _) (sizeOf55 _)) fun a Z => aF Z Y call59 O (gT (⟨n1, n2, x9⟩ : Cas) _) fun a w10 Z Y => nv Z <| xA (bD O) <| xx (ai O O) <| fun a Z => G11 ?_
    replace Z := Z.p3 2 3 48 O
    refine bu Z O (fun hc5 => ?_) (fun hc5 => ?_)
    ·try simp only [qz] at hc5
     have hdn := hd3.trans (sH (by exact hc5))
     refine bE <| aR 2 ?_
     refine nv Z <| xx (aX (v := .agg #[]) O kr) <| xx (cZ O underlying126) <| fun a Z => ab <| dP Z O ?_
     replace Y := Y.s2 [1, 0] de rfl
     exact br Z call62 (fm _ _ _ _ _ _ _ Y) results20 (fun w9 Y => ⟨(ak O (bf (Y.g 0 O) (isAgg55 _) (sizeOf55 _)) (ak O (aG (Y.g 1 O) (isAgg41 _)) ae)), by simp only [retv]; unfold dcX dcE; rw [hdn]; rfl, Y.ext⟩)
    try simp only [qz] at hc5
    have hds := hd3.trans (rz hqn (by exact hc5))
    refine au <| G10 <| aa fun _ G12 => wlv Z (ao (Y.g 1 O) O (isAgg55 _) (sizeOf55 _)) fun a Z => az 1 Z Y [jv n1, jv n2, sv x9] O (sizeOf55 _) fun a w11 Z Y => az 0 Z Y [jv 0] O (sizeOf41 _) fun a w12 Z Y => G12 <| ap ?_
    refine nJ (vs := [.agg #[jv n1, jv n2, sv x9], jv 0]) Z call62 (rb _ _ _) results20 (fun w9 hx => ?_)
    have Y := Y.grow hx
    exact ⟨(ak O (bf (Y.g 1 O) (isAgg55 _) (sizeOf55 _)) (ak O (aG (Y.g 0 O) (isAgg41 _)) ae)), by simp only [retv]; unfold dcX dcE; rw [hds]; rfl, Y.ext⟩
   have hq3 : rdS r2 = none := by
    cases h : rdS r2 with
    | none => rfl
    | some z => rw [h] at hb3; cases hb3
   have hdn := hd2.trans (t7.trans (sL hq3))
   refine ax Z Y call65 O (qh O hsf2 hsl hq3) fun a w13 Z Y => nv Z <| xy O <| xx (aq O O) <| xx (aq O O) <| xx (aq O O) <| xz O <| xz O <| xz O <| fun a Z => G7 ?_
   replace Z := Z.p8 0 2 3 4 7 8 5 6 O
   refine bR fun _ G13 hP13 => aR 1 ?_
   refine wlm Z O fun a Z => ab <| nk (X := fun c w2 => c = [{ v := .iface 126 (.agg #[]), recovered := false }] ∧ Ext No w13 w2) Z call64 O (iL _) ?_
   rintro _ w14 ⟨rfl, hx⟩
   have Y := Y.grow hx
   refine hP13 _ _ _ ?_
   replace Y := Y.s2 [1, 0] de rfl
   exact br Z call62 (fm _ _ _ _ _ _ _ Y) results20 (fun w9 Y => ⟨(ak O (bf (Y.g 0 O) (isAgg55 _) (sizeOf55 _)) (ak O (aG (Y.g 1 O) (isAgg41 _)) ae)), by simp only [retv]; unfold dcX dcE; rw [hdn]; rfl, Y.ext⟩)
  have hq2 : rdI r1 = none := by
   cases h : rdI r1 with
   | none => rfl
   | some z => rw [h] at hb2; cases hb2
  have hdn := hd1.trans (nt hq2)
  refine ax Z Y call63 O (jS O hsf1 hsl hq2) fun a w15 Z Y => nv Z <| xy O <| xx (aq O O) <| xx (aq O O) <| xx (aq O O) <| xz O <| xz O <| xz O <| fun a Z => G5 ?_
  replace Z := Z.p7 0 2 3 4 7 5 6 O
  refine bR fun _ G14 hP14 => aR 1 ?_
  refine wlm Z O fun a Z => ab <| nk (X := fun c w2 => c = [{ v := .iface 126 (.agg #[]), recovered := false }] ∧ Ext No w15 w2) Z call64 O (iL _) ?_
  rintro _ w16 ⟨rfl, hx⟩
  have Y := Y.grow hx
  refine hP14 _ _ _ ?_
  replace Y := Y.s2 [1, 0] de rfl
  exact br Z call62 (fm _ _ _ _ _ _ _ Y) results20 (fun w9 Y => ⟨(ak O (bf (Y.g 0 O) (isAgg55 _) (sizeOf55 _)) (ak O (aG (Y.g 1 O) (isAgg41 _)) ae)), by simp only [retv]; unfold dcX dcE; rw [hdn]; rfl, Y.ext⟩)
 have hq1 : rdI s = none := by
  cases h : rdI s with
  | none => rfl
  | some z => rw [h] at hb1; cases hb1
 have hdn := ta.trans (nt hq1)
 refine ax Z Y call63 O (jS sm (List.suffix_refl s) hsl hq1) fun a w17 Z Y => nv Z <| xy O <| xx (aq O O) <| xx (aq O O) <| xx (aq O O) <| xz O <| xz O <| xz O <| fun a Z => G3 ?_
 replace Z := Z.p6 0 2 3 4 5 6 O
 refine bR fun _ G15 hP15 => aR 1 ?_
 refine wlm Z O fun a Z => ab <| nk (X := fun c w2 => c = [{ v := .iface 126 (.agg #[]), recovered := false }] ∧ Ext No w17 w2) Z call64 O (iL _) ?_
 rintro _ w18 ⟨rfl, hx⟩
 have Y := Y.grow hx
 refine hP15 _ _ _ ?_
 replace Y := Y.s2 [1, 0] de rfl
 exact br Z call62 (fm _ _ _ _ _ _ _ Y) results20 (fun w9 Y => ⟨(ak O (bf (Y.g 0 O) (isAgg55 _) (sizeOf55 _)) (ak O (aG (Y.g 1 O) (isAgg41 _)) ae)), by simp only [retv]; unfold dcX dcE; rw [hdn]; rfl, Y.ext⟩)
def prevN (l : List Cas) : Nat → Int
 | 0 => -1
 | k + 1 => (l.getD k Cas.z).n
theorem rr {l : List Cas} {k : Nat} (h : 0 < k) : prevN l k = (l.getD (k - 1) Cas.z).n := by
 cases k with
 | zero => exact absurd h (zd 0)
 | succ k => rfl
theorem kb {l : List Cas} {k : Nat} (h : k < l.length) : l.drop k = l.getD k Cas.z :: l.drop (k + 1) := by
 rw [yz h, xJ, xM h]; rfl
section
variable {l : List Cas} {k : Nat}
theorem tZ (hk : k < l.length) (ho : (l.getD k Cas.z).ok = true) (ht : prevN l k < (l.getD k Cas.z).n) : ascC (prevN l k) (l.drop k) = ascC (prevN l (k + 1)) (l.drop (k + 1)) := by
 rw [kb hk, ascC, ho, xF ht]; rfl
theorem xl (hk : k < l.length) (ho : (l.getD k Cas.z).ok = false) : ascC (prevN l k) (l.drop k) = false := by rw [kb hk, ascC, ho]; rfl
theorem xu (hk : k < l.length) (ht : (l.getD k Cas.z).n ≤ prevN l k) : ascC (prevN l k) (l.drop k) = false := by rw [kb hk, ascC, xK om, yL]; rfl
theorem lS (hk : k < l.length) : entC (l.take (k + 1)) = entC (l.take k) ++ [encP (l.getD k Cas.z)] := by rw [cz Cas.z hk, entC, yE]; rfl
end
theorem ij (c : Int) (lv : Value) (l : List Cas) (w0 : World) (hlv : SlAt w0 lv 3 (l.map Cas.cells)) :
  Ret Tryz.prog 31 #[.agg #[jv c, lv]] w0 fun v w => v = .bool (docOk c l) ∧ Ext No w0 w := by
 have hxb := hlv.2.1
 simp only [xC, big] at hxb
 refine zA func31 O ntmps31 (lb O) fun a Z Y => ?_
 refine aa fun _ G1 => aS Z Y O [jv c, lv] O fun a w1 Z Y => wla Z O fun a Z => G1 <| ah fun _ G2 => ?_
 refine aa fun _ G3 => nv Z <| xx (ac (v := po w0.hz 1) O kr) <| xx (ld Y 0 O O (isAgg30 _) O) <| xx ((aL (sT := 30) (Y.arg hlv) O O (runUnderlying30 _)).asi (m' := (l.length : Int)) z6) <| xy O <| fun a Z => G3 <| ar ?_
 refine aW (fun m a w => ∃ (k : Nat), m = l.length - k ∧ (k ≤ l.length) ∧ (ascC (-1) l = ascC (prevN l k) (l.drop k)) ∧ Fr 42 [(1, pq w0.hz), (6, lv), (7, jv (l.length : Int)), (8, jv (k : Int))] [] a ∧ St No w0 [blk w0.hz [jv c, lv] 32] w) _ ⟨0, O, yc _, O, Z.pick [1, 6, 7, 8], Y.select [0] de⟩ ?_
 rintro _ a w2 ⟨k, rfl, hk, hs, Z, Y⟩
 refine aa fun _ G4 => wlv Z (v_lt O O) fun a Z => G4 <| ah fun _ G5 => ?_
 refine aA Z O (fun hc1 => ?_) (fun hc1 => ?_)
 ·have hkx : k < l.length := by omega
  refine au <| G5 <| ah fun _ G6 => ar <| aa fun _ G7 => nv Z <| xy O <| xx ((am (i := (k : Int)) (sT := 30) (Y.arg hlv) O O (runUnderlying30 _) (sizeOf55 _) om zL).as (v' := slAddr lv (k * 3)) O) <| xx ((bL (Y.arg hlv) (i := k) zL O (isAgg55 _) (sizeOf55 _)).as (v' := .agg #[jv ((l.getD k Cas.z).n), jv ((l.getD k Cas.z).t), sv ((l.getD k Cas.z).ev)]) AG) <| fun a Z => aC Z Y (zeroValue55 _) [jv 0, jv 0, .string (⟨#[]⟩)] O fun a w3 Z Y => wla Z O fun a Z => az 0 Z Y [jv ((l.getD k Cas.z).n), jv ((l.getD k Cas.z).t), sv ((l.getD k Cas.z).ev)] O (sizeOf55 _) fun a w4 Z Y => G7 <| ah fun _ G8 => ?_
  refine aM (aN fun w5 hxz => ?_)
  replace Y := Y.grow hxz
  refine aK (k := 0) 7 [6] ?_
  refine wlv Z (ao (Y.g 0 O) O (isAgg55 _) (sizeOf55 _)) fun a Z => ax Z Y call59 O (gT (l.getD k Cas.z) _) fun a w6 Z Y => nv Z <| xx (bD O) <| xy O <| fun a Z => ?_
  rcases xH (!((l.getD k Cas.z).ok)) with hb2 | hb2
  ·rw [hb2] at Z
   try simp only [qz] at hb2
   have hbad : ascC (-1) l = false := by rw [hs]; exact xl hkx (by simpa using hb2)
   refine nv Z <| xB <| xB <| xB <| fun a Z => ab <| cW (k := 7) 16 [13, 15] (Z.p16 1 6 7 8 10 11 12 4 3 13 14 15 16 17 18 19 O) fun a Z => ?_
   replace Z : Fr 42 [(20, undef), (21, undef), (22, undef), (23, undef), (24, undef), (25, undef), (26, undef), (27, undef), (28, undef), (1, pq w0.hz), (6, lv), (7, jv (l.length : Int)), (8, jv (k : Int)), (10, jv (k : Int)), (11, slAddr lv (k * 3)), (12, .agg #[jv ((l.getD k Cas.z).n), jv ((l.getD k Cas.z).t), sv ((l.getD k Cas.z).ev)]), (4, pq w2.hz), (3, jv (k : Int)), (13, .agg #[jv ((l.getD k Cas.z).n), jv ((l.getD k Cas.z).t), sv ((l.getD k Cas.z).ev)]), (14, .bool ((l.getD k Cas.z).ok)), (15, .bool true), (16, .bool true), (17, undef), (18, undef), (19, undef)] [] a := Z
   refine aK (k := 16) 19 [18] ?_
   refine bW Z fun a Z => nv Z <| xB <| xx (aw O O) <| fun a Z => ab <| aT <| G8 ?_
   replace Z := Z.p5 1 6 7 8 31 O
   replace Y := Y.k1 2 O
   refine aH Z O ?_
   refine aa fun _ G9 => wla Z O fun a Z => G9 <| ap ?_
   refine al Z results31 (ag O ae) ?_
   refine ⟨?_, Y.ext⟩
   simp only [retv]
   refine yf Value.bool ?_
   unfold docOk; rw [hbad]; rfl
  rw [hb2] at Z
  try simp only [qz] at hb2
  have hok : (l.getD k Cas.z).ok = true := by simpa using hb2
  have hbn := Cas.bnd hok
  refine nv Z <| xA (ay O) <| xA (v_gt O O) <| xA (ay O) <| fun a Z => ab ?_
  rcases Decidable.em (0 < (k : Int)) with hb3 | hb3
  ·rw [xF hb3] at Z
   have hpv := rr (l := l) (k := k) om
   refine aU (k := 7) 16 [13, 15] Z ?_
   replace Z := Z.p16 1 6 7 8 10 11 12 4 3 13 14 15 16 17 18 19 O
   refine bQ 9 Z Y <| pl_v (ac (v := po w0.hz 1) O kr) <| pl_w (fun Y => ld Y 1 O O (isAgg30 _) O) <| pl_m O <| pl_v (bH O O ⟨om, om⟩) <| pl_w (fun Y => (am (i := (k : Int) - 1) (sT := 30) (Y.arg hlv) O O (runUnderlying30 _) (sizeOf55 _) om zL).as (v' := slAddr lv ((k - 1) * 3)) Au) <| pl_w (fun Y => cC (k := (k - 1) * 3) (j := 0) (Y.arg hlv) (i := (k - 1)) zL O (fun _ _ => by kernel_rfl)) <| pl_w (fun Y => aD (u := jv ((l.getD (k - 1) Cas.z).n)) (i := (k - 1)) (j := 0) (Y.arg hlv) zL O (isAgg3 _) AG) ?_
   refine pl_v (ac (v := pq w2.hz) O kr) <| pl_w (fun Y => ld Y 0 O O (isAgg3 _) O) fun a w7 Z Y => ?_
   replace Z := Z.p8 1 6 7 8 16 19 26 28 O
   refine ab <| aK (k := 16) 19 [18] ?_
   refine nv Z <| xA (v_ge O O) <| xA (aw O O) <| xx (ai O O) <| fun a Z => ab <| aT <| G8 ?_
   replace Z := Z.p5 1 6 7 8 31 O
   replace Y := Y.k1 2 O
   refine aA Z O (fun hc4 => ?_) (fun hc4 => ?_)
   ·have hbad : ascC (-1) l = false := by rw [hs]; exact xu hkx (by rw [hpv]; exact hc4)
    refine aa fun _ G10 => wla Z O fun a Z => G10 <| ap ?_
    refine al Z results31 (ag O ae) ?_
    refine ⟨?_, Y.ext⟩
    simp only [retv]
    refine yf Value.bool ?_
    unfold docOk; rw [hbad]; rfl
   have hgo : prevN l k < (l.getD k Cas.z).n := by rw [hpv]; omega
   refine au <| G6 <| aj <| nv Z <| xx (aP O O ⟨om, om⟩) <| xy O <| fun a Z => ab ?_
   refine ⟨_, ?_, k + 1, O, om, (by rw [hs]; exact tZ hkx hok hgo), Z.pick [1, 6, 7, 8], Y.select [0] de⟩
   omega
  rw [xK hb3] at Z
  have hgo : prevN l k < (l.getD k Cas.z).n := by
   have h0 : k = 0 := by omega
   rw [h0] at hbn ⊢; show -1 < _; omega
  refine cW (k := 7) 16 [13, 15] (Z.p16 1 6 7 8 10 11 12 4 3 13 14 15 16 17 18 19 O) fun a Z => ?_
  replace Z : Fr 42 [(20, undef), (21, undef), (22, undef), (23, undef), (24, undef), (25, undef), (26, undef), (27, undef), (28, undef), (1, pq w0.hz), (6, lv), (7, jv (l.length : Int)), (8, jv (k : Int)), (10, jv (k : Int)), (11, slAddr lv (k * 3)), (12, .agg #[jv ((l.getD k Cas.z).n), jv ((l.getD k Cas.z).t), sv ((l.getD k Cas.z).ev)]), (4, pq w2.hz), (3, jv (k : Int)), (13, .agg #[jv ((l.getD k Cas.z).n), jv ((l.getD k Cas.z).t), sv ((l.getD k Cas.z).ev)]), (14, .bool ((l.getD k Cas.z).ok)), (15, .bool false), (16, .bool false), (17, jv (k : Int)), (18, .bool false), (19, .bool false)] [] a := Z
  refine aK (k := 16) 19 [18] ?_
  refine nv Z <| xB <| xA (ai O O) <| xx (ai O O) <| fun a Z => ab <| aT <| G8 ?_
  replace Z := Z.p5 1 6 7 8 31 O
  replace Y := Y.k1 2 O
  refine aJ Z O ?_
  refine au <| G6 <| aj <| nv Z <| xx (aP O O ⟨om, om⟩) <| xy O <| fun a Z => ab ?_
  refine ⟨_, ?_, k + 1, O, om, (by rw [hs]; exact tZ hkx hok hgo), Z.pick [1, 6, 7, 8], Y.select [0] de⟩
  omega
 have hall : ascC (-1) l = true := by rw [hs, show k = l.length by omega, List.drop_length]; rfl
 refine aO <| G2 <| aa fun _ G11 => nv Z <| xx (ac (v := pq w0.hz) O kr) <| xx (ld Y 0 O O (isAgg3 _) O) <| fun a Z => ax Z Y call49 O (dj c 0 7 _) fun a w8 Z Y => wlm Z O fun a Z => ?_
 rcases xH (inB c 0 7) with hb5 | hb5
 ·rw [hb5] at Z
  refine nv Z <| xA (ac (v := po w0.hz 1) O kr) <| xA (ld Y 0 O O (isAgg30 _) O) <| xA ((aL (sT := 30) (Y.arg hlv) O O (runUnderlying30 _)).asi (m' := (l.length : Int)) z6) <| xA (v_le O O) <| xx (aw O O) <| xz O <| fun a Z => G11 ?_
  replace Z := Z.p1 2 O
  replace Y := Y.k0 0 O
  refine ap <| al Z results31 (ag O ae) ?_
  refine ⟨?_, Y.ext⟩
  simp only [retv]
  refine yf Value.bool ?_
  unfold docOk; rw [hall, hb5]; simp only [yT]; exact decide_eq_decide.2 om
 rw [hb5] at Z
 refine nv Z <| xB <| xB <| xB <| xB <| xx (ai O O) <| xz O <| fun a Z => G11 ?_
 replace Z := Z.p1 2 O
 replace Y := Y.k0 0 O
 refine ap <| al Z results31 (ag O ae) ?_
 refine ⟨?_, Y.ext⟩
 simp only [retv]
 refine yf Value.bool ?_
 unfold docOk; rw [hall, hb5]; rfl
theorem qp (c : Int) (lv : Value) (l : List Cas) (w0 : World) (hlv : SlAt w0 lv 3 (l.map Cas.cells)) (hle : l.length ≤ 1000) :
  Ret Tryz.prog 72 #[.agg #[jv c, lv]] w0 (MemR w0 (fun v : Value => .agg #[jv c, v]) (fun v => [own v 9 1 ((entC (l)).map fun s => [sv s])]) (fun _ => True)) := by
 have hxb := hlv.2.1
 simp only [xC, big] at hxb
 refine zA func72 O ntmps72 (lb O) fun a Z Y => ?_
 refine aa fun _ G1 => aS Z Y O [jv c, lv] O fun a w1 Z Y => aC Z Y (zeroValue75 _) [jv 0, .slice none 0 0] O fun a w2 Z Y => G1 <| aa fun _ G2 => ?_
 refine nv Z <| xx (ac (v := pq w0.hz) O kr) <| xx (ld Y 1 O O (isAgg3 _) O) <| xx (aX (v := .agg #[jv c, .slice none 0 0]) O kr) <| fun a Z => aC Z Y (zeroValue75 _) [jv 0, .slice none 0 0] O fun a w3 Z Y => az 0 Z Y [jv c, .slice none 0 0] O (sizeOf75 _) fun a w4 Z Y => G2 <| ah fun _ G3 => ?_
 refine aa fun _ G4 => nv Z <| xx (ac (v := po w0.hz 1) O kr) <| xx (ld Y 2 O O (isAgg30 _) O) <| xx ((aL (sT := 30) (Y.arg hlv) O O (runUnderlying30 _)).asi (m' := (l.length : Int)) z6) <| xy O <| fun a Z => G4 ?_
 replace Z := Z.p5 2 3 12 13 14 O
 replace Y := Y.k2 3 O
 refine ar ?_
 replace Y : St No w0 [own (.slice none 0 0) 9 1 ((entC (l.take 0)).map fun s => [sv s]), blk w2.hz [jv c, .slice none 0 0] 75, blk w1.hz [jv 0, .slice none 0 0] 75] w4 := Y.nil_own
 refine aW (fun m a w => ∃ (k : Nat) (v : Value), m = l.length - k ∧ (k ≤ l.length) ∧ Fr 31 [(2, pq w1.hz), (3, pq w2.hz), (12, lv), (13, jv (l.length : Int)), (14, jv (k : Int))] [] a ∧ St No w0 [own v 9 1 ((entC (l.take k)).map fun s => [sv s]), blk w2.hz [jv c, v] 75, blk w1.hz [jv 0, .slice none 0 0] 75] w) _ ⟨0, .slice none 0 0, O, yc _, Z.pick [2, 3, 12, 13, 14], Y.select [0, 1, 2] de⟩ ?_
 rintro _ a w5 ⟨k, v, rfl, hk, Z, Y⟩
 refine aa fun _ G5 => wlv Z (v_lt O O) fun a Z => G5 <| ah fun _ G6 => ?_
 refine aA Z O (fun hc1 => ?_) (fun hc1 => ?_)
 ·have hkx : k < l.length := by omega
  refine au <| G6 <| ah fun _ G7 => ar <| aa fun _ G8 => nv Z <| xx ((am (i := (k : Int)) (sT := 30) (Y.arg hlv) O O (runUnderlying30 _) (sizeOf55 _) om zL).as (v' := slAddr lv (k * 3)) O) <| xx ((bL (Y.arg hlv) (i := k) zL O (isAgg55 _) (sizeOf55 _)).as (v' := .agg #[jv ((l.getD k Cas.z).n), jv ((l.getD k Cas.z).t), sv ((l.getD k Cas.z).ev)]) AG) <| fun a Z => aC Z Y (zeroValue55 _) [jv 0, jv 0, .string (⟨#[]⟩)] O fun a w6 Z Y => az 0 Z Y [jv ((l.getD k Cas.z).n), jv ((l.getD k Cas.z).t), sv ((l.getD k Cas.z).ev)] O (sizeOf55 _) fun a w7 Z Y => G8 <| aa fun _ G9 => ?_
  refine wlv Z (ao (Y.g 0 O) O (isAgg55 _) (sizeOf55 _)) fun a Z => ax Z Y call19 O (vP (l.getD k Cas.z) _) fun a w8 Z Y => nv Z <| xy O <| xx (aq O O) <| xx (aq O O) <| xz O <| xz O <| fun a Z => G9 ?_
  replace Y := Y.k3 14 O
  refine aj <| nv (Z.p6 2 3 12 13 14 6 O) <| xx (ac (v := po w2.hz 1) O kr) <| xx (ld Y 1 O O (isAgg44 _) O) <| xy O <| fun a Z => aE (E := 9) (sz := 1) O [[sv (encP (l.getD k Cas.z))]] kr sm O de de Z Y fun a w9 Z Y => aY (i := 1) (sT := 44) (inf := Tryz.t9) (z := .string (⟨#[]⟩)) (b := 0) (off := 0) (m := 0) (c := 0) O O O (Y.ow 0 O) sm underlying44 O O O O de zN Ai Ai de Z Y fun a w10 s2 Z Y _ => ?_
  rw [show ((entC (l.take k)).map fun s => [sv s]) ++ ([[sv (encP (l.getD k Cas.z))]]) = ((entC (l.take (k + 1))).map fun s => [sv s]) from by rw [lS hkx, yE]; rfl] at Y
  refine wlv Z (ac (v := po w2.hz 1) O kr) fun a Z => ce 2 Z Y (Y.ow 1 O) O O O (sizeOf44 _) (lb O) (ds := [jv c, s2]) O O fun a w11 Z Y => ab <| G7 ?_
  replace Y := Y.k3 14 O
  refine aj <| nv (Z.p5 2 3 12 13 14 O) <| xx (aP O O ⟨om, om⟩) <| xy O <| fun a Z => ab ?_
  refine ⟨_, ?_, k + 1, s2, O, om, Z.pick [2, 3, 12, 13, 14], Y.select [0, 1, 2] de⟩
  omega
 obtain rfl : k = l.length := by omega
 rw [List.take_length] at Y
 refine aO <| G3 <| aa fun _ G10 => wlv Z (ao (Y.g 1 O) O (isAgg75 _) (sizeOf75 _)) fun a Z => bd (us := [jv c, v]) 2 Z Y O O O (sizeOf75 _) Ab (lb O) (ds := [jv c, v]) O O fun a w12 Z Y => ?_
 refine G10 ?_
 replace Z := Z.p1 2 O
 refine ap <| al Z results72 (ak O (bf (Y.g 2 O) (isAgg75 _) (sizeOf75 _)) ae) ?_
 exact ⟨v, O, trivial, Y.ext, St.out (E := [own v 9 1 ((entC (l)).map fun s => [sv s])]) (H := []) (Y.select [0] de)⟩
theorem qy (x : Cas) (n : Int) (w0 : World) (h0 : 0 ≤ x.n ∧ x.n ≤ 99999999) (h1 : 0 ≤ n ∧ n ≤ 99999999) :
  Ret Tryz.prog 71 #[.agg #[jv x.n, jv x.t, sv x.ev], jv n] w0 fun v w => v = jv (x.n - n) ∧ Ext No w0 w := by
 refine zy func71 O ntmps71 (lb O) fun a Z Y => ?_
 refine aa fun _ G1 => aS Z Y O [jv x.n, jv x.t, sv x.ev] O fun a w1 Z Y => wla Z O fun a Z => G1 <| aa fun _ G2 => ?_
 refine nv Z <| xx (ac (v := pq w0.hz) O kr) <| xx (ld Y 0 O O (isAgg3 _) O) <| xy O <| xx (bH O O ⟨om, om⟩) <| xz O <| fun a Z => G2 ?_
 replace Z := Z.p1 4 O
 replace Y := Y.k0 0 O
 refine ap <| al Z results71 (ag O ae) ?_
 exact ⟨by rfl, Y.ext⟩
theorem pI (lv : Value) (l : List Cas) (num : Int) (w0 : World) (hlv : SlAt w0 lv 3 (l.map Cas.cells)) (hasc : ascC (-1) l = true) (hnum : 0 ≤ num ∧ num ≤ 99999999) :
  Ret Tryz.prog 70 #[lv, jv num, .func (.func 71) #[] #[]] w0 fun v w => v = .tuple #[jv (lowC num l : Int), .bool (hitC l num)] ∧ Ext No w0 w := by
 have hxb := hlv.2.1
 simp only [xC, big] at hxb
 have hall : ∀ x ∈ l, 0 ≤ x.n ∧ x.n ≤ 99999999 := fun x hx => by have := Cas.bnd (ga hasc x hx).1; omega
 have hll := gl num l
 refine zB func70 O ntmps70 (lb O) fun a Z Y => ?_
 refine aa fun _ G1 => nv Z <| xz O <| xz O <| fun a Z => G1 <| aa fun _ G2 => ?_
 refine nv Z <| xy O <| xx ((aL (sT := 30) (Y.arg hlv) O O (runUnderlying30 _)).asi (m' := (l.length : Int)) z6) <| xz O <| fun a Z => G2 <| aa fun _ G3 => ?_
 refine nv Z <| xy O <| xz O <| xz O <| fun a Z => G3 <| ah fun _ G4 => ?_
 refine ar <| aW (fun m a w => ∃ (i : Nat) (j : Nat), m = j - i ∧ (i ≤ j ∧ j ≤ l.length) ∧ (i ≤ lowC num l) ∧ (lowC num l ≤ j) ∧ Fr 49 [(0, lv), (1, jv num), (2, .func (.func 71) #[] #[]), (6, jv 0), (7, .bool false), (8, jv (l.length : Int)), (9, jv (i : Int)), (10, jv (j : Int))] [] a ∧ St No w0 [] w) _ ⟨0, l.length, O, ⟨yc _, yk _⟩, yc _, gl num l, Z.pick [0, 1, 2, 6, 7, 8, 9, 10], Y.select [] de⟩ ?_
 rintro _ a w1 ⟨i, j, rfl, hij, hi, hj, Z, Y⟩
 refine ah fun _ G5 => aa fun _ G6 => nv Z <| xy O <| xy O <| xx (v_lt O O) <| fun a Z => G6 <| aA Z O (fun hc1 => ?_) (fun hc1 => ?_)
 ·have hml : ((i + j) / 2) < j := by omega
  refine au <| G5 <| ar <| aa fun _ G7 => nv Z <| xy O <| xy O <| xx (aP O O ⟨om, om⟩) <| xx ((dS O kr underlying191).asi (m' := ((i + j : Nat) : Int)) om) <| xx ((pi (m := (i + j)) (n := 1) om O O).asi (m' := (((i + j) / 2 : Nat) : Int)) O) <| xx (je (n := ((i + j) / 2)) om O kr underlying3) <| xz O <| fun a Z => G7 ?_
  refine aa fun _ G8 => nv (Z.p9 0 1 2 6 7 8 9 10 11 O) <| xy O <| xy O <| xy O <| xx ((am (i := ((((i + j) / 2) : Nat) : Int)) (sT := 30) (Y.arg hlv) O O (runUnderlying30 _) (sizeOf55 _) om zL).as (v' := slAddr lv (((i + j) / 2) * 3)) (by rw [show (((((i + j) / 2) : Nat) : Int)).toNat = ((i + j) / 2) from by omega])) <| xx ((bL (Y.arg hlv) (i := ((i + j) / 2)) zL O (isAgg55 _) (sizeOf55 _)).as (v' := .agg #[jv ((l.getD ((i + j) / 2) Cas.z).n), jv ((l.getD ((i + j) / 2) Cas.z).t), sv ((l.getD ((i + j) / 2) Cas.z).ev)]) AG) <| xy O <| fun a Z => dC Z Y O call71 O (qy (l.getD ((i + j) / 2) Cas.z) num _ (hall _ (bt om)) hnum) fun a w2 Z Y => wlv Z (v_lt O O) fun a Z => G8 ?_
  replace Z := Z.p10 0 1 2 6 7 8 9 10 11 31 O
  refine aA Z O (fun hc2 => ?_) (fun hc2 => ?_)
  ·have hup : ((i + j) / 2) + 1 ≤ lowC num l := by
    refine Nat.lt_of_not_le fun hge => ?_
    have := jD hasc hge (show ((i + j) / 2) < l.length by omega)
    omega
   refine aj <| nv Z <| xy O <| xx (aP O O ⟨om, om⟩) <| xz O <| fun a Z => ab ?_
   refine ⟨_, ?_, ((i + j) / 2) + 1, j, O, om, om, om, Z.pick [0, 1, 2, 6, 7, 8, 9, 10], Y.select [] de⟩
   omega
  have hdn : lowC num l ≤ ((i + j) / 2) := by
   refine Nat.le_of_not_lt fun hlt => ?_
   have := jI hlt
   omega
  refine aj <| nv Z <| xy O <| xz O <| fun a Z => ab ?_
  refine ⟨_, ?_, i, ((i + j) / 2), O, om, om, om, Z.pick [0, 1, 2, 6, 7, 8, 9, 10], Y.select [] de⟩
  omega
 have hil : i = lowC num l := by omega
 refine aO <| G4 <| aa fun _ G9 => nv Z <| xy O <| xy O <| xy O <| xx (v_lt O O) <| xy O <| fun a Z => ?_
 rcases Decidable.em ((i : Int) < (l.length : Int)) with hb3 | hb3
 ·rw [xF hb3] at Z
  refine nv Z <| xA (ay O) <| xA (ay O) <| xA (ay O) <| xA ((am (i := (i : Int)) (sT := 30) (Y.arg hlv) O O (runUnderlying30 _) (sizeOf55 _) om zL).as (v' := slAddr lv (i * 3)) O) <| xA ((bL (Y.arg hlv) (i := i) zL O (isAgg55 _) (sizeOf55 _)).as (v' := .agg #[jv ((l.getD i Cas.z).n), jv ((l.getD i Cas.z).t), sv ((l.getD i Cas.z).ev)]) AG) <| xA (ay O) <| fun a Z => eo Z ?_
  refine dC Z Y O call71 O (qy (l.getD i Cas.z) num _ (hall _ (bt om)) hnum) fun a w3 Z Y => nv Z <| xA (v_eq O O) <| xx (aw O O) <| xz O <| xz O <| fun a Z => G9 ?_
  replace Z := Z.p2 6 7 O
  refine ap <| al Z results70 (ag O (ag O ae)) ?_
  subst hil
  refine ⟨?_, Y.ext⟩
  simp only [retv]
  refine yf (fun b => Value.tuple #[jv ((lowC num l : Nat) : Int), .bool b]) ?_
  unfold hitC
  rw [Bool.eq_iff_iff]
  simp only [xD, xG, zp, false_iff, eq_self_iff_true, true_iff]
  omega
 rw [xK hb3] at Z
 refine nv Z <| xB <| xB <| xB <| xB <| xB <| xB <| xB <| xB <| xx (ai O O) <| xz O <| xz O <| fun a Z => G9 ?_
 replace Z := Z.p2 6 7 O
 refine ap <| al Z results70 (ag O (ag O ae)) ?_
 subst hil
 refine ⟨?_, Y.ext⟩
 simp only [retv]
 refine yf (fun b => Value.tuple #[jv ((lowC num l : Nat) : Int), .bool b]) ?_
 unfold hitC
 rw [Bool.eq_iff_iff]
 simp only [xD, xG, zp, false_iff, eq_self_iff_true, true_iff]
 omega
end Go.Proofs.YtliklcmddmpdfaaGreatDoor
