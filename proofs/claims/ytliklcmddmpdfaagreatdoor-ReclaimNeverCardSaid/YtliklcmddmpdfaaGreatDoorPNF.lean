/- Texts joined: WshO, WshS, RefI, LgA, WshV, RefV, RefJ, RefK, RclA, RclB. -/
import Derived.Test.YtliklcmddmpdfaaGreatDoorPNE
import Derived.Test.YtliklcmddmpdfaaGreatDoorPNB
import Derived.Test.YtliklcmddmpdfaaGreatDoorPND
import Derived.Test.YtliklcmddmpdfaaGreatDoorPNA
set_option linter.unusedVariables false
set_option linter.unusedSimpArgs false
set_option maxRecDepth 4000
set_option maxHeartbeats 4000000
namespace Go.Proofs.YtliklcmddmpdfaaGreatDoor
open Go.RowKit Go.PW _root_.Go.Proofs.Tryz
def kdI (x : Int) (r : By) : Option By := match rdI r with
 | some (n, q) => if n = x then some q else none
 | none => none
def dgI (r : By) : Option (By × By) := if 32 ≤ r.length then some (r.take 32, r.drop 32) else none
section
variable {α : Type} {r q g : By} {x n : Int}
theorem kJ (h : kdI x r = some q) : rdI r = some (x, q) := by
 unfold kdI at h
 split at h
 ·rename_i n q2 hq
  split at h
  ·rename_i e; cases h; rw [hq, e]
  ·cases h
 ·cases h
theorem nX (h : kdI x r = none) : rdI r = none ∨ ∃ n q, rdI r = some (n, q) ∧ ¬ n = x := by
 unfold kdI at h
 split at h
 ·rename_i n q2 hq
  split at h
  ·cases h
  ·rename_i e; exact .inr ⟨n, q2, hq, e⟩
 ·rename_i hq; exact .inl hq
theorem ov {k : By → Option α} (h : kdI x r = some q) : kindI x r k = k q := by
 unfold kindI; rw [cO (kJ h), xD rfl]
theorem lF {k : By → Option α} (h : kdI x r = none) : kindI x r k = none := by
 unfold kindI
 rcases nX h with h | ⟨n, q, h, e⟩
 ·exact cJ h
 ·rw [cO h, xB e]
theorem lV {k : By → By → Option α} (h : dgI r = some (g, q)) : getD32 r k = k g q := by
 unfold dgI at h; unfold getD32
 split at h
 ·rename_i hl; cases h; rw [xD hl]
 ·cases h
theorem ke {k : By → By → Option α} (h : dgI r = none) : getD32 r k = none := by
 unfold dgI at h; unfold getD32
 split at h
 ·cases h
 ·rename_i hl; rw [xB hl]
theorem dg (h : rdI r = some (n, q)) : q <:+ r := by
 obtain ⟨_, rfl⟩ := fh h; exact List.suffix_append _ _
theorem qo (h : kdI x r = some q) : q <:+ r := dg (kJ h)
theorem qL (h : dgI r = some (g, q)) : q <:+ r := by
 unfold dgI at h
 split at h
 ·cases h; exact List.drop_suffix _ _
 ·cases h
end
theorem wS {s r r2 : By} {n z : Int} {w0 : World} (hz : z = ((s.length - r.length : Nat) : Int)) (hsf : r <:+ s) (hsl : s.length ≤ 1000000) (hq : rdI r = some (n, r2)) :
  Ret Tryz.prog 63 #[sv s, jv z] w0 fun v w => v = .tuple #[jv n, jv ((s.length - r2.length : Nat) : Int), jv 0] ∧ Ext No w0 w := by
 subst hz
 have := iw s (s.length - r.length) w0 om hsl
 unfold intV at this
 rw [← List.suffix_iff_eq_drop.1 hsf, hq] at this
 exact this
theorem vx {s r : By} {z : Int} {w0 : World} (hz : z = ((s.length - r.length : Nat) : Int)) (hsf : r <:+ s) (hsl : s.length ≤ 1000000) (hq : rdI r = none) :
  Ret Tryz.prog 63 #[sv s, jv z] w0 fun v w => v = .tuple #[jv 0, jv 0, jv 10] ∧ Ext No w0 w := by
 subst hz
 have := iw s (s.length - r.length) w0 om hsl
 unfold intV at this
 rw [← List.suffix_iff_eq_drop.1 hsf, hq] at this
 exact this
theorem cj {M : Nat → Prop} {w0 : World} (b : Nat) (s r r2 : By) (n z : Int) (ws : World) (hz : z = ((s.length - r.length : Nat) : Int)) (hsf : r <:+ s) (hsl : s.length ≤ 1000000) (hq : rdI r = some (n, r2)) (Y : St M w0 [blk b [sv s, jv z] 174] ws) :
  Ret Tryz.prog 99 #[pt b] ws fun u w => u = jv n ∧ St M w0 [blk b [sv s, jv ((s.length - r2.length : Nat) : Int)] 174] w := by
 refine aC func99 O ntmps99 (lb O) fun a Z => ?_
 replace Z := Z.p1 0 O
 skip
 refine aa fun _ G1 => wla Z O fun a Z => G1 <| ah fun _ G2 => ?_
 refine aL kr (aM kr fun w1 hxz => ?_)
 replace Y := Y.grow hxz
 refine aU (k := 0) 8 [3, 7] Z kr kr kr rfx ?_
 refine bS 8 (Z.p2 0 2 O) Y kr kr <| pl_m O <| pl_v (aQ O) <| pl_v (ac (v := pt b) O kr) <| pl_w (fun Y => ld Y 0 O O (isAgg9 _) O) <| pl_m O <| pl_v (aQ O) <| pl_v (ac (v := po b 1) O kr) <| pl_w (fun Y => ld Y 0 O O (isAgg3 _) O) fun a w2 Z Y => ?_
 replace Z := Z.p4 0 2 10 14 O
 refine ab <| aN (k := 8) 10 [9] kr kr kr ?_
 refine ax Z Y de call63 O (wS hz hsf hsl hq) fun a w3 Z Y => wlm Z O fun a Z => ab <| aU (k := 10) 15 [12, 14] Z kr kr kr rfx ?_
 refine bS 5 (Z.p6 0 2 10 14 15 6 O) Y kr kr <| pl_v (ar O O) <| pl_v (ar O O) <| pl_v (ar O O) <| pl_v (cM O) <| pl_v (cM O) fun a w4 Z Y => ?_
 replace Z := Z.p5 0 2 18 3 4 O
 refine ab <| aN (k := 15) 16 [15] kr kr kr ?_
 refine wla Z O fun a Z => ab <| aT kr ?_
 refine G2 <| ah fun _ G3 => aa fun _ G4 => nv Z <| xc O <| pq ((v_ne O O).asb (b' := false) O) <| fun a Z => G4 <| aJ Z O ?_
 refine aw <| G3 <| aa fun _ G5 => nv Z <| xc O <| xc O <| pq (aQ O) <| pq (ac (v := po b 1) O kr) <| fun a Z => aq 0 Z Y O O O (sizeOf3 _) O (lb O) (ds := [sv s, jv ((s.length - r2.length : Nat) : Int)]) O O fun a w5 Z Y => G5 ?_
 refine aa fun _ G6 => nv (Z.p2 2 3 O) <| xc O <| xd O <| fun a Z => G6 <| ap ?_
 refine am Z results99 (ag O ae) ?_
 exact ⟨O, Y.select [0] de⟩
theorem bZ {M : Nat → Prop} {w0 : World} (b : Nat) (s r  : By) (z : Int) (ws : World) (hz : z = ((s.length - r.length : Nat) : Int)) (hsf : r <:+ s) (hsl : s.length ≤ 1000000) (hq : rdI r = none) (Y : St M w0 [blk b [sv s, jv z] 174] ws) :
  Pan Tryz.prog 99 #[pt b] ws fun c w => c = [{ v := .iface 171 (.agg #[]), recovered := false }] ∧ St M w0 [blk b [sv s, jv z] 174] w := by
 refine na func99 O ntmps99 (lb O) fun a Z => ?_
 replace Z := Z.p1 0 O
 skip
 refine aa fun _ G1 => wla Z O fun a Z => G1 <| ah fun _ G2 => ?_
 refine aL kr (aM kr fun w1 hxz => ?_)
 replace Y := Y.grow hxz
 refine aU (k := 0) 8 [3, 7] Z kr kr kr rfx ?_
 refine bS 8 (Z.p2 0 2 O) Y kr kr <| pl_m O <| pl_v (aQ O) <| pl_v (ac (v := pt b) O kr) <| pl_w (fun Y => ld Y 0 O O (isAgg9 _) O) <| pl_m O <| pl_v (aQ O) <| pl_v (ac (v := po b 1) O kr) <| pl_w (fun Y => ld Y 0 O O (isAgg3 _) O) fun a w2 Z Y => ?_
 replace Z := Z.p4 0 2 10 14 O
 refine ab <| aN (k := 8) 10 [9] kr kr kr ?_
 refine ax Z Y de call63 O (vx hz hsf hsl hq) fun a w3 Z Y => wlm Z O fun a Z => ab <| aU (k := 10) 15 [12, 14] Z kr kr kr rfx ?_
 refine bS 5 (Z.p6 0 2 10 14 15 6 O) Y kr kr <| pl_v (ar O O) <| pl_v (ar O O) <| pl_v (ar O O) <| pl_v (cM O) <| pl_v (cM O) fun a w4 Z Y => ?_
 replace Z := Z.p5 0 2 18 3 4 O
 refine ab <| aN (k := 15) 16 [15] kr kr kr ?_
 refine wla Z O fun a Z => ab <| aT kr ?_
 refine G2 <| ah fun _ G3 => aa fun _ G4 => nv Z <| xc O <| pq ((v_ne O O).asb (b' := true) O) <| fun a Z => G4 <| aK Z O ?_
 refine bF <| aR 2 ?_
 refine nv Z <| pq (bj (v := .agg #[]) O kr) <| pq (cT O underlying171) <| fun a Z => ab <| dV Z O ?_
 exact eM (X := fun c w => c = [{ v := .iface 171 (.agg #[]), recovered := false }] ∧ St M w0 [blk b [sv s, jv z] 174] w) Z ⟨O, Y.select [0] de⟩
theorem qg {M : Nat → Prop} {w0 : World} (b : Nat) (s r r2 : By) (x z : Int) (ws : World) (hz : z = ((s.length - r.length : Nat) : Int)) (hsf : r <:+ s) (hsl : s.length ≤ 1000000) (hq : kdI x r = some r2) (Y : St M w0 [blk b [sv s, jv z] 174] ws) :
  Ret Tryz.prog 101 #[pt b, jv x] ws fun u w => u = .tuple #[] ∧ St M w0 [blk b [sv s, jv ((s.length - r2.length : Nat) : Int)] 174] w := by
 refine aC func101 O ntmps101 (lb O) fun a Z => ?_
 replace Z := Z.p2 0 1 O
 skip
 refine aa fun _ G1 => wlm Z O fun a Z => bd (R := fun u e' => u = jv x ∧ e' = blk b [sv s, jv ((s.length - r2.length : Nat) : Int)] 174) 0 Z Y O de call99 O (fun h => (cj b s _ r2 x _ _ hz hsf hsl (kJ hq) h).mono fun u w ⟨h1, h2⟩ => ⟨_, ⟨h1, O⟩, h2⟩) ?_
 clear Z Y
 rintro a w1 _ _ ⟨rfl, rfl⟩ Z Y
 try dsimp only at Y
 replace Y := Y.n1 O
 refine nv Z <| xc O <| pq ((v_ne O O).asb (b' := false) sm) <| fun a Z => G1 <| aJ Z O ?_
 refine aw <| cQ Z results101 ae ?_
 exact ⟨O, Y.select [0] de⟩
theorem nI {M : Nat → Prop} {w0 : World} (b : Nat) (s r  : By) (x z : Int) (ws : World) (hz : z = ((s.length - r.length : Nat) : Int)) (hsf : r <:+ s) (hsl : s.length ≤ 1000000) (hq : kdI x r = none) (Y : St M w0 [blk b [sv s, jv z] 174] ws) :
  Pan Tryz.prog 101 #[pt b, jv x] ws fun c w => c = [{ v := .iface 171 (.agg #[]), recovered := false }] ∧ Ext M w0 w := by
 refine na func101 O ntmps101 (lb O) fun a Z => ?_
 replace Z := Z.p2 0 1 O
 skip
 refine bP fun _ G1 hP1 => aR 1 ?_
 refine wlm Z O fun a Z => ab ?_
 rcases nX hq with hq1 | ⟨n, r2, hq1, hnx⟩
 ·refine cH (X := fun c => c = [{ v := .iface 171 (.agg #[]), recovered := false }]) 0 Z Y O call99 O (fun h => (bZ b s r z _ hz hsf hsl hq1 h).mono fun e w ⟨c, h1, h2, h3⟩ => ⟨c, h1, _, h2, h3⟩) ?_
  clear Y
  rintro _ w1 e9 rfl Y
  refine hP1 _ _ _ ?_
  exact eM (X := fun c w => c = [{ v := .iface 171 (.agg #[]), recovered := false }] ∧ Ext M w0 w) Z ⟨O, Y.ext⟩
 refine aR 1 ?_
 refine bd (R := fun u e' => u = jv n ∧ e' = blk b [sv s, jv ((s.length - r2.length : Nat) : Int)] 174) 0 Z Y O de call99 O (fun h => (cj b s _ r2 n _ _ hz hsf hsl hq1 h).mono fun u w ⟨h1, h2⟩ => ⟨_, ⟨h1, O⟩, h2⟩) ?_
 clear Z Y
 rintro a w2 _ _ ⟨rfl, rfl⟩ Z Y
 try dsimp only at Y
 replace Y := Y.n1 O
 refine ab <| dB <| nv Z <| xc O <| pq (v_ne O O) <| fun a Z => G1 <| aA Z O (fun hc1 => ?_) (fun hc1 => ?_)
 ·try simp only [qz] at hc1
  refine bF <| aR 2 ?_
  refine nv Z <| pq (bj (v := .agg #[]) O kr) <| pq (cT O underlying171) <| fun a Z => ab <| dV Z O ?_
  exact eM (X := fun c w => c = [{ v := .iface 171 (.agg #[]), recovered := false }] ∧ Ext M w0 w) Z ⟨O, Y.ext⟩
 try simp only [qz] at hc1
 exact absurd hc1 hnx
theorem sP {r g q : By} (h : dgI r = some (g, q)) : 32 ≤ r.length ∧ q.length + 32 = r.length ∧ g = r.take 32 := by
 unfold dgI at h
 split at h
 ·rename_i hl; cases h; exact ⟨hl, by rw [xS]; omega, rfl⟩
 ·cases h
theorem wN {s r g q : By} (h : dgI r = some (g, q)) (hs : r <:+ s) : g = (s.drop (s.length - r.length)).take (s.length - r.length + 32 - (s.length - r.length)) := by
 rw [← List.suffix_iff_eq_drop.1 hs, show s.length - r.length + 32 - (s.length - r.length) = 32 from by omega]; exact (sP h).2.2
theorem dg_no {r : By} (h : dgI r = none) : r.length < 32 := by
 unfold dgI at h
 split at h
 ·cases h
 ·omega
theorem tC {M : Nat → Prop} {w0 : World} (b : Nat) (s r r2 g : By) (z : Int) (ws : World) (hz : z = ((s.length - r.length : Nat) : Int)) (hsf : r <:+ s) (hsl : s.length ≤ 1000000) (hq : dgI r = some (g, r2)) (Y : St M w0 [blk b [sv s, jv z] 174] ws) :
  Ret Tryz.prog 102 #[pt b] ws fun u w => u = sv g ∧ St M w0 [blk b [sv s, jv ((s.length - r2.length : Nat) : Int)] 174] w := by
 have hsu := hsf.length_le
 obtain ⟨hd1, hd2, -⟩ := sP hq
 have hzz := hz
 refine aC func102 O ntmps102 (lb O) fun a Z => ?_
 replace Z := Z.p1 0 O
 skip
 refine aa fun _ G1 => wla Z O fun a Z => G1 <| ah fun _ G2 => ?_
 refine ah fun _ G3 => aL kr (aM kr fun w1 hxz => ?_)
 replace Y := Y.grow hxz
 refine aU (k := 0) 9 [4, 8] Z kr kr kr rfx ?_
 refine bS 9 (Z.p2 0 2 O) Y kr kr <| pl_m O <| pl_v (aQ O) <| pl_v (ac (v := pt b) O kr) <| pl_w (fun Y => ld Y 0 O O (isAgg9 _) O) <| pl_v (bp O O (runUnderlying9 _)) <| pl_m O <| pl_v (aQ O) <| pl_v (ac (v := po b 1) O kr) <| pl_w (fun Y => ld Y 0 O O (isAgg3 _) O) fun a w2 Z Y => ?_
 replace Z := Z.p4 0 2 8 12 O
 refine ab <| aN (k := 9) 11 [10] kr kr kr ?_
 refine nv Z <| pq (bG O O ⟨om, om⟩) <| pq ((v_lt O O).asb (b' := false) (by exact xz (by rw [hz]; omega))) <| fun a Z => ab <| aT kr ?_
 refine G3 <| aJ Z O ?_
 refine aw <| G2 <| ah fun _ G4 => aL kr (aM kr fun w3 hxz => ?_)
 replace Y := Y.grow hxz
 refine aU (k := 0) 13 [3, 7, 12] Z kr kr kr rfx ?_
 refine bS 13 (Z.p6 0 2 8 12 13 14 O) Y kr kr <| pl_m O <| pl_v (aQ O) <| pl_v (ac (v := pt b) O kr) <| pl_w (fun Y => ld Y 0 O O (isAgg9 _) O) <| pl_m O <| pl_v (aQ O) <| pl_v (ac (v := po b 1) O kr) <| pl_w (fun Y => ld Y 0 O O (isAgg3 _) O) <| pl_m O <| pl_v (aQ O) <| pl_v (ac (v := po b 1) O kr) <| pl_w (fun Y => ld Y 0 O O (isAgg3 _) O) <| pl_v ((aP O O ⟨om, om⟩).asi (m' := ((s.length - r2.length : Nat) : Int)) om) fun a w4 Z Y => ?_
 replace Z := Z.p5 0 2 20 24 29 O
 refine ab <| aN (k := 13) 15 [14] kr kr kr ?_
 refine nv Z <| pq ((g6 (xs := s) (l := s.length - r.length) (h := s.length - r.length + 32) O O O underlying9 (.inr ⟨.i64, xI (fun i => some (jv i)) hz⟩) (.inr ⟨.i64, xI (fun i => some (jv i)) om⟩) om om).as (v' := sv g) (by rw [← wN hq hsf])) <| xd O <| fun a Z => ab <| aT kr ?_
 refine G4 <| aa fun _ G5 => nv Z <| xc O <| pq (aQ O) <| pq (ac (v := po b 1) O kr) <| pq (ld Y 0 O O (isAgg3 _) O) <| pq ((aP O O ⟨om, om⟩).asi (m' := ((s.length - r2.length : Nat) : Int)) om) <| pq (aQ O) <| pq (ac (v := po b 1) O kr) <| fun a Z => aq 0 Z Y O O O (sizeOf3 _) O (lb O) (ds := [sv s, jv ((s.length - r2.length : Nat) : Int)]) O O fun a w5 Z Y => G5 ?_
 refine aa fun _ G6 => nv (Z.p2 2 3 O) <| xc O <| xd O <| fun a Z => G6 <| ap ?_
 refine am Z results102 (ag O ae) ?_
 exact ⟨O, Y.select [0] de⟩
theorem qt {M : Nat → Prop} {w0 : World} (b : Nat) (s r  : By) (z : Int) (ws : World) (hz : z = ((s.length - r.length : Nat) : Int)) (hsf : r <:+ s) (hsl : s.length ≤ 1000000) (hq : dgI r = none) (Y : St M w0 [blk b [sv s, jv z] 174] ws) :
  Pan Tryz.prog 102 #[pt b] ws fun c w => c = [{ v := .iface 171 (.agg #[]), recovered := false }] ∧ St M w0 [blk b [sv s, jv z] 174] w := by
 have hsu := hsf.length_le
 have hd1 := dg_no hq
 refine na func102 O ntmps102 (lb O) fun a Z => ?_
 replace Z := Z.p1 0 O
 skip
 refine aa fun _ G1 => wla Z O fun a Z => G1 <| ah fun _ G2 => ?_
 refine ah fun _ G3 => aL kr (aM kr fun w1 hxz => ?_)
 replace Y := Y.grow hxz
 refine aU (k := 0) 9 [4, 8] Z kr kr kr rfx ?_
 refine bS 9 (Z.p2 0 2 O) Y kr kr <| pl_m O <| pl_v (aQ O) <| pl_v (ac (v := pt b) O kr) <| pl_w (fun Y => ld Y 0 O O (isAgg9 _) O) <| pl_v (bp O O (runUnderlying9 _)) <| pl_m O <| pl_v (aQ O) <| pl_v (ac (v := po b 1) O kr) <| pl_w (fun Y => ld Y 0 O O (isAgg3 _) O) fun a w2 Z Y => ?_
 replace Z := Z.p4 0 2 8 12 O
 refine ab <| aN (k := 9) 11 [10] kr kr kr ?_
 refine nv Z <| pq (bG O O ⟨om, om⟩) <| pq ((v_lt O O).asb (b' := true) (by exact xt (by rw [hz]; omega))) <| fun a Z => ab <| aT kr ?_
 refine G3 <| aK Z O ?_
 refine bF <| aR 2 ?_
 refine nv Z <| pq (bj (v := .agg #[]) O kr) <| pq (cT O underlying171) <| fun a Z => ab <| dV Z O ?_
 exact eM (X := fun c w => c = [{ v := .iface 171 (.agg #[]), recovered := false }] ∧ St M w0 [blk b [sv s, jv z] 174] w) Z ⟨O, Y.select [0] de⟩
end Go.Proofs.YtliklcmddmpdfaaGreatDoor
namespace Go.Proofs.YtliklcmddmpdfaaGreatDoor
open Go.RowKit Go.PW _root_.Go.Proofs.Tryz
theorem re {P : Program} {w : World} {L : List (Nat × Value)} {dst : Option Tmp} {T T' ty : TypeId} {pos : String} {af : Array Edge} {x y : Operand} (hx : ev L x = some .nilIface) (hy : ev L y = some .nilIface) (hr : (binOp .eql T .nilIface .nilIface).run P w = .ok (.bool true) w) (hg : (eqGuard .eql T x y .nilIface .nilIface).run P w = .ok () w) : OpV P ⟨dst, .binOp .eql T x y T', ty, pos, af, none⟩ L w (.bool true) :=
 ⟨rfl, fun N df a h => by
  simp only [execOp, h.eval hx, h.eval hy, xK, hg, hr, xA]; rfl⟩
theorem bW {M : Nat → Prop} {w0 : World} (b2 b3 b4 : Nat) (c0 c1 c2 c3 c4 c5 c6 c7 c8 c9 c10 : Value) (ws : World) (Y : St M w0 [blk b2 [c0, c1, c2, c3, c4, c5, c6, c7, c8] 90, blk b3 [c9] 91, blk b4 [c10] 41] ws) :
  CallsDIn Fence.wide 0 Tryz.prog 98 #[pt b2, pt b3, pt b4] (.panicking [{ v := .iface 171 (.agg #[]), recovered := false }]) ws fun e u' w => u' = (.panicking [{ v := .iface 171 (.agg #[]), recovered := true }]) ∧ ∃ x, e = .returned x ∧ St M w0 [blk b2 [jv 0, jv 0, jv 0, jv 0, jv 0, jv 0, jv 0, jv 0, sv ([] : By)] 90, blk b3 [.slice none 0 0] 91, blk b4 [jv 150] 41] w  := by
 refine mQ (args := [pt b2, pt b3, pt b4]) func98 O ntmps98 (lb O) O O de (fun _ _ => O) (.inr ⟨O, O⟩) fun a Z => ?_
 replace Z := Z.p4 6 0 1 2 O
 skip
 refine au <| aa fun _ G1 => wlv Z (kf O O kr kr) fun a Z => G1 <| aJ Z O ?_
 refine aa fun _ G2 => nv Z <| pq (io O underlying171) <| pq (ar O O) <| pq (ar O O) <| fun a Z => G2 <| aK Z O ?_
 refine aa fun _ G3 => aB Z Y de (zeroValue171 _) (cs := []) O fun a w1 Z Y => aq 0 Z Y O O O (sizeOf171 _) O (lb O) (ds := []) O O fun a w2 Z Y => G3 ?_
 replace Y := Y.k3 14 O
 refine al <| wlv (Z.p3 0 1 2 O) (bj (v := .agg #[jv 0, jv 0, jv 0, jv 0, jv 0, jv 0, jv 0, jv 0, .string (⟨#[]⟩)]) O kr) fun a Z => aq 0 Z Y O O O (sizeOf90 _) O (lb O) (ds := [jv 0, jv 0, jv 0, jv 0, jv 0, jv 0, jv 0, jv 0, .string (⟨#[]⟩)]) O O fun a w3 Z Y => aq 1 Z Y O O O (sizeOf91 _) O (lb O) (ds := [.slice none 0 0]) O O fun a w4 Z Y => aq 2 Z Y O O O (sizeOf41 _) O (lb O) (ds := [jv 150]) O O fun a w5 Z Y => ab ?_
 refine iu Z results98 ae ?_
 exact Y.select [0, 1, 2] de
theorem ud (b2 b3 b4 : Nat) (ws : World) :
  CallsDIn Fence.wide 0 Tryz.prog 98 #[pt b2, pt b3, pt b4] .returning ws fun e u' w => u' = .returning ∧ ∃ x, e = .returned x ∧ Ext No ws w  := by
 refine mQ (args := [pt b2, pt b3, pt b4]) func98 O ntmps98 (lb O) O O de (fun _ _ => O) (.inl ⟨O, O, O⟩) fun a Z => ?_
 replace Y : St No ws [] ws := St.init ws
 refine au <| aa fun _ G1 => wlv (Z.p4 6 0 1 2 O) (re O O kr kr) fun a Z => G1 <| aK Z O ?_
 refine al <| wla Z O fun a Z => ab ?_
 refine iu Z results98 ae ?_
 exact Y.ext
theorem nq {M : Nat → Prop} {w0 w : World} (h : Ext M w0 w) : St M w0 [join []] w :=
 ⟨h, fun e he => by rw [xM.1 he]; exact ⟨⟨fun e he => (by cases he), List.Pairwise.nil⟩, fun k ⟨e, he, _⟩ => (by cases he)⟩, List.pairwise_singleton _ _⟩
theorem tY {l : List Pxy} {w : Wsh} {r : By} (h : r ≠ []) : shutH l w r = none := xB fun hh => h hh.1
theorem tL {l : List Pxy} {w : Wsh} {r : By} (h : bT w l = false) : shutH l w r = none := xB fun hh => by rw [h] at hh; cases hh.2
theorem tl {l : List Pxy} {w : Wsh} {r : By} (h1 : r = []) (h2 : bT w l = true) : shutH l w r = some (w, l) := xD ⟨h1, h2⟩
theorem uM {n a b : Int} (h : inB n a b = true) : a ≤ n ∧ n ≤ b := by simpa [inB] using h
theorem kh (s : By) (w0 : World) (hsl : s.length ≤ 1000000) :
  Ret Tryz.prog 39 #[sv s] w0 fun v w => (∃ x ps, cw s = some (x, ps) ∧ MemR w0 (fun lv : Value => .tuple #[.agg x.cells.toArray, lv, jv 0]) (fun lv => [own lv 144 7 (ps.map Pxy.cells)]) (fun _ => True) v w) ∨ (cw s = none ∧ v = .tuple #[.agg #[jv 0, jv 0, jv 0, jv 0, jv 0, jv 0, jv 0, jv 0, sv ([] : By)], .slice none 0 0, jv 150] ∧ Ext No w0 w) := by
 refine ql func39 O ntmps39 (lb O) fun a Z => ?_
 replace Y : St No w0 [] w0 := St.init w0
 refine aa fun _ G1 => aB (Z.p1 0 O) Y de (zeroValue90 _) (cs := [jv 0, jv 0, jv 0, jv 0, jv 0, jv 0, jv 0, jv 0, .string (⟨#[]⟩)]) O fun a w1 Z Y => aB Z Y de (zeroValue91 _) (cs := [.slice none 0 0]) O fun a w2 Z Y => aB Z Y de (zeroValue41 _) (cs := [jv 0]) O fun a w3 Z Y => G1 <| aa fun _ G2 => ?_
 refine wlv Z (bY O O) fun a Z => nm Z O fun a Z => G2 <| aa fun _ G3 => ?_
 refine nv Z <| xc O <| pq (bj (v := .agg #[sv s, jv 0]) O kr) <| fun a Z => aS Z Y de O (cs := [sv s, jv 0]) O fun a w4 Z Y => wla Z O fun a Z => G3 ?_
 have hd0 : cw s = getI s (fun n r => if inB n 0 4 = true then rdPxys n.toNat [] r tailH else none) := rfl
 refine bP fun _ G4 hP4 => aR 1 ?_
 refine wlm Z O fun a Z => ab ?_
 rcases hq1 : rdI s with _ | ⟨n3, r2⟩
 ·have hdn := hd0.trans (cJ hq1)
  refine cH (X := fun c => c = [{ v := .iface 171 (.agg #[]), recovered := false }]) 0 Z Y O call99 O (fun h => (bZ w3.hz s s  0 _ sm (List.suffix_refl s) hsl hq1 h).mono fun e w ⟨c, h1, h2, h3⟩ => ⟨c, h1, _, h2, h3⟩) ?_
  clear Y
  rintro _ w5 e9 rfl Y
  refine hP4 _ _ _ ?_
  replace Y := Y.s3 [3, 2, 1] de rfl
  exact br Z call98 (bW _ _ _ _ _ _ _ _ _ _ _ _ _ _ _ Y) results39 (fun w9 Y => ⟨(ak O (bf (Y.g 0 O) (isAgg90 _) (sizeOf90 _)) (ak O (aG (Y.g 1 O) (isAgg91 _)) (ak O (aG (Y.g 2 O) (isAgg41 _)) ae))), .inr ⟨hdn, O, Y.ext⟩⟩)
 have hd4 := hd0.trans (cO hq1)
 have hs5 := (dg hq1).trans (List.suffix_refl s)
 refine aR 1 ?_
 refine bd (R := fun u e' => u = jv n3 ∧ e' = blk w3.hz [sv s, jv ((s.length - r2.length : Nat) : Int)] 174) 0 Z Y O de call99 O (fun h => (cj w3.hz s s r2 n3 0 _ sm (List.suffix_refl s) hsl hq1 h).mono fun u w ⟨h1, h2⟩ => ⟨_, ⟨h1, O⟩, h2⟩) ?_
 clear Z Y
 rintro a w6 _ _ ⟨rfl, rfl⟩ Z Y
 try dsimp only at Y
 replace Y := Y.n4 O
 refine ab <| dB <| wla Z O fun a Z => G4 ?_
 replace Z := Z.p6 0 2 3 4 5 6 O
 refine ah fun _ G5 => aa fun _ G6 => wlm Z O fun a Z => ax Z Y de call100 O (cV n3 0 4 _) fun a w7 Z Y => wlv Z (bu O) fun a Z => G6 <| aA Z O (fun hc6 => ?_) (fun hc6 => ?_)
 ·try simp only [qz] at hc6
  have hdn : cw s = none := hd4.trans (xB (by rw [hc6]; decide))
  refine bF <| aR 2 ?_
  refine nv Z <| pq (bj (v := .agg #[]) O kr) <| pq (cT O underlying171) <| fun a Z => ab <| dV Z O ?_
  replace Y := Y.s3 [3, 2, 1] de rfl
  exact br Z call98 (bW _ _ _ _ _ _ _ _ _ _ _ _ _ _ _ Y) results39 (fun w9 Y => ⟨(ak O (bf (Y.g 0 O) (isAgg90 _) (sizeOf90 _)) (ak O (aG (Y.g 1 O) (isAgg91 _)) (ak O (aG (Y.g 2 O) (isAgg41 _)) ae))), .inr ⟨hdn, O, Y.ext⟩⟩)
 try simp only [qz] at hc6
 have hd9 := hd4.trans (xD hc6)
 have hib := uM hc6
 refine aw <| G5 <| ah fun _ G7 => ?_
 replace Y : St No w0 [own (.slice none 0 0) 144 7 (([] : List Pxy).map Pxy.cells), blk w3.hz [sv s, jv ((s.length - r2.length : Nat) : Int)] 174, blk w2.hz [jv 0] 41, blk w1.hz [.slice none 0 0] 91, blk w0.hz [jv 0, jv 0, jv 0, jv 0, jv 0, jv 0, jv 0, jv 0, .string (⟨#[]⟩)] 90] w7 := Y.nil_own
 refine aa fun _ G8 => nv Z <| xc O <| xc O <| fun a Z => G8 <| au ?_
 refine aY (fun m a w => ∃ (k : Nat) (acc : List Pxy) (r : By) (lv : Value), m = n3.toNat - k ∧ ((k : Int) ≤ n3) ∧ (cw s = rdPxys (n3.toNat - k) acc r tailH) ∧ (r <:+ s) ∧ (acc.length = k) ∧ Fr 98 [(0, sv s), (2, pt w0.hz), (3, pt w1.hz), (4, pt w2.hz), (5, pt w3.hz), (23, jv n3), (24, jv (k : Int))] [{ target := .fn (.func 98) #[pt w0.hz, pt w1.hz, pt w2.hz], args := #[] }] a ∧ St No w0 [blk w3.hz [sv s, jv ((s.length - r.length : Nat) : Int)] 174, blk w0.hz [jv 0, jv 0, jv 0, jv 0, jv 0, jv 0, jv 0, jv 0, .string (⟨#[]⟩)] 90, blk w1.hz [lv] 91, blk w2.hz [jv 0] 41, own lv 144 7 ((acc).map Pxy.cells)] w) _ ⟨0, [], r2, .slice none 0 0, O, om, hd9, hs5, O, Z.pick [0, 2, 3, 4, 5, 23, 24], Y.select [1, 4, 3, 2, 0] de⟩ ?_
 rintro _ a w8 ⟨k, acc, r, lv, rfl, hk, hdl, hsl2, hal, Z, Y⟩
 refine aa fun _ G9 => wlv Z (v_lt O O) fun a Z => G9 <| ah fun _ G10 => ?_
 refine aA Z O (fun hc7 => ?_) (fun hc7 => ?_)
 ·try simp only [qz] at hc7
  obtain ⟨mm, hm⟩ : ∃ m, n3.toNat - k = m + 1 := ⟨n3.toNat - k - 1, by omega⟩
  rw [hm] at hdl
  have hdk : cw s = kindI 2 r _ := hdl
  refine aw <| G10 <| ah fun _ G11 => au <| aa fun _ G12 => aB Z Y de (zeroValue144 _) (cs := [jv 0, jv 0, jv 0, jv 0, jv 0, jv 0, .string (⟨#[]⟩)]) O fun a w9 Z Y => G12 <| bP fun _ G13 hP13 => ?_
  refine aR 1 ?_
  refine wlm Z O fun a Z => ab ?_
  rcases hq8 : kdI 2 r with _ | r9
  ·have hdn := hdk.trans (lF hq8)
   refine cH (X := fun c => c = [{ v := .iface 171 (.agg #[]), recovered := false }]) 1 Z Y O call101 O (fun h => (nI w3.hz s r  2 ((s.length - r.length : Nat) : Int) _ O hsl2 hsl hq8 h).mono fun e w ⟨c, h1, h2, h3⟩ => ⟨c, h1, _, h2, nq h3⟩) ?_
   clear Y
   rintro _ w10 e9 rfl Y
   refine hP13 _ _ _ ?_
   replace Y := Y.s3 [2, 3, 4] de rfl
   exact br Z call98 (bW _ _ _ _ _ _ _ _ _ _ _ _ _ _ _ Y) results39 (fun w9 Y => ⟨(ak O (bf (Y.g 0 O) (isAgg90 _) (sizeOf90 _)) (ak O (aG (Y.g 1 O) (isAgg91 _)) (ak O (aG (Y.g 2 O) (isAgg41 _)) ae))), .inr ⟨hdn, O, Y.ext⟩⟩)
  have hd10 := hdk.trans (ov hq8)
  have hs11 := (qo hq8).trans hsl2
  refine aR 1 ?_
  refine bd (R := fun u e' => u = .tuple #[] ∧ e' = blk w3.hz [sv s, jv ((s.length - r9.length : Nat) : Int)] 174) 1 Z Y O de call101 O (fun h => (qg w3.hz s r r9 2 ((s.length - r.length : Nat) : Int) _ O hsl2 hsl hq8 h).mono fun u w ⟨h1, h2⟩ => ⟨_, ⟨h1, O⟩, h2⟩) ?_
  clear Z Y
  rintro a w11 _ _ ⟨rfl, rfl⟩ Z Y
  try dsimp only at Y
  replace Y := Y.n6 O
  refine ab <| dB <| G13 <| ah fun _ G14 => ?_
  refine aa fun _ G15 => nv Z <| pq (ac (v := pt w8.hz) O kr) <| pq (ac (v := po w8.hz 1) O kr) <| pq (ac (v := po w8.hz 2) O kr) <| pq (ac (v := po w8.hz 2) O kr) <| pq (ac (v := po w8.hz 2) O kr) <| pq (ac (v := po w8.hz 3) O kr) <| pq (ac (v := po w8.hz 4) O kr) <| pq (ac (v := po w8.hz 4) O kr) <| pq (ac (v := po w8.hz 4) O kr) <| pq (ac (v := po w8.hz 5) O kr) <| pq (bj (v := .agg #[pt w8.hz, po w8.hz 1, po w8.hz 2, po w8.hz 3, po w8.hz 4, po w8.hz 5]) O kr) <| xc O <| fun a Z => G15 ?_
  replace Z := Z.p10 0 2 3 4 5 23 24 7 38 39 O
  refine au <| eE 7 ?_
  refine bM <| aa fun _ G16 => wlv Z ((v_lt O O).asb (b' := true) O) fun a Z => G16 <| ah fun _ G17 => ?_
  refine aK Z O ?_
  refine aw <| G17 <| ah fun _ G18 => au <| aa fun _ G19 => nv Z <| pq (cg (v := pt w8.hz) O O kr) <| xd O <| fun a Z => G19 <| bF ?_
  refine aR 2 ?_
  refine nv Z <| xc O <| xc O <| fun a Z => ab ?_
  rcases hq12 : rdI r9 with _ | ⟨n14, r13⟩
  ·have hdn := hd10.trans (cJ hq12)
   refine cH (X := fun c => c = [{ v := .iface 171 (.agg #[]), recovered := false }]) 1 Z Y O call99 O (fun h => (bZ w3.hz s r9  ((s.length - r9.length : Nat) : Int) _ O hs11 hsl hq12 h).mono fun e w ⟨c, h1, h2, h3⟩ => ⟨c, h1, _, h2, h3⟩) ?_
   clear Y
   rintro _ w12 e9 rfl Y
   replace Y := Y.s3 [2, 3, 4] de rfl
   exact br Z call98 (bW _ _ _ _ _ _ _ _ _ _ _ _ _ _ _ Y) results39 (fun w9 Y => ⟨(ak O (bf (Y.g 0 O) (isAgg90 _) (sizeOf90 _)) (ak O (aG (Y.g 1 O) (isAgg91 _)) (ak O (aG (Y.g 2 O) (isAgg41 _)) ae))), .inr ⟨hdn, O, Y.ext⟩⟩)
  have hd15 := hd10.trans (cO hq12)
  have hs16 := (dg hq12).trans hs11
  refine aR 1 ?_
  refine bd (R := fun u e' => u = jv n14 ∧ e' = blk w3.hz [sv s, jv ((s.length - r13.length : Nat) : Int)] 174) 1 Z Y O de call99 O (fun h => (cj w3.hz s r9 r13 n14 ((s.length - r9.length : Nat) : Int) _ O hs11 hsl hq12 h).mono fun u w ⟨h1, h2⟩ => ⟨_, ⟨h1, O⟩, h2⟩) ?_
  clear Z Y
  rintro a w13 _ _ ⟨rfl, rfl⟩ Z Y
  try dsimp only at Y
  replace Y := Y.n6 O
  refine ab <| dB <| wlv Z (aQ O) fun a Z => aq 0 Z Y O O O (sizeOf3 _) O (lb O) (ds := [jv n14, jv 0, jv 0, jv 0, jv 0, jv 0, .string (⟨#[]⟩)]) O O fun a w14 Z Y => ab <| G18 ?_
  refine al <| nv (Z.p10 0 2 3 4 5 23 24 7 38 39 O) <| pq ((aP O O de).asi (m' := 1) O) <| xc O <| fun a Z => ab <| bM <| aa fun _ G20 => wlv Z ((v_lt O O).asb (b' := true) O) fun a Z => G20 <| ah fun _ G21 => ?_
  refine aK Z O ?_
  refine aw <| G21 <| ah fun _ G22 => au <| aa fun _ G23 => nv Z <| pq (cg (v := po w8.hz 1) O O kr) <| xd O <| fun a Z => G23 <| bF ?_
  refine aR 2 ?_
  refine nv Z <| xc O <| xc O <| fun a Z => ab ?_
  rcases hq17 : rdI r13 with _ | ⟨n19, r18⟩
  ·have hdn := hd15.trans (cJ hq17)
   refine cH (X := fun c => c = [{ v := .iface 171 (.agg #[]), recovered := false }]) 1 Z Y O call99 O (fun h => (bZ w3.hz s r13  ((s.length - r13.length : Nat) : Int) _ O hs16 hsl hq17 h).mono fun e w ⟨c, h1, h2, h3⟩ => ⟨c, h1, _, h2, h3⟩) ?_
   clear Y
   rintro _ w15 e9 rfl Y
   replace Y := Y.s3 [2, 3, 4] de rfl
   exact br Z call98 (bW _ _ _ _ _ _ _ _ _ _ _ _ _ _ _ Y) results39 (fun w9 Y => ⟨(ak O (bf (Y.g 0 O) (isAgg90 _) (sizeOf90 _)) (ak O (aG (Y.g 1 O) (isAgg91 _)) (ak O (aG (Y.g 2 O) (isAgg41 _)) ae))), .inr ⟨hdn, O, Y.ext⟩⟩)
  have hd20 := hd15.trans (cO hq17)
  have hs21 := (dg hq17).trans hs16
  refine aR 1 ?_
  refine bd (R := fun u e' => u = jv n19 ∧ e' = blk w3.hz [sv s, jv ((s.length - r18.length : Nat) : Int)] 174) 1 Z Y O de call99 O (fun h => (cj w3.hz s r13 r18 n19 ((s.length - r13.length : Nat) : Int) _ O hs16 hsl hq17 h).mono fun u w ⟨h1, h2⟩ => ⟨_, ⟨h1, O⟩, h2⟩) ?_
  clear Z Y
  rintro a w16 _ _ ⟨rfl, rfl⟩ Z Y
  try dsimp only at Y
  replace Y := Y.n6 O
  refine ab <| dB <| wlv Z (aQ O) fun a Z => aq 0 Z Y O O O (sizeOf3 _) O (lb O) (ds := [jv n14, jv n19, jv 0, jv 0, jv 0, jv 0, .string (⟨#[]⟩)]) O O fun a w17 Z Y => ab <| G22 ?_
  refine al <| nv (Z.p10 0 2 3 4 5 23 24 7 38 39 O) <| pq ((aP O O de).asi (m' := 2) O) <| xc O <| fun a Z => ab <| bM <| aa fun _ G24 => wlv Z ((v_lt O O).asb (b' := true) O) fun a Z => G24 <| ah fun _ G25 => ?_
  refine aK Z O ?_
  refine aw <| G25 <| ah fun _ G26 => au <| aa fun _ G27 => nv Z <| pq (cg (v := po w8.hz 2) O O kr) <| xd O <| fun a Z => G27 <| bF ?_
  refine aR 2 ?_
  refine nv Z <| xc O <| xc O <| fun a Z => ab ?_
  rcases hq22 : rdI r18 with _ | ⟨n24, r23⟩
  ·have hdn := hd20.trans (cJ hq22)
   refine cH (X := fun c => c = [{ v := .iface 171 (.agg #[]), recovered := false }]) 1 Z Y O call99 O (fun h => (bZ w3.hz s r18  ((s.length - r18.length : Nat) : Int) _ O hs21 hsl hq22 h).mono fun e w ⟨c, h1, h2, h3⟩ => ⟨c, h1, _, h2, h3⟩) ?_
   clear Y
   rintro _ w18 e9 rfl Y
   replace Y := Y.s3 [2, 3, 4] de rfl
   exact br Z call98 (bW _ _ _ _ _ _ _ _ _ _ _ _ _ _ _ Y) results39 (fun w9 Y => ⟨(ak O (bf (Y.g 0 O) (isAgg90 _) (sizeOf90 _)) (ak O (aG (Y.g 1 O) (isAgg91 _)) (ak O (aG (Y.g 2 O) (isAgg41 _)) ae))), .inr ⟨hdn, O, Y.ext⟩⟩)
  have hd25 := hd20.trans (cO hq22)
  have hs26 := (dg hq22).trans hs21
  refine aR 1 ?_
  refine bd (R := fun u e' => u = jv n24 ∧ e' = blk w3.hz [sv s, jv ((s.length - r23.length : Nat) : Int)] 174) 1 Z Y O de call99 O (fun h => (cj w3.hz s r18 r23 n24 ((s.length - r18.length : Nat) : Int) _ O hs21 hsl hq22 h).mono fun u w ⟨h1, h2⟩ => ⟨_, ⟨h1, O⟩, h2⟩) ?_
  clear Z Y
  rintro a w19 _ _ ⟨rfl, rfl⟩ Z Y
  try dsimp only at Y
  replace Y := Y.n6 O
  refine ab <| dB <| wlv Z (aQ O) fun a Z => aq 0 Z Y O O O (sizeOf3 _) O (lb O) (ds := [jv n14, jv n19, jv n24, jv 0, jv 0, jv 0, .string (⟨#[]⟩)]) O O fun a w20 Z Y => ab <| G26 ?_
  refine al <| nv (Z.p10 0 2 3 4 5 23 24 7 38 39 O) <| pq ((aP O O de).asi (m' := 3) O) <| xc O <| fun a Z => ab <| bM <| aa fun _ G28 => wlv Z ((v_lt O O).asb (b' := true) O) fun a Z => G28 <| ah fun _ G29 => ?_
  refine aK Z O ?_
  refine aw <| G29 <| ah fun _ G30 => au <| aa fun _ G31 => nv Z <| pq (cg (v := po w8.hz 3) O O kr) <| xd O <| fun a Z => G31 <| bF ?_
  refine aR 2 ?_
  refine nv Z <| xc O <| xc O <| fun a Z => ab ?_
  rcases hq27 : rdI r23 with _ | ⟨n29, r28⟩
  ·have hdn := hd25.trans (cJ hq27)
   refine cH (X := fun c => c = [{ v := .iface 171 (.agg #[]), recovered := false }]) 1 Z Y O call99 O (fun h => (bZ w3.hz s r23  ((s.length - r23.length : Nat) : Int) _ O hs26 hsl hq27 h).mono fun e w ⟨c, h1, h2, h3⟩ => ⟨c, h1, _, h2, h3⟩) ?_
   clear Y
   rintro _ w21 e9 rfl Y
   replace Y := Y.s3 [2, 3, 4] de rfl
   exact br Z call98 (bW _ _ _ _ _ _ _ _ _ _ _ _ _ _ _ Y) results39 (fun w9 Y => ⟨(ak O (bf (Y.g 0 O) (isAgg90 _) (sizeOf90 _)) (ak O (aG (Y.g 1 O) (isAgg91 _)) (ak O (aG (Y.g 2 O) (isAgg41 _)) ae))), .inr ⟨hdn, O, Y.ext⟩⟩)
  have hd30 := hd25.trans (cO hq27)
  have hs31 := (dg hq27).trans hs26
  refine aR 1 ?_
  refine bd (R := fun u e' => u = jv n29 ∧ e' = blk w3.hz [sv s, jv ((s.length - r28.length : Nat) : Int)] 174) 1 Z Y O de call99 O (fun h => (cj w3.hz s r23 r28 n29 ((s.length - r23.length : Nat) : Int) _ O hs26 hsl hq27 h).mono fun u w ⟨h1, h2⟩ => ⟨_, ⟨h1, O⟩, h2⟩) ?_
  clear Z Y
  rintro a w22 _ _ ⟨rfl, rfl⟩ Z Y
  try dsimp only at Y
  replace Y := Y.n6 O
  refine ab <| dB <| wlv Z (aQ O) fun a Z => aq 0 Z Y O O O (sizeOf3 _) O (lb O) (ds := [jv n14, jv n19, jv n24, jv n29, jv 0, jv 0, .string (⟨#[]⟩)]) O O fun a w23 Z Y => ab <| G30 ?_
  refine al <| nv (Z.p10 0 2 3 4 5 23 24 7 38 39 O) <| pq ((aP O O de).asi (m' := 4) O) <| xc O <| fun a Z => ab <| bM <| aa fun _ G32 => wlv Z ((v_lt O O).asb (b' := true) O) fun a Z => G32 <| ah fun _ G33 => ?_
  refine aK Z O ?_
  refine aw <| G33 <| ah fun _ G34 => au <| aa fun _ G35 => nv Z <| pq (cg (v := po w8.hz 4) O O kr) <| xd O <| fun a Z => G35 <| bF ?_
  refine aR 2 ?_
  refine nv Z <| xc O <| xc O <| fun a Z => ab ?_
  rcases hq32 : rdI r28 with _ | ⟨n34, r33⟩
  ·have hdn := hd30.trans (cJ hq32)
   refine cH (X := fun c => c = [{ v := .iface 171 (.agg #[]), recovered := false }]) 1 Z Y O call99 O (fun h => (bZ w3.hz s r28  ((s.length - r28.length : Nat) : Int) _ O hs31 hsl hq32 h).mono fun e w ⟨c, h1, h2, h3⟩ => ⟨c, h1, _, h2, h3⟩) ?_
   clear Y
   rintro _ w24 e9 rfl Y
   replace Y := Y.s3 [2, 3, 4] de rfl
   exact br Z call98 (bW _ _ _ _ _ _ _ _ _ _ _ _ _ _ _ Y) results39 (fun w9 Y => ⟨(ak O (bf (Y.g 0 O) (isAgg90 _) (sizeOf90 _)) (ak O (aG (Y.g 1 O) (isAgg91 _)) (ak O (aG (Y.g 2 O) (isAgg41 _)) ae))), .inr ⟨hdn, O, Y.ext⟩⟩)
  have hd35 := hd30.trans (cO hq32)
  have hs36 := (dg hq32).trans hs31
  refine aR 1 ?_
  refine bd (R := fun u e' => u = jv n34 ∧ e' = blk w3.hz [sv s, jv ((s.length - r33.length : Nat) : Int)] 174) 1 Z Y O de call99 O (fun h => (cj w3.hz s r28 r33 n34 ((s.length - r28.length : Nat) : Int) _ O hs31 hsl hq32 h).mono fun u w ⟨h1, h2⟩ => ⟨_, ⟨h1, O⟩, h2⟩) ?_
  clear Z Y
  rintro a w25 _ _ ⟨rfl, rfl⟩ Z Y
  try dsimp only at Y
  replace Y := Y.n6 O
  refine ab <| dB <| wlv Z (aQ O) fun a Z => aq 0 Z Y O O O (sizeOf3 _) O (lb O) (ds := [jv n14, jv n19, jv n24, jv n29, jv n34, jv 0, .string (⟨#[]⟩)]) O O fun a w26 Z Y => ab <| G34 ?_
  refine al <| nv (Z.p10 0 2 3 4 5 23 24 7 38 39 O) <| pq ((aP O O de).asi (m' := 5) O) <| xc O <| fun a Z => ab <| bM <| aa fun _ G36 => wlv Z ((v_lt O O).asb (b' := true) O) fun a Z => G36 <| ah fun _ G37 => ?_
  refine aK Z O ?_
  refine aw <| G37 <| ah fun _ G38 => au <| aa fun _ G39 => nv Z <| pq (cg (v := po w8.hz 5) O O kr) <| xd O <| fun a Z => G39 <| bF ?_
  refine aR 2 ?_
  refine nv Z <| xc O <| xc O <| fun a Z => ab ?_
  rcases hq37 : rdI r33 with _ | ⟨n39, r38⟩
  ·have hdn := hd35.trans (cJ hq37)
   refine cH (X := fun c => c = [{ v := .iface 171 (.agg #[]), recovered := false }]) 1 Z Y O call99 O (fun h => (bZ w3.hz s r33  ((s.length - r33.length : Nat) : Int) _ O hs36 hsl hq37 h).mono fun e w ⟨c, h1, h2, h3⟩ => ⟨c, h1, _, h2, h3⟩) ?_
   clear Y
   rintro _ w27 e9 rfl Y
   replace Y := Y.s3 [2, 3, 4] de rfl
   exact br Z call98 (bW _ _ _ _ _ _ _ _ _ _ _ _ _ _ _ Y) results39 (fun w9 Y => ⟨(ak O (bf (Y.g 0 O) (isAgg90 _) (sizeOf90 _)) (ak O (aG (Y.g 1 O) (isAgg91 _)) (ak O (aG (Y.g 2 O) (isAgg41 _)) ae))), .inr ⟨hdn, O, Y.ext⟩⟩)
  have hd40 := hd35.trans (cO hq37)
  have hs41 := (dg hq37).trans hs36
  refine aR 1 ?_
  refine bd (R := fun u e' => u = jv n39 ∧ e' = blk w3.hz [sv s, jv ((s.length - r38.length : Nat) : Int)] 174) 1 Z Y O de call99 O (fun h => (cj w3.hz s r33 r38 n39 ((s.length - r33.length : Nat) : Int) _ O hs36 hsl hq37 h).mono fun u w ⟨h1, h2⟩ => ⟨_, ⟨h1, O⟩, h2⟩) ?_
  clear Z Y
  rintro a w28 _ _ ⟨rfl, rfl⟩ Z Y
  try dsimp only at Y
  replace Y := Y.n6 O
  refine ab <| dB <| wlv Z (aQ O) fun a Z => aq 0 Z Y O O O (sizeOf3 _) O (lb O) (ds := [jv n14, jv n19, jv n24, jv n29, jv n34, jv n39, .string (⟨#[]⟩)]) O O fun a w29 Z Y => ab <| G38 ?_
  refine al <| nv (Z.p10 0 2 3 4 5 23 24 7 38 39 O) <| pq ((aP O O de).asi (m' := 6) O) <| xc O <| fun a Z => ab <| bM <| aa fun _ G40 => wlv Z ((v_lt O O).asb (b' := false) O) fun a Z => G40 <| ah fun _ G41 => ?_
  refine aJ Z O ?_
  refine aO <| G14 <| bP fun _ G42 hP42 => aR 1 ?_
  refine wlm Z O fun a Z => ab ?_
  rcases hq42 : dgI r38 with _ | ⟨n44, r43⟩
  ·have hdn := hd40.trans (ke hq42)
   refine cH (X := fun c => c = [{ v := .iface 171 (.agg #[]), recovered := false }]) 1 Z Y O call102 O (fun h => (qt w3.hz s r38  ((s.length - r38.length : Nat) : Int) _ O hs41 hsl hq42 h).mono fun e w ⟨c, h1, h2, h3⟩ => ⟨c, h1, _, h2, h3⟩) ?_
   clear Y
   rintro _ w30 e9 rfl Y
   refine hP42 _ _ _ ?_
   replace Y := Y.s3 [2, 3, 4] de rfl
   exact br Z call98 (bW _ _ _ _ _ _ _ _ _ _ _ _ _ _ _ Y) results39 (fun w9 Y => ⟨(ak O (bf (Y.g 0 O) (isAgg90 _) (sizeOf90 _)) (ak O (aG (Y.g 1 O) (isAgg91 _)) (ak O (aG (Y.g 2 O) (isAgg41 _)) ae))), .inr ⟨hdn, O, Y.ext⟩⟩)
  have hd45 := hd40.trans (lV hq42)
  have hs46 := (qL hq42).trans hs41
  refine aR 1 ?_
  refine bd (R := fun u e' => u = sv n44 ∧ e' = blk w3.hz [sv s, jv ((s.length - r43.length : Nat) : Int)] 174) 1 Z Y O de call102 O (fun h => (tC w3.hz s r38 r43 n44 ((s.length - r38.length : Nat) : Int) _ O hs41 hsl hq42 h).mono fun u w ⟨h1, h2⟩ => ⟨_, ⟨h1, O⟩, h2⟩) ?_
  clear Z Y
  rintro a w31 _ _ ⟨rfl, rfl⟩ Z Y
  try dsimp only at Y
  replace Y := Y.n6 O
  refine ab <| dB <| wlv Z (ac (v := po w8.hz 6) O kr) fun a Z => aq 0 Z Y O O O (sizeOf9 _) O (lb O) (ds := [jv n14, jv n19, jv n24, jv n29, jv n34, jv n39, sv n44]) O O fun a w32 Z Y => G42 ?_
  refine al <| nv (Z.p8 0 2 3 4 5 23 24 7 O) <| pq (ld Y 3 O O (isAgg91 _) O) <| pq (ai (Y.g 0 O) O (isAgg144 _) (sizeOf144 _)) <| fun a Z => aE (E := 144) (sz := 7) O [[jv n14, jv n19, jv n24, jv n29, jv n34, jv n39, sv n44]] kr sm O de de Z Y fun a w33 Z Y => bn (i := 6) (sT := 91) (inf := Tryz.t144) (z := .agg #[jv 0, jv 0, jv 0, jv 0, jv 0, jv 0, .string (⟨#[]⟩)]) (b := 0) (off := 0) (m := 0) (c := 0) O O O (Y.ow 0 O) sm underlying91 O O O O de zo (by have hby : Tryz.t144.bytes = 64 := O; simp [big, hby]; omega) (by have hby : Tryz.t144.bytes = 64 := O; simp [big, hby]; omega) de Z Y fun a w34 s47 Z Y _ => ?_
  replace Y : St No w0 [own (.slice (some ⟨w32.hz, 0, none⟩) 1 1) 144 7 ([[jv n14, jv n19, jv n24, jv n29, jv n34, jv n39, sv n44]]), blk w8.hz [jv n14, jv n19, jv n24, jv n29, jv n34, jv n39, sv n44] 144, blk w3.hz [sv s, jv ((s.length - r43.length : Nat) : Int)] 174, blk w0.hz [jv 0, jv 0, jv 0, jv 0, jv 0, jv 0, jv 0, jv 0, .string (⟨#[]⟩)] 90, blk w1.hz [lv] 91, blk w2.hz [jv 0] 41, own s47 144 7 ((acc ++ [(⟨n14, n19, n24, n29, n34, n39, n44⟩ : Pxy)]).map Pxy.cells)] w34 := by rw [yo]; exact Y
  refine cb 4 Z Y (Y.ow 6 O) O O O (sizeOf91 _) (lb O) (ds := [s47]) O O fun a w35 Z Y => ab <| G11 <| al <| nv Z <| pq (aP O O ⟨om, om⟩) <| xc O <| fun a Z => ab ?_
  refine ⟨_, ?_, k + 1, acc ++ [(⟨n14, n19, n24, n29, n34, n39, n44⟩ : Pxy)], r43, s47, O, om, (by rw [show n3.toNat - (k + 1) = mm from by omega]; exact hd45), hs46, (by rw [xj, hal]; rfl), Z.pick [0, 2, 3, 4, 5, 23, 24], Y.select [2, 3, 4, 5, 6] de⟩
  omega
 try simp only [qz] at hc7
 have hm : n3.toNat - k = 0 := by omega
 rw [hm] at hdl
 have hdk : cw s = kindI 1 r _ := hdl
 refine aO <| G7 <| bP fun _ G43 hP43 => aR 1 ?_
 refine wlm Z O fun a Z => ab ?_
 rcases hq48 : kdI 1 r with _ | r49
 ·have hdn := hdk.trans (lF hq48)
  refine cH (X := fun c => c = [{ v := .iface 171 (.agg #[]), recovered := false }]) 0 Z Y O call101 O (fun h => (nI w3.hz s r  1 ((s.length - r.length : Nat) : Int) _ O hsl2 hsl hq48 h).mono fun e w ⟨c, h1, h2, h3⟩ => ⟨c, h1, _, h2, nq h3⟩) ?_
  clear Y
  rintro _ w36 e9 rfl Y
  refine hP43 _ _ _ ?_
  replace Y := Y.s3 [1, 2, 3] de rfl
  exact br Z call98 (bW _ _ _ _ _ _ _ _ _ _ _ _ _ _ _ Y) results39 (fun w9 Y => ⟨(ak O (bf (Y.g 0 O) (isAgg90 _) (sizeOf90 _)) (ak O (aG (Y.g 1 O) (isAgg91 _)) (ak O (aG (Y.g 2 O) (isAgg41 _)) ae))), .inr ⟨hdn, O, Y.ext⟩⟩)
 have hd50 := hdk.trans (ov hq48)
 have hs51 := (qo hq48).trans hsl2
 refine aR 1 ?_
 refine bd (R := fun u e' => u = .tuple #[] ∧ e' = blk w3.hz [sv s, jv ((s.length - r49.length : Nat) : Int)] 174) 0 Z Y O de call101 O (fun h => (qg w3.hz s r r49 1 ((s.length - r.length : Nat) : Int) _ O hsl2 hsl hq48 h).mono fun u w ⟨h1, h2⟩ => ⟨_, ⟨h1, O⟩, h2⟩) ?_
 clear Z Y
 rintro a w37 _ _ ⟨rfl, rfl⟩ Z Y
 try dsimp only at Y
 replace Y := Y.n5 O
 refine ab <| dB <| G43 ?_
 refine ah fun _ G44 => aa fun _ G45 => nv (Z.p5 0 2 3 4 5 O) <| pq (ac (v := pt w0.hz) O kr) <| pq (ac (v := po w0.hz 1) O kr) <| pq (ac (v := po w0.hz 2) O kr) <| pq (ac (v := po w0.hz 2) O kr) <| pq (ac (v := po w0.hz 2) O kr) <| pq (ac (v := po w0.hz 3) O kr) <| pq (ac (v := po w0.hz 4) O kr) <| pq (ac (v := po w0.hz 5) O kr) <| pq (ac (v := po w0.hz 6) O kr) <| pq (ac (v := po w0.hz 6) O kr) <| pq (ac (v := po w0.hz 6) O kr) <| pq (ac (v := po w0.hz 7) O kr) <| pq (bj (v := .agg #[pt w0.hz, po w0.hz 1, po w0.hz 2, po w0.hz 3, po w0.hz 4, po w0.hz 5, po w0.hz 6, po w0.hz 7]) O kr) <| xc O <| fun a Z => G45 ?_
 replace Z := Z.p7 0 2 3 4 5 69 70 O
 refine au <| eE 9 ?_
 refine bM <| aa fun _ G46 => wlv Z ((v_lt O O).asb (b' := true) O) fun a Z => G46 <| ah fun _ G47 => ?_
 refine aK Z O ?_
 refine aw <| G47 <| ah fun _ G48 => au <| aa fun _ G49 => nv Z <| pq (cg (v := pt w0.hz) O O kr) <| xd O <| fun a Z => G49 <| bF ?_
 refine aR 2 ?_
 refine nv Z <| xc O <| xc O <| fun a Z => ab ?_
 rcases hq52 : rdI r49 with _ | ⟨n54, r53⟩
 ·have hdn := hd50.trans (cJ hq52)
  refine cH (X := fun c => c = [{ v := .iface 171 (.agg #[]), recovered := false }]) 0 Z Y O call99 O (fun h => (bZ w3.hz s r49  ((s.length - r49.length : Nat) : Int) _ O hs51 hsl hq52 h).mono fun e w ⟨c, h1, h2, h3⟩ => ⟨c, h1, _, h2, h3⟩) ?_
  clear Y
  rintro _ w38 e9 rfl Y
  replace Y := Y.s3 [1, 2, 3] de rfl
  exact br Z call98 (bW _ _ _ _ _ _ _ _ _ _ _ _ _ _ _ Y) results39 (fun w9 Y => ⟨(ak O (bf (Y.g 0 O) (isAgg90 _) (sizeOf90 _)) (ak O (aG (Y.g 1 O) (isAgg91 _)) (ak O (aG (Y.g 2 O) (isAgg41 _)) ae))), .inr ⟨hdn, O, Y.ext⟩⟩)
 have hd55 := hd50.trans (cO hq52)
 have hs56 := (dg hq52).trans hs51
 refine aR 1 ?_
 refine bd (R := fun u e' => u = jv n54 ∧ e' = blk w3.hz [sv s, jv ((s.length - r53.length : Nat) : Int)] 174) 0 Z Y O de call99 O (fun h => (cj w3.hz s r49 r53 n54 ((s.length - r49.length : Nat) : Int) _ O hs51 hsl hq52 h).mono fun u w ⟨h1, h2⟩ => ⟨_, ⟨h1, O⟩, h2⟩) ?_
 clear Z Y
 rintro a w39 _ _ ⟨rfl, rfl⟩ Z Y
 try dsimp only at Y
 replace Y := Y.n5 O
 refine ab <| dB <| wlv Z (aQ O) fun a Z => aq 1 Z Y O O O (sizeOf3 _) O (lb O) (ds := [jv n54, jv 0, jv 0, jv 0, jv 0, jv 0, jv 0, jv 0, .string (⟨#[]⟩)]) O O fun a w40 Z Y => ab <| G48 ?_
 refine al <| nv (Z.p7 0 2 3 4 5 69 70 O) <| pq ((aP O O de).asi (m' := 1) O) <| xc O <| fun a Z => ab <| bM <| aa fun _ G50 => wlv Z ((v_lt O O).asb (b' := true) O) fun a Z => G50 <| ah fun _ G51 => ?_
 refine aK Z O ?_
 refine aw <| G51 <| ah fun _ G52 => au <| aa fun _ G53 => nv Z <| pq (cg (v := po w0.hz 1) O O kr) <| xd O <| fun a Z => G53 <| bF ?_
 refine aR 2 ?_
 refine nv Z <| xc O <| xc O <| fun a Z => ab ?_
 rcases hq57 : rdI r53 with _ | ⟨n59, r58⟩
 ·have hdn := hd55.trans (cJ hq57)
  refine cH (X := fun c => c = [{ v := .iface 171 (.agg #[]), recovered := false }]) 0 Z Y O call99 O (fun h => (bZ w3.hz s r53  ((s.length - r53.length : Nat) : Int) _ O hs56 hsl hq57 h).mono fun e w ⟨c, h1, h2, h3⟩ => ⟨c, h1, _, h2, h3⟩) ?_
  clear Y
  rintro _ w41 e9 rfl Y
  replace Y := Y.s3 [1, 2, 3] de rfl
  exact br Z call98 (bW _ _ _ _ _ _ _ _ _ _ _ _ _ _ _ Y) results39 (fun w9 Y => ⟨(ak O (bf (Y.g 0 O) (isAgg90 _) (sizeOf90 _)) (ak O (aG (Y.g 1 O) (isAgg91 _)) (ak O (aG (Y.g 2 O) (isAgg41 _)) ae))), .inr ⟨hdn, O, Y.ext⟩⟩)
 have hd60 := hd55.trans (cO hq57)
 have hs61 := (dg hq57).trans hs56
 refine aR 1 ?_
 refine bd (R := fun u e' => u = jv n59 ∧ e' = blk w3.hz [sv s, jv ((s.length - r58.length : Nat) : Int)] 174) 0 Z Y O de call99 O (fun h => (cj w3.hz s r53 r58 n59 ((s.length - r53.length : Nat) : Int) _ O hs56 hsl hq57 h).mono fun u w ⟨h1, h2⟩ => ⟨_, ⟨h1, O⟩, h2⟩) ?_
 clear Z Y
 rintro a w42 _ _ ⟨rfl, rfl⟩ Z Y
 try dsimp only at Y
 replace Y := Y.n5 O
 refine ab <| dB <| wlv Z (aQ O) fun a Z => aq 1 Z Y O O O (sizeOf3 _) O (lb O) (ds := [jv n54, jv n59, jv 0, jv 0, jv 0, jv 0, jv 0, jv 0, .string (⟨#[]⟩)]) O O fun a w43 Z Y => ab <| G52 ?_
 refine al <| nv (Z.p7 0 2 3 4 5 69 70 O) <| pq ((aP O O de).asi (m' := 2) O) <| xc O <| fun a Z => ab <| bM <| aa fun _ G54 => wlv Z ((v_lt O O).asb (b' := true) O) fun a Z => G54 <| ah fun _ G55 => ?_
 refine aK Z O ?_
 refine aw <| G55 <| ah fun _ G56 => au <| aa fun _ G57 => nv Z <| pq (cg (v := po w0.hz 2) O O kr) <| xd O <| fun a Z => G57 <| bF ?_
 refine aR 2 ?_
 refine nv Z <| xc O <| xc O <| fun a Z => ab ?_
 rcases hq62 : rdI r58 with _ | ⟨n64, r63⟩
 ·have hdn := hd60.trans (cJ hq62)
  refine cH (X := fun c => c = [{ v := .iface 171 (.agg #[]), recovered := false }]) 0 Z Y O call99 O (fun h => (bZ w3.hz s r58  ((s.length - r58.length : Nat) : Int) _ O hs61 hsl hq62 h).mono fun e w ⟨c, h1, h2, h3⟩ => ⟨c, h1, _, h2, h3⟩) ?_
  clear Y
  rintro _ w44 e9 rfl Y
  replace Y := Y.s3 [1, 2, 3] de rfl
  exact br Z call98 (bW _ _ _ _ _ _ _ _ _ _ _ _ _ _ _ Y) results39 (fun w9 Y => ⟨(ak O (bf (Y.g 0 O) (isAgg90 _) (sizeOf90 _)) (ak O (aG (Y.g 1 O) (isAgg91 _)) (ak O (aG (Y.g 2 O) (isAgg41 _)) ae))), .inr ⟨hdn, O, Y.ext⟩⟩)
 have hd65 := hd60.trans (cO hq62)
 have hs66 := (dg hq62).trans hs61
 refine aR 1 ?_
 refine bd (R := fun u e' => u = jv n64 ∧ e' = blk w3.hz [sv s, jv ((s.length - r63.length : Nat) : Int)] 174) 0 Z Y O de call99 O (fun h => (cj w3.hz s r58 r63 n64 ((s.length - r58.length : Nat) : Int) _ O hs61 hsl hq62 h).mono fun u w ⟨h1, h2⟩ => ⟨_, ⟨h1, O⟩, h2⟩) ?_
 clear Z Y
 rintro a w45 _ _ ⟨rfl, rfl⟩ Z Y
 try dsimp only at Y
 replace Y := Y.n5 O
 refine ab <| dB <| wlv Z (aQ O) fun a Z => aq 1 Z Y O O O (sizeOf3 _) O (lb O) (ds := [jv n54, jv n59, jv n64, jv 0, jv 0, jv 0, jv 0, jv 0, .string (⟨#[]⟩)]) O O fun a w46 Z Y => ab <| G56 ?_
 refine al <| nv (Z.p7 0 2 3 4 5 69 70 O) <| pq ((aP O O de).asi (m' := 3) O) <| xc O <| fun a Z => ab <| bM <| aa fun _ G58 => wlv Z ((v_lt O O).asb (b' := true) O) fun a Z => G58 <| ah fun _ G59 => ?_
 refine aK Z O ?_
 refine aw <| G59 <| ah fun _ G60 => au <| aa fun _ G61 => nv Z <| pq (cg (v := po w0.hz 3) O O kr) <| xd O <| fun a Z => G61 <| bF ?_
 refine aR 2 ?_
 refine nv Z <| xc O <| xc O <| fun a Z => ab ?_
 rcases hq67 : rdI r63 with _ | ⟨n69, r68⟩
 ·have hdn := hd65.trans (cJ hq67)
  refine cH (X := fun c => c = [{ v := .iface 171 (.agg #[]), recovered := false }]) 0 Z Y O call99 O (fun h => (bZ w3.hz s r63  ((s.length - r63.length : Nat) : Int) _ O hs66 hsl hq67 h).mono fun e w ⟨c, h1, h2, h3⟩ => ⟨c, h1, _, h2, h3⟩) ?_
  clear Y
  rintro _ w47 e9 rfl Y
  replace Y := Y.s3 [1, 2, 3] de rfl
  exact br Z call98 (bW _ _ _ _ _ _ _ _ _ _ _ _ _ _ _ Y) results39 (fun w9 Y => ⟨(ak O (bf (Y.g 0 O) (isAgg90 _) (sizeOf90 _)) (ak O (aG (Y.g 1 O) (isAgg91 _)) (ak O (aG (Y.g 2 O) (isAgg41 _)) ae))), .inr ⟨hdn, O, Y.ext⟩⟩)
 have hd70 := hd65.trans (cO hq67)
 have hs71 := (dg hq67).trans hs66
 refine aR 1 ?_
 refine bd (R := fun u e' => u = jv n69 ∧ e' = blk w3.hz [sv s, jv ((s.length - r68.length : Nat) : Int)] 174) 0 Z Y O de call99 O (fun h => (cj w3.hz s r63 r68 n69 ((s.length - r63.length : Nat) : Int) _ O hs66 hsl hq67 h).mono fun u w ⟨h1, h2⟩ => ⟨_, ⟨h1, O⟩, h2⟩) ?_
 clear Z Y
 rintro a w48 _ _ ⟨rfl, rfl⟩ Z Y
 try dsimp only at Y
 replace Y := Y.n5 O
 refine ab <| dB <| wlv Z (aQ O) fun a Z => aq 1 Z Y O O O (sizeOf3 _) O (lb O) (ds := [jv n54, jv n59, jv n64, jv n69, jv 0, jv 0, jv 0, jv 0, .string (⟨#[]⟩)]) O O fun a w49 Z Y => ab <| G60 ?_
 refine al <| nv (Z.p7 0 2 3 4 5 69 70 O) <| pq ((aP O O de).asi (m' := 4) O) <| xc O <| fun a Z => ab <| bM <| aa fun _ G62 => wlv Z ((v_lt O O).asb (b' := true) O) fun a Z => G62 <| ah fun _ G63 => ?_
 refine aK Z O ?_
 refine aw <| G63 <| ah fun _ G64 => au <| aa fun _ G65 => nv Z <| pq (cg (v := po w0.hz 4) O O kr) <| xd O <| fun a Z => G65 <| bF ?_
 refine aR 2 ?_
 refine nv Z <| xc O <| xc O <| fun a Z => ab ?_
 rcases hq72 : rdI r68 with _ | ⟨n74, r73⟩
 ·have hdn := hd70.trans (cJ hq72)
  refine cH (X := fun c => c = [{ v := .iface 171 (.agg #[]), recovered := false }]) 0 Z Y O call99 O (fun h => (bZ w3.hz s r68  ((s.length - r68.length : Nat) : Int) _ O hs71 hsl hq72 h).mono fun e w ⟨c, h1, h2, h3⟩ => ⟨c, h1, _, h2, h3⟩) ?_
  clear Y
  rintro _ w50 e9 rfl Y
  replace Y := Y.s3 [1, 2, 3] de rfl
  exact br Z call98 (bW _ _ _ _ _ _ _ _ _ _ _ _ _ _ _ Y) results39 (fun w9 Y => ⟨(ak O (bf (Y.g 0 O) (isAgg90 _) (sizeOf90 _)) (ak O (aG (Y.g 1 O) (isAgg91 _)) (ak O (aG (Y.g 2 O) (isAgg41 _)) ae))), .inr ⟨hdn, O, Y.ext⟩⟩)
 have hd75 := hd70.trans (cO hq72)
 have hs76 := (dg hq72).trans hs71
 refine aR 1 ?_
 refine bd (R := fun u e' => u = jv n74 ∧ e' = blk w3.hz [sv s, jv ((s.length - r73.length : Nat) : Int)] 174) 0 Z Y O de call99 O (fun h => (cj w3.hz s r68 r73 n74 ((s.length - r68.length : Nat) : Int) _ O hs71 hsl hq72 h).mono fun u w ⟨h1, h2⟩ => ⟨_, ⟨h1, O⟩, h2⟩) ?_
 clear Z Y
 rintro a w51 _ _ ⟨rfl, rfl⟩ Z Y
 try dsimp only at Y
 replace Y := Y.n5 O
 refine ab <| dB <| wlv Z (aQ O) fun a Z => aq 1 Z Y O O O (sizeOf3 _) O (lb O) (ds := [jv n54, jv n59, jv n64, jv n69, jv n74, jv 0, jv 0, jv 0, .string (⟨#[]⟩)]) O O fun a w52 Z Y => ab <| G64 ?_
 refine al <| nv (Z.p7 0 2 3 4 5 69 70 O) <| pq ((aP O O de).asi (m' := 5) O) <| xc O <| fun a Z => ab <| bM <| aa fun _ G66 => wlv Z ((v_lt O O).asb (b' := true) O) fun a Z => G66 <| ah fun _ G67 => ?_
 refine aK Z O ?_
 refine aw <| G67 <| ah fun _ G68 => au <| aa fun _ G69 => nv Z <| pq (cg (v := po w0.hz 5) O O kr) <| xd O <| fun a Z => G69 <| bF ?_
 refine aR 2 ?_
 refine nv Z <| xc O <| xc O <| fun a Z => ab ?_
 rcases hq77 : rdI r73 with _ | ⟨n79, r78⟩
 ·have hdn := hd75.trans (cJ hq77)
  refine cH (X := fun c => c = [{ v := .iface 171 (.agg #[]), recovered := false }]) 0 Z Y O call99 O (fun h => (bZ w3.hz s r73  ((s.length - r73.length : Nat) : Int) _ O hs76 hsl hq77 h).mono fun e w ⟨c, h1, h2, h3⟩ => ⟨c, h1, _, h2, h3⟩) ?_
  clear Y
  rintro _ w53 e9 rfl Y
  replace Y := Y.s3 [1, 2, 3] de rfl
  exact br Z call98 (bW _ _ _ _ _ _ _ _ _ _ _ _ _ _ _ Y) results39 (fun w9 Y => ⟨(ak O (bf (Y.g 0 O) (isAgg90 _) (sizeOf90 _)) (ak O (aG (Y.g 1 O) (isAgg91 _)) (ak O (aG (Y.g 2 O) (isAgg41 _)) ae))), .inr ⟨hdn, O, Y.ext⟩⟩)
 have hd80 := hd75.trans (cO hq77)
 have hs81 := (dg hq77).trans hs76
 refine aR 1 ?_
 refine bd (R := fun u e' => u = jv n79 ∧ e' = blk w3.hz [sv s, jv ((s.length - r78.length : Nat) : Int)] 174) 0 Z Y O de call99 O (fun h => (cj w3.hz s r73 r78 n79 ((s.length - r73.length : Nat) : Int) _ O hs76 hsl hq77 h).mono fun u w ⟨h1, h2⟩ => ⟨_, ⟨h1, O⟩, h2⟩) ?_
 clear Z Y
 rintro a w54 _ _ ⟨rfl, rfl⟩ Z Y
 try dsimp only at Y
 replace Y := Y.n5 O
 refine ab <| dB <| wlv Z (aQ O) fun a Z => aq 1 Z Y O O O (sizeOf3 _) O (lb O) (ds := [jv n54, jv n59, jv n64, jv n69, jv n74, jv n79, jv 0, jv 0, .string (⟨#[]⟩)]) O O fun a w55 Z Y => ab <| G68 ?_
 refine al <| nv (Z.p7 0 2 3 4 5 69 70 O) <| pq ((aP O O de).asi (m' := 6) O) <| xc O <| fun a Z => ab <| bM <| aa fun _ G70 => wlv Z ((v_lt O O).asb (b' := true) O) fun a Z => G70 <| ah fun _ G71 => ?_
 refine aK Z O ?_
 refine aw <| G71 <| ah fun _ G72 => au <| aa fun _ G73 => nv Z <| pq (cg (v := po w0.hz 6) O O kr) <| xd O <| fun a Z => G73 <| bF ?_
 refine aR 2 ?_
 refine nv Z <| xc O <| xc O <| fun a Z => ab ?_
 rcases hq82 : rdI r78 with _ | ⟨n84, r83⟩
 ·have hdn := hd80.trans (cJ hq82)
  refine cH (X := fun c => c = [{ v := .iface 171 (.agg #[]), recovered := false }]) 0 Z Y O call99 O (fun h => (bZ w3.hz s r78  ((s.length - r78.length : Nat) : Int) _ O hs81 hsl hq82 h).mono fun e w ⟨c, h1, h2, h3⟩ => ⟨c, h1, _, h2, h3⟩) ?_
  clear Y
  rintro _ w56 e9 rfl Y
  replace Y := Y.s3 [1, 2, 3] de rfl
  exact br Z call98 (bW _ _ _ _ _ _ _ _ _ _ _ _ _ _ _ Y) results39 (fun w9 Y => ⟨(ak O (bf (Y.g 0 O) (isAgg90 _) (sizeOf90 _)) (ak O (aG (Y.g 1 O) (isAgg91 _)) (ak O (aG (Y.g 2 O) (isAgg41 _)) ae))), .inr ⟨hdn, O, Y.ext⟩⟩)
 have hd85 := hd80.trans (cO hq82)
 have hs86 := (dg hq82).trans hs81
 refine aR 1 ?_
 refine bd (R := fun u e' => u = jv n84 ∧ e' = blk w3.hz [sv s, jv ((s.length - r83.length : Nat) : Int)] 174) 0 Z Y O de call99 O (fun h => (cj w3.hz s r78 r83 n84 ((s.length - r78.length : Nat) : Int) _ O hs81 hsl hq82 h).mono fun u w ⟨h1, h2⟩ => ⟨_, ⟨h1, O⟩, h2⟩) ?_
 clear Z Y
 rintro a w57 _ _ ⟨rfl, rfl⟩ Z Y
 try dsimp only at Y
 replace Y := Y.n5 O
 refine ab <| dB <| wlv Z (aQ O) fun a Z => aq 1 Z Y O O O (sizeOf3 _) O (lb O) (ds := [jv n54, jv n59, jv n64, jv n69, jv n74, jv n79, jv n84, jv 0, .string (⟨#[]⟩)]) O O fun a w58 Z Y => ab <| G72 ?_
 refine al <| nv (Z.p7 0 2 3 4 5 69 70 O) <| pq ((aP O O de).asi (m' := 7) O) <| xc O <| fun a Z => ab <| bM <| aa fun _ G74 => wlv Z ((v_lt O O).asb (b' := true) O) fun a Z => G74 <| ah fun _ G75 => ?_
 refine aK Z O ?_
 refine aw <| G75 <| ah fun _ G76 => au <| aa fun _ G77 => nv Z <| pq (cg (v := po w0.hz 7) O O kr) <| xd O <| fun a Z => G77 <| bF ?_
 refine aR 2 ?_
 refine nv Z <| xc O <| xc O <| fun a Z => ab ?_
 rcases hq87 : rdI r83 with _ | ⟨n89, r88⟩
 ·have hdn := hd85.trans (cJ hq87)
  refine cH (X := fun c => c = [{ v := .iface 171 (.agg #[]), recovered := false }]) 0 Z Y O call99 O (fun h => (bZ w3.hz s r83  ((s.length - r83.length : Nat) : Int) _ O hs86 hsl hq87 h).mono fun e w ⟨c, h1, h2, h3⟩ => ⟨c, h1, _, h2, h3⟩) ?_
  clear Y
  rintro _ w59 e9 rfl Y
  replace Y := Y.s3 [1, 2, 3] de rfl
  exact br Z call98 (bW _ _ _ _ _ _ _ _ _ _ _ _ _ _ _ Y) results39 (fun w9 Y => ⟨(ak O (bf (Y.g 0 O) (isAgg90 _) (sizeOf90 _)) (ak O (aG (Y.g 1 O) (isAgg91 _)) (ak O (aG (Y.g 2 O) (isAgg41 _)) ae))), .inr ⟨hdn, O, Y.ext⟩⟩)
 have hd90 := hd85.trans (cO hq87)
 have hs91 := (dg hq87).trans hs86
 refine aR 1 ?_
 refine bd (R := fun u e' => u = jv n89 ∧ e' = blk w3.hz [sv s, jv ((s.length - r88.length : Nat) : Int)] 174) 0 Z Y O de call99 O (fun h => (cj w3.hz s r83 r88 n89 ((s.length - r83.length : Nat) : Int) _ O hs86 hsl hq87 h).mono fun u w ⟨h1, h2⟩ => ⟨_, ⟨h1, O⟩, h2⟩) ?_
 clear Z Y
 rintro a w60 _ _ ⟨rfl, rfl⟩ Z Y
 try dsimp only at Y
 replace Y := Y.n5 O
 refine ab <| dB <| wlv Z (aQ O) fun a Z => aq 1 Z Y O O O (sizeOf3 _) O (lb O) (ds := [jv n54, jv n59, jv n64, jv n69, jv n74, jv n79, jv n84, jv n89, .string (⟨#[]⟩)]) O O fun a w61 Z Y => ab <| G76 ?_
 refine al <| nv (Z.p7 0 2 3 4 5 69 70 O) <| pq ((aP O O de).asi (m' := 8) O) <| xc O <| fun a Z => ab <| bM <| aa fun _ G78 => wlv Z ((v_lt O O).asb (b' := false) O) fun a Z => G78 <| ah fun _ G79 => ?_
 refine aJ Z O ?_
 refine aO <| G44 <| bP fun _ G80 hP80 => aR 1 ?_
 refine wlm Z O fun a Z => ab ?_
 rcases hq92 : dgI r88 with _ | ⟨n94, r93⟩
 ·have hdn := hd90.trans (ke hq92)
  refine cH (X := fun c => c = [{ v := .iface 171 (.agg #[]), recovered := false }]) 0 Z Y O call102 O (fun h => (qt w3.hz s r88  ((s.length - r88.length : Nat) : Int) _ O hs91 hsl hq92 h).mono fun e w ⟨c, h1, h2, h3⟩ => ⟨c, h1, _, h2, h3⟩) ?_
  clear Y
  rintro _ w62 e9 rfl Y
  refine hP80 _ _ _ ?_
  replace Y := Y.s3 [1, 2, 3] de rfl
  exact br Z call98 (bW _ _ _ _ _ _ _ _ _ _ _ _ _ _ _ Y) results39 (fun w9 Y => ⟨(ak O (bf (Y.g 0 O) (isAgg90 _) (sizeOf90 _)) (ak O (aG (Y.g 1 O) (isAgg91 _)) (ak O (aG (Y.g 2 O) (isAgg41 _)) ae))), .inr ⟨hdn, O, Y.ext⟩⟩)
 have hd95 := hd90.trans (lV hq92)
 have hs96 := (qL hq92).trans hs91
 refine aR 1 ?_
 refine bd (R := fun u e' => u = sv n94 ∧ e' = blk w3.hz [sv s, jv ((s.length - r93.length : Nat) : Int)] 174) 0 Z Y O de call102 O (fun h => (tC w3.hz s r88 r93 n94 ((s.length - r88.length : Nat) : Int) _ O hs91 hsl hq92 h).mono fun u w ⟨h1, h2⟩ => ⟨_, ⟨h1, O⟩, h2⟩) ?_
 clear Z Y
 rintro a w63 _ _ ⟨rfl, rfl⟩ Z Y
 try dsimp only at Y
 replace Y := Y.n5 O
 refine ab <| dB <| wlv Z (ac (v := po w0.hz 8) O kr) fun a Z => aq 1 Z Y O O O (sizeOf9 _) O (lb O) (ds := [jv n54, jv n59, jv n64, jv n69, jv n74, jv n79, jv n84, jv n89, sv n94]) O O fun a w64 Z Y => G80 ?_
 refine ah fun _ G81 => aa fun _ G82 => nv (Z.p5 0 2 3 4 5 O) <| xc O <| pq (aQ O) <| pq (ac (v := po w3.hz 1) O kr) <| pq (ld Y 0 O O (isAgg3 _) O) <| xc O <| pq (bp O O (runUnderlying9 _)) <| pq (v_lt O O) <| xc O <| fun a Z => ?_
 rcases xh (decide (((s.length - r93.length : Nat) : Int) < (s.length : Int))) with hb97 | hb97
 ·rw [hb97] at Z
  try simp only [qz] at hb97
  have hdn := hd95.trans (tY (by intro h0; have h1 := xI List.length h0; rw [xu] at h1; omega))
  refine nv Z <| xf <| xf <| xf <| xf <| pq (ay O O) <| fun a Z => G82 ?_
  replace Z := Z.p4 2 3 4 93 O
  replace Y := Y.k4 30 O
  refine aK Z O ?_
  refine bF <| aR 2 ?_
  refine nv Z <| pq (bj (v := .agg #[]) O kr) <| pq (cT O underlying171) <| fun a Z => ab <| dV Z O ?_
  replace Y := Y.s3 [0, 1, 2] de rfl
  exact br Z call98 (bW _ _ _ _ _ _ _ _ _ _ _ _ _ _ _ Y) results39 (fun w9 Y => ⟨(ak O (bf (Y.g 0 O) (isAgg90 _) (sizeOf90 _)) (ak O (aG (Y.g 1 O) (isAgg91 _)) (ak O (aG (Y.g 2 O) (isAgg41 _)) ae))), .inr ⟨hdn, O, Y.ext⟩⟩)
 rw [hb97] at Z
 try simp only [qz] at hb97
 have hrn : r93 = [] := xU (by have := hs96.length_le; omega)
 refine nv Z <| xe (ai (Y.g 1 O) O (isAgg90 _) (sizeOf90 _)) <| xe (ld Y 2 O O (isAgg91 _) O) <| fun a Z => aF Z Y de O de O call90 O (nY (x := (⟨n54, n59, n64, n69, n74, n79, n84, n89, n94⟩ : Wsh)) (ps := acc) (Y.ow 4 O)) fun a w65 Z Y => nv Z <| xe (bu O) <| pq (aj O O) <| fun a Z => G82 ?_
 replace Z := Z.p4 2 3 4 93 O
 replace Y := Y.k4 30 O
 refine aA Z O (fun hc98 => ?_) (fun hc98 => ?_)
 ·try simp only [qz] at hc98
  have hdn := hd95.trans (tL hc98)
  refine bF <| aR 2 ?_
  refine nv Z <| pq (bj (v := .agg #[]) O kr) <| pq (cT O underlying171) <| fun a Z => ab <| dV Z O ?_
  replace Y := Y.s3 [0, 1, 2] de rfl
  exact br Z call98 (bW _ _ _ _ _ _ _ _ _ _ _ _ _ _ _ Y) results39 (fun w9 Y => ⟨(ak O (bf (Y.g 0 O) (isAgg90 _) (sizeOf90 _)) (ak O (aG (Y.g 1 O) (isAgg91 _)) (ak O (aG (Y.g 2 O) (isAgg41 _)) ae))), .inr ⟨hdn, O, Y.ext⟩⟩)
 try simp only [qz] at hc98
 have hd8 := hd95.trans (tl hrn hc98)
 refine aw <| G81 <| ah fun _ G83 => aL kr (aM kr fun w66 hxz => ?_)
 replace Y := Y.grow hxz
 refine aU (k := 0) 3 [1, 2] Z kr kr kr rfx ?_
 replace Z := Z.p3 2 3 4 O
 replace Y := Y.s4 [0, 1, 2, 3] de rfl
 refine jZ [2] (fun q => if q = 2 then blk w0.hz [jv n54, jv n59, jv n64, jv n69, jv n74, jv n79, jv n84, jv n89, sv n94] 90 else join []) (fun q => if q = 2 then blk w0.hz [jv n54, jv n59, jv n64, jv n69, jv n74, jv n79, jv n84, jv n89, sv n94] 90 else join []) 3 [[], [], [0]] (fun i => match i with | 0 => pv (.agg #[jv n54, jv n59, jv n64, jv n69, jv n74, jv n79, jv n84, jv n89, sv n94]) | 1 => pv (lv) | 2 => fun v E => v = undef ∧ E = [] | _ => fun _ _ => False) AY Z (H := [blk w1.hz [lv] 91, blk w2.hz [jv 0] 41, own lv 144 7 ((acc).map Pxy.cells)]) Y kr kr kr kr de de ?_ ?_ ?_ ?_ ?_ ?_
 ·intro i v E h
  match i, h with
  | 0, _ => exact by decide
  | 1, _ => exact by decide
  | 2, _ => exact by decide
  | i + 3, h => exact h.elim
 ·intro q v E hq h
  simp only [xn, xr, xO] at hq
  rcases hq with rfl <;> exact h
 ·intro q hq
  simp only [xn, xr, xO] at hq
  rcases hq with rfl <;> exact ⟨rfl, rfl⟩
 ·intro i hi hiq e
  match i, hi, hiq with
  | 0, _, _ => exact fun w Y => OpV.g (ai (ve (F := fun q => if q = 2 then blk w0.hz [jv n54, jv n59, jv n64, jv n69, jv n74, jv n79, jv n84, jv n89, sv n94] 90 else join []) (q := 2) (Y.g 0 O)) O (isAgg90 _) (sizeOf90 _))
  | 1, _, _ => exact fun w Y => OpV.g (ld Y 1 O O (isAgg91 _) O)
  | 2, _, h => exact absurd de h
 ·intro q hq
  simp only [xn, xr, xO] at hq
  rcases hq with rfl
  ·rintro _ _ ⟨rfl, rfl⟩
   intro w h
   exact dk (cs := [jv n54, jv n59, jv n64, jv n69, jv n74, jv n79, jv n84, jv n89, sv n94]) (ds := [jv n54, jv n59, jv n64, jv n69, jv n74, jv n79, jv n84, jv n89, sv n94]) O O h (sizeOf90 _) O (lb O) O
 clear Z Y
 rintro _ _ ⟨rfl, rfl⟩ _ _ ⟨rfl, rfl⟩ a w67 Z Y
 replace Z := Z.p5 96 97 2 3 4 O
 try dsimp only at Y
 replace Y := Y.n4 O
 refine ab <| aN (k := 3) 5 [4] kr kr kr ?_
 refine cb 1 Z Y (Y.ow 3 O) O O O (sizeOf91 _) (lb O) (ds := [lv]) O O fun a w68 Z Y => aq 2 Z Y O O O (sizeOf41 _) O (lb O) (ds := [jv 0]) O O fun a w69 Z Y => ab <| aT kr ?_
 refine G83 <| ap <| od (vs := [.agg #[jv n54, jv n59, jv n64, jv n69, jv n74, jv n79, jv n84, jv n89, sv n94], lv, jv 0]) Z call98 (ud _ _ _ _) results39 (fun w9 hx => ?_)
 have Y := Y.grow hx
 exact ⟨(ak O (bf (Y.g 0 O) (isAgg90 _) (sizeOf90 _)) (ak O (aG (Y.g 1 O) (isAgg91 _)) (ak O (aG (Y.g 2 O) (isAgg41 _)) ae))), .inl ⟨_, _, hd8, _, O, trivial, Y.ext, St.out (H := []) (Y.select [3] de)⟩⟩
theorem im {r q : By} {n : Int} (h : rdI r = some (n, q)) : q <:+ r := by
 obtain ⟨_, rfl⟩ := fh h; exact List.suffix_append _ _
theorem tP {r x q : By} (h : rdS r = some (x, q)) : ∃ n r2, rdI r = some (n, r2) ∧ 0 ≤ n ∧ n ≤ 65536 ∧ n ≤ (r2.length : Int) ∧ x = r2.take n.toNat ∧ q = r2.drop n.toNat ∧ q.length = r2.length - n.toNat := by
 unfold rdS at h
 cases hq : rdI r with
 | none => rw [hq] at h; cases h
 | some p =>
  obtain ⟨n, t⟩ := p
  rw [hq] at h
  simp only at h
  split at h
  ·rename_i hc
   cases h
   exact ⟨n, t, O, hc.1, hc.2.1, hc.2.2, O, O, by rw [xS]⟩
  ·cases h
theorem wx {r : By} (h : rdS r = none) : rdI r = none ∨ ∃ n r2, rdI r = some (n, r2) ∧ (n < 0 ∨ 65536 < n ∨ (r2.length : Int) < n) := by
 unfold rdS at h
 cases hq : rdI r with
 | none => exact .inl rfl
 | some p =>
  obtain ⟨n, t⟩ := p
  rw [hq] at h
  simp only at h
  split at h
  ·cases h
  ·rename_i hc
   exact .inr ⟨n, t, O, by omega⟩
theorem wc {r x q : By} (h : rdS r = some (x, q)) : q <:+ r := by
 obtain ⟨n, r2, hi, _, _, _, _, rfl, _⟩ := tP h
 exact (List.drop_suffix _ _).trans (im hi)
theorem vE {s r2 q x : By} {n : Int} (hs : r2 <:+ s) (hx : x = r2.take n.toNat) (h0 : 0 ≤ n) (hn : n ≤ (r2.length : Int)) (hq : q.length = r2.length - n.toNat) : x = (s.drop (s.length - r2.length)).take (s.length - q.length - (s.length - r2.length)) := by
 have := hs.length_le
 rw [← List.suffix_iff_eq_drop.1 hs, hx]
 congr 1
 omega
theorem mU (s : By) (w0 : World) (hs : s.length ≤ 65536) :
  Ret Tryz.prog 61 #[sv s] w0 fun v w => v = .tuple #[sv (putS s), jv 0] ∧ Ext No w0 w := by
 have hpl := bV (s.length : Int)
 refine zc func61 O ntmps61 (lb O) fun a Z Y => ?_
 refine aa fun _ G1 => nv Z <| xd O <| xd O <| fun a Z => G1 <| ah fun _ G2 => ?_
 refine aa fun _ G3 => nv Z <| xc O <| pq (bp O O (runUnderlying9 _)) <| pq ((v_gt O O).asb (b' := false) Aq) <| fun a Z => G3 <| aJ Z O ?_
 refine aw <| G2 <| aa fun _ G4 => nv Z <| xc O <| pq (bp O O (runUnderlying9 _)) <| fun a Z => ax Z Y de call60 O (fg (s.length : Int) _ zB) fun a w1 Z Y => nv Z <| xc O <| pq (ar O O) <| pq (ar O O) <| xd O <| xd O <| fun a Z => G4 ?_
 refine aa fun _ G5 => nv (Z.p4 0 2 3 4 O) <| xc O <| xc O <| pq (dM O O z7) <| xd O <| xd O <| fun a Z => G5 <| ap ?_
 refine am Z results61 (ag O (ag O ae)) ?_
 exact ⟨by rfl, Y.ext⟩
theorem jJ {s r r2 : By} {n z : Int} {w0 : World} (hz : z = ((s.length - r.length : Nat) : Int)) (hsf : r <:+ s) (hsl : s.length ≤ 1000000) (hq : rdI r = some (n, r2)) :
  Ret Tryz.prog 63 #[sv s, jv z] w0 fun v w => v = .tuple #[jv n, jv ((s.length - r2.length : Nat) : Int), jv 0] ∧ Ext No w0 w := by
 subst hz
 have := iw s (s.length - r.length) w0 om hsl
 unfold intV at this
 rw [← List.suffix_iff_eq_drop.1 hsf, hq] at this
 exact this
theorem j6 {s r : By} {z : Int} {w0 : World} (hz : z = ((s.length - r.length : Nat) : Int)) (hsf : r <:+ s) (hsl : s.length ≤ 1000000) (hq : rdI r = none) :
  Ret Tryz.prog 63 #[sv s, jv z] w0 fun v w => v = .tuple #[jv 0, jv 0, jv 10] ∧ Ext No w0 w := by
 subst hz
 have := iw s (s.length - r.length) w0 om hsl
 unfold intV at this
 rw [← List.suffix_iff_eq_drop.1 hsf, hq] at this
 exact this
theorem q6 (s r x q : By) (z : Int) (w0 : World) (hz : z = ((s.length - r.length : Nat) : Int)) (hsf : r <:+ s) (hsl : s.length ≤ 1000000) (hq : rdS r = some (x, q)) :
  Ret Tryz.prog 65 #[sv s, jv z] w0 fun v w => v = .tuple #[sv x, jv ((s.length - q.length : Nat) : Int), jv 0] ∧ Ext No w0 w := by
 obtain ⟨n, r2, hi, h0, h6, hl, hx, -, hql⟩ := tP hq
 have hsu := hsf.length_le
 have hsf2 := (im hi).trans hsf
 have hsu2 := hsf2.length_le
 refine zb func65 O ntmps65 (lb O) fun a Z Y => ?_
 refine aa fun _ G1 => nv Z <| xd O <| xd O <| xd O <| fun a Z => G1 <| aa fun _ G2 => ?_
 refine nv Z <| xc O <| xc O <| fun a Z => ax Z Y de call63 O (jJ hz hsf hsl hi) fun a w1 Z Y => nv Z <| xc O <| pq (ar O O) <| pq (ar O O) <| pq (ar O O) <| xd O <| xd O <| xd O <| fun a Z => G2 ?_
 refine ah fun _ G3 => aa fun _ G4 => nv (Z.p7 0 4 5 6 7 8 9 O) <| xc O <| pq ((v_ne O O).asb (b' := false) O) <| fun a Z => G4 <| aJ Z O ?_
 refine aw <| G3 <| ah fun _ G5 => aa fun _ G6 => nv Z <| xc O <| pq ((v_lt O O).asb (b' := false) Aq) <| xc O <| xe (az O) <| xe ((v_gt O O).asb (b' := false) Aq) <| pq (aj O O) <| xc O <| xe (az O) <| xe (az O) <| xe (bp O O (runUnderlying9 _)) <| xe (az O) <| xe (bG O O ⟨om, om⟩) <| xe ((v_gt O O).asb (b' := false) Aq) <| pq (aj O O) <| fun a Z => G6 ?_
 replace Z := Z.p7 0 4 5 6 7 8 33 O
 refine aJ Z O ?_
 refine aw <| G5 <| aa fun _ G7 => nv Z <| xc O <| xc O <| xc O <| xc O <| pq ((aP O O ⟨om, om⟩).asi (m' := ((s.length - q.length : Nat) : Int)) om) <| pq ((g6 (xs := s) (l := s.length - r2.length) (h := s.length - q.length) O O O underlying9 (.inr ⟨.i64, O⟩) (.inr ⟨.i64, O⟩) om om).as (v' := sv x) (by rw [← vE hsf2 hx h0 hl hql])) <| xc O <| xc O <| pq ((aP O O ⟨om, om⟩).asi (m' := ((s.length - q.length : Nat) : Int)) om) <| xd O <| xd O <| xd O <| fun a Z => G7 ?_
 replace Z := Z.p3 4 5 6 O
 refine ap <| am Z results65 (ag O (ag O (ag O ae))) ?_
 exact ⟨by rfl, Y.ext⟩
theorem nW (s r r2 : By) (n z : Int) (w0 : World) (hz : z = ((s.length - r.length : Nat) : Int)) (hsf : r <:+ s) (hsl : s.length ≤ 1000000) (hi : rdI r = some (n, r2)) (hb : n < 0 ∨ 65536 < n ∨ (r2.length : Int) < n) :
  Ret Tryz.prog 65 #[sv s, jv z] w0 fun v w => v = .tuple #[sv ([] : By), jv 0, jv 10] ∧ Ext No w0 w := by
 have hsu := hsf.length_le
 have hsf2 := (im hi).trans hsf
 have hsu2 := hsf2.length_le
 refine zb func65 O ntmps65 (lb O) fun a Z Y => ?_
 refine aa fun _ G1 => nv Z <| xd O <| xd O <| xd O <| fun a Z => G1 <| aa fun _ G2 => ?_
 refine nv Z <| xc O <| xc O <| fun a Z => ax Z Y de call63 O (jJ hz hsf hsl hi) fun a w1 Z Y => nv Z <| xc O <| pq (ar O O) <| pq (ar O O) <| pq (ar O O) <| xd O <| xd O <| xd O <| fun a Z => G2 ?_
 refine ah fun _ G3 => aa fun _ G4 => nv (Z.p7 0 4 5 6 7 8 9 O) <| xc O <| pq ((v_ne O O).asb (b' := false) O) <| fun a Z => G4 <| aJ Z O ?_
 refine aw <| G3 <| ah fun _ G5 => aa fun _ G6 => nv Z <| xc O <| pq (v_lt O O) <| xc O <| fun a Z => ?_
 rcases xh (decide (n < 0)) with hb1 | hb1
 ·rw [hb1] at Z
  try simp only [qz] at hb1
  refine nv Z <| xf <| xf <| pq (ay O O) <| xc O <| xf <| xf <| xf <| xf <| xf <| xf <| pq (ay O O) <| fun a Z => G6 ?_
  replace Z := Z.p7 0 4 5 6 7 8 33 O
  refine aK Z O ?_
  refine aa fun _ G7 => nv Z <| xd O <| xd O <| xd O <| fun a Z => G7 <| ap ?_
  refine am Z results65 (ag O (ag O (ag O ae))) ?_
  exact ⟨by rfl, Y.ext⟩
 rw [hb1] at Z
 try simp only [qz] at hb1
 refine nv Z <| xe (az O) <| xe (v_gt O O) <| pq (aj O O) <| xc O <| fun a Z => ?_
 rcases xh (decide (65536 < n)) with hb2 | hb2
 ·rw [hb2] at Z
  try simp only [qz] at hb2
  refine nv Z <| xf <| xf <| xf <| xf <| xf <| xf <| pq (ay O O) <| fun a Z => G6 ?_
  replace Z := Z.p7 0 4 5 6 7 8 33 O
  refine aK Z O ?_
  refine aa fun _ G8 => nv Z <| xd O <| xd O <| xd O <| fun a Z => G8 <| ap ?_
  refine am Z results65 (ag O (ag O (ag O ae))) ?_
  exact ⟨by rfl, Y.ext⟩
 rw [hb2] at Z
 try simp only [qz] at hb2
 refine nv Z <| xe (az O) <| xe (az O) <| xe (bp O O (runUnderlying9 _)) <| xe (az O) <| xe (bG O O ⟨om, om⟩) <| xe (v_gt O O) <| pq (aj O O) <| fun a Z => G6 ?_
 replace Z := Z.p7 0 4 5 6 7 8 33 O
 refine aA Z O (fun hc3 => ?_) (fun hc3 => ?_)
 ·try simp only [qz] at hc3
  refine aa fun _ G9 => nv Z <| xd O <| xd O <| xd O <| fun a Z => G9 <| ap ?_
  refine am Z results65 (ag O (ag O (ag O ae))) ?_
  exact ⟨by rfl, Y.ext⟩
 try simp only [qz] at hc3
 exfalso; omega
theorem nz (s r : By) (z : Int) (w0 : World) (hz : z = ((s.length - r.length : Nat) : Int)) (hsf : r <:+ s) (hsl : s.length ≤ 1000000) (hi : rdI r = none) :
  Ret Tryz.prog 65 #[sv s, jv z] w0 fun v w => v = .tuple #[sv ([] : By), jv 0, jv 10] ∧ Ext No w0 w := by
 refine zb func65 O ntmps65 (lb O) fun a Z Y => ?_
 refine aa fun _ G1 => nv Z <| xd O <| xd O <| xd O <| fun a Z => G1 <| aa fun _ G2 => ?_
 refine nv Z <| xc O <| xc O <| fun a Z => ax Z Y de call63 O (j6 hz hsf hsl hi) fun a w1 Z Y => nv Z <| xc O <| pq (ar O O) <| pq (ar O O) <| pq (ar O O) <| xd O <| xd O <| xd O <| fun a Z => G2 ?_
 refine ah fun _ G3 => aa fun _ G4 => nv (Z.p7 0 4 5 6 7 8 9 O) <| xc O <| pq ((v_ne O O).asb (b' := true) O) <| fun a Z => G4 <| aK Z O ?_
 refine aa fun _ G5 => nv Z <| xc O <| xd O <| xd O <| xd O <| fun a Z => G5 <| ap ?_
 refine am Z results65 (ag O (ag O (ag O ae))) ?_
 exact ⟨by rfl, Y.ext⟩
theorem qb {s r : By} {z : Int} {w0 : World} (hz : z = ((s.length - r.length : Nat) : Int)) (hsf : r <:+ s) (hsl : s.length ≤ 1000000) (hq : rdS r = none) :
  Ret Tryz.prog 65 #[sv s, jv z] w0 fun v w => v = .tuple #[sv ([] : By), jv 0, jv 10] ∧ Ext No w0 w := by
 rcases wx hq with hi | ⟨n, r2, hi, hb⟩
 ·exact nz s r z w0 hz hsf hsl hi
 ·exact nW s r r2 n z w0 hz hsf hsl hi hb
theorem kQ (s : By) (w0 : World) (hs : s.length ≤ 65536) :
  Ret Tryz.prog 130 #[sv s] w0 fun v w => v = .tuple #[sv (putS s), jv 0] ∧ Ext No w0 w := by
 have hpl := bV (s.length : Int)
 refine zc func130 O ntmps130 (lb O) fun a Z Y => ?_
 refine aa fun _ G1 => nv Z <| xd O <| xd O <| fun a Z => G1 <| ah fun _ G2 => ?_
 refine aa fun _ G3 => nv Z <| xc O <| pq (bp O O (runUnderlying9 _)) <| pq ((v_gt O O).asb (b' := false) Aq) <| fun a Z => G3 <| aJ Z O ?_
 refine aw <| G2 <| aa fun _ G4 => nv Z <| xc O <| pq (bp O O (runUnderlying9 _)) <| fun a Z => ax Z Y de call129 O (fB (s.length : Int) _ zB) fun a w1 Z Y => nv Z <| xc O <| pq (ar O O) <| pq (ar O O) <| xd O <| xd O <| fun a Z => G4 ?_
 refine aa fun _ G5 => nv (Z.p4 0 2 3 4 O) <| xc O <| xc O <| pq (dM O O z7) <| xd O <| xd O <| fun a Z => G5 <| ap ?_
 refine am Z results130 (ag O (ag O ae)) ?_
 exact ⟨by rfl, Y.ext⟩
section
variable {ks : List By} {x : Wsh} {ps : List Pxy} {n t : Int}
theorem ly : validH ks x ps n t = true ↔ (¬ formB ks x ps ∧ badIdx ps 0 = none ∧ inB t x.sf (x.st - 1) = true ∧ inB n x.rf (x.rt - 1) = true ∧ ck x.signer x.holder ps 0 = none ∧ bB x none ps 0 = none ∧ bL ks x ps 0 = none) := by
 unfold validH
 rw [xk]
 constructor
 ·intro h
  by_cases h0 : formB ks x ps
  ·rw [ge h0] at h; cases h
  ·cases hb : badIdx ps 0 with
   | some i => rw [qq h0 (by rw [jD, hb]; exact Int.natCast_nonneg i)] at h; cases h
   | none =>
    cases ht : inB t x.sf (x.st - 1) with
    | false => rw [ka h0 hb ht] at h; cases h
    | true =>
     cases hn : inB n x.rf (x.rt - 1) with
     | false => rw [mF h0 hb ht hn] at h; cases h
     | true =>
      have hp : whyP ks x ps n t := ⟨h0, hb, ht, hn⟩
      cases hc : ck x.signer x.holder ps 0 with
      | some i => rw [mq hp hc] at h; cases h
      | none =>
       cases hs : bB x none ps 0 with
       | some i => rw [lx hp hc hs] at h; cases h
       | none =>
        cases hl : bL ks x ps 0 with
        | some i => rw [fU hp hc hs hl] at h; cases h
        | none => exact ⟨h0, rfl, rfl, rfl, rfl, rfl, rfl⟩
 ·rintro ⟨h0, hb, ht, hn, hc, hs, hl⟩
  rw [kp ⟨h0, hb, ht, hn⟩ hc hs hl]
theorem nc {n0 t0 : Int} (h : validH ks x ps n0 t0 = true) (n t : Int) : whyH ks x ps n t = if inB t x.sf (x.st - 1) = false then (2, -1) else if inB n x.rf (x.rt - 1) = false then (3, -1) else (0, -1) := by
 obtain ⟨h0, hb, _, _, hc, hs, hl⟩ := ly.1 h
 by_cases ht : inB t x.sf (x.st - 1) = false
 ·rw [xD ht, ka h0 hb ht]
 ·rw [xB ht]
  by_cases hn : inB n x.rf (x.rt - 1) = false
  ·rw [xD hn, mF h0 hb (by simpa using ht) hn]
  ·rw [xB hn, kp ⟨h0, hb, by simpa using ht, by simpa using hn⟩ hc hs hl]
theorem kE {n0 t0 : Int} (h : validH ks x ps n0 t0 = true) (n t : Int) : validH ks x ps n t = (inB t x.sf (x.st - 1) && inB n x.rf (x.rt - 1)) := by
 unfold validH
 rw [nc h]
 cases inB t x.sf (x.st - 1) <;> cases inB n x.rf (x.rt - 1) <;> rfl
theorem kH : ∀ {l : List Pxy} {k : Nat}, bL ks x l k = none → (∀ p ∈ l, ∃ key, keyAt ks p.frm = some key ∧ p.sig = sealH key p.content) ∧ ∃ key, keyAt ks x.signer = some key ∧ x.sig = sealH key x.content
 | [], k, h => by
  rw [bL] at h
  split at h
  ·rename_i hc
   cases hq : keyAt ks x.signer with
   | none => rw [hq] at hc; cases hc
   | some key => rw [hq] at hc; exact ⟨by simp, key, rfl, by simpa using hc⟩
  ·cases h
 | p :: l, k, h => by
  rw [bL] at h
  split at h
  ·rename_i hc
   obtain ⟨h1, h2⟩ := kH h
   refine ⟨fun q hq => ?_, h2⟩
   rcases xn.1 hq with rfl | hq
   ·cases he : keyAt ks q.frm with
    | none => rw [he] at hc; cases hc
    | some key => rw [he] at hc; exact ⟨key, rfl, by simpa using hc⟩
   ·exact h1 q hq
  ·cases h
theorem me {h : Int} {key : By} (hk : keyAt keysH h = some key) : 0 ≤ h ∧ h < 10 ∧ key = keyH h := by
 unfold keyAt at hk
 split at hk
 ·cases hk
 ·rename_i h0
  have hl := (xL.1 hk).1
  rw [ml] at hl
  have h1 : h < 10 := by omega
  have := gi (h := h) om h1
  unfold keyAt at this
  rw [xB h0, hk] at this
  exact ⟨by omega, h1, yr this⟩
end
def Mk (x : Wsh) (ps : List Pxy) : Prop := validH keysH x ps x.rf x.sf = true
section
variable {x : Wsh} {ps : List Pxy}
theorem Mk.pieces (h : Mk x ps) : ¬ formB keysH x ps ∧ badIdx ps 0 = none ∧ ck x.signer x.holder ps 0 = none ∧ bB x none ps 0 = none ∧ bL keysH x ps 0 = none := by
 obtain ⟨h0, hb, _, _, hc, hs, hl⟩ := ly.1 h
 exact ⟨h0, hb, hc, hs, hl⟩
theorem Mk.ok (h : Mk x ps) : x.ok = true := by
 have := h.pieces.1
 cases hx : x.ok with
 | true => rfl
 | false => exact absurd (.inr (.inr (.inl hx))) this
theorem Mk.len (h : Mk x ps) : ps.length ≤ 4 := Nat.le_of_not_lt fun hl => h.pieces.1 (.inr (.inr (.inr hl)))
theorem Mk.formed (h : Mk x ps) : bT x ps = true := by
 unfold bT
 rw [h.ok, h.pieces.2.1, xt h.len]; rfl
theorem Mk.sgn (h : Mk x ps) : 0 ≤ x.signer ∧ x.signer < 10 ∧ x.sig = sealH (keyH x.signer) x.content := by
 obtain ⟨key, h1, h2⟩ := (kH h.pieces.2.2.2.2).2
 obtain ⟨h3, h4, rfl⟩ := me h1
 exact ⟨h3, h4, h2⟩
theorem Mk.each (h : Mk x ps) {p : Pxy} (hp : p ∈ ps) : 0 ≤ p.frm ∧ p.frm < 10 ∧ p.sig = sealH (keyH p.frm) p.content ∧ p.ok = true := by
 obtain ⟨key, h1, h2⟩ := (kH h.pieces.2.2.2.2).1 p hp
 obtain ⟨h3, h4, rfl⟩ := me h1
 exact ⟨h3, h4, h2, ed h.pieces.2.1 p hp⟩
theorem Mk.same (h : Mk x ps) : x.sealed (keyH x.signer) = x := by
 have := h.sgn.2.2
 unfold Wsh.sealed
 rw [← this]
theorem Mk.xsig (h : Mk x ps) : x.sig.length = 32 := by rw [h.sgn.2.2]; exact gu _ _
theorem Mk.psig (h : Mk x ps) : ∀ p ∈ ps, p.sig.length = 32 := fun p hp => by rw [(h.each hp).2.2.1]; exact gu _ _
theorem Mk.enc (h : Mk x ps) : ∃ s, cU x ps = some s := ⟨_, dy.2 ⟨h.formed, h.xsig, h.psig, rfl⟩⟩
theorem Mk.valid (h : Mk x ps) (n t : Int) : validH keysH x ps n t = (inB t x.sf (x.st - 1) && inB n x.rf (x.rt - 1)) := kE h n t
theorem Mk.here (h : Mk x ps) : validH keysH x ps x.rf x.sf = true := h
end
theorem vz (holder r0 r1 s0 s1 carrier serial : Int) (l : List Cin) : Mk (madeW holder r0 r1 s0 s1 carrier serial l) (madeL holder r0 r1 s0 s1 l) := by
 have hb := Wsh.ok_bnd (oM holder r0 r1 s0 s1 carrier serial l)
 unfold Mk validH
 rw [t7, xB, xB]
 ·rfl
 ·simp [inB]; omega
 ·simp [inB]; omega
theorem wo {holder r0 r1 s0 s1 carrier serial : Int} {cv : Value} {ys : List Cin} {w0 : World} {x : Wsh} {ps : List Pxy} (hx : madeW holder r0 r1 s0 s1 carrier serial ys = x) (hps : madeL holder r0 r1 s0 s1 ys = ps) (hcv : SlAt w0 cv 5 (ys.map Cin.cells)) (hys : ∀ y ∈ ys, y.wt) (h0 : i64 holder) (h1 : i64 r0) (h2 : i64 r1) (h3 : i64 s0) (h4 : i64 s1) (h5 : i64 carrier) (h6 : i64 serial) :
  Ret Tryz.prog 32 #[.agg #[jv holder, jv r0, jv r1, jv s0, jv s1, jv carrier, jv serial, cv]] w0 (MemR w0 (fun v : Value => .tuple #[.agg #[jv x.signer, jv x.holder, jv x.rf, jv x.rt, jv x.carrier, jv x.serial, jv x.sf, jv x.st, sv x.sig], v]) (fun v => [own v 144 7 (ps.map Pxy.cells)]) (fun _ => True)) := by
 subst hx; subst hps
 exact vS holder r0 r1 s0 s1 carrier serial cv ys w0 hcv hys h0 h1 h2 h3 h4 h5 h6
end Go.Proofs.YtliklcmddmpdfaaGreatDoor
namespace Go.Proofs.YtliklcmddmpdfaaGreatDoor
open Go.RowKit Go.PW _root_.Go.Proofs.Tryz
theorem Pxy.ok_bnd {p : Pxy} (h : p.ok = true) : 0 ≤ p.rt ∧ p.rt ≤ 100000000 := by
 simp only [Pxy.ok, cF, xi, xk] at h; omega
theorem wu {x bw : Wsh} {how n : Int} {w0 : World} (hbw : bentW x how n = bw) (hh : -9223372036854775808 ≤ how ∧ how ≤ 9223372036854775807) (hx : x.rt < 9223372036854775807) (hx2 : -9223372036854775808 ≤ x.rt) :
  Ret Tryz.prog 105 #[.agg #[jv x.signer, jv x.holder, jv x.rf, jv x.rt, jv x.carrier, jv x.serial, jv x.sf, jv x.st, sv x.sig], jv how, jv n] w0 fun v w => v = .tuple #[.agg #[jv bw.signer, jv bw.holder, jv bw.rf, jv bw.rt, jv bw.carrier, jv bw.serial, jv bw.sf, jv bw.st, sv bw.sig], .bool (!(decide (bw = x)))] ∧ Ext No w0 w := by
 subst hbw; exact uH x how n w0 hh hx hx2
section
variable {ks : List By} {x : Wsh} {ps : List Pxy} {number t : Int}
theorem um {k : Nat} (hk : k < ps.length) (h : (ps.getD k Pxy.z).ok = true) : badIdx (ps.drop k) k = badIdx (ps.drop (k + 1)) (k + 1) := by
 rw [dF Pxy.z hk, badIdx, xD h]
theorem mN {k : Nat} (hk : k < ps.length) (h : (ps.getD k Pxy.z).ok = false) : badIdx (ps.drop k) k = some k := by
 rw [dF Pxy.z hk, badIdx, xB (by rw [h]; simp)]
end
theorem o3 (x : Wsh) (lv : Value) (ps : List Pxy) (w0 : World) (hlv : SlAt w0 lv 7 (ps.map Pxy.cells)) :
  Ret Tryz.prog 152 #[.agg #[jv x.signer, jv x.holder, jv x.rf, jv x.rt, jv x.carrier, jv x.serial, jv x.sf, jv x.st, sv x.sig], lv] w0 fun v w => v = .bool (bT x ps) ∧ Ext No w0 w := by
 have hxb := hlv.2.1
 simp only [xg, big] at hxb
 refine zb func152 O ntmps152 (lb O) fun a Z Y => ?_
 refine aa fun _ G1 => aS Z Y de O (cs := [jv x.signer, jv x.holder, jv x.rf, jv x.rt, jv x.carrier, jv x.serial, jv x.sf, jv x.st, sv x.sig]) O fun a w1 Z Y => wla Z O fun a Z => G1 <| ah fun _ G2 => ?_
 refine aa fun _ G3 => wlv Z (ai (Y.g 0 O) O (isAgg90 _) (sizeOf90 _)) fun a Z => ax Z Y de call135 O (nQ x _) fun a w2 Z Y => nv Z <| pq (bu O) <| xc O <| fun a Z => ?_
 rcases xh (!x.ok) with hb1 | hb1
 ·rw [hb1] at Z
  try simp only [qz] at hb1
  refine nv Z <| xf <| xf <| xf <| pq (ay O O) <| fun a Z => G3 ?_
  replace Z := Z.p3 1 4 13 O
  replace Y := Y.k0 0 O
  refine aK Z O ?_
  refine aa fun _ G4 => wla Z O fun a Z => G4 <| ap ?_
  refine am Z results152 (ag O ae) ?_
  refine ⟨?_, Y.ext⟩
  simp only [retv]
  unfold bT
  first | (rw [hbi, mN hkx (by simpa using hb1)]; simp; done) | (rw [xz (by omega : ¬ ps.length ≤ 4)]; simp; done) | (rw [(by simpa using hb1 : x.ok = false)]; rfl)
 rw [hb1] at Z
 try simp only [qz] at hb1
 refine nv Z <| xe (az O) <| xe ((aH (sT := 91) (Y.arg hlv) O O (runUnderlying91 _)).asi (m' := (ps.length : Int)) zF) <| xe (v_gt O O) <| pq (aj O O) <| fun a Z => G3 ?_
 replace Z := Z.p3 1 4 13 O
 replace Y := Y.k0 0 O
 refine aA Z O (fun hc2 => ?_) (fun hc2 => ?_)
 ·try simp only [qz] at hc2
  refine aa fun _ G5 => wla Z O fun a Z => G5 <| ap ?_
  refine am Z results152 (ag O ae) ?_
  refine ⟨?_, Y.ext⟩
  simp only [retv]
  unfold bT
  first | (rw [hbi, mN hkx (by simpa using hc2)]; simp; done) | (rw [xz (by omega : ¬ ps.length ≤ 4)]; simp; done) | (rw [(by simpa using hc2 : x.ok = false)]; rfl)
 try simp only [qz] at hc2
 refine aw <| G2 <| ah fun _ G6 => ?_
 have hxo : x.ok = true := by simpa using hb1
 refine aa fun _ G7 => wla Z O fun a Z => G7 <| au ?_
 refine aY (fun m a w => ∃ (k : Nat), m = ps.length - k ∧ (k ≤ ps.length) ∧ (badIdx ps 0 = badIdx (ps.drop k) k) ∧ Fr 26 [(1, lv), (5, jv (k : Int))] [] a ∧ St No w0 [] w) _ ⟨0, O, xG _, O, Z.pick [1, 5], Y.select [] de⟩ ?_
 rintro _ a w3 ⟨k, rfl, hk, hbi, Z, Y⟩
 refine ah fun _ G8 => aa fun _ G9 => nv Z <| xc O <| xc O <| pq ((aH (sT := 91) (Y.arg hlv) O O (runUnderlying91 _)).asi (m' := (ps.length : Int)) zF) <| pq (v_lt O O) <| fun a Z => G9 <| aA Z O (fun hc3 => ?_) (fun hc3 => ?_)
 ·try simp only [qz] at hc3
  have hkx : k < ps.length := by omega
  refine aw <| G8 <| ah fun _ G10 => au <| aa fun _ G11 => nv Z <| xc O <| xc O <| pq ((ao (i := (k : Int)) (sT := 91) (Y.arg hlv) O O (runUnderlying91 _) (sizeOf144 _) om zm).as (v' := slAddr lv (k * 7)) O) <| pq ((bN (Y.arg hlv) (i := k) zm O (isAgg144 _) (sizeOf144 _)).as (v' := .agg #[jv ((ps.getD k Pxy.z).frm), jv ((ps.getD k Pxy.z).to), jv ((ps.getD k Pxy.z).rf), jv ((ps.getD k Pxy.z).rt), jv ((ps.getD k Pxy.z).sf), jv ((ps.getD k Pxy.z).st), sv ((ps.getD k Pxy.z).sig)]) zX) <| fun a Z => ax Z Y de call132 O (mi (ps.getD k Pxy.z) _) fun a w4 Z Y => wlv Z (bu O) fun a Z => G11 ?_
  replace Z := Z.p3 1 5 25 O
  refine aA Z O (fun hc4 => ?_) (fun hc4 => ?_)
  ·try simp only [qz] at hc4
   refine aa fun _ G12 => wla Z O fun a Z => G12 <| ap ?_
   refine am Z results152 (ag O ae) ?_
   refine ⟨?_, Y.ext⟩
   simp only [retv]
   unfold bT
   first | (rw [hbi, mN hkx (by simpa using hc4)]; simp; done) | (rw [xz (by omega : ¬ ps.length ≤ 4)]; simp; done) | (rw [(by simpa using hc4 : x.ok = false)]; rfl)
  try simp only [qz] at hc4
  refine aw <| G10 <| al <| nv Z <| xc O <| pq (aP O O ⟨om, om⟩) <| xd O <| fun a Z => ab ?_
  refine ⟨_, ?_, k + 1, O, om, (by rw [hbi]; exact um hkx (by simpa using hc4)), Z.pick [1, 5], Y.select [] de⟩
  omega
 try simp only [qz] at hc3
 have hke : k = ps.length := by omega
 rw [hke, List.drop_length] at hbi
 refine aO <| G6 <| aa fun _ G13 => wla Z O fun a Z => G13 ?_
 replace Z := Z.p1 4 O
 refine ap <| am Z results152 (ag O ae) ?_
 exact ⟨by simp only [retv]; unfold bT; rw [hbi, badIdx, hxo, xt (by omega : ps.length ≤ 4)]; rfl, Y.ext⟩
end Go.Proofs.YtliklcmddmpdfaaGreatDoor
namespace Go.Proofs.YtliklcmddmpdfaaGreatDoor
open Go.RowKit Go.PW _root_.Go.Proofs.Tryz
theorem fH {ps : List Pxy} {k : Nat} (h : ∀ p ∈ ps.take k, p.sig.length = 32) (h4 : ps.length ≤ 4) : (encX ps k).length ≤ 10000 := by
 unfold encX
 have h1 := dS [(ps.length : Int)]
 have h2 := iX (l := ps.take k) h
 rw [xj]
 rw [xm] at h2
 simp only [xq, xu] at h1
 omega
theorem uR {x : Wsh} {ps : List Pxy} {k : Nat} (hk : k < ps.length) (h : ¬ ((ps.getD k Pxy.z).sig.length : Int) = 32) : cU x ps = none := by
 cases he : cU x ps with
 | none => rfl
 | some s =>
  obtain ⟨_, _, h3, _⟩ := dy.1 he
  have := h3 _ (bA (d := Pxy.z) hk)
  omega
theorem tQ {ps : List Pxy} {k : Nat} (h : ∀ p ∈ ps.take k, p.sig.length = 32) (hk : k = ps.length) : ∀ p ∈ ps, p.sig.length = 32 := by
 subst hk; rwa [List.take_length] at h
def encT (x : Wsh) (ps : List Pxy) : By × Int := match cU x ps with
 | some s => (s, 0)
 | none => ([], 150)
theorem enc_T (x : Wsh) (ps : List Pxy) : (match cU x ps with | some s => Value.tuple #[sv s, jv 0] | none => .tuple #[sv [], jv 150]) = .tuple #[sv (encT x ps).1, jv (encT x ps).2] := by
 unfold encT; cases cU x ps <;> rfl
theorem pL (x : Wsh) (lv : Value) (ps : List Pxy) (w0 : World) (hlv : SlAt w0 lv 7 (ps.map Pxy.cells)) :
  Ret Tryz.prog 106 #[.agg #[jv x.signer, jv x.holder, jv x.rf, jv x.rt, jv x.carrier, jv x.serial, jv x.sf, jv x.st, sv x.sig], lv] w0 fun v w => v = (match cU x ps with | some s => .tuple #[sv s, jv 0] | none => .tuple #[sv [], jv 150]) ∧ Ext No w0 w := by
 have hxb := hlv.2.1
 simp only [xg, big] at hxb
 refine zb func106 O ntmps106 (lb O) fun a Z Y => ?_
 refine aa fun _ G1 => aS Z Y de O (cs := [jv x.signer, jv x.holder, jv x.rf, jv x.rt, jv x.carrier, jv x.serial, jv x.sf, jv x.st, sv x.sig]) O fun a w1 Z Y => nv Z <| xd O <| xd O <| fun a Z => G1 <| ah fun _ G2 => ?_
 refine aa fun _ G3 => nv Z <| pq (ai (Y.g 0 O) O (isAgg90 _) (sizeOf90 _)) <| xc O <| fun a Z => ax Z Y de call152 O (o3 x lv ps _ (Y.arg hlv)) fun a w2 Z Y => nv Z <| pq (bu O) <| xc O <| fun a Z => ?_
 rcases xh (!(bT x ps)) with hb1 | hb1
 ·rw [hb1] at Z
  try simp only [qz] at hb1
  refine nv Z <| xf <| xf <| xf <| xf <| pq (ay O O) <| fun a Z => G3 ?_
  replace Z := Z.p5 1 2 4 5 17 O
  refine aK Z O ?_
  refine aa fun _ G4 => nv Z <| xd O <| xd O <| fun a Z => G4 <| ap ?_
  refine am Z results106 (ag O (ag O ae)) ?_
  exact ⟨by simp only [retv]; rw [fV (.inl (by simpa using hb1))]; rfl, Y.ext⟩
 rw [hb1] at Z
 try simp only [qz] at hb1
 refine nv Z <| xe (ac (v := po w0.hz 8) O kr) <| xe (ld Y 0 O O (isAgg9 _) O) <| xe (bp O O (runUnderlying9 _)) <| xe (v_ne O O) <| pq (aj O O) <| fun a Z => G3 ?_
 replace Z := Z.p5 1 2 4 5 17 O
 refine aA Z O (fun hc2 => ?_) (fun hc2 => ?_)
 ·try simp only [qz] at hc2
  refine aa fun _ G5 => nv Z <| xd O <| xd O <| fun a Z => G5 <| ap ?_
  refine am Z results106 (ag O (ag O ae)) ?_
  exact ⟨by simp only [retv]; rw [fV (.inr (.inl (by simpa using hc2)))]; rfl, Y.ext⟩
 try simp only [qz] at hc2
 refine aw <| G2 ?_
 have hfo : bT x ps = true := by simpa using hb1
 have hsx : x.sig.length = 32 := by omega
 have h4 := gR hfo
 have hxo := j1 hfo
 refine aa fun _ G6 => nv Z <| xc O <| pq ((aH (sT := 91) (Y.arg hlv) O O (runUnderlying91 _)).asi (m' := (ps.length : Int)) zF) <| fun a Z => aE (E := 3) (sz := 1) O [[jv (ps.length : Int)]] kr sm O de de Z Y fun a w3 Z Y => ax Z Y de call97 O (jY [(ps.length : Int)] (.slice (some ⟨w2.hz, 0, none⟩) 1 1) _ (Y.ow 0 O) (by intro z hz; rw [xM.1 hz]; unfold small; omega) sm) fun a w4 Z Y => wla Z O fun a Z => G6 <| ah fun _ G7 => ?_
 refine aa fun _ G8 => wla Z O fun a Z => G8 <| au ?_
 have hz0 : puts [(ps.length : Int)] = encX ps 0 := by unfold encX; simp
 rw [hz0] at Z
 refine aY (fun m a w => ∃ (k : Nat), m = ps.length - k ∧ (k ≤ ps.length) ∧ (∀ p ∈ ps.take k, p.sig.length = 32) ∧ Fr 55 [(1, lv), (2, pt w0.hz), (7, jv (k : Int)), (6, sv (encX ps k))] [] a ∧ St No w0 [blk w0.hz [jv x.signer, jv x.holder, jv x.rf, jv x.rt, jv x.carrier, jv x.serial, jv x.sf, jv x.st, sv x.sig] 90] w) _ ⟨0, O, xG _, sm, Z.pick [1, 2, 7, 6], Y.select [1] de⟩ ?_
 rintro _ a w5 ⟨k, rfl, hk, hsg, Z, Y⟩
 refine ah fun _ G9 => aa fun _ G10 => nv Z <| xc O <| xc O <| pq ((aH (sT := 91) (Y.arg hlv) O O (runUnderlying91 _)).asi (m' := (ps.length : Int)) zF) <| pq (v_lt O O) <| fun a Z => G10 <| aA Z O (fun hc3 => ?_) (fun hc3 => ?_)
 ·try simp only [qz] at hc3
  have hkx : k < ps.length := by omega
  have hpk := kI hfo _ (bA (d := Pxy.z) hkx)
  refine aw <| G9 <| ah fun _ G11 => au <| ah fun _ G12 => aa fun _ G13 => nv Z <| xc O <| xc O <| pq ((ao (i := (k : Int)) (sT := 91) (Y.arg hlv) O O (runUnderlying91 _) (sizeOf144 _) om zm).as (v' := slAddr lv (k * 7)) O) <| pq (cG (k := k * 7) (j := 6) (Y.arg hlv) (i := k) zm O (fun _ _ => by kernel_rfl)) <| pq (aD (u := sv ((ps.getD k Pxy.z).sig)) (i := k) (j := 6) (Y.arg hlv) zm O (isAgg9 _) zX) <| pq (bp O O (runUnderlying9 _)) <| pq (v_ne O O) <| fun a Z => G13 ?_
  replace Z := Z.p5 1 2 7 6 34 O
  refine aA Z O (fun hc4 => ?_) (fun hc4 => ?_)
  ·try simp only [qz] at hc4
   refine aa fun _ G14 => nv Z <| xd O <| xd O <| fun a Z => G14 <| ap ?_
   refine am Z results106 (ag O (ag O ae)) ?_
   exact ⟨by simp only [retv]; rw [uR hkx hc4]; rfl, Y.ext⟩
  try simp only [qz] at hc4
  have hsk : (ps.getD k Pxy.z).sig.length = 32 := by omega
  refine aw <| G12 <| aL kr (aM kr fun w6 hxz => ?_)
  replace Y := Y.grow hxz
  refine aU (k := 0) 12 [6, 11] Z kr kr kr rfx ?_
  replace Z := Z.p4 1 2 7 6 O
  refine bS 12 Z Y kr kr <| pl_m O <| pl_m O <| pl_m O <| pl_w (fun Y => (ao (i := (k : Int)) (sT := 91) (Y.arg hlv) O O (runUnderlying91 _) (sizeOf144 _) om zm).as (v' := slAddr lv (k * 7)) O) <| pl_w (fun Y => (bN (Y.arg hlv) (i := k) zm O (isAgg144 _) (sizeOf144 _)).as (v' := .agg #[jv ((ps.getD k Pxy.z).frm), jv ((ps.getD k Pxy.z).to), jv ((ps.getD k Pxy.z).rf), jv ((ps.getD k Pxy.z).rt), jv ((ps.getD k Pxy.z).sf), jv ((ps.getD k Pxy.z).st), sv ((ps.getD k Pxy.z).sig)]) zX) <| pl_r (fun Y => bK call134 O (hU (ps.getD k Pxy.z) _ (Pxy.smalls_of hpk))) ?_
  refine pl_v (dM O O zN) <| pl_m O <| pl_m O <| pl_w (fun Y => (ao (i := (k : Int)) (sT := 91) (Y.arg hlv) O O (runUnderlying91 _) (sizeOf144 _) om zm).as (v' := slAddr lv (k * 7)) O) <| pl_w (fun Y => cG (k := k * 7) (j := 6) (Y.arg hlv) (i := k) zm O (fun _ _ => by kernel_rfl)) <| pl_w (fun Y => aD (u := sv ((ps.getD k Pxy.z).sig)) (i := k) (j := 6) (Y.arg hlv) zm O (isAgg9 _) zX) fun a w7 Z Y => ?_
  replace Z := Z.p5 1 2 7 41 46 O
  refine ab <| aN (k := 12) 14 [13] kr kr kr ?_
  refine nv Z <| pq (dM O O zN) <| xd O <| fun a Z => ab <| aT kr ?_
  refine G11 <| al <| nv Z <| xc O <| pq (aP O O ⟨om, om⟩) <| xd O <| fun a Z => ab ?_
  rw [show ((encX ps k) ++ ((ps.getD k Pxy.z).content)) ++ ((ps.getD k Pxy.z).sig) = encX ps (k + 1) from by rw [li hkx]] at Z
  refine ⟨_, ?_, k + 1, O, om, (by intro p hp; rw [cB Pxy.z hkx] at hp; rcases yq.1 hp with hp | hp; exact hsg p hp; rw [xM.1 hp]; exact hsk), Z.pick [1, 2, 7, 6], Y.select [0] de⟩
  omega
 try simp only [qz] at hc3
 have hke : k = ps.length := by omega
 have hal := tQ hsg hke
 refine aO <| G7 <| ah fun _ G15 => aL kr (aM kr fun w8 hxz => ?_)
 replace Y := Y.grow hxz
 refine aU (k := 0) 6 [3, 5] Z kr kr kr rfx ?_
 refine bS 6 (Z.p7 1 2 7 6 22 23 24 O) Y kr kr <| pl_m O <| pl_w (fun Y => ai (Y.g 0 O) O (isAgg90 _) (sizeOf90 _)) <| pl_r (fun Y => bK call37 O (ij x _ (Wsh.smalls_of hxo))) <| pl_v (dM O O zN) <| pl_v (ac (v := po w0.hz 8) O kr) <| pl_w (fun Y => ld Y 0 O O (isAgg9 _) O) fun a w9 Z Y => ?_
 replace Z := Z.p2 51 53 O
 refine ab <| aN (k := 6) 9 [8] kr kr kr ?_
 refine nv Z <| pq (dM O O zN) <| xd O <| xd O <| fun a Z => ab <| aT kr ?_
 refine G15 <| ap <| am Z results106 (ag O (ag O ae)) ?_
 exact ⟨by simp only [retv]; rw [qk hfo hsx hal, hke]; try rfl, Y.ext⟩
theorem lE {x : Wsh} {lv : Value} {ps : List Pxy} {t : By} {e : Int} {w0 : World} (h : encT x ps = (t, e)) (hlv : SlAt w0 lv 7 (ps.map Pxy.cells)) : Ret Tryz.prog 106 #[.agg #[jv x.signer, jv x.holder, jv x.rf, jv x.rt, jv x.carrier, jv x.serial, jv x.sf, jv x.st, sv x.sig], lv] w0 fun v w => v = .tuple #[sv t, jv e] ∧ Ext No w0 w := by
 have := pL x lv ps w0 hlv
 rw [enc_T, h] at this
 exact this
theorem sK {f : FuncId} {args : Array Value} {w : World} {a b : Value} (h : a = b) (hr : Ret Tryz.prog f args w fun v w' => v = a ∧ Ext No w w') : Ret Tryz.prog f args w fun v w' => v = b ∧ Ext No w w' := by subst h; exact hr
theorem cf {f : FuncId} {args : Array Value} {w : World} {b c : Bool} (h : b = c) (hr : Ret Tryz.prog f args w fun v w' => v = .bool b ∧ Ext No w w') : Ret Tryz.prog f args w fun v w' => v = .bool c ∧ Ext No w w' := by subst h; exact hr
theorem gY {f : FuncId} {args : Array Value} {w : World} {b c : Int} (h : b = c) (hr : Ret Tryz.prog f args w fun v w' => v = jv b ∧ Ext No w w') : Ret Tryz.prog f args w fun v w' => v = jv c ∧ Ext No w w' := by subst h; exact hr
def Cas.cells (x : Cas) : List Value := [jv x.n, jv x.t, sv x.ev]
def cE (x : Cas) : Int := if x.ok = true then 0 else 210
theorem qH {acc : List Int} {m : Nat} {r q : By} {n : Int} (h : rdI r = some (n, q)) : decC acc (m + 1) r = decC (acc ++ [n]) m q := by
 unfold decC; rw [nU h]
 cases intsR m q with
 | none => rfl
 | some p => obtain ⟨l, t⟩ := p; simp
theorem nk {acc : List Int} {m : Nat} {r : By} (h : rdI r = none) : decC acc (m + 1) r = none := by unfold decC; rw [rV h]
theorem tN {s : By} : decCas s = decC [] 2 s := rfl
theorem pO {P : Program} {w : World} {L : List (Nat × Value)} {dst : Option Tmp} {T T' ty : TypeId} {pos : String} {af : Array Edge} {x y : Operand} (hx : ev L x = some .nilIface) (hy : ev L y = some .nilIface) (hr : (binOp .eql T .nilIface .nilIface).run P w = .ok (.bool true) w) (hg : (eqGuard .eql T x y .nilIface .nilIface).run P w = .ok () w) : OpV P ⟨dst, .binOp .eql T x y T', ty, pos, af, none⟩ L w (.bool true) :=
 ⟨rfl, fun N df a h => by
  simp only [execOp, h.eval hx, h.eval hy, xK, hg, hr, xA]; rfl⟩
theorem da (n lo hi : Int) (w0 : World) :
  Ret Tryz.prog 49 #[jv n, jv lo, jv hi] w0 fun v w => v = .bool (inB n lo hi) ∧ Ext No w0 w := by
 refine zd func49 O ntmps49 (lb O) fun a Z Y => ?_
 refine aa fun _ G1 => wla Z O fun a Z => G1 <| aa fun _ G2 => ?_
 refine nv Z <| xc O <| xc O <| pq (v_le O O) <| xc O <| fun a Z => db (N := 15) (df := []) 4 [(14, .bool ((decide (lo ≤ n)) && (decide (n ≤ hi)))), (0, jv n), (1, jv lo), (2, jv hi), (6, .bool false)] ?_ (fun hj => ?_)
 rotate_left
 ·rcases xh (decide (lo ≤ n)) with hb1 | hb1
  ·rw [hb1] at Z
   have hb1b := hb1
   try simp only [qz, xi, xC, xy, xE] at hb1
   refine nv Z <| xe (az O) <| xe (az O) <| xe (v_le O O) <| pq (ay O O) <| fun a Z => hj _ ?_
   try rw [hb1b]
   exact Z.pick [14, 0, 1, 2, 6]
  rw [hb1] at Z
  have hb1b := hb1
  try simp only [qz, xi, xC, xy, xE] at hb1
  refine nv Z <| xf <| xf <| xf <| pq (aj O O) <| fun a Z => hj _ ?_
  try rw [hb1b]
  exact Z.pick [14, 0, 1, 2, 6]
 intro a Z
 refine wla Z O fun a Z => G2 <| ap ?_
 refine am Z results49 (ag O ae) ?_
 exact ⟨by rfl, Y.ext⟩
theorem gL (x : Cas) (w0 : World) :
  Ret Tryz.prog 59 #[.agg #[jv x.n, jv x.t, sv x.ev]] w0 fun v w => v = .bool x.ok ∧ Ext No w0 w := by
 refine zc func59 O ntmps59 (lb O) fun a Z Y => ?_
 refine aa fun _ G1 => aS Z Y de O (cs := [jv x.n, jv x.t, sv x.ev]) O fun a w1 Z Y => wla Z O fun a Z => G1 <| aa fun _ G2 => ?_
 refine nv Z <| pq (ac (v := pt w0.hz) O kr) <| pq (ld Y 0 O O (isAgg3 _) O) <| fun a Z => ax Z Y de call49 O (da x.n 0 99999999 _) fun a w2 Z Y => wlm Z O fun a Z => ?_
 rcases xh (inB x.n 0 99999999) with hb1 | hb1
 ·rw [hb1] at Z
  refine nv Z <| xe (ac (v := po w0.hz 1) O kr) <| xe (ld Y 0 O O (isAgg3 _) O) <| fun a Z => aF Z Y de O de O call49 O (da x.t 0 10000000 _) fun a w3 Z Y => nv Z <| pq (ay O O) <| xc O <| fun a Z => ?_
  rcases xh (inB x.t 0 10000000) with hb2 | hb2
  ·rw [hb2] at Z
   refine nv Z <| xe (ac (v := po w0.hz 2) O kr) <| xe (ld Y 0 O O (isAgg9 _) O) <| xe (bp O O (runUnderlying9 _)) <| xe (v_le O O) <| pq (ay O O) <| xd O <| fun a Z => G2 ?_
   replace Z := Z.p1 2 O
   replace Y := Y.k0 0 O
   refine ap <| am Z results59 (ag O ae) ?_
   refine ⟨?_, Y.ext⟩
   simp only [retv]
   refine xI Value.bool ?_
   unfold Cas.ok
   simp only [hb1, hb2, yB]
   exact decide_eq_decide.2 om
  rw [hb2] at Z
  refine nv Z <| xf <| xf <| xf <| xf <| pq (aj O O) <| xd O <| fun a Z => G2 ?_
  replace Z := Z.p1 2 O
  replace Y := Y.k0 0 O
  refine ap <| am Z results59 (ag O ae) ?_
  refine ⟨?_, Y.ext⟩
  simp only [retv]
  refine xI Value.bool ?_
  unfold Cas.ok
  simp only [hb1, hb2, yB, yR]
 rw [hb1] at Z
 refine nv Z <| xf <| xf <| xf <| pq (aj O O) <| xc O <| xf <| xf <| xf <| xf <| pq (aj O O) <| xd O <| fun a Z => G2 ?_
 replace Z := Z.p1 2 O
 replace Y := Y.k0 0 O
 refine ap <| am Z results59 (ag O ae) ?_
 refine ⟨?_, Y.ext⟩
 simp only [retv]
 refine xI Value.bool ?_
 unfold Cas.ok
 simp only [hb1, yB, yR]
theorem vF (x : Cas) (w0 : World) :
  Ret Tryz.prog 19 #[.agg #[jv x.n, jv x.t, sv x.ev]] w0 fun v w => v = .tuple #[sv (encP x), jv (cE x)] ∧ Ext No w0 w := by
 refine zc func19 O ntmps19 (lb O) fun a Z Y => ?_
 refine aa fun _ G1 => aS Z Y de O (cs := [jv x.n, jv x.t, sv x.ev]) O fun a w1 Z Y => nv Z <| xd O <| xd O <| fun a Z => G1 <| ah fun _ G2 => ?_
 refine aa fun _ G3 => wlv Z (ai (Y.g 0 O) O (isAgg55 _) (sizeOf55 _)) fun a Z => ax Z Y de call59 O (gL x _) fun a w2 Z Y => wlv Z (bu O) fun a Z => G3 <| aA Z O (fun hc1 => ?_) (fun hc1 => ?_)
 ·try simp only [qz] at hc1
  refine aa fun _ G4 => nv Z <| xd O <| xd O <| fun a Z => G4 <| ap ?_
  refine am Z results19 (ag O (ag O ae)) ?_
  exact ⟨by simp only [retv]; unfold encP cE; rw [xB (by rw [hc1]; decide), xB (by rw [hc1]; decide)]; rfl, Y.ext⟩
 try simp only [qz] at hc1
 have hbd := Cas.bnd hc1
 have hl1 := bV x.n
 have hl2 := bV x.t
 have hl3 := bV (x.ev.length : Int)
 have hl4 : (putS x.ev).length ≤ 1000 := by unfold putS; rw [xj]; omega
 refine aw <| G2 <| aa fun _ G5 => nv Z <| pq (ac (v := pt w0.hz) O kr) <| pq (ld Y 0 O O (isAgg3 _) O) <| fun a Z => ax Z Y de call60 O (fg x.n _ zB) fun a w3 Z Y => nv Z <| xc O <| pq (ar O O) <| pq (ar O O) <| xd O <| xd O <| fun a Z => G5 ?_
 refine aa fun _ G6 => nv (Z.p4 1 2 3 4 O) <| pq (ac (v := po w0.hz 1) O kr) <| pq (ld Y 0 O O (isAgg3 _) O) <| fun a Z => ax Z Y de call60 O (fg x.t _ zB) fun a w4 Z Y => nv Z <| xc O <| pq (ar O O) <| pq (ar O O) <| xd O <| xd O <| fun a Z => G6 ?_
 refine aa fun _ G7 => nv (Z.p5 1 2 3 4 6 O) <| pq (ac (v := po w0.hz 2) O kr) <| pq (ld Y 0 O O (isAgg9 _) O) <| fun a Z => ax Z Y de call61 O (mU x.ev _ om) fun a w5 Z Y => nv Z <| xc O <| pq (ar O O) <| pq (ar O O) <| xd O <| xd O <| fun a Z => G7 ?_
 replace Y := Y.k0 0 O
 refine aa fun _ G8 => nv (Z.p5 2 3 4 6 8 O) <| xc O <| xc O <| pq (dM O O z7) <| xc O <| pq (dM O O z7) <| xd O <| xd O <| fun a Z => G8 ?_
 replace Z := Z.p2 2 3 O
 refine ap <| am Z results19 (ag O (ag O ae)) ?_
 exact ⟨by simp only [retv]; unfold encP cE; rw [xD hc1, xD hc1]; simp [Cas.enc, puts], Y.ext⟩
theorem j3 (w0 : World) :
  Ret Tryz.prog 64 #[jv 0] w0 fun v w => v = .tuple #[] ∧ Ext No w0 w := by
 refine zc func64 O ntmps64 (lb O) fun a Z Y => ?_
 refine aa fun _ G1 => nv Z <| xc O <| pq ((v_ne O O).asb (b' := false) O) <| fun a Z => G1 <| aJ Z O ?_
 refine aw <| cQ Z results64 ae ?_
 exact ⟨by rfl, Y.ext⟩
theorem iZ (w0 : World) :
  Pan Tryz.prog 64 #[jv 10] w0 fun c w => c = [{ v := .iface 126 (.agg #[]), recovered := false }] ∧ Ext No w0 w := by
 refine na func64 O ntmps64 (lb O) fun a Z => ?_
 replace Y : St No w0 [] w0 := St.init w0
 refine aa fun _ G1 => nv (Z.p1 0 O) <| xc O <| pq ((v_ne O O).asb (b' := true) O) <| fun a Z => G1 <| aK Z O ?_
 refine bF <| aR 2 ?_
 refine nv Z <| pq (bj (v := .agg #[]) O kr) <| pq (cT O underlying126) <| fun a Z => ab <| dV Z O ?_
 exact eM (X := fun c w => c = [{ v := .iface 126 (.agg #[]), recovered := false }] ∧ Ext No w0 w) Z ⟨O, Y.ext⟩
theorem fe {M : Nat → Prop} {w0 : World} (b2 b3 : Nat) (c0 c1 c2 c5 : Value) (ws : World) (Y : St M w0 [blk b2 [c0, c1, c2] 55, blk b3 [c5] 41] ws) :
  CallsDIn Fence.wide 0 Tryz.prog 62 #[pt b2, pt b3] (.panicking [{ v := .iface 126 (.agg #[]), recovered := false }]) ws fun e u' w => u' = (.panicking [{ v := .iface 126 (.agg #[]), recovered := true }]) ∧ ∃ x, e = .returned x ∧ St M w0 [blk b2 [jv 0, jv 0, sv ([] : By)] 55, blk b3 [jv 210] 41] w  := by
 refine mQ (args := [pt b2, pt b3]) func62 O ntmps62 (lb O) O O de (fun _ _ => O) (.inr ⟨O, O⟩) fun a Z => ?_
 replace Z := Z.p3 5 0 1 O
 skip
 refine au <| aa fun _ G1 => wlv Z (kf O O kr kr) fun a Z => G1 <| aJ Z O ?_
 refine aa fun _ G2 => nv Z <| pq (io O underlying126) <| pq (ar O O) <| pq (ar O O) <| fun a Z => G2 <| aK Z O ?_
 refine aa fun _ G3 => aB Z Y de (zeroValue126 _) (cs := []) O fun a w1 Z Y => aq 0 Z Y O O O (sizeOf126 _) O (lb O) (ds := []) O O fun a w2 Z Y => G3 ?_
 replace Y := Y.k2 6 O
 refine al <| wlv (Z.p2 0 1 O) (bj (v := .agg #[jv 0, jv 0, .string (⟨#[]⟩)]) O kr) fun a Z => aq 0 Z Y O O O (sizeOf55 _) O (lb O) (ds := [jv 0, jv 0, .string (⟨#[]⟩)]) O O fun a w3 Z Y => aq 1 Z Y O O O (sizeOf41 _) O (lb O) (ds := [jv 210]) O O fun a w4 Z Y => ab ?_
 refine iu Z results62 ae ?_
 exact Y.select [0, 1] de
theorem sB (b2 b3 : Nat) (ws : World) :
  CallsDIn Fence.wide 0 Tryz.prog 62 #[pt b2, pt b3] .returning ws fun e u' w => u' = .returning ∧ ∃ x, e = .returned x ∧ Ext No ws w  := by
 refine mQ (args := [pt b2, pt b3]) func62 O ntmps62 (lb O) O O de (fun _ _ => O) (.inl ⟨O, O, O⟩) fun a Z => ?_
 replace Y : St No ws [] ws := St.init ws
 refine au <| aa fun _ G1 => wlv (Z.p3 5 0 1 O) (pO O O kr kr) fun a Z => G1 <| aK Z O ?_
 refine al <| wla Z O fun a Z => ab ?_
 refine iu Z results62 ae ?_
 exact Y.ext
theorem tm (s : By) (w0 : World) (hsl : s.length ≤ 1000000) :
  Ret Tryz.prog 20 #[sv s] w0 fun v w => v = .tuple #[.agg (dcX s).cells.toArray, jv (dcE s)] ∧ Ext No w0 w := by
 refine ql func20 O ntmps20 (lb O) fun a Z => ?_
 replace Y : St No w0 [] w0 := St.init w0
 refine aa fun _ G1 => aB (Z.p1 0 O) Y de (zeroValue55 _) (cs := [jv 0, jv 0, .string (⟨#[]⟩)]) O fun a w1 Z Y => aB Z Y de (zeroValue41 _) (cs := [jv 0]) O fun a w2 Z Y => G1 <| aa fun _ G2 => ?_
 refine wlv Z (bY O O) fun a Z => nm Z O fun a Z => G2 <| aa fun _ G3 => ?_
 refine wlm Z O fun a Z => ?_
 rcases xh ((rdI s).isSome) with hb1 | hb1
 ·obtain ⟨⟨n1, r1⟩, hq1⟩ := yk.1 hb1
  have hd1 := tN.trans (qH hq1)
  have hsf1 := (im hq1).trans (List.suffix_refl s)
  refine ax Z Y de call63 O (jJ sm (List.suffix_refl s) hsl hq1) fun a w3 Z Y => nv Z <| xc O <| pq (ar O O) <| pq (ar O O) <| pq (ar O O) <| xd O <| xd O <| xd O <| fun a Z => G3 ?_
  replace Z := Z.p6 0 2 3 4 5 6 O
  refine bP fun _ G4 hP4 => aR 1 ?_
  refine wlm Z O fun a Z => ab <| aR 1 ?_
  refine ax Z Y de call64 O (j3 _) fun a w4 Z Y => ab <| dB <| G4 <| aa fun _ G5 => ?_
  refine nv Z <| xc O <| xc O <| fun a Z => ?_
  rcases xh ((rdI r1).isSome) with hb2 | hb2
  ·obtain ⟨⟨n2, r2⟩, hq2⟩ := yk.1 hb2
   have hd2 := hd1.trans (qH hq2)
   have hsf2 := (im hq2).trans hsf1
   refine ax Z Y de call63 O (jJ O hsf1 hsl hq2) fun a w5 Z Y => nv Z <| xc O <| pq (ar O O) <| pq (ar O O) <| pq (ar O O) <| xd O <| xd O <| xd O <| fun a Z => G5 ?_
   replace Z := Z.p7 0 2 3 4 7 5 6 O
   refine bP fun _ G6 hP6 => aR 1 ?_
   refine wlm Z O fun a Z => ab <| aR 1 ?_
   refine ax Z Y de call64 O (j3 _) fun a w6 Z Y => ab <| dB <| G6 <| aa fun _ G7 => ?_
   refine nv Z <| xc O <| xc O <| fun a Z => ?_
   rcases xh ((rdS r2).isSome) with hb3 | hb3
   ·obtain ⟨⟨x9, r3⟩, hq3⟩ := yk.1 hb3
    have hd3 := hd2.trans (tz.trans (tG hq3))
    have hsf3 := (wc hq3).trans hsf2
    refine ax Z Y de call65 O (q6 s r2 x9 r3 _ _ O hsf2 hsl hq3) fun a w7 Z Y => nv Z <| xc O <| pq (ar O O) <| pq (ar O O) <| pq (ar O O) <| xd O <| xd O <| xd O <| fun a Z => G7 ?_
    replace Z := Z.p8 0 2 3 4 7 8 5 6 O
    refine bP fun _ G8 hP8 => aR 1 ?_
    refine wlm Z O fun a Z => ab <| aR 1 ?_
    refine ax Z Y de call64 O (j3 _) fun a w8 Z Y => ab <| dB <| G8 <| aa fun _ G9 => ?_
    refine nv Z <| xc O <| xc O <| xc O <| pq (bj (v := .agg #[jv n1, jv n2, sv x9]) O kr) <| fun a Z => aq 1 Z Y O O O (sizeOf55 _) O (lb O) (ds := [jv n1, jv n2, sv x9]) O O fun a w9 Z Y => G9 ?_
    refine ah fun _ G10 => aa fun _ G11 => nv (Z.p4 0 2 3 5 O) <| xc O <| xc O <| pq (bp O O (runUnderlying9 _)) <| pq (v_ne O O) <| xc O <| fun a Z => ?_
    rcases xh (!decide (((s.length - r3.length : Nat) : Int) = (s.length : Int))) with hb4 | hb4
    ·rw [hb4] at Z
     try simp only [qz] at hb4
     have hdn := hd3.trans (sA (by intro h0; have h1 := xI List.length h0; rw [xu] at h1; omega))
     refine nv Z <| xf <| xf <| xf <| pq (ay O O) <| fun a Z => G11 ?_
     replace Z := Z.p3 2 3 48 O
     refine aK Z O ?_
     refine bF <| aR 2 ?_
     refine nv Z <| pq (bj (v := .agg #[]) O kr) <| pq (cT O underlying126) <| fun a Z => ab <| dV Z O ?_
     replace Y := Y.s2 [1, 0] de rfl
     exact br Z call62 (fe _ _ _ _ _ _ _ Y) results20 (fun w9 Y => ⟨(ak O (bf (Y.g 0 O) (isAgg55 _) (sizeOf55 _)) (ak O (aG (Y.g 1 O) (isAgg41 _)) ae)), by simp only [retv]; unfold dcX dcE; rw [hdn]; rfl, Y.ext⟩)
    rw [hb4] at Z
    try simp only [qz] at hb4
    have hqn : r3 = [] := xU (by have := hsf3.length_le; omega)
    refine wly Z (ai (Y.g 1 O) O (isAgg55 _) (sizeOf55 _)) fun a Z => aF Z Y de O de O call59 O (gL (⟨n1, n2, x9⟩ : Cas) _) fun a w10 Z Y => nv Z <| xe (bu O) <| pq (aj O O) <| fun a Z => G11 ?_
    replace Z := Z.p3 2 3 48 O
    refine aA Z O (fun hc5 => ?_) (fun hc5 => ?_)
    ·try simp only [qz] at hc5
     have hdn := hd3.trans (qS (by exact hc5))
     refine bF <| aR 2 ?_
     refine nv Z <| pq (bj (v := .agg #[]) O kr) <| pq (cT O underlying126) <| fun a Z => ab <| dV Z O ?_
     replace Y := Y.s2 [1, 0] de rfl
     exact br Z call62 (fe _ _ _ _ _ _ _ Y) results20 (fun w9 Y => ⟨(ak O (bf (Y.g 0 O) (isAgg55 _) (sizeOf55 _)) (ak O (aG (Y.g 1 O) (isAgg41 _)) ae)), by simp only [retv]; unfold dcX dcE; rw [hdn]; rfl, Y.ext⟩)
    try simp only [qz] at hc5
    have hds := hd3.trans (r8 hqn (by exact hc5))
    refine aw <| G10 <| aa fun _ G12 => wlv Z (ai (Y.g 1 O) O (isAgg55 _) (sizeOf55 _)) fun a Z => aq 1 Z Y O O O (sizeOf55 _) O (lb O) (ds := [jv n1, jv n2, sv x9]) O O fun a w11 Z Y => aq 0 Z Y O O O (sizeOf41 _) O (lb O) (ds := [jv 0]) O O fun a w12 Z Y => G12 <| ap ?_
    refine od (vs := [.agg #[jv n1, jv n2, sv x9], jv 0]) Z call62 (sB _ _ _) results20 (fun w9 hx => ?_)
    have Y := Y.grow hx
    exact ⟨(ak O (bf (Y.g 1 O) (isAgg55 _) (sizeOf55 _)) (ak O (aG (Y.g 0 O) (isAgg41 _)) ae)), by simp only [retv]; unfold dcX dcE; rw [hds]; rfl, Y.ext⟩
   have hq3 : rdS r2 = none := by
    cases h : rdS r2 with
    | none => rfl
    | some z => rw [h] at hb3; cases hb3
   have hdn := hd2.trans (tz.trans (r5 hq3))
   refine ax Z Y de call65 O (qb O hsf2 hsl hq3) fun a w13 Z Y => nv Z <| xc O <| pq (ar O O) <| pq (ar O O) <| pq (ar O O) <| xd O <| xd O <| xd O <| fun a Z => G7 ?_
   replace Z := Z.p8 0 2 3 4 7 8 5 6 O
   refine bP fun _ G13 hP13 => aR 1 ?_
   refine wlm Z O fun a Z => ab <| m7 (X := fun c w2 => c = [{ v := .iface 126 (.agg #[]), recovered := false }] ∧ Ext No w13 w2) Z call64 O (iZ _) ?_
   rintro _ w14 ⟨rfl, hx⟩
   have Y := Y.grow hx
   refine hP13 _ _ _ ?_
   replace Y := Y.s2 [1, 0] de rfl
   exact br Z call62 (fe _ _ _ _ _ _ _ Y) results20 (fun w9 Y => ⟨(ak O (bf (Y.g 0 O) (isAgg55 _) (sizeOf55 _)) (ak O (aG (Y.g 1 O) (isAgg41 _)) ae)), by simp only [retv]; unfold dcX dcE; rw [hdn]; rfl, Y.ext⟩)
  have hq2 : rdI r1 = none := by
   cases h : rdI r1 with
   | none => rfl
   | some z => rw [h] at hb2; cases hb2
  have hdn := hd1.trans (nk hq2)
  refine ax Z Y de call63 O (j6 O hsf1 hsl hq2) fun a w15 Z Y => nv Z <| xc O <| pq (ar O O) <| pq (ar O O) <| pq (ar O O) <| xd O <| xd O <| xd O <| fun a Z => G5 ?_
  replace Z := Z.p7 0 2 3 4 7 5 6 O
  refine bP fun _ G14 hP14 => aR 1 ?_
  refine wlm Z O fun a Z => ab <| m7 (X := fun c w2 => c = [{ v := .iface 126 (.agg #[]), recovered := false }] ∧ Ext No w15 w2) Z call64 O (iZ _) ?_
  rintro _ w16 ⟨rfl, hx⟩
  have Y := Y.grow hx
  refine hP14 _ _ _ ?_
  replace Y := Y.s2 [1, 0] de rfl
  exact br Z call62 (fe _ _ _ _ _ _ _ Y) results20 (fun w9 Y => ⟨(ak O (bf (Y.g 0 O) (isAgg55 _) (sizeOf55 _)) (ak O (aG (Y.g 1 O) (isAgg41 _)) ae)), by simp only [retv]; unfold dcX dcE; rw [hdn]; rfl, Y.ext⟩)
 have hq1 : rdI s = none := by
  cases h : rdI s with
  | none => rfl
  | some z => rw [h] at hb1; cases hb1
 have hdn := tN.trans (nk hq1)
 refine ax Z Y de call63 O (j6 sm (List.suffix_refl s) hsl hq1) fun a w17 Z Y => nv Z <| xc O <| pq (ar O O) <| pq (ar O O) <| pq (ar O O) <| xd O <| xd O <| xd O <| fun a Z => G3 ?_
 replace Z := Z.p6 0 2 3 4 5 6 O
 refine bP fun _ G15 hP15 => aR 1 ?_
 refine wlm Z O fun a Z => ab <| m7 (X := fun c w2 => c = [{ v := .iface 126 (.agg #[]), recovered := false }] ∧ Ext No w17 w2) Z call64 O (iZ _) ?_
 rintro _ w18 ⟨rfl, hx⟩
 have Y := Y.grow hx
 refine hP15 _ _ _ ?_
 replace Y := Y.s2 [1, 0] de rfl
 exact br Z call62 (fe _ _ _ _ _ _ _ Y) results20 (fun w9 Y => ⟨(ak O (bf (Y.g 0 O) (isAgg55 _) (sizeOf55 _)) (ak O (aG (Y.g 1 O) (isAgg41 _)) ae)), by simp only [retv]; unfold dcX dcE; rw [hdn]; rfl, Y.ext⟩)
def prevN (l : List Cas) : Nat → Int
 | 0 => -1
 | k + 1 => (l.getD k Cas.z).n
theorem si {l : List Cas} {k : Nat} (h : 0 < k) : prevN l k = (l.getD (k - 1) Cas.z).n := by
 cases k with
 | zero => exact absurd h (yN 0)
 | succ k => rfl
theorem kb {l : List Cas} {k : Nat} (h : k < l.length) : l.drop k = l.getD k Cas.z :: l.drop (k + 1) := by
 rw [yc h, xl, xo h]; rfl
section
variable {l : List Cas} {k : Nat}
theorem tb (hk : k < l.length) (ho : (l.getD k Cas.z).ok = true) (ht : prevN l k < (l.getD k Cas.z).n) : ascC (prevN l k) (l.drop k) = ascC (prevN l (k + 1)) (l.drop (k + 1)) := by
 rw [kb hk, ascC, ho, xt ht]; rfl
theorem wA (hk : k < l.length) (ho : (l.getD k Cas.z).ok = false) : ascC (prevN l k) (l.drop k) = false := by rw [kb hk, ascC, ho]; rfl
theorem wZ (hk : k < l.length) (ht : (l.getD k Cas.z).n ≤ prevN l k) : ascC (prevN l k) (l.drop k) = false := by rw [kb hk, ascC, xz om, ym]; rfl
theorem lN (hk : k < l.length) : entC (l.take (k + 1)) = entC (l.take k) ++ [encP (l.getD k Cas.z)] := by rw [cB Cas.z hk, entC, yo]; rfl
end
theorem jC (c : Int) (lv : Value) (l : List Cas) (w0 : World) (hlv : SlAt w0 lv 3 (l.map Cas.cells)) :
  Ret Tryz.prog 31 #[.agg #[jv c, lv]] w0 fun v w => v = .bool (docOk c l) ∧ Ext No w0 w := by
 have hxb := hlv.2.1
 simp only [xg, big] at hxb
 refine zc func31 O ntmps31 (lb O) fun a Z Y => ?_
 refine aa fun _ G1 => aS Z Y de O (cs := [jv c, lv]) O fun a w1 Z Y => wla Z O fun a Z => G1 <| ah fun _ G2 => ?_
 refine aa fun _ G3 => nv Z <| pq (ac (v := po w0.hz 1) O kr) <| pq (ld Y 0 O O (isAgg30 _) O) <| pq ((aH (sT := 30) (Y.arg hlv) O O (runUnderlying30 _)).asi (m' := (l.length : Int)) zF) <| xc O <| fun a Z => G3 <| au ?_
 refine aY (fun m a w => ∃ (k : Nat), m = l.length - k ∧ (k ≤ l.length) ∧ (ascC (-1) l = ascC (prevN l k) (l.drop k)) ∧ Fr 42 [(1, pt w0.hz), (6, lv), (7, jv (l.length : Int)), (8, jv (k : Int))] [] a ∧ St No w0 [blk w0.hz [jv c, lv] 32] w) _ ⟨0, O, xG _, O, Z.pick [1, 6, 7, 8], Y.select [0] de⟩ ?_
 rintro _ a w2 ⟨k, rfl, hk, hs, Z, Y⟩
 refine aa fun _ G4 => wlv Z (v_lt O O) fun a Z => G4 <| ah fun _ G5 => ?_
 refine aA Z O (fun hc1 => ?_) (fun hc1 => ?_)
 ·try simp only [qz] at hc1
  have hkx : k < l.length := by omega
  refine aw <| G5 <| ah fun _ G6 => au <| aa fun _ G7 => nv Z <| xc O <| pq ((ao (i := (k : Int)) (sT := 30) (Y.arg hlv) O O (runUnderlying30 _) (sizeOf55 _) om zm).as (v' := slAddr lv (k * 3)) O) <| pq ((bN (Y.arg hlv) (i := k) zm O (isAgg55 _) (sizeOf55 _)).as (v' := .agg #[jv ((l.getD k Cas.z).n), jv ((l.getD k Cas.z).t), sv ((l.getD k Cas.z).ev)]) Ak) <| fun a Z => aB Z Y de (zeroValue55 _) (cs := [jv 0, jv 0, .string (⟨#[]⟩)]) O fun a w3 Z Y => wla Z O fun a Z => aq 0 Z Y O O O (sizeOf55 _) O (lb O) (ds := [jv ((l.getD k Cas.z).n), jv ((l.getD k Cas.z).t), sv ((l.getD k Cas.z).ev)]) O O fun a w4 Z Y => G7 <| ah fun _ G8 => ?_
  refine aL kr (aM kr fun w5 hxz => ?_)
  replace Y := Y.grow hxz
  refine aN (k := 0) 7 [6] kr kr kr ?_
  refine wlv Z (ai (Y.g 0 O) O (isAgg55 _) (sizeOf55 _)) fun a Z => ax Z Y de call59 O (gL (l.getD k Cas.z) _) fun a w6 Z Y => nv Z <| pq (bu O) <| xc O <| fun a Z => ?_
  rcases xh (!((l.getD k Cas.z).ok)) with hb2 | hb2
  ·rw [hb2] at Z
   try simp only [qz] at hb2
   have hbad : ascC (-1) l = false := by rw [hs]; exact wA hkx (by simpa using hb2)
   refine nv Z <| xf <| xf <| xf <| fun a Z => ab <| dx (k := 7) 16 [13, 15] (Z.p16 1 6 7 8 10 11 12 4 3 13 14 15 16 17 18 19 O) kr kr kr rfx fun a Z => ?_
   replace Z : Fr 42 [(20, undef), (21, undef), (22, undef), (23, undef), (24, undef), (25, undef), (26, undef), (27, undef), (28, undef), (1, pt w0.hz), (6, lv), (7, jv (l.length : Int)), (8, jv (k : Int)), (10, jv (k : Int)), (11, slAddr lv (k * 3)), (12, .agg #[jv ((l.getD k Cas.z).n), jv ((l.getD k Cas.z).t), sv ((l.getD k Cas.z).ev)]), (4, pt w2.hz), (3, jv (k : Int)), (13, .agg #[jv ((l.getD k Cas.z).n), jv ((l.getD k Cas.z).t), sv ((l.getD k Cas.z).ev)]), (14, .bool ((l.getD k Cas.z).ok)), (15, .bool true), (16, .bool true), (17, undef), (18, undef), (19, undef)] [] a := Z
   refine aN (k := 16) 19 [18] kr kr kr ?_
   refine bJ Z de O de O fun a Z => nv Z <| xf <| pq (ay O O) <| fun a Z => ab <| aT kr ?_
   refine G8 ?_
   replace Z := Z.p5 1 6 7 8 31 O
   replace Y := Y.k1 2 O
   refine aK Z O ?_
   refine aa fun _ G9 => wla Z O fun a Z => G9 <| ap ?_
   refine am Z results31 (ag O ae) ?_
   refine ⟨?_, Y.ext⟩
   simp only [retv]
   refine xI Value.bool ?_
   unfold docOk; rw [hbad]; rfl
  rw [hb2] at Z
  try simp only [qz] at hb2
  have hok : (l.getD k Cas.z).ok = true := by simpa using hb2
  have hbn := Cas.bnd hok
  refine nv Z <| xe (az O) <| xe (v_gt O O) <| xe (az O) <| fun a Z => ab ?_
  rcases xh (decide (0 < (k : Int))) with hb3 | hb3
  ·rw [hb3] at Z
   try simp only [qz] at hb3
   have hpv := si (l := l) (k := k) om
   refine aU (k := 7) 16 [13, 15] Z kr kr kr rfx ?_
   replace Z := Z.p16 1 6 7 8 10 11 12 4 3 13 14 15 16 17 18 19 O
   refine bS 9 Z Y kr kr <| pl_v (ac (v := po w0.hz 1) O kr) <| pl_w (fun Y => ld Y 1 O O (isAgg30 _) O) <| pl_m O <| pl_v (bG O O ⟨om, om⟩) <| pl_w (fun Y => (ao (i := (k : Int) - 1) (sT := 30) (Y.arg hlv) O O (runUnderlying30 _) (sizeOf55 _) om zm).as (v' := slAddr lv ((k - 1) * 3)) Aa) <| pl_w (fun Y => cG (k := (k - 1) * 3) (j := 0) (Y.arg hlv) (i := (k - 1)) zm O (fun _ _ => by kernel_rfl)) ?_
   refine pl_w (fun Y => aD (u := jv ((l.getD (k - 1) Cas.z).n)) (i := (k - 1)) (j := 0) (Y.arg hlv) zm O (isAgg3 _) Ak) <| pl_v (ac (v := pt w2.hz) O kr) <| pl_w (fun Y => ld Y 0 O O (isAgg3 _) O) fun a w7 Z Y => ?_
   replace Z := Z.p8 1 6 7 8 16 19 26 28 O
   refine ab <| aN (k := 16) 19 [18] kr kr kr ?_
   refine nv Z <| xe (v_ge O O) <| xe (ay O O) <| pq (aj O O) <| fun a Z => ab <| aT kr ?_
   refine G8 ?_
   replace Z := Z.p5 1 6 7 8 31 O
   replace Y := Y.k1 2 O
   refine aA Z O (fun hc4 => ?_) (fun hc4 => ?_)
   ·try simp only [qz] at hc4
    have hbad : ascC (-1) l = false := by rw [hs]; exact wZ hkx (by rw [hpv]; exact hc4)
    refine aa fun _ G10 => wla Z O fun a Z => G10 <| ap ?_
    refine am Z results31 (ag O ae) ?_
    refine ⟨?_, Y.ext⟩
    simp only [retv]
    refine xI Value.bool ?_
    unfold docOk; rw [hbad]; rfl
   try simp only [qz] at hc4
   have hgo : prevN l k < (l.getD k Cas.z).n := by rw [hpv]; omega
   refine aw <| G6 <| al <| nv Z <| pq (aP O O ⟨om, om⟩) <| xc O <| fun a Z => ab ?_
   refine ⟨_, ?_, k + 1, O, om, (by rw [hs]; exact tb hkx hok hgo), Z.pick [1, 6, 7, 8], Y.select [0] de⟩
   omega
  rw [hb3] at Z
  try simp only [qz] at hb3
  have hgo : prevN l k < (l.getD k Cas.z).n := by
   have h0 : k = 0 := by omega
   rw [h0] at hbn ⊢; show -1 < _; omega
  refine dx (k := 7) 16 [13, 15] (Z.p16 1 6 7 8 10 11 12 4 3 13 14 15 16 17 18 19 O) kr kr kr rfx fun a Z => ?_
  replace Z : Fr 42 [(20, undef), (21, undef), (22, undef), (23, undef), (24, undef), (25, undef), (26, undef), (27, undef), (28, undef), (1, pt w0.hz), (6, lv), (7, jv (l.length : Int)), (8, jv (k : Int)), (10, jv (k : Int)), (11, slAddr lv (k * 3)), (12, .agg #[jv ((l.getD k Cas.z).n), jv ((l.getD k Cas.z).t), sv ((l.getD k Cas.z).ev)]), (4, pt w2.hz), (3, jv (k : Int)), (13, .agg #[jv ((l.getD k Cas.z).n), jv ((l.getD k Cas.z).t), sv ((l.getD k Cas.z).ev)]), (14, .bool ((l.getD k Cas.z).ok)), (15, .bool false), (16, .bool false), (17, jv (k : Int)), (18, .bool false), (19, .bool false)] [] a := Z
  refine aN (k := 16) 19 [18] kr kr kr ?_
  refine nv Z <| xf <| xe (aj O O) <| pq (aj O O) <| fun a Z => ab <| aT kr ?_
  refine G8 ?_
  replace Z := Z.p5 1 6 7 8 31 O
  replace Y := Y.k1 2 O
  refine aJ Z O ?_
  refine aw <| G6 <| al <| nv Z <| pq (aP O O ⟨om, om⟩) <| xc O <| fun a Z => ab ?_
  refine ⟨_, ?_, k + 1, O, om, (by rw [hs]; exact tb hkx hok hgo), Z.pick [1, 6, 7, 8], Y.select [0] de⟩
  omega
 try simp only [qz] at hc1
 have hall : ascC (-1) l = true := by rw [hs, show k = l.length by omega, List.drop_length]; rfl
 refine aO <| G2 <| aa fun _ G11 => nv Z <| pq (ac (v := pt w0.hz) O kr) <| pq (ld Y 0 O O (isAgg3 _) O) <| fun a Z => ax Z Y de call49 O (da c 0 7 _) fun a w8 Z Y => wlm Z O fun a Z => ?_
 rcases xh (inB c 0 7) with hb5 | hb5
 ·rw [hb5] at Z
  refine nv Z <| xe (ac (v := po w0.hz 1) O kr) <| xe (ld Y 0 O O (isAgg30 _) O) <| xe ((aH (sT := 30) (Y.arg hlv) O O (runUnderlying30 _)).asi (m' := (l.length : Int)) zF) <| xe (v_le O O) <| pq (ay O O) <| xd O <| fun a Z => G11 ?_
  replace Z := Z.p1 2 O
  replace Y := Y.k0 0 O
  refine ap <| am Z results31 (ag O ae) ?_
  refine ⟨?_, Y.ext⟩
  simp only [retv]
  refine xI Value.bool ?_
  unfold docOk; rw [hall, hb5]; simp only [yB]; exact decide_eq_decide.2 om
 rw [hb5] at Z
 refine nv Z <| xf <| xf <| xf <| xf <| pq (aj O O) <| xd O <| fun a Z => G11 ?_
 replace Z := Z.p1 2 O
 replace Y := Y.k0 0 O
 refine ap <| am Z results31 (ag O ae) ?_
 refine ⟨?_, Y.ext⟩
 simp only [retv]
 refine xI Value.bool ?_
 unfold docOk; rw [hall, hb5]; rfl
theorem qM (c : Int) (lv : Value) (l : List Cas) (w0 : World) (hlv : SlAt w0 lv 3 (l.map Cas.cells)) (hle : l.length ≤ 1000) :
  Ret Tryz.prog 72 #[.agg #[jv c, lv]] w0 (MemR w0 (fun v : Value => .agg #[jv c, v]) (fun v => [own v 9 1 ((entC (l)).map fun s => [sv s])]) (fun _ => True)) := by
 have hxb := hlv.2.1
 simp only [xg, big] at hxb
 refine zc func72 O ntmps72 (lb O) fun a Z Y => ?_
 refine aa fun _ G1 => aS Z Y de O (cs := [jv c, lv]) O fun a w1 Z Y => aB Z Y de (zeroValue75 _) (cs := [jv 0, .slice none 0 0]) O fun a w2 Z Y => G1 <| aa fun _ G2 => ?_
 refine nv Z <| pq (ac (v := pt w0.hz) O kr) <| pq (ld Y 1 O O (isAgg3 _) O) <| pq (bj (v := .agg #[jv c, .slice none 0 0]) O kr) <| fun a Z => aB Z Y de (zeroValue75 _) (cs := [jv 0, .slice none 0 0]) O fun a w3 Z Y => aq 0 Z Y O O O (sizeOf75 _) O (lb O) (ds := [jv c, .slice none 0 0]) O O fun a w4 Z Y => G2 <| ah fun _ G3 => ?_
 refine aa fun _ G4 => nv Z <| pq (ac (v := po w0.hz 1) O kr) <| pq (ld Y 2 O O (isAgg30 _) O) <| pq ((aH (sT := 30) (Y.arg hlv) O O (runUnderlying30 _)).asi (m' := (l.length : Int)) zF) <| xc O <| fun a Z => G4 ?_
 replace Z := Z.p5 2 3 12 13 14 O
 replace Y := Y.k2 3 O
 refine au ?_
 replace Y : St No w0 [own (.slice none 0 0) 9 1 ((entC (l.take 0)).map fun s => [sv s]), blk w2.hz [jv c, .slice none 0 0] 75, blk w1.hz [jv 0, .slice none 0 0] 75] w4 := Y.nil_own
 refine aY (fun m a w => ∃ (k : Nat) (v : Value), m = l.length - k ∧ (k ≤ l.length) ∧ Fr 31 [(2, pt w1.hz), (3, pt w2.hz), (12, lv), (13, jv (l.length : Int)), (14, jv (k : Int))] [] a ∧ St No w0 [own v 9 1 ((entC (l.take k)).map fun s => [sv s]), blk w2.hz [jv c, v] 75, blk w1.hz [jv 0, .slice none 0 0] 75] w) _ ⟨0, .slice none 0 0, O, xG _, Z.pick [2, 3, 12, 13, 14], Y.select [0, 1, 2] de⟩ ?_
 rintro _ a w5 ⟨k, v, rfl, hk, Z, Y⟩
 refine aa fun _ G5 => wlv Z (v_lt O O) fun a Z => G5 <| ah fun _ G6 => ?_
 refine aA Z O (fun hc1 => ?_) (fun hc1 => ?_)
 ·try simp only [qz] at hc1
  have hkx : k < l.length := by omega
  refine aw <| G6 <| ah fun _ G7 => au <| aa fun _ G8 => nv Z <| pq ((ao (i := (k : Int)) (sT := 30) (Y.arg hlv) O O (runUnderlying30 _) (sizeOf55 _) om zm).as (v' := slAddr lv (k * 3)) O) <| pq ((bN (Y.arg hlv) (i := k) zm O (isAgg55 _) (sizeOf55 _)).as (v' := .agg #[jv ((l.getD k Cas.z).n), jv ((l.getD k Cas.z).t), sv ((l.getD k Cas.z).ev)]) Ak) <| fun a Z => aB Z Y de (zeroValue55 _) (cs := [jv 0, jv 0, .string (⟨#[]⟩)]) O fun a w6 Z Y => aq 0 Z Y O O O (sizeOf55 _) O (lb O) (ds := [jv ((l.getD k Cas.z).n), jv ((l.getD k Cas.z).t), sv ((l.getD k Cas.z).ev)]) O O fun a w7 Z Y => G8 <| aa fun _ G9 => ?_
  refine wlv Z (ai (Y.g 0 O) O (isAgg55 _) (sizeOf55 _)) fun a Z => ax Z Y de call19 O (vF (l.getD k Cas.z) _) fun a w8 Z Y => nv Z <| xc O <| pq (ar O O) <| pq (ar O O) <| xd O <| xd O <| fun a Z => G9 ?_
  replace Y := Y.k3 14 O
  refine al <| nv (Z.p6 2 3 12 13 14 6 O) <| pq (ac (v := po w2.hz 1) O kr) <| pq (ld Y 1 O O (isAgg44 _) O) <| xc O <| fun a Z => aE (E := 9) (sz := 1) O [[sv (encP (l.getD k Cas.z))]] kr sm O de de Z Y fun a w9 Z Y => bn (i := 1) (sT := 44) (inf := Tryz.t9) (z := .string (⟨#[]⟩)) (b := 0) (off := 0) (m := 0) (c := 0) O O O (Y.ow 0 O) sm underlying44 O O O O de zo zR zR de Z Y fun a w10 s2 Z Y _ => ?_
  rw [show ((entC (l.take k)).map fun s => [sv s]) ++ ([[sv (encP (l.getD k Cas.z))]]) = ((entC (l.take (k + 1))).map fun s => [sv s]) from by rw [lN hkx, yo]; rfl] at Y
  refine wlv Z (ac (v := po w2.hz 1) O kr) fun a Z => cb 2 Z Y (Y.ow 1 O) O O O (sizeOf44 _) (lb O) (ds := [jv c, s2]) O O fun a w11 Z Y => ab <| G7 ?_
  replace Y := Y.k3 14 O
  refine al <| nv (Z.p5 2 3 12 13 14 O) <| pq (aP O O ⟨om, om⟩) <| xc O <| fun a Z => ab ?_
  refine ⟨_, ?_, k + 1, s2, O, om, Z.pick [2, 3, 12, 13, 14], Y.select [0, 1, 2] de⟩
  omega
 try simp only [qz] at hc1
 obtain rfl : k = l.length := by omega
 rw [List.take_length] at Y
 refine aO <| G3 <| aa fun _ G10 => wlv Z (ai (Y.g 1 O) O (isAgg75 _) (sizeOf75 _)) fun a Z => aV (us := [jv c, v]) 2 Z Y O O O (sizeOf75 _) zH (lb O) (ds := [jv c, v]) O O fun a w12 Z Y => ?_
 refine G10 ?_
 replace Z := Z.p1 2 O
 refine ap <| am Z results72 (ak O (bf (Y.g 2 O) (isAgg75 _) (sizeOf75 _)) ae) ?_
 exact ⟨v, O, trivial, Y.ext, St.out (E := [own v 9 1 ((entC (l)).map fun s => [sv s])]) (H := []) (Y.select [0] de)⟩
theorem qR (x : Cas) (n : Int) (w0 : World) (h0 : 0 ≤ x.n ∧ x.n ≤ 99999999) (h1 : 0 ≤ n ∧ n ≤ 99999999) :
  Ret Tryz.prog 71 #[.agg #[jv x.n, jv x.t, sv x.ev], jv n] w0 fun v w => v = jv (x.n - n) ∧ Ext No w0 w := by
 refine zb func71 O ntmps71 (lb O) fun a Z Y => ?_
 refine aa fun _ G1 => aS Z Y de O (cs := [jv x.n, jv x.t, sv x.ev]) O fun a w1 Z Y => wla Z O fun a Z => G1 <| aa fun _ G2 => ?_
 refine nv Z <| pq (ac (v := pt w0.hz) O kr) <| pq (ld Y 0 O O (isAgg3 _) O) <| xc O <| pq (bG O O ⟨om, om⟩) <| xd O <| fun a Z => G2 ?_
 replace Z := Z.p1 4 O
 replace Y := Y.k0 0 O
 refine ap <| am Z results71 (ag O ae) ?_
 exact ⟨by rfl, Y.ext⟩
theorem pi (lv : Value) (l : List Cas) (num : Int) (w0 : World) (hlv : SlAt w0 lv 3 (l.map Cas.cells)) (hasc : ascC (-1) l = true) (hnum : 0 ≤ num ∧ num ≤ 99999999) :
  Ret Tryz.prog 70 #[lv, jv num, .func (.func 71) #[] #[]] w0 fun v w => v = .tuple #[jv (lowC num l : Int), .bool (hitC l num)] ∧ Ext No w0 w := by
 have hxb := hlv.2.1
 simp only [xg, big] at hxb
 have hall : ∀ x ∈ l, 0 ≤ x.n ∧ x.n ≤ 99999999 := fun x hx => by have := Cas.bnd (ga hasc x hx).1; omega
 have hll := gn num l
 refine zd func70 O ntmps70 (lb O) fun a Z Y => ?_
 refine aa fun _ G1 => nv Z <| xd O <| xd O <| fun a Z => G1 <| aa fun _ G2 => ?_
 refine nv Z <| xc O <| pq ((aH (sT := 30) (Y.arg hlv) O O (runUnderlying30 _)).asi (m' := (l.length : Int)) zF) <| xd O <| fun a Z => G2 <| aa fun _ G3 => ?_
 refine nv Z <| xc O <| xd O <| xd O <| fun a Z => G3 <| ah fun _ G4 => ?_
 refine au <| aY (fun m a w => ∃ (i : Nat) (j : Nat), m = j - i ∧ (i ≤ j ∧ j ≤ l.length) ∧ (i ≤ lowC num l) ∧ (lowC num l ≤ j) ∧ Fr 49 [(0, lv), (1, jv num), (2, .func (.func 71) #[] #[]), (6, jv 0), (7, .bool false), (8, jv (l.length : Int)), (9, jv (i : Int)), (10, jv (j : Int))] [] a ∧ St No w0 [] w) _ ⟨0, l.length, O, ⟨xG _, xN _⟩, xG _, gn num l, Z.pick [0, 1, 2, 6, 7, 8, 9, 10], Y.select [] de⟩ ?_
 rintro _ a w1 ⟨i, j, rfl, hij, hi, hj, Z, Y⟩
 refine ah fun _ G5 => aa fun _ G6 => nv Z <| xc O <| xc O <| pq (v_lt O O) <| fun a Z => G6 <| aA Z O (fun hc1 => ?_) (fun hc1 => ?_)
 ·try simp only [qz] at hc1
  have hml : ((i + j) / 2) < j := by omega
  refine aw <| G5 <| au <| aa fun _ G7 => nv Z <| xc O <| xc O <| pq (aP O O ⟨om, om⟩) <| pq ((eb O kr underlying191).asi (m' := ((i + j : Nat) : Int)) om) <| pq ((pX (m := (i + j)) (n := 1) om O O).asi (m' := (((i + j) / 2 : Nat) : Int)) O) <| pq (iN (n := ((i + j) / 2)) om O kr underlying3) <| xd O <| fun a Z => G7 ?_
  refine aa fun _ G8 => nv (Z.p9 0 1 2 6 7 8 9 10 11 O) <| xc O <| xc O <| xc O <| pq ((ao (i := ((((i + j) / 2) : Nat) : Int)) (sT := 30) (Y.arg hlv) O O (runUnderlying30 _) (sizeOf55 _) om zm).as (v' := slAddr lv (((i + j) / 2) * 3)) (by rw [show (((((i + j) / 2) : Nat) : Int)).toNat = ((i + j) / 2) from by omega])) <| pq ((bN (Y.arg hlv) (i := ((i + j) / 2)) zm O (isAgg55 _) (sizeOf55 _)).as (v' := .agg #[jv ((l.getD ((i + j) / 2) Cas.z).n), jv ((l.getD ((i + j) / 2) Cas.z).t), sv ((l.getD ((i + j) / 2) Cas.z).ev)]) Ak) <| xc O <| fun a Z => dE Z Y de O call71 O (qR (l.getD ((i + j) / 2) Cas.z) num _ (hall _ (bA om)) hnum) fun a w2 Z Y => wlv Z (v_lt O O) fun a Z => G8 ?_
  replace Z := Z.p10 0 1 2 6 7 8 9 10 11 31 O
  refine aA Z O (fun hc2 => ?_) (fun hc2 => ?_)
  ·try simp only [qz] at hc2
   have hup : ((i + j) / 2) + 1 ≤ lowC num l := by
    refine Nat.lt_of_not_le fun hge => ?_
    have := jB hasc hge (show ((i + j) / 2) < l.length by omega)
    omega
   refine al <| nv Z <| xc O <| pq (aP O O ⟨om, om⟩) <| xd O <| fun a Z => ab ?_
   refine ⟨_, ?_, ((i + j) / 2) + 1, j, O, om, om, om, Z.pick [0, 1, 2, 6, 7, 8, 9, 10], Y.select [] de⟩
   omega
  try simp only [qz] at hc2
  have hdn : lowC num l ≤ ((i + j) / 2) := by
   refine Nat.le_of_not_lt fun hlt => ?_
   have := jA hlt
   omega
  refine al <| nv Z <| xc O <| xd O <| fun a Z => ab ?_
  refine ⟨_, ?_, i, ((i + j) / 2), O, om, om, om, Z.pick [0, 1, 2, 6, 7, 8, 9, 10], Y.select [] de⟩
  omega
 try simp only [qz] at hc1
 have hil : i = lowC num l := by omega
 refine aO <| G4 <| aa fun _ G9 => nv Z <| xc O <| xc O <| xc O <| pq (v_lt O O) <| xc O <| fun a Z => ?_
 rcases xh (decide ((i : Int) < (l.length : Int))) with hb3 | hb3
 ·rw [hb3] at Z
  try simp only [qz] at hb3
  refine nv Z <| xe (az O) <| xe (az O) <| xe (az O) <| xe ((ao (i := (i : Int)) (sT := 30) (Y.arg hlv) O O (runUnderlying30 _) (sizeOf55 _) om zm).as (v' := slAddr lv (i * 3)) O) <| xe ((bN (Y.arg hlv) (i := i) zm O (isAgg55 _) (sizeOf55 _)).as (v' := .agg #[jv ((l.getD i Cas.z).n), jv ((l.getD i Cas.z).t), sv ((l.getD i Cas.z).ev)]) Ak) <| xe (az O) <| fun a Z => ey Z O O de O ?_
  refine dE Z Y de O call71 O (qR (l.getD i Cas.z) num _ (hall _ (bA om)) hnum) fun a w3 Z Y => nv Z <| xe (v_eq O O) <| pq (ay O O) <| xd O <| xd O <| fun a Z => G9 ?_
  replace Z := Z.p2 6 7 O
  refine ap <| am Z results70 (ag O (ag O ae)) ?_
  subst hil
  refine ⟨?_, Y.ext⟩
  simp only [retv]
  refine xI (fun b => Value.tuple #[jv ((lowC num l : Nat) : Int), .bool b]) ?_
  unfold hitC
  rw [Bool.eq_iff_iff]
  simp only [xi, xk, yY, false_iff, eq_self_iff_true, true_iff]
  omega
 rw [hb3] at Z
 try simp only [qz] at hb3
 refine nv Z <| xf <| xf <| xf <| xf <| xf <| xf <| xf <| xf <| pq (aj O O) <| xd O <| xd O <| fun a Z => G9 ?_
 replace Z := Z.p2 6 7 O
 refine ap <| am Z results70 (ag O (ag O ae)) ?_
 subst hil
 refine ⟨?_, Y.ext⟩
 simp only [retv]
 refine xI (fun b => Value.tuple #[jv ((lowC num l : Nat) : Int), .bool b]) ?_
 unfold hitC
 rw [Bool.eq_iff_iff]
 simp only [xi, xk, yY, false_iff, eq_self_iff_true, true_iff]
 omega
end Go.Proofs.YtliklcmddmpdfaaGreatDoor
