/- Texts joined: DigW, RefA, RefB, RefC, RefD, RefE, WirA, BldA. -/
import Derived.Test.YtddfkkdanpmnaaaGreatDoorPGC
import Derived.Test.YtddfkkdanpmnaaaGreatDoorPGB
import Derived.Test.YtddfkkdanpmnaaaGreatDoorPGA
import Derived.Laws.StructEq
set_option linter.unusedVariables false
set_option linter.unusedSimpArgs false
set_option maxRecDepth 4000
set_option maxHeartbeats 4000000
namespace Go.Proofs.YtddfkkdanpmnaaaGreatDoor
open Go.RowKit Go.PW _root_.Go.Proofs.Tryz
def fstH (x : By × Bool) (o : By) : By := if x.2 then joinH x o else o
theorem fT {x : By × Bool} {o : By} (h : o.length = 32) : (fstH x o).length = 32 := by
 unfold fstH; split
 ·exact aZ _
 ·exact h
theorem mN {old : By} {m n : Nat} {p : List By} {w : Bool} (h : m ≠ n) (hp : 0 < p.length) (hi : m ≤ lft n) : bothH sha old m n p w = (fstH (p.getD (p.length - 1) [], false) (bothH sha old m (lft n) (p.take (p.length - 1)) w).1, joinH (p.getD (p.length - 1) [], false) (bothH sha old m (lft n) (p.take (p.length - 1)) w).2.1, (bothH sha old m (lft n) (p.take (p.length - 1)) w).2.2) := by
 conv => lhs; rw [eu hp, cI sha h, if_pos hi]
 rfl
theorem kE {old : By} {m n : Nat} {p : List By} {w : Bool} (h : m ≠ n) (hp : 0 < p.length) (hi : ¬ m ≤ lft n) : bothH sha old m n p w = (fstH (p.getD (p.length - 1) [], true) (bothH sha old (m - lft n) (n - lft n) (p.take (p.length - 1)) false).1, joinH (p.getD (p.length - 1) [], true) (bothH sha old (m - lft n) (n - lft n) (p.take (p.length - 1)) false).2.1, (bothH sha old (m - lft n) (n - lft n) (p.take (p.length - 1)) false).2.2) := by
 conv => lhs; rw [eu hp, cI sha h, if_neg hi]
 rfl
theorem gI {old root : By} {m n : Int} {p : List By} (h : ¬ (0 ≤ m ∧ m ≤ n ∧ (p.all fun x => decide (x.length = 32)) = true ∧ old.length = 32 ∧ root.length = 32)) : aO sha old m root n p = false := by
 unfold aO
 rw [if_pos]
 refine Classical.byContradiction fun hc => h ?_
 simp only [not_or, Int.not_lt, Bool.not_eq_false, Classical.not_not, ne_eq] at hc
 exact hc
theorem dW (p : List By) : p.isEmpty = decide (p.length = 0) := by cases p <;> simp
section
variable {old root : By} {p : List By} (hall : (p.all fun x => decide (x.length = 32)) = true) (ho : old.length = 32) (hr : root.length = 32)
include hall ho hr
theorem iu {m n : Int} (h0 : 0 ≤ m) (hmn : m ≤ n) : aO sha old m root n p = (if m = 0 then p.isEmpty && decide (old = sha []) else if m = n then p.isEmpty && decide (old = root) else (bothH sha old m.toNat n.toNat p true).2.2 && decide ((bothH sha old m.toNat n.toNat p true).1 = old) && decide ((bothH sha old m.toNat n.toNat p true).2.1 = root)) := by
 unfold aO
 rw [if_neg (by simp [hall, ho, hr]; omega)]
theorem ln {n : Int} (hmn : 0 ≤ n) : aO sha old 0 root n p = (decide (p.length = 0) && decide (old = sha [])) := by
 rw [iu hall ho hr (Int.le_refl _) hmn, if_pos rfl, dW]
theorem ly {m : Int} (h0 : 0 < m) : aO sha old m root m p = (decide (p.length = 0) && decide (old = root)) := by
 rw [iu hall ho hr om (Int.le_refl _), if_neg om, if_pos rfl, dW]
variable {m n cm cn : Nat} {cp : List By} {wh : Bool} {way : List (By × Bool)} (hm : 1 ≤ m) (hmn : m < n) (hval : bothH sha old m n p true = (way.foldr fstH (bothH sha old cm cn cp wh).1, way.foldr joinH (bothH sha old cm cn cp wh).2.1, (bothH sha old cm cn cp wh).2.2))
include hm hmn hval
theorem pI (hc : cp.length = 0) (h2 : cm ≠ cn) : aO sha old m root n p = false := by
 obtain rfl : cp = [] := List.eq_nil_of_length_eq_zero hc
 rw [fx sha h2] at hval
 rw [iu hall ho hr om om, if_neg om, if_neg om, Int.toNat_natCast, Int.toNat_natCast, hval]; simp
theorem qn (hw : wh = false) (hc : cm = cn) (h1 : cp.length ≠ 1) : aO sha old m root n p = false := by
 subst hw; subst hc
 rw [cB] at hval
 have : (endH cp).2.2 = false := by
  match cp, h1 with
  | [], _ => rfl
  | _ :: _ :: _, _ => rfl
  | [_], h => exact absurd rfl h
 simp only [Bool.false_eq_true, if_false] at hval
 rw [iu hall ho hr om om, if_neg om, if_neg om, Int.toNat_natCast, Int.toNat_natCast, hval]
 simp only [this, Bool.false_and]
theorem gt (hw : wh = true) (hc : cm = cn) : aO sha old m root n p = (decide (cp.length = 0) && decide (way.foldr fstH old = old) && decide (way.foldr joinH old = root)) := by
 subst hw; subst hc
 rw [cB] at hval
 simp only [if_true] at hval
 rw [iu hall ho hr om om, if_neg om, if_neg om, Int.toNat_natCast, Int.toNat_natCast, hval, dW]
theorem lw (hw : wh = false) (hc : cm = cn) (h1 : cp.length = 1) : aO sha old m root n p = (decide (way.foldr fstH (cp.getD 0 []) = old) && decide (way.foldr joinH (cp.getD 0 []) = root)) := by
 subst hw; subst hc
 rw [cB] at hval
 simp only [Bool.false_eq_true, if_false] at hval
 obtain ⟨x, rfl⟩ : ∃ x, cp = [x] := by
  match cp, h1 with
  | [x], _ => exact ⟨x, rfl⟩
 rw [iu hall ho hr om om, if_neg om, if_neg om, Int.toNat_natCast, Int.toNat_natCast, hval]
 simp only [endH, Bool.true_and]; rfl
end
theorem kP (old root : By) (m n : Int) (lv : Value) (ls : List By) (w0 : World) (hlv : SlAt w0 lv 1 (ls.map fun s => [sv s])) (hln : ls.length ≤ 1000) (hn : n ≤ 9223372036854775807) (hk0 : (blk 0 (kOf.map wv) 161).ok w0) :
  Ret Tryz.prog 55 #[sv old, iv m, sv root, iv n, lv] w0 fun v w => v = .bool (aO sha old m root n ls) ∧ Ext No w0 w := by
 refine aD func55 rfl ntmps55 (lb rfl) fun a Z => ?_
 replace Z := Z.p5 0 1 2 3 4 rfl
 replace Y : St (· = 0) w0 [blk 0 (kOf.map wv) 161] w0 := St.one hk0
 refine aa fun K1 hK1 => wla Z rfl fun a Z => ab (hK1 _ _ <| ae fun K2 hK2 => ?_)
 refine aq <| aa fun K3 hK3 => wlm Z rfl fun a Z => wlv Z (v_lt rfl rfl) fun a Z => wlm Z rfl fun a Z => ?_
 rcases Bool.eq_false_or_eq_true (decide (m < 0)) with hb1 | hb1
 ·rw [hb1] at Z
  try simp only [qz] at hb1
  refine wln Z fun a Z => wln Z fun a Z => wln Z fun a Z => wlv Z (az rfl rfl) fun a Z => wlm Z rfl fun a Z => wln Z fun a Z => wln Z fun a Z => wln Z fun a Z => wlv Z (az rfl rfl) fun a Z => wlm Z rfl fun a Z => wln Z fun a Z => wln Z fun a Z => ?_
  refine wln Z fun a Z => wlv Z (az rfl rfl) fun a Z => wlm Z rfl fun a Z => wln Z fun a Z => wln Z fun a Z => wln Z fun a Z => wlv Z (az rfl rfl) fun a Z => wla Z rfl fun a Z => ab (hK3 _ _ ?_)
  replace Z := Z.p7 0 1 2 3 4 10 21 rfl
  refine aI Z rfl ?_
  refine aa fun K4 hK4 => wla Z rfl fun a Z => ab (hK4 _ _ <| ap ?_)
  refine al Z results55 (ac rfl ag) ?_
  exact ⟨by simp only [retv]; rw [gI (by rintro ⟨h1, h2, h3, h4, h5⟩; first | omega | simp_all)], Y.ext.const hk0 (Y.g 0 rfl)⟩
 rw [hb1] at Z
 try simp only [qz] at hb1
 refine wly Z (ah rfl) fun a Z => wly Z (ah rfl) fun a Z => wly Z (v_gt rfl rfl) fun a Z => wlv Z (ay rfl rfl) fun a Z => wlm Z rfl fun a Z => ?_
 rcases Bool.eq_false_or_eq_true (decide (n < m)) with hb2 | hb2
 ·rw [hb2] at Z
  try simp only [qz] at hb2
  refine wln Z fun a Z => wln Z fun a Z => wln Z fun a Z => wlv Z (az rfl rfl) fun a Z => wlm Z rfl fun a Z => wln Z fun a Z => wln Z fun a Z => wln Z fun a Z => wlv Z (az rfl rfl) fun a Z => wlm Z rfl fun a Z => wln Z fun a Z => wln Z fun a Z => ?_
  refine wln Z fun a Z => wlv Z (az rfl rfl) fun a Z => wla Z rfl fun a Z => ab (hK3 _ _ ?_)
  replace Z := Z.p7 0 1 2 3 4 10 21 rfl
  refine aI Z rfl ?_
  refine aa fun K5 hK5 => wla Z rfl fun a Z => ab (hK5 _ _ <| ap ?_)
  refine al Z results55 (ac rfl ag) ?_
  exact ⟨by simp only [retv]; rw [gI (by rintro ⟨h1, h2, h3, h4, h5⟩; first | omega | simp_all)], Y.ext.const hk0 (Y.g 0 rfl)⟩
 rw [hb2] at Z
 try simp only [qz] at hb2
 refine wly Z (ah rfl) fun a Z => ba Z Y de rfl de rfl call87 rfl (nV lv ls _ (hlv.grow (Y.ext.const hk0 (Y.g 0 rfl)))) ?_
 clear Z Y
 intro a w1 Z Y
 refine wly Z (bq rfl) fun a Z => wlv Z (ay rfl rfl) fun a Z => wlm Z rfl fun a Z => ?_
 rcases Bool.eq_false_or_eq_true (!(ls.all fun s => decide (s.length = 32))) with hb3 | hb3
 ·rw [hb3] at Z
  try simp only [qz] at hb3
  have hall := hb3
  refine wln Z fun a Z => wln Z fun a Z => wln Z fun a Z => wlv Z (az rfl rfl) fun a Z => wlm Z rfl fun a Z => wln Z fun a Z => wln Z fun a Z => wln Z fun a Z => wlv Z (az rfl rfl) fun a Z => wla Z rfl fun a Z => ab (hK3 _ _ ?_)
  replace Z := Z.p7 0 1 2 3 4 10 21 rfl
  refine aI Z rfl ?_
  refine aa fun K6 hK6 => wla Z rfl fun a Z => ab (hK6 _ _ <| ap ?_)
  refine al Z results55 (ac rfl ag) ?_
  exact ⟨by simp only [retv]; rw [gI (by rintro ⟨h1, h2, h3, h4, h5⟩; first | omega | simp_all)], Y.ext.const hk0 (Y.g 0 rfl)⟩
 rw [hb3] at Z
 try simp only [qz] at hb3
 have hall := hb3
 refine wly Z (ah rfl) fun a Z => ba Z Y de rfl de rfl call88 rfl (dV old _) ?_
 clear Z Y
 intro a w2 Z Y
 refine wly Z (bq rfl) fun a Z => wlv Z (ay rfl rfl) fun a Z => wlm Z rfl fun a Z => ?_
 rcases Bool.eq_false_or_eq_true (!(decide ((old.length : Int) = 32))) with hb4 | hb4
 ·rw [hb4] at Z
  try simp only [qz] at hb4
  refine wln Z fun a Z => wln Z fun a Z => wln Z fun a Z => wlv Z (az rfl rfl) fun a Z => wla Z rfl fun a Z => ab (hK3 _ _ ?_)
  replace Z := Z.p7 0 1 2 3 4 10 21 rfl
  refine aI Z rfl ?_
  refine aa fun K7 hK7 => wla Z rfl fun a Z => ab (hK7 _ _ <| ap ?_)
  refine al Z results55 (ac rfl ag) ?_
  exact ⟨by simp only [retv]; rw [gI (by rintro ⟨h1, h2, h3, h4, h5⟩; first | omega | simp_all)], Y.ext.const hk0 (Y.g 0 rfl)⟩
 rw [hb4] at Z
 try simp only [qz] at hb4
 refine wly Z (ah rfl) fun a Z => ba Z Y de rfl de rfl call88 rfl (dV root _) ?_
 clear Z Y
 intro a w3 Z Y
 refine wly Z (bq rfl) fun a Z => wlv Z (ay rfl rfl) fun a Z => wla Z rfl fun a Z => ab (hK3 _ _ ?_)
 replace Z := Z.p7 0 1 2 3 4 10 21 rfl
 refine ax Z rfl (fun hc5 => ?_) (fun hc5 => ?_)
 ·rw [hc5] at Z
  try simp only [qz] at hc5
  refine aa fun K8 hK8 => wla Z rfl fun a Z => ab (hK8 _ _ <| ap ?_)
  refine al Z results55 (ac rfl ag) ?_
  exact ⟨by simp only [retv]; rw [gI (by rintro ⟨h1, h2, h3, h4, h5⟩; first | omega | simp_all)], Y.ext.const hk0 (Y.g 0 rfl)⟩
 rw [hc5] at Z
 try simp only [qz] at hc5
 refine aa fun K9 hK9 => wlm Z rfl fun a Z => wlv Z (v_eq rfl rfl) fun a Z => wla Z rfl fun a Z => ab (hK9 _ _ ?_)
 refine ax Z rfl (fun hc6 => ?_) (fun hc6 => ?_)
 ·rw [hc6] at Z
  try simp only [qz] at hc6
  obtain rfl : m = 0 := by omega
  refine aa fun K10 hK10 => wlm Z rfl fun a Z => wlv Z ((aE (sT := 26) (hlv.grow (Y.ext.const hk0 (Y.g 0 rfl))) rfl rfl (runUnderlying26 _)).asi (m' := (ls.length : Int)) sm) fun a Z => wlv Z (v_eq rfl rfl) fun a Z => wlm Z rfl fun a Z => ?_
  rcases Bool.eq_false_or_eq_true (decide ((ls.length : Int) = 0)) with hb7 | hb7
  ·rw [hb7] at Z
   try simp only [qz] at hb7
   refine wly Z (ah rfl) fun a Z => ba Z Y de rfl de rfl call77 rfl (kG [] _ (Y.g 0 rfl) sm) ?_
   clear Z Y
   intro a w4 Z Y
   refine wly Z (dX rfl rfl) fun a Z => wlv Z (az rfl rfl) fun a Z => wla Z rfl fun a Z => ab (hK10 _ _ ?_)
   replace Z := Z.p6 0 1 2 3 4 10 rfl
   refine ap ?_
   refine al Z results55 (ac rfl ag) ?_
   exact ⟨by simp only [retv]; rw [ln hall om om om]; rw [decide_eq_true (show ls.length = 0 by omega), Bool.true_and], Y.ext.const hk0 (Y.g 0 rfl)⟩
  rw [hb7] at Z
  try simp only [qz] at hb7
  refine wln Z fun a Z => wln Z fun a Z => wln Z fun a Z => wlv Z (ay rfl rfl) fun a Z => wla Z rfl fun a Z => ab (hK10 _ _ ?_)
  replace Z := Z.p6 0 1 2 3 4 10 rfl
  refine ap ?_
  refine al Z results55 (ac rfl ag) ?_
  exact ⟨by simp only [retv]; rw [ln hall om om om]; rw [decide_eq_false (show ¬ ls.length = 0 by omega), Bool.false_and], Y.ext.const hk0 (Y.g 0 rfl)⟩
 rw [hc6] at Z
 try simp only [qz] at hc6
 refine aa fun K11 hK11 => wlm Z rfl fun a Z => wlm Z rfl fun a Z => wlv Z (v_eq rfl rfl) fun a Z => wla Z rfl fun a Z => ab (hK11 _ _ ?_)
 replace Z := Z.p7 0 1 2 3 4 10 55 rfl
 refine ax Z rfl (fun hc8 => ?_) (fun hc8 => ?_)
 ·rw [hc8] at Z
  try simp only [qz] at hc8
  obtain rfl : m = n := by omega
  refine aa fun K12 hK12 => wlm Z rfl fun a Z => wlv Z ((aE (sT := 26) (hlv.grow (Y.ext.const hk0 (Y.g 0 rfl))) rfl rfl (runUnderlying26 _)).asi (m' := (ls.length : Int)) sm) fun a Z => wlv Z (v_eq rfl rfl) fun a Z => wlm Z rfl fun a Z => ?_
  rcases Bool.eq_false_or_eq_true (decide ((ls.length : Int) = 0)) with hb9 | hb9
  ·rw [hb9] at Z
   try simp only [qz] at hb9
   refine wly Z (ah rfl) fun a Z => wly Z (ah rfl) fun a Z => wly Z (dX rfl rfl) fun a Z => wlv Z (az rfl rfl) fun a Z => wla Z rfl fun a Z => ab (hK12 _ _ ?_)
   replace Z := Z.p6 0 1 2 3 4 10 rfl
   refine ap ?_
   refine al Z results55 (ac rfl ag) ?_
   exact ⟨by simp only [retv]; rw [ly hall om om om]; rw [decide_eq_true (show ls.length = 0 by omega), Bool.true_and], Y.ext.const hk0 (Y.g 0 rfl)⟩
  rw [hb9] at Z
  try simp only [qz] at hb9
  refine wln Z fun a Z => wln Z fun a Z => wln Z fun a Z => wlv Z (ay rfl rfl) fun a Z => wla Z rfl fun a Z => ab (hK12 _ _ ?_)
  replace Z := Z.p6 0 1 2 3 4 10 rfl
  refine ap ?_
  refine al Z results55 (ac rfl ag) ?_
  exact ⟨by simp only [retv]; rw [ly hall om om om]; rw [decide_eq_false (show ¬ ls.length = 0 by omega), Bool.false_and], Y.ext.const hk0 (Y.g 0 rfl)⟩
 rw [hc8] at Z
 try simp only [qz] at hc8
 refine ar <| hK2 _ _ <| aa fun K13 hK13 => wla Z rfl fun a Z => ab (hK13 _ _ <| aa fun K14 hK14 => ?_)
 refine wla Z rfl fun a Z => ab (hK14 _ _ <| ae fun K15 hK15 => ?_)
 refine aq ?_
 obtain ⟨mm, rfl⟩ := Int.eq_ofNat_of_zero_le (show 0 ≤ m by omega)
 obtain ⟨nn, rfl⟩ := Int.eq_ofNat_of_zero_le (show 0 ≤ n by omega)
 have hl32 := all32 hall
 have hold : old.length = 32 := by omega
 have hroot : root.length = 32 := by omega
 replace Y : St (· = 0) w0 [own (.slice none 0 0) 128 2 (([] : List (By × Bool)).map fun x : By × Bool => [sv x.1, .bool x.2]), blk 0 (kOf.map wv) 161] w3 := Y.nil_own
 refine aR (fun m a w => ∃ (cm : Nat) (cn : Nat) (pz : Value) (cp : List By) (wh : Bool) (way : List (By × Bool)) (u : Value), m = cp.length ∧ (SlAt w0 pz 1 (cp.map fun s => [sv s])) ∧ (1 ≤ cm) ∧ (cm ≤ cn) ∧ (cn ≤ 9223372036854775807) ∧ (way.length + cp.length ≤ 1000) ∧ (∀ x ∈ cp, x.length = 32) ∧ (∀ x ∈ way, x.1.length = 32) ∧ (bothH sha old mm nn ls true = (way.foldr fstH (bothH sha old cm cn cp wh).1, way.foldr joinH (bothH sha old cm cn cp wh).2.1, (bothH sha old cm cn cp wh).2.2)) ∧ Fr 137 [(0, sv old), (2, sv root), (1, iv (cm : Int)), (3, iv (cn : Int)), (4, pz), (11, u), (12, .bool wh)] [] a ∧ St (· = 0) w0 [own u 128 2 (way.map fun x : By × Bool => [sv x.1, .bool x.2]), blk 0 (kOf.map wv) 161] w) _ ⟨mm, nn, lv, ls, true, [], .slice none 0 0, rfl, hlv, om, om, om, (by simp; omega), hl32, sm, rfl, Z.pick [0, 2, 1, 3, 4, 11, 12], Y.select [0, 1] de⟩ ?_
 rintro _ a w5 ⟨cm, cn, pz, cp, wh, way, u, rfl, hpv, hc0, hc1, hc2, hc3, hcp, hway, hval, Z, Y⟩
 refine ae fun K16 hK16 => aa fun K17 hK17 => wlm Z rfl fun a Z => wlm Z rfl fun a Z => wlv Z (v_lt rfl rfl) fun a Z => ab (hK17 _ _ ?_)
 refine ax Z rfl (fun hc10 => ?_) (fun hc10 => ?_)
 ·rw [hc10] at Z
  try simp only [qz] at hc10
  refine ar <| hK16 _ _ <| aq <| aa fun K18 hK18 => wlm Z rfl fun a Z => ?_
  rcases Bool.eq_false_or_eq_true (decide (cp.length = 0)) with hb11 | hb11
  ·try simp only [qz] at hb11
   refine am Z Y de call89 rfl (js pz cp _ (hpv.grow (Y.ext.const hk0 (Y.g 1 rfl))) om) ?_
   clear Z Y
   intro a w6 Z Y
   refine wlm Z rfl fun a Z => wlv Z (ai rfl rfl) fun a Z => wlv Z (ai rfl rfl) fun a Z => wlv Z (ai rfl rfl) fun a Z => wla Z rfl fun a Z => wla Z rfl fun a Z => wla Z rfl fun a Z => ab (hK18 _ _ ?_)
   replace Z := Z.p10 0 2 1 3 4 11 12 13 14 15 rfl
   refine ae fun K19 hK19 => aa fun K20 hK20 => wlm Z rfl fun a Z => wlv Z ((bq rfl).asb (b' := true) rfl) fun a Z => ab (hK20 _ _ <| aI Z rfl ?_)
   refine aa fun K21 hK21 => wla Z rfl fun a Z => ab (hK21 _ _ <| ap ?_)
   refine al Z results55 (ac rfl ag) ?_
   exact ⟨by simp only [retv]; rw [pI hall hold hroot om om hval om om], Y.ext.const hk0 (Y.g 1 rfl)⟩
  try simp only [qz] at hb11
  have hlt := bG (n := cn) om
  have hlp := bB cn
  have hx32 : (cp.getD (cp.length - 1) []).length = 32 := hcp _ (aW om)
  refine am Z Y de call89 rfl (lE pz cp _ (hpv.grow (Y.ext.const hk0 (Y.g 1 rfl))) om) ?_
  clear Z Y
  intro a w7 Z Y
  refine wlm Z rfl fun a Z => wlv Z (ai rfl rfl) fun a Z => wlv Z (ai rfl rfl) fun a Z => wlv Z (ai rfl rfl) fun a Z => wla Z rfl fun a Z => wla Z rfl fun a Z => wla Z rfl fun a Z => ab (hK18 _ _ ?_)
  replace Z := Z.p10 0 2 1 3 4 11 12 13 14 15 rfl
  refine ae fun K22 hK22 => aa fun K23 hK23 => wlm Z rfl fun a Z => wlv Z ((bq rfl).asb (b' := false) rfl) fun a Z => ab (hK23 _ _ <| aL Z rfl ?_)
  refine ar <| hK22 _ _ <| aa fun K24 hK24 => wlm Z rfl fun a Z => wla Z rfl fun a Z => ab (hK24 _ _ <| aa fun K25 hK25 => ?_)
  refine wlm Z rfl fun a Z => am Z Y de call84 rfl (fU cn _ om om) ?_
  clear Z Y
  intro a w8 Z Y
  refine wla Z rfl fun a Z => ab (hK25 _ _ ?_)
  replace Z := Z.p9 0 2 1 3 11 12 13 4 16 rfl
  refine aa fun K26 hK26 => wlm Z rfl fun a Z => wlm Z rfl fun a Z => wlm Z rfl fun a Z => wlm Z rfl fun a Z => wlv Z (v_gt rfl rfl) fun a Z => wlv Z (bA (v := .agg #[sv (cp.getD (cp.length - 1) []), .bool (decide ((lft cn : Int) < (cm : Int)))]) rfl kr) fun a Z => aC (E := 128) (sz := 2) rfl [[sv (cp.getD (cp.length - 1) []), .bool (decide ((lft cn : Int) < (cm : Int)))]] kr sm rfl de de Z Y ?_
  clear Z Y
  intro a w9 Z Y
  refine aN (i := 1) (sT := 124) (inf := Tryz.t128) (z := .agg #[.string (⟨#[]⟩), .bool false]) (b := 0) (off := 0) (m := 0) (c := 0) rfl rfl rfl (Y.ow 0 rfl) sm underlying124 rfl rfl rfl rfl de (by simp [Value.oneCell', yv, wv, sv]) (by have hby : Tryz.t128.bytes = 24 := rfl; simp only [big, hby, List.length_append, List.length_map, List.length_cons, List.length_nil]; omega) (by have hby : Tryz.t128.bytes = 24 := rfl; simp only [big, hby, List.length_append, List.length_map, List.length_cons, List.length_nil]; omega) de Z Y fun a w10 s12 Z Y _ => wla Z rfl fun a Z => ab (hK26 _ _ ?_)
  replace Z := Z.p8 0 2 1 3 12 4 16 11 rfl
  replace Y := Y.k2 6 rfl
  refine aa fun K27 hK27 => wlm Z rfl fun a Z => wlm Z rfl fun a Z => wlv Z (v_gt rfl rfl) fun a Z => ab (hK27 _ _ ?_)
  refine ax Z rfl (fun hc13 => ?_) (fun hc13 => ?_)
  ·rw [hc13] at Z
   try simp only [qz] at hc13
   refine ao <| wlm Z rfl fun a Z => wlm Z rfl fun a Z => wlv Z ((bh rfl rfl ⟨om, om⟩).asi (m' := ((cm - lft cn : Nat) : Int)) om) fun a Z => wlm Z rfl fun a Z => wlm Z rfl fun a Z => wlv Z ((bh rfl rfl ⟨om, om⟩).asi (m' := ((cn - lft cn : Nat) : Int)) om) fun a Z => wla Z rfl fun a Z => wla Z rfl fun a Z => wla Z rfl fun a Z => ab ?_
   rw [show (way.map fun x : By × Bool => [sv x.1, .bool x.2]) ++ ([[sv (cp.getD (cp.length - 1) []), .bool (decide ((lft cn : Int) < (cm : Int)))]]) = ((way ++ [(cp.getD (cp.length - 1) [], true)]).map fun x : By × Bool => [sv x.1, .bool x.2]) from by rw [decide_eq_true om]; simp] at Y
   have hm1 : (cp.take (cp.length - 1)).length < cp.length := by rw [List.length_take]; omega
   refine ⟨_, ?_, (cm - lft cn), (cn - lft cn), (cut pz 1 0 (cp.length - 1) (slCap pz)), (cp.take (cp.length - 1)), false, (way ++ [(cp.getD (cp.length - 1) [], true)]), s12, rfl, hpv.cut0 (h := cp.length - 1) om, om, om, om, (by rw [List.length_append, List.length_take, List.length_singleton]; omega), (fun x h => hcp x (List.mem_of_mem_take h)), (by intro x h; rcases List.mem_append.1 h with h | h; exact hway x h; rw [List.mem_singleton.1 h]; exact hx32), (by rw [hval, kE om om om]; simp), Z.pick [0, 2, 1, 3, 4, 11, 12], Y.select [0, 1] de⟩
   omega
  rw [hc13] at Z
  try simp only [qz] at hc13
  refine ao <| wlm Z rfl fun a Z => wla Z rfl fun a Z => ab ?_
  rw [show (way.map fun x : By × Bool => [sv x.1, .bool x.2]) ++ ([[sv (cp.getD (cp.length - 1) []), .bool (decide ((lft cn : Int) < (cm : Int)))]]) = ((way ++ [(cp.getD (cp.length - 1) [], false)]).map fun x : By × Bool => [sv x.1, .bool x.2]) from by rw [decide_eq_false om]; simp] at Y
  have hm1 : (cp.take (cp.length - 1)).length < cp.length := by rw [List.length_take]; omega
  refine ⟨_, ?_, cm, (lft cn), (cut pz 1 0 (cp.length - 1) (slCap pz)), (cp.take (cp.length - 1)), wh, (way ++ [(cp.getD (cp.length - 1) [], false)]), s12, rfl, hpv.cut0 (h := cp.length - 1) om, om, om, om, (by rw [List.length_append, List.length_take, List.length_singleton]; omega), (fun x h => hcp x (List.mem_of_mem_take h)), (by intro x h; rcases List.mem_append.1 h with h | h; exact hway x h; rw [List.mem_singleton.1 h]; exact hx32), (by rw [hval, mN om om om]; simp), Z.pick [0, 2, 1, 3, 4, 11, 12], Y.select [0, 1] de⟩
  omega
 rw [hc10] at Z
 try simp only [qz] at hc10
 refine aJ <| hK15 _ _ <| aa fun K28 hK28 => wlm Z rfl fun a Z => wlm Z rfl fun a Z => aU Z Y de (zeroValue9 _) (cs := [.string (⟨#[]⟩)]) rfl ?_
 clear Z Y
 intro a w11 Z Y
 refine aU Z Y de (zeroValue9 _) (cs := [.string (⟨#[]⟩)]) rfl ?_
 clear Z Y
 intro a w12 Z Y
 refine aH 1 Z Y rfl rfl rfl (sizeOf9 _) rfl (lb rfl) (ds := [sv old]) rfl rfl ?_
 clear Z Y
 intro a w13 Z Y
 refine aH 0 Z Y rfl rfl rfl (sizeOf9 _) rfl (lb rfl) (ds := [sv old]) rfl rfl ?_
 clear Z Y
 intro a w14 Z Y
 refine ab (hK28 _ _ ?_)
 replace Z := Z.p7 0 2 4 11 12 17 18 rfl
 refine ae fun K29 hK29 => aa fun K30 hK30 => wlm Z rfl fun a Z => wlv Z (bq rfl) fun a Z => ab (hK30 _ _ ?_)
 refine ax Z rfl (fun hc14 => ?_) (fun hc14 => ?_)
 ·rw [hc14] at Z
  try simp only [qz] at hc14
  have hwh := hc14
  refine ae fun K31 hK31 => aa fun K32 hK32 => wlm Z rfl fun a Z => wlv Z ((aE (sT := 26) (hpv.grow (Y.ext.const hk0 (Y.g 3 rfl))) rfl rfl (runUnderlying26 _)).asi (m' := (cp.length : Int)) sm) fun a Z => wlv Z (v_ne rfl rfl) fun a Z => ab (hK32 _ _ ?_)
  refine ax Z rfl (fun hc15 => ?_) (fun hc15 => ?_)
  ·rw [hc15] at Z
   try simp only [qz] at hc15
   refine aa fun K33 hK33 => wla Z rfl fun a Z => ab (hK33 _ _ ?_)
   replace Z := Z.p7 0 2 4 11 17 18 10 rfl
   refine ap ?_
   refine al Z results55 (ac rfl ag) ?_
   exact ⟨by simp only [retv]; rw [qn hall hold hroot om om hval hwh om om], Y.ext.const hk0 (Y.g 3 rfl)⟩
  rw [hc15] at Z
  try simp only [qz] at hc15
  refine ar <| hK31 _ _ <| aF kr (aG kr fun w15 hxz => ?_)
  replace Y : St (· = 0) w0 [blk w11.hz [sv old] 9, blk w5.hz [sv old] 9, own u 128 2 (way.map fun x : By × Bool => [sv x.1, .bool x.2]), blk 0 (kOf.map wv) 161] w15 := Y.grow hxz
  refine aT (k := 0) 7 [5, 6] Z kr kr kr rfx ?_
  replace Z := Z.p12 0 2 4 11 12 17 18 101 102 103 104 105 rfl
  replace Y : St (· = 0) w0 [blk w5.hz [sv old] 9, blk w11.hz [sv old] 9, own u 128 2 (way.map fun x : By × Bool => [sv x.1, .bool x.2]), blk 0 (kOf.map wv) 161] w15 := Y.select [1, 0, 2, 3] de
  refine ez [6] (fun q => if q = 6 then blk w5.hz [sv old] 9 else join []) (fun q => if q = 6 then blk w5.hz [sv (cp.getD 0 [])] 9 else join []) 7 [[], [0], [1], [], [3], [4], [2]] (fun i => match i with | 0 => pv (pz) | 1 => pv (slAddr pz (0 * 1)) | 2 => pv (sv (cp.getD 0 [])) | 3 => pv (pz) | 4 => pv (slAddr pz (0 * 1)) | 5 => pv (sv (cp.getD 0 [])) | 6 => fun v E => v = undef ∧ E = [] | _ => fun _ _ => False) (by intro q; by_cases h6 : q = 6; (subst h6; rfl); simp only [h6, if_false]) Z (H := [blk w11.hz [sv old] 9, own u 128 2 (way.map fun x : By × Bool => [sv x.1, .bool x.2]), blk 0 (kOf.map wv) 161]) Y kr kr kr kr de de ?_ ?_ ?_ ?_ ?_ ?_
  ·intro i v E h
   match i, h with
   | 0, _ => exact by decide
   | 1, _ => exact by decide
   | 2, _ => exact by decide
   | 3, _ => exact by decide
   | 4, _ => exact by decide
   | 5, _ => exact by decide
   | 6, _ => exact by decide
   | i + 7, h => exact h.elim
  ·intro q v E hq h
   simp only [List.mem_cons, List.not_mem_nil, or_false] at hq
   rcases hq with rfl <;> exact h
  ·intro q hq
   simp only [List.mem_cons, List.not_mem_nil, or_false] at hq
   rcases hq with rfl <;> exact ⟨rfl, rfl⟩
  ·intro i hi hiq e
   match i, hi, hiq with
   | 0, _, _ => exact fun w Y => OpV.g (ah rfl)
   | 1, _, _ =>
    rintro _ _ ⟨rfl, rfl⟩
    intro w Y
    exact OpV.g ((aj (i := 0) (sT := 26) (hpv.grow (Y.ext.const hk0 (Y.g 3 rfl))) rfl rfl (runUnderlying26 _) (sizeOf9 _) om (by rw [List.length_map]; omega)).as (v' := slAddr pz (0 * 1)) rfl)
   | 2, _, _ =>
    rintro _ _ ⟨rfl, rfl⟩
    intro w Y
    exact OpV.g (au (u := sv (cp.getD 0 [])) (i := 0) (j := 0) (hpv.grow (Y.ext.const hk0 (Y.g 3 rfl))) (by rw [List.length_map]; omega) rfl (isAgg9 _) (by simp [List.getD_eq_getElem?_getD, List.getElem?_eq_getElem (show 0 < cp.length by omega)]))
   | 3, _, _ => exact fun w Y => OpV.g (ah rfl)
   | 4, _, _ =>
    rintro _ _ ⟨rfl, rfl⟩
    intro w Y
    exact OpV.g ((aj (i := 0) (sT := 26) (hpv.grow (Y.ext.const hk0 (Y.g 3 rfl))) rfl rfl (runUnderlying26 _) (sizeOf9 _) om (by rw [List.length_map]; omega)).as (v' := slAddr pz (0 * 1)) rfl)
   | 5, _, _ =>
    rintro _ _ ⟨rfl, rfl⟩
    intro w Y
    exact OpV.g (au (u := sv (cp.getD 0 [])) (i := 0) (j := 0) (hpv.grow (Y.ext.const hk0 (Y.g 3 rfl))) (by rw [List.length_map]; omega) rfl (isAgg9 _) (by simp [List.getD_eq_getElem?_getD, List.getElem?_eq_getElem (show 0 < cp.length by omega)]))
   | 6, _, h => exact absurd de h
  ·intro q hq
   simp only [List.mem_cons, List.not_mem_nil, or_false] at hq
   rcases hq with rfl
   ·rintro _ _ ⟨rfl, rfl⟩
    intro w h
    exact mW (cs := [sv old]) (ds := [sv (cp.getD 0 [])]) rfl rfl h (sizeOf9 _) rfl (lb rfl) rfl
  clear Z Y
  rintro _ _ ⟨rfl, rfl⟩ _ _ ⟨rfl, rfl⟩ _ _ ⟨rfl, rfl⟩ _ _ ⟨rfl, rfl⟩ _ _ ⟨rfl, rfl⟩ _ _ ⟨rfl, rfl⟩ a w16 Z Y
  replace Z : Fr 137 [(106, _), (107, _), (108, _), (109, _), (110, _), (111, _), (0, _), (2, _), (4, _), (11, _), (12, _), (17, _), (18, _), (101, _), (102, _), (103, _), (104, _), (105, _)] [] a := Z
  replace Y : St (· = 0) w0 [_, _, _, _] w16 := Y
  refine ab <| aP (k := 7) 9 [8] kr kr kr ?_
  refine aH 1 Z Y rfl rfl rfl (sizeOf9 _) rfl (lb rfl) (ds := [sv (cp.getD 0 [])]) rfl rfl ?_
  clear Z Y
  intro a w17 Z Y
  refine wla Z rfl fun a Z => ab <| aS kr ?_
  refine hK29 _ _ ?_
  replace Z := Z.p6 0 2 11 17 18 4 rfl
  refine ae fun K34 hK34 => aa fun K35 hK35 => wlm Z rfl fun a Z => aK Z Y de call90 rfl (gC u _ _ (Y.ow 2 rfl)) ?_
  clear Z Y
  intro a w18 x16 hp Z Y
  revert x16 hp Z Y; rintro z1 hp Z Y
  clear hp
  replace Y : St (· = 0) w0 [_, _, _, _, _] w18 := Y
  refine ab (hK35 _ _ <| aq ?_)
  have hy32 : ∀ k, k < way.length → (way.getD k ([], false)).1.length = 32 := fun k hk => hway _ (aW hk)
  have hr0 : (cp.getD 0 []).length = 32 := hcp _ (aW om)
  replace Y : St (· = 0) w0 [_, _, _, _, _] w18 := Y
  replace Y : St (· = 0) w0 [blk 0 (kOf.map wv) 161, blk w5.hz [sv (([] : List Nat).foldl (fun o k => fstH (way.getD k ([], false)) o) (cp.getD 0 []))] 9, blk w11.hz [sv (([] : List Nat).foldl (fun o k => joinH (way.getD k ([], false)) o) (cp.getD 0 []))] 9, blk z1 [u] 124, own u 128 2 (way.map fun x : By × Bool => [sv x.1, .bool x.2])] w18 := Y.select [4, 1, 2, 0, 3] de
  replace Z : Fr 137 [(0, sv old), (2, sv root), (11, u), (17, pt w5.hz), (18, pt w11.hz), (4, .slice none 0 0), (112, u), (113, .func (.func 109) #[] #[pt z1])] [] a := Z.pick [0, 2, 11, 17, 18, 4, 112, 113]
  refine cU (M := (· = 0)) (w0 := w0) (encs := (encD way)) (Hi := [blk z1 [u] 124, own u 128 2 (way.map fun x : By × Bool => [sv x.1, .bool x.2])]) (Hc := [blk 0 (kOf.map wv) 161, blk w5.hz [sv (([] : List Nat).foldl (fun o k => fstH (way.getD k ([], false)) o) (cp.getD 0 []))] 9, blk w11.hz [sv (([] : List Nat).foldl (fun o k => joinH (way.getD k ([], false)) o) (cp.getD 0 []))] 9]) (fun pre H => ((pre.foldl (fun o k => fstH (way.getD k ([], false)) o) (cp.getD 0 [])).length = 32 ∧ (pre.foldl (fun o k => joinH (way.getD k ([], false)) o) (cp.getD 0 [])).length = 32) ∧ H = [blk 0 (kOf.map wv) 161, blk w5.hz [sv (pre.foldl (fun o k => fstH (way.getD k ([], false)) o) (cp.getD 0 []))] 9, blk w11.hz [sv (pre.foldl (fun o k => joinH (way.getD k ([], false)) o) (cp.getD 0 []))] 9]) (fun _ _ _ => False) (fun pre xs H a => ∃ (bA0 : Nat), Fr 137 [(0, sv old), (2, sv root), (11, u), (17, pt w5.hz), (18, pt w11.hz), (4, .slice none 0 0), (112, u), (113, .func (.func 109) #[] #[pt z1]), (20, pt bA0)] [] a ∧ ((pre.foldl (fun o k => fstH (way.getD k ([], false)) o) (cp.getD 0 [])).length = 32 ∧ (pre.foldl (fun o k => joinH (way.getD k ([], false)) o) (cp.getD 0 [])).length = 32) ∧ H = [blk bA0 [sv ((way.getD xs ([], false)).1), .bool ((way.getD xs ([], false)).2)] 128, blk 0 (kOf.map wv) 161, blk w5.hz [sv (pre.foldl (fun o k => fstH (way.getD k ([], false)) o) (cp.getD 0 []))] 9, blk w11.hz [sv (pre.foldl (fun o k => joinH (way.getD k ([], false)) o) (cp.getD 0 []))] 9]) rfl call109 Z Y (eF u way z1 om) de (fun _ => rfl) ⟨⟨hr0, hr0⟩, rfl⟩ ?_ ?_ ?_ ?_
  ·clear Z Y
   rintro lp pre xs _ a w19 hnx ⟨hf32, rfl⟩ Z Y
   generalize (join [blk 0 (kOf.map wv) 161, blk w5.hz [sv (pre.foldl (fun o k => fstH (way.getD k ([], false)) o) (cp.getD 0 []))] 9, blk w11.hz [sv (pre.foldl (fun o k => joinH (way.getD k ([], false)) o) (cp.getD 0 []))] 9]).foot = M1 at Y ⊢
   replace Z : Fr 137 [(115, .agg #[sv ((way.getD xs ([], false)).1), .bool ((way.getD xs ([], false)).2)]), (114, iv (xs : Int)), (0, sv old), (2, sv root), (11, u), (17, pt w5.hz), (18, pt w11.hz), (4, .slice none 0 0), (112, u), (113, .func (.func 109) #[] #[pt z1])] [] a := Z
   refine ao <| aU Z Y de (zeroValue128 _) (cs := [.string (⟨#[]⟩), .bool false]) rfl ?_
   clear Z Y
   intro a w20 Z Y
   refine aH 0 Z Y rfl rfl rfl (sizeOf128 _) rfl (lb rfl) (ds := [sv ((way.getD xs ([], false)).1), .bool ((way.getD xs ([], false)).2)]) rfl rfl ?_
   clear Z Y
   intro a w21 Z Y
   refine ab ?_
   exact ⟨_, ⟨w19.hz, Z.pick [0, 2, 11, 17, 18, 4, 112, 113, 20], hf32, rfl⟩, Y⟩
  ·rintro lp pre xs _ a w22 hnx ⟨bA0, Z, hf32, rfl⟩ hout hrec hnl Y
   clear hrec hnl
   generalize (join [blk bA0 [sv ((way.getD xs ([], false)).1), .bool ((way.getD xs ([], false)).2)] 128, blk 0 (kOf.map wv) 161, blk w5.hz [sv (pre.foldl (fun o k => fstH (way.getD k ([], false)) o) (cp.getD 0 []))] 9, blk w11.hz [sv (pre.foldl (fun o k => joinH (way.getD k ([], false)) o) (cp.getD 0 []))] 9]).foot = M1 at Y hout ⊢
   refine aq <| ae fun K36 hK36 => aa fun K37 hK37 => wlv Z (ak (v := po bA0 1) rfl kr) fun a Z => wlv Z (ld Y 0 rfl rfl (isAgg4 _) rfl) fun a Z => ab (hK37 _ _ ?_)
   replace Z := Z.p4 17 18 20 117 rfl
   refine ax Z rfl (fun hc17 => ?_) (fun hc17 => ?_)
   ·rw [hc17] at Z
    try simp only [qz] at hc17
    refine ao <| wlv Z (aw (Y.g 0 rfl) rfl (isAgg128 _) (sizeOf128 _)) fun a Z => wlv Z (ld Y 2 rfl rfl (isAgg9 _) rfl) fun a Z => am Z Y de call91 rfl (dh ((way.getD xs ([], false)).1) ((way.getD xs ([], false)).2) (pre.foldl (fun o k => fstH (way.getD k ([], false)) o) (cp.getD 0 [])) _ (by have := hy32 xs (by have h := hnx; unfold NxB at h; omega); omega) (by first | omega | exact Nat.le_trans (Nat.le_of_eq hf32.1) de | exact Nat.le_trans (Nat.le_of_eq hf32.2) de) (Y.g 1 rfl)) ?_
    clear Z Y
    intro a w23 Z Y
    refine aH 2 Z Y rfl rfl rfl (sizeOf9 _) rfl (lb rfl) (ds := [sv (joinH ((way.getD xs ([], false)).1, (way.getD xs ([], false)).2) (pre.foldl (fun o k => fstH (way.getD k ([], false)) o) (cp.getD 0 [])))]) rfl rfl ?_
    clear Z Y
    intro a w24 Z Y
    refine ab <| hK36 _ _ <| ao <| wlv Z (aw (Y.g 0 rfl) rfl (isAgg128 _) (sizeOf128 _)) fun a Z => wlv Z (ld Y 3 rfl rfl (isAgg9 _) rfl) fun a Z => am Z Y de call91 rfl (dh ((way.getD xs ([], false)).1) ((way.getD xs ([], false)).2) (pre.foldl (fun o k => joinH (way.getD k ([], false)) o) (cp.getD 0 [])) _ (by have := hy32 xs (by have h := hnx; unfold NxB at h; omega); omega) (by first | omega | exact Nat.le_trans (Nat.le_of_eq hf32.1) de | exact Nat.le_trans (Nat.le_of_eq hf32.2) de) (Y.g 1 rfl)) ?_
    clear Z Y
    intro a w25 Z Y
    refine aH 3 Z Y rfl rfl rfl (sizeOf9 _) rfl (lb rfl) (ds := [sv (joinH ((way.getD xs ([], false)).1, (way.getD xs ([], false)).2) (pre.foldl (fun o k => joinH (way.getD k ([], false)) o) (cp.getD 0 [])))]) rfl rfl ?_
    clear Z Y
    intro a w26 Z Y
    refine ab ?_
    have hF : joinH ((way.getD xs ([], false)).1, (way.getD xs ([], false)).2) (pre.foldl (fun o k => fstH (way.getD k ([], false)) o) (cp.getD 0 [])) = (pre ++ [xs]).foldl (fun o k => fstH (way.getD k ([], false)) o) (cp.getD 0 []) := by rw [List.foldl_append]; exact ((if_pos (c := (way.getD xs ([], false)).2 = true) hc17)).symm
    have hJ : joinH ((way.getD xs ([], false)).1, (way.getD xs ([], false)).2) (pre.foldl (fun o k => joinH (way.getD k ([], false)) o) (cp.getD 0 [])) = (pre ++ [xs]).foldl (fun o k => joinH (way.getD k ([], false)) o) (cp.getD 0 []) := by rw [List.foldl_append]; rfl
    rw [hF, hJ] at Y
    exact ⟨_, ⟨⟨by rw [List.foldl_append]; exact fT hf32.1, by rw [List.foldl_append]; exact aZ _⟩, rfl⟩, Y.select [1, 2, 3] de⟩
   rw [hc17] at Z
   try simp only [qz] at hc17
   refine ar <| hK36 _ _ <| ao <| wlv Z (aw (Y.g 0 rfl) rfl (isAgg128 _) (sizeOf128 _)) fun a Z => wlv Z (ld Y 3 rfl rfl (isAgg9 _) rfl) fun a Z => am Z Y de call91 rfl (dh ((way.getD xs ([], false)).1) ((way.getD xs ([], false)).2) (pre.foldl (fun o k => joinH (way.getD k ([], false)) o) (cp.getD 0 [])) _ (by have := hy32 xs (by have h := hnx; unfold NxB at h; omega); omega) (by first | omega | exact Nat.le_trans (Nat.le_of_eq hf32.1) de | exact Nat.le_trans (Nat.le_of_eq hf32.2) de) (Y.g 1 rfl)) ?_
   clear Z Y
   intro a w27 Z Y
   refine aH 3 Z Y rfl rfl rfl (sizeOf9 _) rfl (lb rfl) (ds := [sv (joinH ((way.getD xs ([], false)).1, (way.getD xs ([], false)).2) (pre.foldl (fun o k => joinH (way.getD k ([], false)) o) (cp.getD 0 [])))]) rfl rfl ?_
   clear Z Y
   intro a w28 Z Y
   refine ab ?_
   have hF : pre.foldl (fun o k => fstH (way.getD k ([], false)) o) (cp.getD 0 []) = (pre ++ [xs]).foldl (fun o k => fstH (way.getD k ([], false)) o) (cp.getD 0 []) := by rw [List.foldl_append]; exact ((if_neg (c := (way.getD xs ([], false)).2 = true) (by rw [hc17]; decide))).symm
   have hJ : joinH ((way.getD xs ([], false)).1, (way.getD xs ([], false)).2) (pre.foldl (fun o k => joinH (way.getD k ([], false)) o) (cp.getD 0 [])) = (pre ++ [xs]).foldl (fun o k => joinH (way.getD k ([], false)) o) (cp.getD 0 []) := by rw [List.foldl_append]; rfl
   rw [hF, hJ] at Y
   exact ⟨_, ⟨⟨by rw [List.foldl_append]; exact fT hf32.1, by rw [List.foldl_append]; exact aZ _⟩, rfl⟩, Y.select [1, 2, 3] de⟩
  ·rintro D pre _ _ a w29 ⟨rfl, rfl⟩ ⟨hf32, rfl⟩ Y Z
   replace Z : Fr 137 [(0, sv old), (2, sv root), (11, u), (17, pt w5.hz), (18, pt w11.hz), (4, .slice none 0 0), (112, u), (113, .func (.func 109) #[] #[pt z1])] [{ target := .collected D, args := #[] }] a := Z
   replace Y : St (· = 0) w0 [_, _, _, _, _, _] w29 := Y
   refine hK34 _ _ <| aa fun K38 hK38 => wlm Z rfl fun a Z => wlv Z (cN (v := iv 0) rfl kr) fun a Z => wlv Z ((v_eq rfl rfl).asb (b' := true) rfl) fun a Z => wlm Z rfl fun a Z => wly Z (ld Y 2 rfl rfl (isAgg9 _) rfl) fun a Z => wly Z (ah rfl) fun a Z => wly Z (dX rfl rfl) fun a Z => wlv Z (az rfl rfl) fun a Z => wlm Z rfl fun a Z => ?_
   rcases Bool.eq_false_or_eq_true (decide ((backs way.length way.length).foldl (fun o k => fstH (way.getD k ([], false)) o) (cp.getD 0 []) = old)) with hb18 | hb18
   ·rw [hb18] at Z
    try simp only [qz] at hb18
    refine wly Z (ld Y 3 rfl rfl (isAgg9 _) rfl) fun a Z => wly Z (ah rfl) fun a Z => wly Z (dX rfl rfl) fun a Z => wlv Z (az rfl rfl) fun a Z => wla Z rfl fun a Z => ab (hK38 _ _ ?_)
    replace Z := Z.p1 10 rfl
    replace Y := Y.k3 35 rfl
    refine ap ?_
    have hD := Y.g 0 rfl
    replace Y := Y.unmark (i := 0) (o' := .deferred none) rfl
    replace Y : St (· = 0) w0 [_, _] _ := Y
    refine bV Z hD results55 (ac rfl ag) ?_
    have hkey := lw hall hold hroot om om hval hwh om om
    rw [← ce fstH, ← ce joinH] at hkey
    exact ⟨by simp only [retv]; rw [hkey, decide_eq_true (show (backs way.length way.length).foldl (fun o k => fstH (way.getD k ([], false)) o) (cp.getD 0 []) = old by assumption)]; rfl, Y.ext.const hk0 (Y.g 0 rfl)⟩
   rw [hb18] at Z
   try simp only [qz] at hb18
   refine wln Z fun a Z => wln Z fun a Z => wln Z fun a Z => wlv Z (ay rfl rfl) fun a Z => wla Z rfl fun a Z => ab (hK38 _ _ ?_)
   replace Z := Z.p1 10 rfl
   replace Y := Y.k3 35 rfl
   refine ap ?_
   have hD := Y.g 0 rfl
   replace Y := Y.unmark (i := 0) (o' := .deferred none) rfl
   replace Y : St (· = 0) w0 [_, _] _ := Y
   refine bV Z hD results55 (ac rfl ag) ?_
   have hkey := lw hall hold hroot om om hval hwh om om
   rw [← ce fstH, ← ce joinH] at hkey
   exact ⟨by simp only [retv]; rw [hkey, decide_eq_false (show ¬ (backs way.length way.length).foldl (fun o k => fstH (way.getD k ([], false)) o) (cp.getD 0 []) = old by assumption)]; rfl, Y.ext.const hk0 (Y.g 0 rfl)⟩
  ·rintro D c pre _ _ a w30 _ h
   exact h.elim
 rw [hc14] at Z
 try simp only [qz] at hc14
 have hwh := hc14
 refine ar <| hK29 _ _ <| ae fun K39 hK39 => aa fun K40 hK40 => wlm Z rfl fun a Z => aK Z Y de call90 rfl (gC u _ _ (Y.ow 2 rfl)) ?_
 clear Z Y
 intro a w31 x19 hp Z Y
 revert x19 hp Z Y; rintro z1 hp Z Y
 clear hp
 replace Y : St (· = 0) w0 [_, _, _, _, _] w31 := Y
 refine ab (hK40 _ _ <| aq ?_)
 have hy32 : ∀ k, k < way.length → (way.getD k ([], false)).1.length = 32 := fun k hk => hway _ (aW hk)
 have hr0 : (old).length = 32 := hold
 replace Y : St (· = 0) w0 [_, _, _, _, _] w31 := Y
 replace Y : St (· = 0) w0 [blk 0 (kOf.map wv) 161, blk w5.hz [sv (([] : List Nat).foldl (fun o k => fstH (way.getD k ([], false)) o) old)] 9, blk w11.hz [sv (([] : List Nat).foldl (fun o k => joinH (way.getD k ([], false)) o) old)] 9, blk z1 [u] 124, own u 128 2 (way.map fun x : By × Bool => [sv x.1, .bool x.2])] w31 := Y.select [4, 2, 1, 0, 3] de
 replace Z : Fr 137 [(0, sv old), (2, sv root), (4, pz), (11, u), (12, .bool wh), (17, pt w5.hz), (18, pt w11.hz), (101, .bool wh), (102, .bool false), (112, u), (113, .func (.func 109) #[] #[pt z1])] [] a := Z.pick [0, 2, 4, 11, 12, 17, 18, 101, 102, 112, 113]
 refine cU (M := (· = 0)) (w0 := w0) (encs := (encD way)) (Hi := [blk z1 [u] 124, own u 128 2 (way.map fun x : By × Bool => [sv x.1, .bool x.2])]) (Hc := [blk 0 (kOf.map wv) 161, blk w5.hz [sv (([] : List Nat).foldl (fun o k => fstH (way.getD k ([], false)) o) old)] 9, blk w11.hz [sv (([] : List Nat).foldl (fun o k => joinH (way.getD k ([], false)) o) old)] 9]) (fun pre H => ((pre.foldl (fun o k => fstH (way.getD k ([], false)) o) old).length = 32 ∧ (pre.foldl (fun o k => joinH (way.getD k ([], false)) o) old).length = 32) ∧ H = [blk 0 (kOf.map wv) 161, blk w5.hz [sv (pre.foldl (fun o k => fstH (way.getD k ([], false)) o) old)] 9, blk w11.hz [sv (pre.foldl (fun o k => joinH (way.getD k ([], false)) o) old)] 9]) (fun _ _ _ => False) (fun pre xs H a => ∃ (bA0 : Nat), Fr 137 [(0, sv old), (2, sv root), (4, pz), (11, u), (12, .bool wh), (17, pt w5.hz), (18, pt w11.hz), (101, .bool wh), (102, .bool false), (112, u), (113, .func (.func 109) #[] #[pt z1]), (20, pt bA0)] [] a ∧ ((pre.foldl (fun o k => fstH (way.getD k ([], false)) o) old).length = 32 ∧ (pre.foldl (fun o k => joinH (way.getD k ([], false)) o) old).length = 32) ∧ H = [blk bA0 [sv ((way.getD xs ([], false)).1), .bool ((way.getD xs ([], false)).2)] 128, blk 0 (kOf.map wv) 161, blk w5.hz [sv (pre.foldl (fun o k => fstH (way.getD k ([], false)) o) old)] 9, blk w11.hz [sv (pre.foldl (fun o k => joinH (way.getD k ([], false)) o) old)] 9]) rfl call109 Z Y (eF u way z1 om) de (fun _ => rfl) ⟨⟨hr0, hr0⟩, rfl⟩ ?_ ?_ ?_ ?_
 ·clear Z Y
  rintro lp pre xs _ a w32 hnx ⟨hf32, rfl⟩ Z Y
  generalize (join [blk 0 (kOf.map wv) 161, blk w5.hz [sv (pre.foldl (fun o k => fstH (way.getD k ([], false)) o) old)] 9, blk w11.hz [sv (pre.foldl (fun o k => joinH (way.getD k ([], false)) o) old)] 9]).foot = M1 at Y ⊢
  replace Z : Fr 137 [(115, .agg #[sv ((way.getD xs ([], false)).1), .bool ((way.getD xs ([], false)).2)]), (114, iv (xs : Int)), (0, sv old), (2, sv root), (4, pz), (11, u), (12, .bool wh), (17, pt w5.hz), (18, pt w11.hz), (101, .bool wh), (102, .bool false), (112, u), (113, .func (.func 109) #[] #[pt z1])] [] a := Z
  refine ao <| aU Z Y de (zeroValue128 _) (cs := [.string (⟨#[]⟩), .bool false]) rfl ?_
  clear Z Y
  intro a w33 Z Y
  refine aH 0 Z Y rfl rfl rfl (sizeOf128 _) rfl (lb rfl) (ds := [sv ((way.getD xs ([], false)).1), .bool ((way.getD xs ([], false)).2)]) rfl rfl ?_
  clear Z Y
  intro a w34 Z Y
  refine ab ?_
  exact ⟨_, ⟨w32.hz, Z.pick [0, 2, 4, 11, 12, 17, 18, 101, 102, 112, 113, 20], hf32, rfl⟩, Y⟩
 ·rintro lp pre xs _ a w35 hnx ⟨bA0, Z, hf32, rfl⟩ hout hrec hnl Y
  clear hrec hnl
  generalize (join [blk bA0 [sv ((way.getD xs ([], false)).1), .bool ((way.getD xs ([], false)).2)] 128, blk 0 (kOf.map wv) 161, blk w5.hz [sv (pre.foldl (fun o k => fstH (way.getD k ([], false)) o) old)] 9, blk w11.hz [sv (pre.foldl (fun o k => joinH (way.getD k ([], false)) o) old)] 9]).foot = M1 at Y hout ⊢
  refine aq <| ae fun K41 hK41 => aa fun K42 hK42 => wlv Z (ak (v := po bA0 1) rfl kr) fun a Z => wlv Z (ld Y 0 rfl rfl (isAgg4 _) rfl) fun a Z => ab (hK42 _ _ ?_)
  replace Z := Z.p4 17 18 20 117 rfl
  refine ax Z rfl (fun hc20 => ?_) (fun hc20 => ?_)
  ·rw [hc20] at Z
   try simp only [qz] at hc20
   refine ao <| wlv Z (aw (Y.g 0 rfl) rfl (isAgg128 _) (sizeOf128 _)) fun a Z => wlv Z (ld Y 2 rfl rfl (isAgg9 _) rfl) fun a Z => am Z Y de call91 rfl (dh ((way.getD xs ([], false)).1) ((way.getD xs ([], false)).2) (pre.foldl (fun o k => fstH (way.getD k ([], false)) o) old) _ (by have := hy32 xs (by have h := hnx; unfold NxB at h; omega); omega) (by first | omega | exact Nat.le_trans (Nat.le_of_eq hf32.1) de | exact Nat.le_trans (Nat.le_of_eq hf32.2) de) (Y.g 1 rfl)) ?_
   clear Z Y
   intro a w36 Z Y
   refine aH 2 Z Y rfl rfl rfl (sizeOf9 _) rfl (lb rfl) (ds := [sv (joinH ((way.getD xs ([], false)).1, (way.getD xs ([], false)).2) (pre.foldl (fun o k => fstH (way.getD k ([], false)) o) old))]) rfl rfl ?_
   clear Z Y
   intro a w37 Z Y
   refine ab <| hK41 _ _ <| ao <| wlv Z (aw (Y.g 0 rfl) rfl (isAgg128 _) (sizeOf128 _)) fun a Z => wlv Z (ld Y 3 rfl rfl (isAgg9 _) rfl) fun a Z => am Z Y de call91 rfl (dh ((way.getD xs ([], false)).1) ((way.getD xs ([], false)).2) (pre.foldl (fun o k => joinH (way.getD k ([], false)) o) old) _ (by have := hy32 xs (by have h := hnx; unfold NxB at h; omega); omega) (by first | omega | exact Nat.le_trans (Nat.le_of_eq hf32.1) de | exact Nat.le_trans (Nat.le_of_eq hf32.2) de) (Y.g 1 rfl)) ?_
   clear Z Y
   intro a w38 Z Y
   refine aH 3 Z Y rfl rfl rfl (sizeOf9 _) rfl (lb rfl) (ds := [sv (joinH ((way.getD xs ([], false)).1, (way.getD xs ([], false)).2) (pre.foldl (fun o k => joinH (way.getD k ([], false)) o) old))]) rfl rfl ?_
   clear Z Y
   intro a w39 Z Y
   refine ab ?_
   have hF : joinH ((way.getD xs ([], false)).1, (way.getD xs ([], false)).2) (pre.foldl (fun o k => fstH (way.getD k ([], false)) o) old) = (pre ++ [xs]).foldl (fun o k => fstH (way.getD k ([], false)) o) old := by rw [List.foldl_append]; exact ((if_pos (c := (way.getD xs ([], false)).2 = true) hc20)).symm
   have hJ : joinH ((way.getD xs ([], false)).1, (way.getD xs ([], false)).2) (pre.foldl (fun o k => joinH (way.getD k ([], false)) o) old) = (pre ++ [xs]).foldl (fun o k => joinH (way.getD k ([], false)) o) old := by rw [List.foldl_append]; rfl
   rw [hF, hJ] at Y
   exact ⟨_, ⟨⟨by rw [List.foldl_append]; exact fT hf32.1, by rw [List.foldl_append]; exact aZ _⟩, rfl⟩, Y.select [1, 2, 3] de⟩
  rw [hc20] at Z
  try simp only [qz] at hc20
  refine ar <| hK41 _ _ <| ao <| wlv Z (aw (Y.g 0 rfl) rfl (isAgg128 _) (sizeOf128 _)) fun a Z => wlv Z (ld Y 3 rfl rfl (isAgg9 _) rfl) fun a Z => am Z Y de call91 rfl (dh ((way.getD xs ([], false)).1) ((way.getD xs ([], false)).2) (pre.foldl (fun o k => joinH (way.getD k ([], false)) o) old) _ (by have := hy32 xs (by have h := hnx; unfold NxB at h; omega); omega) (by first | omega | exact Nat.le_trans (Nat.le_of_eq hf32.1) de | exact Nat.le_trans (Nat.le_of_eq hf32.2) de) (Y.g 1 rfl)) ?_
  clear Z Y
  intro a w40 Z Y
  refine aH 3 Z Y rfl rfl rfl (sizeOf9 _) rfl (lb rfl) (ds := [sv (joinH ((way.getD xs ([], false)).1, (way.getD xs ([], false)).2) (pre.foldl (fun o k => joinH (way.getD k ([], false)) o) old))]) rfl rfl ?_
  clear Z Y
  intro a w41 Z Y
  refine ab ?_
  have hF : pre.foldl (fun o k => fstH (way.getD k ([], false)) o) old = (pre ++ [xs]).foldl (fun o k => fstH (way.getD k ([], false)) o) old := by rw [List.foldl_append]; exact ((if_neg (c := (way.getD xs ([], false)).2 = true) (by rw [hc20]; decide))).symm
  have hJ : joinH ((way.getD xs ([], false)).1, (way.getD xs ([], false)).2) (pre.foldl (fun o k => joinH (way.getD k ([], false)) o) old) = (pre ++ [xs]).foldl (fun o k => joinH (way.getD k ([], false)) o) old := by rw [List.foldl_append]; rfl
  rw [hF, hJ] at Y
  exact ⟨_, ⟨⟨by rw [List.foldl_append]; exact fT hf32.1, by rw [List.foldl_append]; exact aZ _⟩, rfl⟩, Y.select [1, 2, 3] de⟩
 ·rintro D pre _ _ a w42 ⟨rfl, rfl⟩ ⟨hf32, rfl⟩ Y Z
  replace Z : Fr 137 [(0, sv old), (2, sv root), (4, pz), (11, u), (12, .bool wh), (17, pt w5.hz), (18, pt w11.hz), (101, .bool wh), (102, .bool false), (112, u), (113, .func (.func 109) #[] #[pt z1])] [{ target := .collected D, args := #[] }] a := Z
  replace Y : St (· = 0) w0 [_, _, _, _, _, _] w42 := Y
  refine hK39 _ _ <| aa fun K43 hK43 => wlm Z rfl fun a Z => wlv Z ((aE (sT := 26) (hpv.grow (Y.ext.const hk0 (Y.g 1 rfl))) rfl rfl (runUnderlying26 _)).asi (m' := (cp.length : Int)) sm) fun a Z => wlv Z (v_eq rfl rfl) fun a Z => wlm Z rfl fun a Z => ?_
  rcases Bool.eq_false_or_eq_true (decide ((cp.length : Int) = 0)) with hb21 | hb21
  ·rw [hb21] at Z
   try simp only [qz] at hb21
   refine wly Z (ld Y 2 rfl rfl (isAgg9 _) rfl) fun a Z => wly Z (ah rfl) fun a Z => wly Z (dX rfl rfl) fun a Z => wlv Z (az rfl rfl) fun a Z => wlm Z rfl fun a Z => ?_
   rcases Bool.eq_false_or_eq_true (decide ((backs way.length way.length).foldl (fun o k => fstH (way.getD k ([], false)) o) old = old)) with hb22 | hb22
   ·rw [hb22] at Z
    try simp only [qz] at hb22
    refine wly Z (ld Y 3 rfl rfl (isAgg9 _) rfl) fun a Z => wly Z (ah rfl) fun a Z => wly Z (dX rfl rfl) fun a Z => wlv Z (az rfl rfl) fun a Z => wla Z rfl fun a Z => ab (hK43 _ _ ?_)
    replace Z := Z.p1 10 rfl
    replace Y := Y.k3 35 rfl
    refine ap ?_
    have hD := Y.g 0 rfl
    replace Y := Y.unmark (i := 0) (o' := .deferred none) rfl
    replace Y : St (· = 0) w0 [_, _] _ := Y
    refine bV Z hD results55 (ac rfl ag) ?_
    have hkey := gt hall hold hroot om om hval hwh om
    rw [← ce fstH, ← ce joinH] at hkey
    exact ⟨by simp only [retv]; rw [hkey, decide_eq_true (show cp.length = 0 by omega), decide_eq_true (show (backs way.length way.length).foldl (fun o k => fstH (way.getD k ([], false)) o) old = old by assumption)]; rfl, Y.ext.const hk0 (Y.g 0 rfl)⟩
   rw [hb22] at Z
   try simp only [qz] at hb22
   refine wln Z fun a Z => wln Z fun a Z => wln Z fun a Z => wlv Z (ay rfl rfl) fun a Z => wla Z rfl fun a Z => ab (hK43 _ _ ?_)
   replace Z := Z.p1 10 rfl
   replace Y := Y.k3 35 rfl
   refine ap ?_
   have hD := Y.g 0 rfl
   replace Y := Y.unmark (i := 0) (o' := .deferred none) rfl
   replace Y : St (· = 0) w0 [_, _] _ := Y
   refine bV Z hD results55 (ac rfl ag) ?_
   have hkey := gt hall hold hroot om om hval hwh om
   rw [← ce fstH, ← ce joinH] at hkey
   exact ⟨by simp only [retv]; rw [hkey]; first | rw [decide_eq_false (show ¬ cp.length = 0 by omega)]; rfl | rw [decide_eq_false (show ¬ (backs way.length way.length).foldl (fun o k => fstH (way.getD k ([], false)) o) old = old by assumption), Bool.and_false]; rfl, Y.ext.const hk0 (Y.g 0 rfl)⟩
  rw [hb21] at Z
  try simp only [qz] at hb21
  refine wln Z fun a Z => wln Z fun a Z => wln Z fun a Z => wlv Z (ay rfl rfl) fun a Z => wlm Z rfl fun a Z => wln Z fun a Z => wln Z fun a Z => wln Z fun a Z => wlv Z (ay rfl rfl) fun a Z => wla Z rfl fun a Z => ab (hK43 _ _ ?_)
  replace Z := Z.p1 10 rfl
  replace Y := Y.k3 35 rfl
  refine ap ?_
  have hD := Y.g 0 rfl
  replace Y := Y.unmark (i := 0) (o' := .deferred none) rfl
  replace Y : St (· = 0) w0 [_, _] _ := Y
  refine bV Z hD results55 (ac rfl ag) ?_
  have hkey := gt hall hold hroot om om hval hwh om
  rw [← ce fstH, ← ce joinH] at hkey
  exact ⟨by simp only [retv]; rw [hkey]; first | rw [decide_eq_false (show ¬ cp.length = 0 by omega)]; rfl | rw [decide_eq_false (show ¬ (backs way.length way.length).foldl (fun o k => fstH (way.getD k ([], false)) o) old = old by assumption), Bool.and_false]; rfl, Y.ext.const hk0 (Y.g 0 rfl)⟩
 ·rintro D c pre _ _ a w43 _ h
  exact h.elim
end Go.Proofs.YtddfkkdanpmnaaaGreatDoor
namespace Go.Proofs.YtddfkkdanpmnaaaGreatDoor
open Go.RowKit Go.PW _root_.Go.Proofs.Tryz
theorem iZ (w0 : World) :
  Ret Tryz.prog 105 #[] w0 (MemR w0 (fun v : Value => v) (fun v => [own v 116 1 ((kOf).map fun x => [wv x])]) (fun _ => True)) := by
 refine aD func105 rfl ntmps105 (lb rfl) fun a Z => ?_
 replace Z : Fr 2 [] [] a := Z
 replace Y : St No w0 [] w0 := St.init w0
 refine aa fun K1 hK1 => wla Z rfl fun a Z => ab (hK1 _ _ <| aa fun K2 hK2 => ?_)
 refine aC (E := 116) (sz := 1) rfl [[wv (1116352408#32)], [wv (1899447441#32)], [wv (3049323471#32)], [wv (3921009573#32)], [wv (961987163#32)], [wv (1508970993#32)], [wv (2453635748#32)], [wv (2870763221#32)], [wv (3624381080#32)], [wv (310598401#32)], [wv (607225278#32)], [wv (1426881987#32)], [wv (1925078388#32)], [wv (2162078206#32)], [wv (2614888103#32)], [wv (3248222580#32)], [wv (3835390401#32)], [wv (4022224774#32)], [wv (264347078#32)], [wv (604807628#32)], [wv (770255983#32)], [wv (1249150122#32)], [wv (1555081692#32)], [wv (1996064986#32)], [wv (2554220882#32)], [wv (2821834349#32)], [wv (2952996808#32)], [wv (3210313671#32)], [wv (3336571891#32)], [wv (3584528711#32)], [wv (113926993#32)], [wv (338241895#32)], [wv (666307205#32)], [wv (773529912#32)], [wv (1294757372#32)], [wv (1396182291#32)], [wv (1695183700#32)], [wv (1986661051#32)], [wv (2177026350#32)], [wv (2456956037#32)], [wv (2730485921#32)], [wv (2820302411#32)], [wv (3259730800#32)], [wv (3345764771#32)], [wv (3516065817#32)], [wv (3600352804#32)], [wv (4094571909#32)], [wv (275423344#32)], [wv (430227734#32)], [wv (506948616#32)], [wv (659060556#32)], [wv (883997877#32)], [wv (958139571#32)], [wv (1322822218#32)], [wv (1537002063#32)], [wv (1747873779#32)], [wv (1955562222#32)], [wv (2024104815#32)], [wv (2227730452#32)], [wv (2361852424#32)], [wv (2428436474#32)], [wv (2756734187#32)], [wv (3204031479#32)], [wv (3329325298#32)]] kr sm rfl de de Z Y ?_
 clear Z Y
 intro a w1 Z Y
 refine wla Z rfl fun a Z => ab (hK2 _ _ <| ap ?_)
 refine al Z results105 (ac rfl ag) ?_
 exact ⟨(.slice (some ⟨w0.hz, 0, none⟩) 64 64), rfl, trivial, Y.ext, St.out (E := [own (.slice (some ⟨w0.hz, 0, none⟩) 64 64) 116 1 ((kOf).map fun x => [wv x])]) (H := []) Y⟩
theorem el {α : Type} {l : List α} {i k : Nat} (d : α) (h : i < k) : (l.take k).getD i d = l.getD i d := by
 rw [List.getD_eq_getElem?_getD, List.getElem?_take_of_lt h, ← List.getD_eq_getElem?_getD]
theorem kh (s : By) (w0 : World) (hs : s.length ≤ 100000000) :
  Ret Tryz.prog 82 #[sv s] w0 (MemR w0 (fun v : Value => v) (fun v => [own v 5 1 ((padded s).map fun b => [yv b])]) (fun _ => True)) := by
 refine aD func82 rfl ntmps82 (lb rfl) fun a Z => ?_
 replace Z := Z.p1 0 rfl
 replace Y : St No w0 [] w0 := St.init w0
 refine aa fun K1 hK1 => wla Z rfl fun a Z => ab (hK1 _ _ <| aa fun K2 hK2 => ?_)
 refine wla Z rfl fun a Z => ab (hK2 _ _ <| ae fun K3 hK3 => ?_)
 refine aa fun K4 hK4 => wla Z rfl fun a Z => ab (hK4 _ _ <| aq ?_)
 replace Y : St No w0 [own (.slice none 0 0) 5 1 ((s.take 0).map fun b => [yv b])] w0 := Y.nil_own
 refine aR (fun m a w => ∃ (k : Nat) (v : Value), m = s.length - k ∧ (k ≤ s.length) ∧ Fr 43 [(0, sv s), (2, .slice none 0 0), (3, v), (4, iv (k : Int))] [] a ∧ St No w0 [own v 5 1 ((s.take k).map fun b => [yv b])] w) _ ⟨0, .slice none 0 0, rfl, Nat.zero_le _, Z.pick [0, 2, 3, 4], Y.select [0] de⟩ ?_
 rintro _ a w1 ⟨k, v, rfl, hk, Z, Y⟩
 refine ae fun K5 hK5 => aa fun K6 hK6 => wlm Z rfl fun a Z => wlm Z rfl fun a Z => wlv Z (bo rfl rfl (runUnderlying9 _)) fun a Z => wlv Z (v_lt rfl rfl) fun a Z => ab (hK6 _ _ ?_)
 refine ax Z rfl (fun hc1 => ?_) (fun hc1 => ?_)
 ·rw [hc1] at Z
  try simp only [qz] at hc1
  refine ar <| hK5 _ _ <| ae fun K7 hK7 => aq <| ao <| wlm Z rfl fun a Z => wlm Z rfl fun a Z => wlm Z rfl fun a Z => wlv Z (fE (k := k) rfl rfl (runUnderlying9 _) om om) fun a Z => aC (E := 5) (sz := 1) rfl [[yv (s.getD k 0)]] kr sm rfl de de Z Y ?_
  clear Z Y
  intro a w2 Z Y
  refine aN (i := 1) (sT := 68) (inf := Tryz.t5) (z := yv (0 : UInt8)) (b := 0) (off := 0) (m := 0) (c := 0) rfl rfl rfl (Y.ow 0 rfl) sm underlying68 rfl rfl rfl rfl de (by simp [Value.oneCell', yv, wv, sv]) (by have hby : Tryz.t5.bytes = 1 := rfl; have hz6 : zeros s.length < 64 := (by unfold zeros; omega); simp [big, hby, sum1, sum2, bx] <;> omega) (by have hby : Tryz.t5.bytes = 1 := rfl; have hz6 : zeros s.length < 64 := (by unfold zeros; omega); simp [big, hby, sum1, sum2, bx] <;> omega) de Z Y fun a w3 s2 Z Y _ => wla Z rfl fun a Z => ab <| hK7 _ _ ?_
  replace Z := Z.p4 0 2 4 3 rfl
  replace Y := Y.k1 2 rfl
  refine ao <| wlm Z rfl fun a Z => wlv Z (aV rfl rfl ⟨om, om⟩) fun a Z => wla Z rfl fun a Z => ab ?_
  rw [show ((s.take k).map fun b => [yv b]) ++ ([[yv (s.getD k 0)]]) = ((s.take (k + 1)).map fun b => [yv b]) from by rw [bO 0 om]; simp] at Y
  refine ⟨_, ?_, k + 1, s2, rfl, om, Z.pick [0, 2, 3, 4], Y.select [0] de⟩
  omega
 rw [hc1] at Z
 try simp only [qz] at hc1
 obtain rfl : k = s.length := by omega
 rw [List.take_length] at Y
 refine aJ <| hK3 _ _ <| aa fun K8 hK8 => wlm Z rfl fun a Z => aC (E := 5) (sz := 1) rfl [[yv (128 : UInt8)]] kr sm rfl de de Z Y ?_
 clear Z Y
 intro a w4 Z Y
 refine aN (i := 1) (sT := 68) (inf := Tryz.t5) (z := yv (0 : UInt8)) (b := 0) (off := 0) (m := 0) (c := 0) rfl rfl rfl (Y.ow 0 rfl) sm underlying68 rfl rfl rfl rfl de (by simp [Value.oneCell', yv, wv, sv]) (by have hby : Tryz.t5.bytes = 1 := rfl; have hz6 : zeros s.length < 64 := (by unfold zeros; omega); simp [big, hby, sum1, sum2, bx] <;> omega) (by have hby : Tryz.t5.bytes = 1 := rfl; have hz6 : zeros s.length < 64 := (by unfold zeros; omega); simp [big, hby, sum1, sum2, bx] <;> omega) de Z Y fun a w5 s3 Z Y _ => wla Z rfl fun a Z => ab (hK8 _ _ ?_)
 replace Z := Z.p3 0 2 3 rfl
 replace Y := Y.k1 2 rfl
 refine ae fun K9 hK9 => aq ?_
 rw [show ((s).map fun b => [yv b]) ++ ([[yv (128 : UInt8)]]) = ((sum1 s 0).map fun b => [yv b]) from by simp [sum1]] at Y
 refine aR (fun m a w => ∃ (z : Nat) (v : Value), m = 64 - z ∧ (z ≤ zeros s.length) ∧ Fr 43 [(0, sv s), (2, .slice none 0 0), (3, v)] [] a ∧ St No w0 [own v 5 1 ((sum1 s z).map fun b => [yv b])] w) _ ⟨0, s3, rfl, Nat.zero_le _, Z.pick [0, 2, 3], Y.select [0] de⟩ ?_
 rintro _ a w6 ⟨z, v, rfl, hz, Z, Y⟩
 refine ae fun K10 hK10 => aa fun K11 hK11 => wlm Z rfl fun a Z => wlv Z ((aE (sT := 68) (Y.ow 0 rfl) rfl rfl (runUnderlying68 _)).asi (m' := ((s.length + 1 + z : Nat) : Int)) (by rw [List.length_map, jp])) fun a Z => wlv Z (ik rfl rfl om om) fun a Z => wlv Z (v_ne rfl rfl) fun a Z => ab (hK11 _ _ ?_)
 refine ax Z rfl (fun hc4 => ?_) (fun hc4 => ?_)
 ·rw [hc4] at Z
  try simp only [qz] at hc4
  have hz2 : z + 1 ≤ zeros s.length := by unfold zeros at hz ⊢; omega
  have hz3 : zeros s.length < 64 := by unfold zeros; omega
  refine ar <| hK10 _ _ <| aq <| ao <| wlm Z rfl fun a Z => aC (E := 5) (sz := 1) rfl [[yv (0 : UInt8)]] kr sm rfl de de Z Y ?_
  clear Z Y
  intro a w7 Z Y
  refine aN (i := 1) (sT := 68) (inf := Tryz.t5) (z := yv (0 : UInt8)) (b := 0) (off := 0) (m := 0) (c := 0) rfl rfl rfl (Y.ow 0 rfl) sm underlying68 rfl rfl rfl rfl de (by simp [Value.oneCell', yv, wv, sv]) (by have hby : Tryz.t5.bytes = 1 := rfl; have hz6 : zeros s.length < 64 := (by unfold zeros; omega); simp [big, hby, sum1, sum2, bx] <;> omega) (by have hby : Tryz.t5.bytes = 1 := rfl; have hz6 : zeros s.length < 64 := (by unfold zeros; omega); simp [big, hby, sum1, sum2, bx] <;> omega) de Z Y fun a w8 s5 Z Y _ => wla Z rfl fun a Z => ab ?_
  rw [show ((sum1 s z).map fun b => [yv b]) ++ ([[yv (0 : UInt8)]]) = ((sum1 s (z + 1)).map fun b => [yv b]) from by simp [sum1, List.replicate_succ']] at Y
  refine ⟨_, ?_, z + 1, s5, rfl, hz2, Z.pick [0, 2, 3], Y.select [1] de⟩
  omega
 rw [hc4] at Z
 try simp only [qz] at hc4
 obtain rfl : z = zeros s.length := by unfold zeros at hz ⊢; omega
 refine aJ <| hK9 _ _ <| ae fun K12 hK12 => aa fun K13 hK13 => wla Z rfl fun a Z => ab (hK13 _ _ <| aq ?_)
 rw [show ((sum1 s (zeros s.length)).map fun b => [yv b]) = ((sum2 s 0).map fun b => [yv b]) from by simp [sum1, sum2]] at Y
 rw [show (7 : Int) = 7 - ((0 : Nat) : Int) from by omega] at Z
 refine aR (fun m a w => ∃ (r : Nat) (v : Value), m = 8 - r ∧ (r ≤ 8) ∧ Fr 43 [(0, sv s), (2, .slice none 0 0), (3, v), (5, iv (7 - (r : Int)))] [] a ∧ St No w0 [own v 5 1 ((sum2 s r).map fun b => [yv b])] w) _ ⟨0, v, rfl, Nat.zero_le _, Z.pick [0, 2, 3, 5], Y.select [0] de⟩ ?_
 rintro _ a w9 ⟨r, v, rfl, hr, Z, Y⟩
 refine ae fun K14 hK14 => aa fun K15 hK15 => wlm Z rfl fun a Z => wlv Z (v_ge rfl rfl) fun a Z => ab (hK15 _ _ ?_)
 refine ax Z rfl (fun hc6 => ?_) (fun hc6 => ?_)
 ·rw [hc6] at Z
  try simp only [qz] at hc6
  refine ar <| hK14 _ _ <| ae fun K16 hK16 => aq <| ao <| wlm Z rfl fun a Z => wlm Z rfl fun a Z => wlv Z (bo rfl rfl (runUnderlying9 _)) fun a Z => wlv Z ((cW rfl rfl ⟨om, om⟩).asi (m' := ((8 * s.length : Nat) : Int)) om) fun a Z => wlm Z rfl fun a Z => wlv Z ((cW rfl rfl ⟨om, om⟩).asi (m' := ((8 * (7 - r) : Nat) : Int)) om) fun a Z => wlv Z (nO (m := (8 * s.length)) (n := (8 * (7 - r))) rfl rfl om) fun a Z => ?_
  refine wlv Z (ir (n := 8 * s.length / 2 ^ (8 * (7 - r))) rfl kr underlying5) fun a Z => aC (E := 5) (sz := 1) rfl [[yv (UInt8.ofNat (8 * s.length / 2 ^ (8 * (7 - r))))]] kr sm rfl de de Z Y ?_
  clear Z Y
  intro a w10 Z Y
  refine aN (i := 1) (sT := 68) (inf := Tryz.t5) (z := yv (0 : UInt8)) (b := 0) (off := 0) (m := 0) (c := 0) rfl rfl rfl (Y.ow 0 rfl) sm underlying68 rfl rfl rfl rfl de (by simp [Value.oneCell', yv, wv, sv]) (by have hby : Tryz.t5.bytes = 1 := rfl; have hz6 : zeros s.length < 64 := (by unfold zeros; omega); simp [big, hby, sum1, sum2, bx] <;> omega) (by have hby : Tryz.t5.bytes = 1 := rfl; have hz6 : zeros s.length < 64 := (by unfold zeros; omega); simp [big, hby, sum1, sum2, bx] <;> omega) de Z Y fun a w11 s7 Z Y _ => wla Z rfl fun a Z => ab <| hK16 _ _ ?_
  replace Z := Z.p4 0 2 5 3 rfl
  replace Y := Y.k1 2 rfl
  refine ao <| wlm Z rfl fun a Z => wlv Z (bh rfl rfl ⟨om, om⟩) fun a Z => wla Z rfl fun a Z => ab ?_
  rw [show ((sum2 s r).map fun b => [yv b]) ++ ([[yv (UInt8.ofNat (8 * s.length / 2 ^ (8 * (7 - r))))]]) = ((sum2 s (r + 1)).map fun b => [yv b]) from by unfold sum2; rw [ey om]; simp] at Y
  rw [show 7 - (r : Int) - 1 = 7 - ((r + 1 : Nat) : Int) from by omega] at Z
  refine ⟨_, ?_, r + 1, s7, rfl, om, Z.pick [0, 2, 3, 5], Y.select [0] de⟩
  omega
 rw [hc6] at Z
 try simp only [qz] at hc6
 obtain rfl : r = 8 := by omega
 rw [show sum2 s 8 = padded s from rfl] at Y
 refine aJ <| hK12 _ _ <| aa fun K17 hK17 => wlm Z rfl fun a Z => wla Z rfl fun a Z => ab (hK17 _ _ ?_)
 replace Z := Z.p1 2 rfl
 refine ap ?_
 refine al Z results82 (ac rfl ag) ?_
 exact ⟨v, rfl, trivial, Y.ext, St.out (E := [own v 5 1 ((padded s).map fun b => [yv b])]) (H := []) Y⟩
theorem cQ (x : Wd) (n : Nat) (w0 : World) (hn : 0 < n) (hn2 : n < 32) : Ret Tryz.prog 104 #[wv x, iv (n : Int)] w0 fun v w => v = wv (ror x n) ∧ Ext No w0 w := by
 have := kI x n w0 hn hn2
 rw [show (x >>> n) ||| (x <<< (32 - n)) = ror x n from BitVec.or_comm _ _] at this
 exact this
theorem mix2 (x : Wd) (a b : Nat) : mix x [a, b] = ror x a ^^^ ror x b := by simp [mix]
theorem mix3 (x : Wd) (a b c : Nat) : mix x [a, b, c] = ror x a ^^^ ror x b ^^^ ror x c := by simp [mix]
theorem iF (bs : List UInt8) {j : Nat} : ∀ {i : Nat}, j < i → (d : Nat) → (sch bs (i + d)).getD j 0#32 = (sch bs i).getD j 0#32
 | i, h, 0 => rfl
 | i, h, d + 1 => by
  have e : sch bs (i + (d + 1)) = (sch bs (i + d)).set (i + d) (if i + d < 16 then be bs (i + d) else nx (sch bs (i + d)) (i + d)) := rfl
  rw [e, List.getD_eq_getElem?_getD, List.getElem?_set_ne om, ← List.getD_eq_getElem?_getD]
  exact iF bs h d
theorem nu (bs : List UInt8) {j : Nat} (h : j < 64) : (sch bs 64).getD j 0#32 = if j < 16 then be bs j else nx (sch bs j) j := by
 have := iF bs (j := j) (i := j + 1) om (63 - j)
 rw [show j + 1 + (63 - j) = 64 from by omega] at this
 rw [this, sch, List.getD_eq_getElem?_getD, List.getElem?_set_self (by rw [aB]; omega)]; rfl
theorem iI (bs : List UInt8) {i j : Nat} (h : i < j) (hj : j ≤ 64) : (sch bs j).getD i 0#32 = (sch bs 64).getD i 0#32 := by
 have := iF bs h (64 - j)
 rw [show j + (64 - j) = 64 from by omega] at this
 exact this.symm
theorem l7 (bs : List UInt8) {k : Nat} (h : k < 16) : (sch bs 64).take (k + 1) = (sch bs 64).take k ++ [be bs k] := by
 rw [bO 0#32 (by rw [aB]; omega), nu bs om, if_pos h]
theorem mc (bs : List UInt8) {j : Nat} (h : 16 ≤ j) (hj : j < 64) : (sch bs 64).take (j + 1) = (sch bs 64).take j ++ [((((sch bs 64).take j).getD (j - 16) 0#32 + (ror (((sch bs 64).take j).getD (j - 15) 0#32) 7 ^^^ ror (((sch bs 64).take j).getD (j - 15) 0#32) 18 ^^^ ((sch bs 64).take j).getD (j - 15) 0#32 >>> 3)) + ((sch bs 64).take j).getD (j - 7) 0#32) + (ror (((sch bs 64).take j).getD (j - 2) 0#32) 17 ^^^ ror (((sch bs 64).take j).getD (j - 2) 0#32) 19 ^^^ ((sch bs 64).take j).getD (j - 2) 0#32 >>> 10)] := by
 rw [bO 0#32 (by rw [aB]; omega), nu bs om, if_neg om, nx, mix2, mix2]
 rw [iI bs (i := j - 16) (j := j) om om, iI bs (i := j - 15) (j := j) om om, iI bs (i := j - 7) (j := j) om om, iI bs (i := j - 2) (j := j) om om]
 rw [el _ om, el _ om, el _ om, el _ om]
theorem nq (x y : W8) {q : Nat} (h : q < 8) : (x.add y).l.take (q + 1) = (x.add y).l.take q ++ [x.l.getD q 0#32 + y.l.getD q 0#32] := by
 rw [bO 0#32 (by exact h)]
 congr 2
 have : q = 0 ∨ q = 1 ∨ q = 2 ∨ q = 3 ∨ q = 4 ∨ q = 5 ∨ q = 6 ∨ q = 7 := by omega
 rcases this with rfl | rfl | rfl | rfl | rfl | rfl | rfl | rfl <;> rfl
theorem mh (hvv bv : Value) (hv : W8) (bs : List UInt8) (w0 : World) (hhv : SlAt w0 hvv 1 ((hv.l).map fun x => [wv x])) (hbv : SlAt w0 bv 1 (bs.map fun b => [yv b])) (hbl : bs.length = 64) :
  Ret Tryz.prog 83 #[hvv, bv] w0 (MemR w0 (fun v : Value => v) (fun v => [own v 116 1 (((block hv bs).l).map fun x => [wv x])]) (fun _ => True)) := by
 refine aD func83 rfl ntmps83 (lb rfl) fun a Z => ?_
 replace Z := Z.p2 0 1 rfl
 replace Y : St No w0 [] w0 := St.init w0
 refine aa fun K1 hK1 => wla Z rfl fun a Z => ab (hK1 _ _ <| aa fun K2 hK2 => ?_)
 refine wla Z rfl fun a Z => ab (hK2 _ _ <| ae fun K3 hK3 => ?_)
 refine aa fun K4 hK4 => wla Z rfl fun a Z => ab (hK4 _ _ <| aq ?_)
 replace Y : St No w0 [own (.slice none 0 0) 116 1 (((sch bs 64).take 0).map fun x => [wv x])] w0 := Y.nil_own
 refine aR (fun m a w => ∃ (k : Nat) (u : Value), m = 16 - k ∧ (k ≤ 16) ∧ Fr 238 [(0, hvv), (1, bv), (4, .slice none 0 0), (5, u), (6, iv (k : Int))] [] a ∧ St No w0 [own u 116 1 (((sch bs 64).take k).map fun x => [wv x])] w) _ ⟨0, .slice none 0 0, rfl, Nat.zero_le _, Z.pick [0, 1, 4, 5, 6], Y.select [0] de⟩ ?_
 rintro _ a w1 ⟨k, u, rfl, hk, Z, Y⟩
 refine ae fun K5 hK5 => aa fun K6 hK6 => wlm Z rfl fun a Z => wlv Z (v_lt rfl rfl) fun a Z => ab (hK6 _ _ ?_)
 refine ax Z rfl (fun hc1 => ?_) (fun hc1 => ?_)
 ·rw [hc1] at Z
  try simp only [qz] at hc1
  refine ar <| hK5 _ _ <| ae fun K7 hK7 => aq <| aF kr (aG kr fun w2 hxz => ?_)
  replace Y := Y.grow hxz
  refine aT (k := 0) 35 [0, 34] Z kr kr kr rfx ?_
  replace Z := Z.p7 0 1 4 5 6 19 20 rfl
  refine aA [34] (fun i => match i with | 34 => pm (fun b : Nat => .slice (some ⟨b, 0, none⟩) 1 1) (fun b => [own (.slice (some ⟨b, 0, none⟩) 1 1) 116 1 [[wv (((((BitVec.ofNat 32 (bs.getD (4 * k) 0).toNat) <<< 24) ||| ((BitVec.ofNat 32 (bs.getD (4 * k + 1) 0).toNat) <<< 16)) ||| ((BitVec.ofNat 32 (bs.getD (4 * k + 2) 0).toNat) <<< 8)) ||| (BitVec.ofNat 32 (bs.getD (4 * k + 3) 0).toNat))]]]) (fun _ => True) | _ => fun _ _ => False) 35 [[], [], [], [2], [1, 3], [4], [5], [6], [], [], [9], [10], [8, 11], [12], [13], [14], [7, 15], [], [], [18], [19], [17, 20], [21], [22], [23], [16, 24], [], [], [27], [28], [26, 29], [30], [31], [25, 32], [33]] [u, bv, iv (k : Int), iv (4 * (k : Int)), slAddr bv ((4 * k) * 1), yv (bs.getD (4 * k) 0), wv (BitVec.ofNat 32 (bs.getD (4 * k) 0).toNat), wv ((BitVec.ofNat 32 (bs.getD (4 * k) 0).toNat) <<< 24), bv, iv (k : Int), iv (4 * (k : Int)), iv ((4 * (k : Int)) + 1), slAddr bv ((4 * k + 1) * 1), yv (bs.getD (4 * k + 1) 0), wv (BitVec.ofNat 32 (bs.getD (4 * k + 1) 0).toNat), wv ((BitVec.ofNat 32 (bs.getD (4 * k + 1) 0).toNat) <<< 16), wv (((BitVec.ofNat 32 (bs.getD (4 * k) 0).toNat) <<< 24) ||| ((BitVec.ofNat 32 (bs.getD (4 * k + 1) 0).toNat) <<< 16)), bv, iv (k : Int), iv (4 * (k : Int)), iv ((4 * (k : Int)) + 2), slAddr bv ((4 * k + 2) * 1), yv (bs.getD (4 * k + 2) 0), wv (BitVec.ofNat 32 (bs.getD (4 * k + 2) 0).toNat), wv ((BitVec.ofNat 32 (bs.getD (4 * k + 2) 0).toNat) <<< 8), wv ((((BitVec.ofNat 32 (bs.getD (4 * k) 0).toNat) <<< 24) ||| ((BitVec.ofNat 32 (bs.getD (4 * k + 1) 0).toNat) <<< 16)) ||| ((BitVec.ofNat 32 (bs.getD (4 * k + 2) 0).toNat) <<< 8)), bv, iv (k : Int), iv (4 * (k : Int)), iv ((4 * (k : Int)) + 3), slAddr bv ((4 * k + 3) * 1), yv (bs.getD (4 * k + 3) 0), wv (BitVec.ofNat 32 (bs.getD (4 * k + 3) 0).toNat), wv (((((BitVec.ofNat 32 (bs.getD (4 * k) 0).toNat) <<< 24) ||| ((BitVec.ofNat 32 (bs.getD (4 * k + 1) 0).toNat) <<< 16)) ||| ((BitVec.ofNat 32 (bs.getD (4 * k + 2) 0).toNat) <<< 8)) ||| (BitVec.ofNat 32 (bs.getD (4 * k + 3) 0).toNat)), undef] Z Y kr kr kr ?_ ?_ ?_
  ·intro i hi hiq
   match i, hi, hiq with
   | 0, _, _ => exact fun w Y => OpV.g (ah rfl)
   | 1, _, _ => exact fun w Y => OpV.g (ah rfl)
   | 2, _, _ => exact fun w Y => OpV.g (ah rfl)
   | 3, _, _ => exact fun w Y => OpV.g (cW rfl rfl ⟨om, om⟩)
   | 4, _, _ => exact fun w Y => OpV.g ((aj (i := 4 * (k : Int)) (sT := 68) (Y.arg hbv) rfl rfl (runUnderlying68 _) (sizeOf5 _) om (by rw [List.length_map]; first | omega | (rw [aB]; omega) | (rw [List.length_take, aB]; omega) | (rw [W8.l_len]; omega) | (rw [bf]; omega))).as (v' := slAddr bv ((4 * k) * 1)) (by rw [show (4 * (k : Int)).toNat = (4 * k) from by omega]))
   | 5, _, _ => exact fun w Y => OpV.g (au (u := yv (bs.getD (4 * k) 0)) (i := (4 * k)) (j := 0) (Y.arg hbv) (by rw [List.length_map]; first | omega | (rw [aB]; omega) | (rw [List.length_take, aB]; omega) | (rw [W8.l_len]; omega) | (rw [bf]; omega)) rfl (isAgg5 _) (by simp [List.getD_eq_getElem?_getD, List.getElem?_eq_getElem (show (4 * k) < bs.length by omega)]))
   | 6, _, _ => exact fun w Y => OpV.g (cD rfl kr underlying116)
   | 7, _, _ => exact fun w Y => OpV.g (dU (n := 24) rfl rfl)
   | 8, _, _ => exact fun w Y => OpV.g (ah rfl)
   | 9, _, _ => exact fun w Y => OpV.g (ah rfl)
   | 10, _, _ => exact fun w Y => OpV.g (cW rfl rfl ⟨om, om⟩)
   | 11, _, _ => exact fun w Y => OpV.g (aV rfl rfl ⟨om, om⟩)
   | 12, _, _ => exact fun w Y => OpV.g ((aj (i := (4 * (k : Int)) + 1) (sT := 68) (Y.arg hbv) rfl rfl (runUnderlying68 _) (sizeOf5 _) om (by rw [List.length_map]; first | omega | (rw [aB]; omega) | (rw [List.length_take, aB]; omega) | (rw [W8.l_len]; omega) | (rw [bf]; omega))).as (v' := slAddr bv ((4 * k + 1) * 1)) (by rw [show ((4 * (k : Int)) + 1).toNat = (4 * k + 1) from by omega]))
   | 13, _, _ => exact fun w Y => OpV.g (au (u := yv (bs.getD (4 * k + 1) 0)) (i := (4 * k + 1)) (j := 0) (Y.arg hbv) (by rw [List.length_map]; first | omega | (rw [aB]; omega) | (rw [List.length_take, aB]; omega) | (rw [W8.l_len]; omega) | (rw [bf]; omega)) rfl (isAgg5 _) (by simp [List.getD_eq_getElem?_getD, List.getElem?_eq_getElem (show (4 * k + 1) < bs.length by omega)]))
   | 14, _, _ => exact fun w Y => OpV.g (cD rfl kr underlying116)
   | 15, _, _ => exact fun w Y => OpV.g (dU (n := 16) rfl rfl)
   | 16, _, _ => exact fun w Y => OpV.g (fG rfl rfl)
   | 17, _, _ => exact fun w Y => OpV.g (ah rfl)
   | 18, _, _ => exact fun w Y => OpV.g (ah rfl)
   | 19, _, _ => exact fun w Y => OpV.g (cW rfl rfl ⟨om, om⟩)
   | 20, _, _ => exact fun w Y => OpV.g (aV rfl rfl ⟨om, om⟩)
   | 21, _, _ => exact fun w Y => OpV.g ((aj (i := (4 * (k : Int)) + 2) (sT := 68) (Y.arg hbv) rfl rfl (runUnderlying68 _) (sizeOf5 _) om (by rw [List.length_map]; first | omega | (rw [aB]; omega) | (rw [List.length_take, aB]; omega) | (rw [W8.l_len]; omega) | (rw [bf]; omega))).as (v' := slAddr bv ((4 * k + 2) * 1)) (by rw [show ((4 * (k : Int)) + 2).toNat = (4 * k + 2) from by omega]))
   | 22, _, _ => exact fun w Y => OpV.g (au (u := yv (bs.getD (4 * k + 2) 0)) (i := (4 * k + 2)) (j := 0) (Y.arg hbv) (by rw [List.length_map]; first | omega | (rw [aB]; omega) | (rw [List.length_take, aB]; omega) | (rw [W8.l_len]; omega) | (rw [bf]; omega)) rfl (isAgg5 _) (by simp [List.getD_eq_getElem?_getD, List.getElem?_eq_getElem (show (4 * k + 2) < bs.length by omega)]))
   | 23, _, _ => exact fun w Y => OpV.g (cD rfl kr underlying116)
   | 24, _, _ => exact fun w Y => OpV.g (dU (n := 8) rfl rfl)
   | 25, _, _ => exact fun w Y => OpV.g (fG rfl rfl)
   | 26, _, _ => exact fun w Y => OpV.g (ah rfl)
   | 27, _, _ => exact fun w Y => OpV.g (ah rfl)
   | 28, _, _ => exact fun w Y => OpV.g (cW rfl rfl ⟨om, om⟩)
   | 29, _, _ => exact fun w Y => OpV.g (aV rfl rfl ⟨om, om⟩)
   | 30, _, _ => exact fun w Y => OpV.g ((aj (i := (4 * (k : Int)) + 3) (sT := 68) (Y.arg hbv) rfl rfl (runUnderlying68 _) (sizeOf5 _) om (by rw [List.length_map]; first | omega | (rw [aB]; omega) | (rw [List.length_take, aB]; omega) | (rw [W8.l_len]; omega) | (rw [bf]; omega))).as (v' := slAddr bv ((4 * k + 3) * 1)) (by rw [show ((4 * (k : Int)) + 3).toNat = (4 * k + 3) from by omega]))
   | 31, _, _ => exact fun w Y => OpV.g (au (u := yv (bs.getD (4 * k + 3) 0)) (i := (4 * k + 3)) (j := 0) (Y.arg hbv) (by rw [List.length_map]; first | omega | (rw [aB]; omega) | (rw [List.length_take, aB]; omega) | (rw [W8.l_len]; omega) | (rw [bf]; omega)) rfl (isAgg5 _) (by simp [List.getD_eq_getElem?_getD, List.getElem?_eq_getElem (show (4 * k + 3) < bs.length by omega)]))
   | 32, _, _ => exact fun w Y => OpV.g (cD rfl kr underlying116)
   | 33, _, _ => exact fun w Y => OpV.g (fG rfl rfl)
   | 34, _, h => exact absurd sm h
   | i + 35, h, _ => exact absurd h om
  ·intro i hi
   simp only [List.mem_cons, List.not_mem_nil, or_false] at hi
   subst hi
   ·intro w Y
    exact aX (E := 116) (sz := 1) rfl [[wv (((((BitVec.ofNat 32 (bs.getD (4 * k) 0).toNat) <<< 24) ||| ((BitVec.ofNat 32 (bs.getD (4 * k + 1) 0).toNat) <<< 16)) ||| ((BitVec.ofNat 32 (bs.getD (4 * k + 2) 0).toNat) <<< 8)) ||| (BitVec.ofNat 32 (bs.getD (4 * k + 3) 0).toNat))]] (fun _ => by kernel_rfl) sm rfl de
  clear Z Y
  rintro _ _ ⟨b2, rfl, -, rfl⟩ a w3 Z Y
  replace Z : Fr 238 [(23, u), (24, bv), (25, iv (k : Int)), (26, iv (4 * (k : Int))), (27, slAddr bv ((4 * k) * 1)), (28, yv (bs.getD (4 * k) 0)), (29, wv (BitVec.ofNat 32 (bs.getD (4 * k) 0).toNat)), (30, wv ((BitVec.ofNat 32 (bs.getD (4 * k) 0).toNat) <<< 24)), (31, bv), (32, iv (k : Int)), (33, iv (4 * (k : Int))), (34, iv ((4 * (k : Int)) + 1)), (35, slAddr bv ((4 * k + 1) * 1)), (36, yv (bs.getD (4 * k + 1) 0)), (37, wv (BitVec.ofNat 32 (bs.getD (4 * k + 1) 0).toNat)), (38, wv ((BitVec.ofNat 32 (bs.getD (4 * k + 1) 0).toNat) <<< 16)), (39, wv (((BitVec.ofNat 32 (bs.getD (4 * k) 0).toNat) <<< 24) ||| ((BitVec.ofNat 32 (bs.getD (4 * k + 1) 0).toNat) <<< 16))), (40, bv), (41, iv (k : Int)), (42, iv (4 * (k : Int))), (43, iv ((4 * (k : Int)) + 2)), (44, slAddr bv ((4 * k + 2) * 1)), (45, yv (bs.getD (4 * k + 2) 0)), (46, wv (BitVec.ofNat 32 (bs.getD (4 * k + 2) 0).toNat)), (47, wv ((BitVec.ofNat 32 (bs.getD (4 * k + 2) 0).toNat) <<< 8)), (48, wv ((((BitVec.ofNat 32 (bs.getD (4 * k) 0).toNat) <<< 24) ||| ((BitVec.ofNat 32 (bs.getD (4 * k + 1) 0).toNat) <<< 16)) ||| ((BitVec.ofNat 32 (bs.getD (4 * k + 2) 0).toNat) <<< 8))), (49, bv), (50, iv (k : Int)), (51, iv (4 * (k : Int))), (52, iv ((4 * (k : Int)) + 3)), (53, slAddr bv ((4 * k + 3) * 1)), (54, yv (bs.getD (4 * k + 3) 0)), (55, wv (BitVec.ofNat 32 (bs.getD (4 * k + 3) 0).toNat)), (56, wv (((((BitVec.ofNat 32 (bs.getD (4 * k) 0).toNat) <<< 24) ||| ((BitVec.ofNat 32 (bs.getD (4 * k + 1) 0).toNat) <<< 16)) ||| ((BitVec.ofNat 32 (bs.getD (4 * k + 2) 0).toNat) <<< 8)) ||| (BitVec.ofNat 32 (bs.getD (4 * k + 3) 0).toNat))), (57, _), (0, _), (1, _), (4, _), (5, _), (6, _), (19, _), (20, _)] [] a := Z
  replace Y : St No w0 [_, _] w3 := Y
  refine ab <| aP (k := 35) 37 [36] kr kr kr ?_
  refine aN (i := 1) (sT := 117) (inf := Tryz.t116) (z := wv (0#32)) (b := 0) (off := 0) (m := 0) (c := 0) rfl rfl rfl (Y.ow 0 rfl) sm underlying117 rfl rfl rfl rfl de (by simp [Value.oneCell', yv, wv, sv]) (by have hby : Tryz.t116.bytes = 4 := rfl; simp only [big, hby, List.length_append, List.length_map, List.length_take, aB, W8.l_len, List.length_cons, List.length_nil]; omega) (by have hby : Tryz.t116.bytes = 4 := rfl; simp only [big, hby, List.length_append, List.length_map, List.length_take, aB, W8.l_len, List.length_cons, List.length_nil]; omega) de Z Y fun a w4 s3 Z Y _ => wla Z rfl fun a Z => ab <| aS kr ?_
  refine hK7 _ _ ?_
  replace Z := Z.p5 0 1 4 6 5 rfl
  replace Y := Y.k1 2 rfl
  refine ao <| wlm Z rfl fun a Z => wlv Z (aV rfl rfl ⟨om, om⟩) fun a Z => wla Z rfl fun a Z => ab ?_
  rw [show (((sch bs 64).take k).map fun x => [wv x]) ++ ([[wv (((((BitVec.ofNat 32 (bs.getD (4 * k) 0).toNat) <<< 24) ||| ((BitVec.ofNat 32 (bs.getD (4 * k + 1) 0).toNat) <<< 16)) ||| ((BitVec.ofNat 32 (bs.getD (4 * k + 2) 0).toNat) <<< 8)) ||| (BitVec.ofNat 32 (bs.getD (4 * k + 3) 0).toNat))]]) = (((sch bs 64).take (k + 1)).map fun x => [wv x]) from by rw [l7 bs om]; simp [be]] at Y
  refine ⟨_, ?_, k + 1, s3, rfl, om, Z.pick [0, 1, 4, 5, 6], Y.select [0] de⟩
  omega
 rw [hc1] at Z
 try simp only [qz] at hc1
 obtain rfl : k = 16 := by omega
 refine aJ <| hK3 _ _ <| ae fun K8 hK8 => aa fun K9 hK9 => wla Z rfl fun a Z => ab (hK9 _ _ <| aq ?_)
 refine aR (fun m a w => ∃ (j : Nat) (u : Value), m = 64 - j ∧ (16 ≤ j) ∧ (j ≤ 64) ∧ Fr 238 [(0, hvv), (4, .slice none 0 0), (5, u), (7, iv (j : Int))] [] a ∧ St No w0 [own u 116 1 (((sch bs 64).take j).map fun x => [wv x])] w) _ ⟨16, u, rfl, om, om, Z.pick [0, 4, 5, 7], Y.select [0] de⟩ ?_
 rintro _ a w5 ⟨j, u, rfl, hj, hj2, Z, Y⟩
 refine ae fun K10 hK10 => aa fun K11 hK11 => wlm Z rfl fun a Z => wlv Z (v_lt rfl rfl) fun a Z => ab (hK11 _ _ ?_)
 refine ax Z rfl (fun hc4 => ?_) (fun hc4 => ?_)
 ·rw [hc4] at Z
  try simp only [qz] at hc4
  refine ar <| hK10 _ _ <| ae fun K12 hK12 => aq <| ae fun K13 hK13 => aF kr (aG kr fun w6 hxz => ?_)
  replace Y := Y.grow hxz
  refine aT (k := 0) 19 [12, 18] Z kr kr kr rfx ?_
  replace Z := Z.p6 0 4 5 7 59 60 rfl
  refine aA [] (fun i => match i with | _ => fun _ _ => False) 19 [[], [], [1], [0, 2], [3], [4], [], [], [7], [6, 8], [9], [10], [5, 11], [], [], [14], [13, 15], [16], [17]] [u, iv (j : Int), iv ((j : Int) - 15), slAddr u ((j - 15) * 1), wv (((sch bs 64).take j).getD (j - 15) 0#32), wv (ror (((sch bs 64).take j).getD (j - 15) 0#32) 7), u, iv (j : Int), iv ((j : Int) - 15), slAddr u ((j - 15) * 1), wv (((sch bs 64).take j).getD (j - 15) 0#32), wv (ror (((sch bs 64).take j).getD (j - 15) 0#32) 18), wv ((ror (((sch bs 64).take j).getD (j - 15) 0#32) 7) ^^^ (ror (((sch bs 64).take j).getD (j - 15) 0#32) 18)), u, iv (j : Int), iv ((j : Int) - 15), slAddr u ((j - 15) * 1), wv (((sch bs 64).take j).getD (j - 15) 0#32), wv ((((sch bs 64).take j).getD (j - 15) 0#32) >>> 3)] Z Y kr kr kr ?_ ?_ ?_
  ·intro i hi hiq
   match i, hi, hiq with
   | 0, _, _ => exact fun w Y => OpV.g (ah rfl)
   | 1, _, _ => exact fun w Y => OpV.g (ah rfl)
   | 2, _, _ => exact fun w Y => OpV.g (bh rfl rfl ⟨om, om⟩)
   | 3, _, _ => exact fun w Y => OpV.g ((aj (i := (j : Int) - 15) (sT := 117) (Y.ow 0 rfl) rfl rfl (runUnderlying117 _) (sizeOf116 _) om (by rw [List.length_map]; first | omega | (rw [aB]; omega) | (rw [List.length_take, aB]; omega) | (rw [W8.l_len]; omega) | (rw [bf]; omega))).as (v' := slAddr u ((j - 15) * 1)) (by rw [show ((j : Int) - 15).toNat = (j - 15) from by omega]))
   | 4, _, _ => exact fun w Y => OpV.g (au (u := wv (((sch bs 64).take j).getD (j - 15) 0#32)) (i := (j - 15)) (j := 0) (Y.ow 0 rfl) (by rw [List.length_map]; first | omega | (rw [aB]; omega) | (rw [List.length_take, aB]; omega) | (rw [W8.l_len]; omega) | (rw [bf]; omega)) rfl (isAgg116 _) (by rw [br 0#32]; rfl))
   | 5, _, _ => exact fun w Y => bw call104 rfl (cQ (((sch bs 64).take j).getD (j - 15) 0#32) 7 _ de de)
   | 6, _, _ => exact fun w Y => OpV.g (ah rfl)
   | 7, _, _ => exact fun w Y => OpV.g (ah rfl)
   | 8, _, _ => exact fun w Y => OpV.g (bh rfl rfl ⟨om, om⟩)
   | 9, _, _ => exact fun w Y => OpV.g ((aj (i := (j : Int) - 15) (sT := 117) (Y.ow 0 rfl) rfl rfl (runUnderlying117 _) (sizeOf116 _) om (by rw [List.length_map]; first | omega | (rw [aB]; omega) | (rw [List.length_take, aB]; omega) | (rw [W8.l_len]; omega) | (rw [bf]; omega))).as (v' := slAddr u ((j - 15) * 1)) (by rw [show ((j : Int) - 15).toNat = (j - 15) from by omega]))
   | 10, _, _ => exact fun w Y => OpV.g (au (u := wv (((sch bs 64).take j).getD (j - 15) 0#32)) (i := (j - 15)) (j := 0) (Y.ow 0 rfl) (by rw [List.length_map]; first | omega | (rw [aB]; omega) | (rw [List.length_take, aB]; omega) | (rw [W8.l_len]; omega) | (rw [bf]; omega)) rfl (isAgg116 _) (by rw [br 0#32]; rfl))
   | 11, _, _ => exact fun w Y => bw call104 rfl (cQ (((sch bs 64).take j).getD (j - 15) 0#32) 18 _ de de)
   | 12, _, _ => exact fun w Y => OpV.g (cc rfl rfl)
   | 13, _, _ => exact fun w Y => OpV.g (ah rfl)
   | 14, _, _ => exact fun w Y => OpV.g (ah rfl)
   | 15, _, _ => exact fun w Y => OpV.g (bh rfl rfl ⟨om, om⟩)
   | 16, _, _ => exact fun w Y => OpV.g ((aj (i := (j : Int) - 15) (sT := 117) (Y.ow 0 rfl) rfl rfl (runUnderlying117 _) (sizeOf116 _) om (by rw [List.length_map]; first | omega | (rw [aB]; omega) | (rw [List.length_take, aB]; omega) | (rw [W8.l_len]; omega) | (rw [bf]; omega))).as (v' := slAddr u ((j - 15) * 1)) (by rw [show ((j : Int) - 15).toNat = (j - 15) from by omega]))
   | 17, _, _ => exact fun w Y => OpV.g (au (u := wv (((sch bs 64).take j).getD (j - 15) 0#32)) (i := (j - 15)) (j := 0) (Y.ow 0 rfl) (by rw [List.length_map]; first | omega | (rw [aB]; omega) | (rw [List.length_take, aB]; omega) | (rw [W8.l_len]; omega) | (rw [bf]; omega)) rfl (isAgg116 _) (by rw [br 0#32]; rfl))
   | 18, _, _ => exact fun w Y => OpV.g (dv (n := 3) rfl rfl)
   | i + 19, h, _ => exact absurd h om
  ·intro i hi
   exact absurd hi sm
  clear Z Y
  intro  a w7 Z Y
  replace Z : Fr 238 [(63, u), (64, iv (j : Int)), (65, iv ((j : Int) - 15)), (66, slAddr u ((j - 15) * 1)), (67, wv (((sch bs 64).take j).getD (j - 15) 0#32)), (68, wv (ror (((sch bs 64).take j).getD (j - 15) 0#32) 7)), (69, u), (70, iv (j : Int)), (71, iv ((j : Int) - 15)), (72, slAddr u ((j - 15) * 1)), (73, wv (((sch bs 64).take j).getD (j - 15) 0#32)), (74, wv (ror (((sch bs 64).take j).getD (j - 15) 0#32) 18)), (75, wv ((ror (((sch bs 64).take j).getD (j - 15) 0#32) 7) ^^^ (ror (((sch bs 64).take j).getD (j - 15) 0#32) 18))), (76, u), (77, iv (j : Int)), (78, iv ((j : Int) - 15)), (79, slAddr u ((j - 15) * 1)), (80, wv (((sch bs 64).take j).getD (j - 15) 0#32)), (81, wv ((((sch bs 64).take j).getD (j - 15) 0#32) >>> 3)), (0, _), (4, _), (5, _), (7, _), (59, _), (60, _)] [] a := Z
  refine ab <| aP (k := 19) 21 [20] kr kr kr ?_
  refine wlv Z (cc rfl rfl) fun a Z => wla Z rfl fun a Z => ab <| aS kr ?_
  refine hK13 _ _ ?_
  replace Z := Z.p5 0 4 5 7 8 rfl
  refine ae fun K14 hK14 => aF kr (aG kr fun w8 hxz => ?_)
  replace Y := Y.grow hxz
  refine aT (k := 0) 19 [12, 18] Z kr kr kr rfx ?_
  replace Z := Z.p5 0 4 5 7 8 rfl
  refine aA [] (fun i => match i with | _ => fun _ _ => False) 19 [[], [], [1], [0, 2], [3], [4], [], [], [7], [6, 8], [9], [10], [5, 11], [], [], [14], [13, 15], [16], [17]] [u, iv (j : Int), iv ((j : Int) - 2), slAddr u ((j - 2) * 1), wv (((sch bs 64).take j).getD (j - 2) 0#32), wv (ror (((sch bs 64).take j).getD (j - 2) 0#32) 17), u, iv (j : Int), iv ((j : Int) - 2), slAddr u ((j - 2) * 1), wv (((sch bs 64).take j).getD (j - 2) 0#32), wv (ror (((sch bs 64).take j).getD (j - 2) 0#32) 19), wv ((ror (((sch bs 64).take j).getD (j - 2) 0#32) 17) ^^^ (ror (((sch bs 64).take j).getD (j - 2) 0#32) 19)), u, iv (j : Int), iv ((j : Int) - 2), slAddr u ((j - 2) * 1), wv (((sch bs 64).take j).getD (j - 2) 0#32), wv ((((sch bs 64).take j).getD (j - 2) 0#32) >>> 10)] Z Y kr kr kr ?_ ?_ ?_
  ·intro i hi hiq
   match i, hi, hiq with
   | 0, _, _ => exact fun w Y => OpV.g (ah rfl)
   | 1, _, _ => exact fun w Y => OpV.g (ah rfl)
   | 2, _, _ => exact fun w Y => OpV.g (bh rfl rfl ⟨om, om⟩)
   | 3, _, _ => exact fun w Y => OpV.g ((aj (i := (j : Int) - 2) (sT := 117) (Y.ow 0 rfl) rfl rfl (runUnderlying117 _) (sizeOf116 _) om (by rw [List.length_map]; first | omega | (rw [aB]; omega) | (rw [List.length_take, aB]; omega) | (rw [W8.l_len]; omega) | (rw [bf]; omega))).as (v' := slAddr u ((j - 2) * 1)) (by rw [show ((j : Int) - 2).toNat = (j - 2) from by omega]))
   | 4, _, _ => exact fun w Y => OpV.g (au (u := wv (((sch bs 64).take j).getD (j - 2) 0#32)) (i := (j - 2)) (j := 0) (Y.ow 0 rfl) (by rw [List.length_map]; first | omega | (rw [aB]; omega) | (rw [List.length_take, aB]; omega) | (rw [W8.l_len]; omega) | (rw [bf]; omega)) rfl (isAgg116 _) (by rw [br 0#32]; rfl))
   | 5, _, _ => exact fun w Y => bw call104 rfl (cQ (((sch bs 64).take j).getD (j - 2) 0#32) 17 _ de de)
   | 6, _, _ => exact fun w Y => OpV.g (ah rfl)
   | 7, _, _ => exact fun w Y => OpV.g (ah rfl)
   | 8, _, _ => exact fun w Y => OpV.g (bh rfl rfl ⟨om, om⟩)
   | 9, _, _ => exact fun w Y => OpV.g ((aj (i := (j : Int) - 2) (sT := 117) (Y.ow 0 rfl) rfl rfl (runUnderlying117 _) (sizeOf116 _) om (by rw [List.length_map]; first | omega | (rw [aB]; omega) | (rw [List.length_take, aB]; omega) | (rw [W8.l_len]; omega) | (rw [bf]; omega))).as (v' := slAddr u ((j - 2) * 1)) (by rw [show ((j : Int) - 2).toNat = (j - 2) from by omega]))
   | 10, _, _ => exact fun w Y => OpV.g (au (u := wv (((sch bs 64).take j).getD (j - 2) 0#32)) (i := (j - 2)) (j := 0) (Y.ow 0 rfl) (by rw [List.length_map]; first | omega | (rw [aB]; omega) | (rw [List.length_take, aB]; omega) | (rw [W8.l_len]; omega) | (rw [bf]; omega)) rfl (isAgg116 _) (by rw [br 0#32]; rfl))
   | 11, _, _ => exact fun w Y => bw call104 rfl (cQ (((sch bs 64).take j).getD (j - 2) 0#32) 19 _ de de)
   | 12, _, _ => exact fun w Y => OpV.g (cc rfl rfl)
   | 13, _, _ => exact fun w Y => OpV.g (ah rfl)
   | 14, _, _ => exact fun w Y => OpV.g (ah rfl)
   | 15, _, _ => exact fun w Y => OpV.g (bh rfl rfl ⟨om, om⟩)
   | 16, _, _ => exact fun w Y => OpV.g ((aj (i := (j : Int) - 2) (sT := 117) (Y.ow 0 rfl) rfl rfl (runUnderlying117 _) (sizeOf116 _) om (by rw [List.length_map]; first | omega | (rw [aB]; omega) | (rw [List.length_take, aB]; omega) | (rw [W8.l_len]; omega) | (rw [bf]; omega))).as (v' := slAddr u ((j - 2) * 1)) (by rw [show ((j : Int) - 2).toNat = (j - 2) from by omega]))
   | 17, _, _ => exact fun w Y => OpV.g (au (u := wv (((sch bs 64).take j).getD (j - 2) 0#32)) (i := (j - 2)) (j := 0) (Y.ow 0 rfl) (by rw [List.length_map]; first | omega | (rw [aB]; omega) | (rw [List.length_take, aB]; omega) | (rw [W8.l_len]; omega) | (rw [bf]; omega)) rfl (isAgg116 _) (by rw [br 0#32]; rfl))
   | 18, _, _ => exact fun w Y => OpV.g (dv (n := 10) rfl rfl)
   | i + 19, h, _ => exact absurd h om
  ·intro i hi
   exact absurd hi sm
  clear Z Y
  intro  a w9 Z Y
  replace Z : Fr 238 [(83, u), (84, iv (j : Int)), (85, iv ((j : Int) - 2)), (86, slAddr u ((j - 2) * 1)), (87, wv (((sch bs 64).take j).getD (j - 2) 0#32)), (88, wv (ror (((sch bs 64).take j).getD (j - 2) 0#32) 17)), (89, u), (90, iv (j : Int)), (91, iv ((j : Int) - 2)), (92, slAddr u ((j - 2) * 1)), (93, wv (((sch bs 64).take j).getD (j - 2) 0#32)), (94, wv (ror (((sch bs 64).take j).getD (j - 2) 0#32) 19)), (95, wv ((ror (((sch bs 64).take j).getD (j - 2) 0#32) 17) ^^^ (ror (((sch bs 64).take j).getD (j - 2) 0#32) 19))), (96, u), (97, iv (j : Int)), (98, iv ((j : Int) - 2)), (99, slAddr u ((j - 2) * 1)), (100, wv (((sch bs 64).take j).getD (j - 2) 0#32)), (101, wv ((((sch bs 64).take j).getD (j - 2) 0#32) >>> 10)), (0, _), (4, _), (5, _), (7, _), (8, _)] [] a := Z
  refine ab <| aP (k := 19) 21 [20] kr kr kr ?_
  refine wlv Z (cc rfl rfl) fun a Z => wla Z rfl fun a Z => ab <| aS kr ?_
  refine hK14 _ _ ?_
  replace Z := Z.p6 0 4 5 7 8 9 rfl
  refine aF kr (aG kr fun w10 hxz => ?_)
  replace Y := Y.grow hxz
  refine aT (k := 0) 17 [0, 16] Z kr kr kr rfx ?_
  replace Z := Z.p6 0 4 5 7 8 9 rfl
  refine aA [16] (fun i => match i with | 16 => pm (fun b : Nat => .slice (some ⟨b, 0, none⟩) 1 1) (fun b => [own (.slice (some ⟨b, 0, none⟩) 1 1) 116 1 [[wv ((((((sch bs 64).take j).getD (j - 16) 0#32) + (((ror (((sch bs 64).take j).getD (j - 15) 0#32) 7) ^^^ (ror (((sch bs 64).take j).getD (j - 15) 0#32) 18)) ^^^ ((((sch bs 64).take j).getD (j - 15) 0#32) >>> 3))) + (((sch bs 64).take j).getD (j - 7) 0#32)) + (((ror (((sch bs 64).take j).getD (j - 2) 0#32) 17) ^^^ (ror (((sch bs 64).take j).getD (j - 2) 0#32) 19)) ^^^ ((((sch bs 64).take j).getD (j - 2) 0#32) >>> 10)))]]]) (fun _ => True) | _ => fun _ _ => False) 17 [[], [], [], [2], [1, 3], [4], [], [5, 6], [], [], [9], [8, 10], [11], [7, 12], [], [13, 14], [15]] [u, u, iv (j : Int), iv ((j : Int) - 16), slAddr u ((j - 16) * 1), wv (((sch bs 64).take j).getD (j - 16) 0#32), wv (((ror (((sch bs 64).take j).getD (j - 15) 0#32) 7) ^^^ (ror (((sch bs 64).take j).getD (j - 15) 0#32) 18)) ^^^ ((((sch bs 64).take j).getD (j - 15) 0#32) >>> 3)), wv ((((sch bs 64).take j).getD (j - 16) 0#32) + (((ror (((sch bs 64).take j).getD (j - 15) 0#32) 7) ^^^ (ror (((sch bs 64).take j).getD (j - 15) 0#32) 18)) ^^^ ((((sch bs 64).take j).getD (j - 15) 0#32) >>> 3))), u, iv (j : Int), iv ((j : Int) - 7), slAddr u ((j - 7) * 1), wv (((sch bs 64).take j).getD (j - 7) 0#32), wv (((((sch bs 64).take j).getD (j - 16) 0#32) + (((ror (((sch bs 64).take j).getD (j - 15) 0#32) 7) ^^^ (ror (((sch bs 64).take j).getD (j - 15) 0#32) 18)) ^^^ ((((sch bs 64).take j).getD (j - 15) 0#32) >>> 3))) + (((sch bs 64).take j).getD (j - 7) 0#32)), wv (((ror (((sch bs 64).take j).getD (j - 2) 0#32) 17) ^^^ (ror (((sch bs 64).take j).getD (j - 2) 0#32) 19)) ^^^ ((((sch bs 64).take j).getD (j - 2) 0#32) >>> 10)), wv ((((((sch bs 64).take j).getD (j - 16) 0#32) + (((ror (((sch bs 64).take j).getD (j - 15) 0#32) 7) ^^^ (ror (((sch bs 64).take j).getD (j - 15) 0#32) 18)) ^^^ ((((sch bs 64).take j).getD (j - 15) 0#32) >>> 3))) + (((sch bs 64).take j).getD (j - 7) 0#32)) + (((ror (((sch bs 64).take j).getD (j - 2) 0#32) 17) ^^^ (ror (((sch bs 64).take j).getD (j - 2) 0#32) 19)) ^^^ ((((sch bs 64).take j).getD (j - 2) 0#32) >>> 10))), undef] Z Y kr kr kr ?_ ?_ ?_
  ·intro i hi hiq
   match i, hi, hiq with
   | 0, _, _ => exact fun w Y => OpV.g (ah rfl)
   | 1, _, _ => exact fun w Y => OpV.g (ah rfl)
   | 2, _, _ => exact fun w Y => OpV.g (ah rfl)
   | 3, _, _ => exact fun w Y => OpV.g (bh rfl rfl ⟨om, om⟩)
   | 4, _, _ => exact fun w Y => OpV.g ((aj (i := (j : Int) - 16) (sT := 117) (Y.ow 0 rfl) rfl rfl (runUnderlying117 _) (sizeOf116 _) om (by rw [List.length_map]; first | omega | (rw [aB]; omega) | (rw [List.length_take, aB]; omega) | (rw [W8.l_len]; omega) | (rw [bf]; omega))).as (v' := slAddr u ((j - 16) * 1)) (by rw [show ((j : Int) - 16).toNat = (j - 16) from by omega]))
   | 5, _, _ => exact fun w Y => OpV.g (au (u := wv (((sch bs 64).take j).getD (j - 16) 0#32)) (i := (j - 16)) (j := 0) (Y.ow 0 rfl) (by rw [List.length_map]; first | omega | (rw [aB]; omega) | (rw [List.length_take, aB]; omega) | (rw [W8.l_len]; omega) | (rw [bf]; omega)) rfl (isAgg116 _) (by rw [br 0#32]; rfl))
   | 6, _, _ => exact fun w Y => OpV.g (ah rfl)
   | 7, _, _ => exact fun w Y => OpV.g (bN rfl rfl)
   | 8, _, _ => exact fun w Y => OpV.g (ah rfl)
   | 9, _, _ => exact fun w Y => OpV.g (ah rfl)
   | 10, _, _ => exact fun w Y => OpV.g (bh rfl rfl ⟨om, om⟩)
   | 11, _, _ => exact fun w Y => OpV.g ((aj (i := (j : Int) - 7) (sT := 117) (Y.ow 0 rfl) rfl rfl (runUnderlying117 _) (sizeOf116 _) om (by rw [List.length_map]; first | omega | (rw [aB]; omega) | (rw [List.length_take, aB]; omega) | (rw [W8.l_len]; omega) | (rw [bf]; omega))).as (v' := slAddr u ((j - 7) * 1)) (by rw [show ((j : Int) - 7).toNat = (j - 7) from by omega]))
   | 12, _, _ => exact fun w Y => OpV.g (au (u := wv (((sch bs 64).take j).getD (j - 7) 0#32)) (i := (j - 7)) (j := 0) (Y.ow 0 rfl) (by rw [List.length_map]; first | omega | (rw [aB]; omega) | (rw [List.length_take, aB]; omega) | (rw [W8.l_len]; omega) | (rw [bf]; omega)) rfl (isAgg116 _) (by rw [br 0#32]; rfl))
   | 13, _, _ => exact fun w Y => OpV.g (bN rfl rfl)
   | 14, _, _ => exact fun w Y => OpV.g (ah rfl)
   | 15, _, _ => exact fun w Y => OpV.g (bN rfl rfl)
   | 16, _, h => exact absurd sm h
   | i + 17, h, _ => exact absurd h om
  ·intro i hi
   simp only [List.mem_cons, List.not_mem_nil, or_false] at hi
   subst hi
   ·intro w Y
    exact aX (E := 116) (sz := 1) rfl [[wv ((((((sch bs 64).take j).getD (j - 16) 0#32) + (((ror (((sch bs 64).take j).getD (j - 15) 0#32) 7) ^^^ (ror (((sch bs 64).take j).getD (j - 15) 0#32) 18)) ^^^ ((((sch bs 64).take j).getD (j - 15) 0#32) >>> 3))) + (((sch bs 64).take j).getD (j - 7) 0#32)) + (((ror (((sch bs 64).take j).getD (j - 2) 0#32) 17) ^^^ (ror (((sch bs 64).take j).getD (j - 2) 0#32) 19)) ^^^ ((((sch bs 64).take j).getD (j - 2) 0#32) >>> 10)))]] (fun _ => by kernel_rfl) sm rfl de
  clear Z Y
  rintro _ _ ⟨b5, rfl, -, rfl⟩ a w11 Z Y
  replace Z : Fr 238 [(103, u), (104, u), (105, iv (j : Int)), (106, iv ((j : Int) - 16)), (107, slAddr u ((j - 16) * 1)), (108, wv (((sch bs 64).take j).getD (j - 16) 0#32)), (109, wv (((ror (((sch bs 64).take j).getD (j - 15) 0#32) 7) ^^^ (ror (((sch bs 64).take j).getD (j - 15) 0#32) 18)) ^^^ ((((sch bs 64).take j).getD (j - 15) 0#32) >>> 3))), (110, wv ((((sch bs 64).take j).getD (j - 16) 0#32) + (((ror (((sch bs 64).take j).getD (j - 15) 0#32) 7) ^^^ (ror (((sch bs 64).take j).getD (j - 15) 0#32) 18)) ^^^ ((((sch bs 64).take j).getD (j - 15) 0#32) >>> 3)))), (111, u), (112, iv (j : Int)), (113, iv ((j : Int) - 7)), (114, slAddr u ((j - 7) * 1)), (115, wv (((sch bs 64).take j).getD (j - 7) 0#32)), (116, wv (((((sch bs 64).take j).getD (j - 16) 0#32) + (((ror (((sch bs 64).take j).getD (j - 15) 0#32) 7) ^^^ (ror (((sch bs 64).take j).getD (j - 15) 0#32) 18)) ^^^ ((((sch bs 64).take j).getD (j - 15) 0#32) >>> 3))) + (((sch bs 64).take j).getD (j - 7) 0#32))), (117, wv (((ror (((sch bs 64).take j).getD (j - 2) 0#32) 17) ^^^ (ror (((sch bs 64).take j).getD (j - 2) 0#32) 19)) ^^^ ((((sch bs 64).take j).getD (j - 2) 0#32) >>> 10))), (118, wv ((((((sch bs 64).take j).getD (j - 16) 0#32) + (((ror (((sch bs 64).take j).getD (j - 15) 0#32) 7) ^^^ (ror (((sch bs 64).take j).getD (j - 15) 0#32) 18)) ^^^ ((((sch bs 64).take j).getD (j - 15) 0#32) >>> 3))) + (((sch bs 64).take j).getD (j - 7) 0#32)) + (((ror (((sch bs 64).take j).getD (j - 2) 0#32) 17) ^^^ (ror (((sch bs 64).take j).getD (j - 2) 0#32) 19)) ^^^ ((((sch bs 64).take j).getD (j - 2) 0#32) >>> 10)))), (119, _), (0, _), (4, _), (5, _), (7, _), (8, _), (9, _)] [] a := Z
  replace Y : St No w0 [_, _] w11 := Y
  refine ab <| aP (k := 17) 19 [18] kr kr kr ?_
  refine aN (i := 1) (sT := 117) (inf := Tryz.t116) (z := wv (0#32)) (b := 0) (off := 0) (m := 0) (c := 0) rfl rfl rfl (Y.ow 0 rfl) sm underlying117 rfl rfl rfl rfl de (by simp [Value.oneCell', yv, wv, sv]) (by have hby : Tryz.t116.bytes = 4 := rfl; simp only [big, hby, List.length_append, List.length_map, List.length_take, aB, W8.l_len, List.length_cons, List.length_nil]; omega) (by have hby : Tryz.t116.bytes = 4 := rfl; simp only [big, hby, List.length_append, List.length_map, List.length_take, aB, W8.l_len, List.length_cons, List.length_nil]; omega) de Z Y fun a w12 s6 Z Y _ => wla Z rfl fun a Z => ab <| aS kr ?_
  refine hK12 _ _ ?_
  replace Z := Z.p4 0 4 7 5 rfl
  replace Y := Y.k1 2 rfl
  refine ao <| wlm Z rfl fun a Z => wlv Z (aV rfl rfl ⟨om, om⟩) fun a Z => wla Z rfl fun a Z => ab ?_
  rw [show (((sch bs 64).take j).map fun x => [wv x]) ++ ([[wv ((((((sch bs 64).take j).getD (j - 16) 0#32) + (((ror (((sch bs 64).take j).getD (j - 15) 0#32) 7) ^^^ (ror (((sch bs 64).take j).getD (j - 15) 0#32) 18)) ^^^ ((((sch bs 64).take j).getD (j - 15) 0#32) >>> 3))) + (((sch bs 64).take j).getD (j - 7) 0#32)) + (((ror (((sch bs 64).take j).getD (j - 2) 0#32) 17) ^^^ (ror (((sch bs 64).take j).getD (j - 2) 0#32) 19)) ^^^ ((((sch bs 64).take j).getD (j - 2) 0#32) >>> 10)))]]) = (((sch bs 64).take (j + 1)).map fun x => [wv x]) from by rw [mc bs om om]; simp] at Y
  refine ⟨_, ?_, j + 1, s6, rfl, om, om, Z.pick [0, 4, 5, 7], Y.select [0] de⟩
  omega
 rw [hc4] at Z
 try simp only [qz] at hc4
 obtain rfl : j = 64 := by omega
 rw [List.take_of_length_le (by rw [aB]; omega)] at Y
 refine aJ <| hK8 _ _ <| aa fun K15 hK15 => aK Z Y de call105 rfl (iZ _) ?_
 clear Z Y
 intro a w13 x7 hp Z Y
 revert x7 hp Z Y; rintro kz hp Z Y
 clear hp
 replace Y : St No w0 [_, _] w13 := Y
 refine wla Z rfl fun a Z => ab (hK15 _ _ <| aa fun K16 hK16 => ?_)
 refine wla Z rfl fun a Z => ab (hK16 _ _ <| aa fun K17 hK17 => ?_)
 refine wlm Z rfl fun a Z => wlm Z rfl fun a Z => ?_
 replace Y : St No w0 (own (.slice none 0 0) 116 1 [] :: [_, _]) w13 := Y.nil_own
 refine bE (i := 0) (sT := 117) (inf := Tryz.t116) (z := wv (0#32)) rfl rfl rfl (Y.arg hhv) underlying117 rfl rfl rfl rfl de (by simp [Value.oneCell', yv, wv, sv]) (by have hby : Tryz.t116.bytes = 4 := rfl; simp only [big, hby, List.length_append, List.length_map, List.length_take, aB, W8.l_len, List.length_cons, List.length_nil]; omega) (by have hby : Tryz.t116.bytes = 4 := rfl; simp only [big, hby, List.length_append, List.length_map, List.length_take, aB, W8.l_len, List.length_cons, List.length_nil]; omega) de Z Y ?_
 clear Z Y
 intro a w14 s8 Z Y
 refine wla Z rfl fun a Z => ab (hK17 _ _ ?_)
 replace Z := Z.p5 0 4 5 10 11 rfl
 refine ae fun K18 hK18 => aa fun K19 hK19 => wla Z rfl fun a Z => ab (hK19 _ _ <| aq ?_)
 rw [show ([]) ++ ((hv.l).map fun x => [wv x]) = ((hv.l).map fun x => [wv x]) from by simp] at Y
 refine aR (fun m a w => ∃ (ix : Nat) (v : W8) (z : Value), m = 64 - ix ∧ (ix ≤ 64) ∧ (rounds (sch bs 64) hv ix = v) ∧ Fr 238 [(0, hvv), (4, .slice none 0 0), (5, u), (10, kz), (11, z), (12, iv (ix : Int))] [] a ∧ St No w0 [own z 116 1 ((v.l).map fun x => [wv x]), own u 116 1 ((sch bs 64).map fun x => [wv x]), own kz 116 1 ((kOf).map fun x => [wv x])] w) _ ⟨0, hv, s8, rfl, Nat.zero_le _, rfl, Z.pick [0, 4, 5, 10, 11, 12], Y.select [0, 2, 1] de⟩ ?_
 rintro _ a w15 ⟨ix, v, z, rfl, hi, hrv, Z, Y⟩
 refine ae fun K20 hK20 => aa fun K21 hK21 => wlm Z rfl fun a Z => wlv Z (v_lt rfl rfl) fun a Z => ab (hK21 _ _ ?_)
 refine ax Z rfl (fun hc9 => ?_) (fun hc9 => ?_)
 ·rw [hc9] at Z
  try simp only [qz] at hc9
  refine ar <| hK20 _ _ <| ae fun K22 hK22 => aq <| aa fun K23 hK23 => wlm Z rfl fun a Z => wlv Z ((aj (i := 0) (sT := 117) (Y.ow 0 rfl) rfl rfl (runUnderlying117 _) (sizeOf116 _) om (by rw [List.length_map, W8.l_len]; decide)).as (v' := slAddr z (0 * 1)) rfl) fun a Z => wlv Z (au (u := wv v.a) (i := 0) (j := 0) (Y.ow 0 rfl) (by rw [List.length_map, W8.l_len]; decide) rfl (isAgg116 _) rfx) fun a Z => wla Z rfl fun a Z => ab (hK23 _ _ <| aa fun K24 hK24 => ?_)
  refine wlm Z rfl fun a Z => wlv Z ((aj (i := 4) (sT := 117) (Y.ow 0 rfl) rfl rfl (runUnderlying117 _) (sizeOf116 _) om (by rw [List.length_map, W8.l_len]; decide)).as (v' := slAddr z (4 * 1)) rfl) fun a Z => wlv Z (au (u := wv v.e) (i := 4) (j := 0) (Y.ow 0 rfl) (by rw [List.length_map, W8.l_len]; decide) rfl (isAgg116 _) rfx) fun a Z => wla Z rfl fun a Z => ab (hK24 _ _ ?_)
  replace Z := Z.p8 0 4 5 10 11 12 13 14 rfl
  refine ae fun K25 hK25 => aF kr (aG kr fun w16 hxz => ?_)
  replace Y := Y.grow hxz
  refine aT (k := 0) 34 [29, 33] Z kr kr kr rfx ?_
  replace Z := Z.p8 0 4 5 10 11 12 13 14 rfl
  refine aA [] (fun i => match i with | _ => fun _ _ => False) 34 [[], [0], [1], [], [3], [], [5], [4, 6], [], [8], [7, 9], [2, 10], [], [], [13], [14], [12, 15], [], [17], [], [19], [20], [18, 21], [16, 22], [11, 23], [], [], [25, 26], [27], [24, 28], [], [], [30, 31], [32]] [z, slAddr z (7 * 1), wv v.h, wv v.e, wv (ror v.e 6), wv v.e, wv (ror v.e 11), wv ((ror v.e 6) ^^^ (ror v.e 11)), wv v.e, wv (ror v.e 25), wv (((ror v.e 6) ^^^ (ror v.e 11)) ^^^ (ror v.e 25)), wv (v.h + (((ror v.e 6) ^^^ (ror v.e 11)) ^^^ (ror v.e 25))), wv v.e, z, slAddr z (5 * 1), wv v.f, wv (v.e &&& v.f), wv v.e, wv (~~~v.e), z, slAddr z (6 * 1), wv v.g, wv ((~~~v.e) &&& v.g), wv ((v.e &&& v.f) ^^^ ((~~~v.e) &&& v.g)), wv ((v.h + (((ror v.e 6) ^^^ (ror v.e 11)) ^^^ (ror v.e 25))) + ((v.e &&& v.f) ^^^ ((~~~v.e) &&& v.g))), kz, iv (ix : Int), slAddr kz (ix * 1), wv ((kOf).getD ix 0#32), wv (((v.h + (((ror v.e 6) ^^^ (ror v.e 11)) ^^^ (ror v.e 25))) + ((v.e &&& v.f) ^^^ ((~~~v.e) &&& v.g))) + ((kOf).getD ix 0#32)), u, iv (ix : Int), slAddr u (ix * 1), wv ((sch bs 64).getD ix 0#32)] Z Y kr kr kr ?_ ?_ ?_
  ·intro i hi hiq
   match i, hi, hiq with
   | 0, _, _ => exact fun w Y => OpV.g (ah rfl)
   | 1, _, _ => exact fun w Y => OpV.g ((aj (i := 7) (sT := 117) (Y.ow 0 rfl) rfl rfl (runUnderlying117 _) (sizeOf116 _) om (by rw [List.length_map, W8.l_len]; decide)).as (v' := slAddr z (7 * 1)) rfl)
   | 2, _, _ => exact fun w Y => OpV.g (au (u := wv v.h) (i := 7) (j := 0) (Y.ow 0 rfl) (by rw [List.length_map, W8.l_len]; decide) rfl (isAgg116 _) rfx)
   | 3, _, _ => exact fun w Y => OpV.g (ah rfl)
   | 4, _, _ => exact fun w Y => bw call104 rfl (cQ v.e 6 _ de de)
   | 5, _, _ => exact fun w Y => OpV.g (ah rfl)
   | 6, _, _ => exact fun w Y => bw call104 rfl (cQ v.e 11 _ de de)
   | 7, _, _ => exact fun w Y => OpV.g (cc rfl rfl)
   | 8, _, _ => exact fun w Y => OpV.g (ah rfl)
   | 9, _, _ => exact fun w Y => bw call104 rfl (cQ v.e 25 _ de de)
   | 10, _, _ => exact fun w Y => OpV.g (cc rfl rfl)
   | 11, _, _ => exact fun w Y => OpV.g (bN rfl rfl)
   | 12, _, _ => exact fun w Y => OpV.g (ah rfl)
   | 13, _, _ => exact fun w Y => OpV.g (ah rfl)
   | 14, _, _ => exact fun w Y => OpV.g ((aj (i := 5) (sT := 117) (Y.ow 0 rfl) rfl rfl (runUnderlying117 _) (sizeOf116 _) om (by rw [List.length_map, W8.l_len]; decide)).as (v' := slAddr z (5 * 1)) rfl)
   | 15, _, _ => exact fun w Y => OpV.g (au (u := wv v.f) (i := 5) (j := 0) (Y.ow 0 rfl) (by rw [List.length_map, W8.l_len]; decide) rfl (isAgg116 _) rfx)
   | 16, _, _ => exact fun w Y => OpV.g (du rfl rfl)
   | 17, _, _ => exact fun w Y => OpV.g (ah rfl)
   | 18, _, _ => exact fun w Y => OpV.g (ny rfl)
   | 19, _, _ => exact fun w Y => OpV.g (ah rfl)
   | 20, _, _ => exact fun w Y => OpV.g ((aj (i := 6) (sT := 117) (Y.ow 0 rfl) rfl rfl (runUnderlying117 _) (sizeOf116 _) om (by rw [List.length_map, W8.l_len]; decide)).as (v' := slAddr z (6 * 1)) rfl)
   | 21, _, _ => exact fun w Y => OpV.g (au (u := wv v.g) (i := 6) (j := 0) (Y.ow 0 rfl) (by rw [List.length_map, W8.l_len]; decide) rfl (isAgg116 _) rfx)
   | 22, _, _ => exact fun w Y => OpV.g (du rfl rfl)
   | 23, _, _ => exact fun w Y => OpV.g (cc rfl rfl)
   | 24, _, _ => exact fun w Y => OpV.g (bN rfl rfl)
   | 25, _, _ => exact fun w Y => OpV.g (ah rfl)
   | 26, _, _ => exact fun w Y => OpV.g (ah rfl)
   | 27, _, _ => exact fun w Y => OpV.g ((aj (i := (ix : Int)) (sT := 117) (Y.ow 2 rfl) rfl rfl (runUnderlying117 _) (sizeOf116 _) om (by rw [List.length_map]; first | omega | (rw [aB]; omega) | (rw [List.length_take, aB]; omega) | (rw [W8.l_len]; omega) | (rw [bf]; omega))).as (v' := slAddr kz (ix * 1)) rfl)
   | 28, _, _ => exact fun w Y => OpV.g (au (u := wv ((kOf).getD ix 0#32)) (i := ix) (j := 0) (Y.ow 2 rfl) (by rw [List.length_map]; first | omega | (rw [aB]; omega) | (rw [List.length_take, aB]; omega) | (rw [W8.l_len]; omega) | (rw [bf]; omega)) rfl (isAgg116 _) (by rw [br 0#32]; rfl))
   | 29, _, _ => exact fun w Y => OpV.g (bN rfl rfl)
   | 30, _, _ => exact fun w Y => OpV.g (ah rfl)
   | 31, _, _ => exact fun w Y => OpV.g (ah rfl)
   | 32, _, _ => exact fun w Y => OpV.g ((aj (i := (ix : Int)) (sT := 117) (Y.ow 1 rfl) rfl rfl (runUnderlying117 _) (sizeOf116 _) om (by rw [List.length_map]; first | omega | (rw [aB]; omega) | (rw [List.length_take, aB]; omega) | (rw [W8.l_len]; omega) | (rw [bf]; omega))).as (v' := slAddr u (ix * 1)) rfl)
   | 33, _, _ => exact fun w Y => OpV.g (au (u := wv ((sch bs 64).getD ix 0#32)) (i := ix) (j := 0) (Y.ow 1 rfl) (by rw [List.length_map]; first | omega | (rw [aB]; omega) | (rw [List.length_take, aB]; omega) | (rw [W8.l_len]; omega) | (rw [bf]; omega)) rfl (isAgg116 _) (by rw [br 0#32]; rfl))
   | i + 34, h, _ => exact absurd h om
  ·intro i hi
   exact absurd hi sm
  clear Z Y
  intro  a w17 Z Y
  replace Z : Fr 238 [(135, z), (136, slAddr z (7 * 1)), (137, wv v.h), (138, wv v.e), (139, wv (ror v.e 6)), (140, wv v.e), (141, wv (ror v.e 11)), (142, wv ((ror v.e 6) ^^^ (ror v.e 11))), (143, wv v.e), (144, wv (ror v.e 25)), (145, wv (((ror v.e 6) ^^^ (ror v.e 11)) ^^^ (ror v.e 25))), (146, wv (v.h + (((ror v.e 6) ^^^ (ror v.e 11)) ^^^ (ror v.e 25)))), (147, wv v.e), (148, z), (149, slAddr z (5 * 1)), (150, wv v.f), (151, wv (v.e &&& v.f)), (152, wv v.e), (153, wv (~~~v.e)), (154, z), (155, slAddr z (6 * 1)), (156, wv v.g), (157, wv ((~~~v.e) &&& v.g)), (158, wv ((v.e &&& v.f) ^^^ ((~~~v.e) &&& v.g))), (159, wv ((v.h + (((ror v.e 6) ^^^ (ror v.e 11)) ^^^ (ror v.e 25))) + ((v.e &&& v.f) ^^^ ((~~~v.e) &&& v.g)))), (160, kz), (161, iv (ix : Int)), (162, slAddr kz (ix * 1)), (163, wv ((kOf).getD ix 0#32)), (164, wv (((v.h + (((ror v.e 6) ^^^ (ror v.e 11)) ^^^ (ror v.e 25))) + ((v.e &&& v.f) ^^^ ((~~~v.e) &&& v.g))) + ((kOf).getD ix 0#32))), (165, u), (166, iv (ix : Int)), (167, slAddr u (ix * 1)), (168, wv ((sch bs 64).getD ix 0#32)), (0, _), (4, _), (5, _), (10, _), (11, _), (12, _), (13, _), (14, _)] [] a := Z
  refine ab <| aP (k := 34) 36 [35] kr kr kr ?_
  refine wlv Z (bN rfl rfl) fun a Z => wla Z rfl fun a Z => ab <| aS kr ?_
  refine hK25 _ _ ?_
  replace Z := Z.p9 0 4 5 10 11 12 13 14 15 rfl
  refine ae fun K26 hK26 => aF kr (aG kr fun w18 hxz => ?_)
  replace Y := Y.grow hxz
  refine aT (k := 0) 27 [7, 26] Z kr kr kr rfx ?_
  replace Z := Z.p9 0 4 5 10 11 12 13 14 15 rfl
  refine aA [] (fun i => match i with | _ => fun _ _ => False) 27 [[], [0], [], [2], [1, 3], [], [5], [4, 6], [], [], [9], [10], [8, 11], [], [], [14], [15], [13, 16], [12, 17], [], [19], [20], [], [22], [23], [21, 24], [18, 25]] [wv v.a, wv (ror v.a 2), wv v.a, wv (ror v.a 13), wv ((ror v.a 2) ^^^ (ror v.a 13)), wv v.a, wv (ror v.a 22), wv (((ror v.a 2) ^^^ (ror v.a 13)) ^^^ (ror v.a 22)), wv v.a, z, slAddr z (1 * 1), wv v.b, wv (v.a &&& v.b), wv v.a, z, slAddr z (2 * 1), wv v.c, wv (v.a &&& v.c), wv ((v.a &&& v.b) ^^^ (v.a &&& v.c)), z, slAddr z (1 * 1), wv v.b, z, slAddr z (2 * 1), wv v.c, wv (v.b &&& v.c), wv (((v.a &&& v.b) ^^^ (v.a &&& v.c)) ^^^ (v.b &&& v.c))] Z Y kr kr kr ?_ ?_ ?_
  ·intro i hi hiq
   match i, hi, hiq with
   | 0, _, _ => exact fun w Y => OpV.g (ah rfl)
   | 1, _, _ => exact fun w Y => bw call104 rfl (cQ v.a 2 _ de de)
   | 2, _, _ => exact fun w Y => OpV.g (ah rfl)
   | 3, _, _ => exact fun w Y => bw call104 rfl (cQ v.a 13 _ de de)
   | 4, _, _ => exact fun w Y => OpV.g (cc rfl rfl)
   | 5, _, _ => exact fun w Y => OpV.g (ah rfl)
   | 6, _, _ => exact fun w Y => bw call104 rfl (cQ v.a 22 _ de de)
   | 7, _, _ => exact fun w Y => OpV.g (cc rfl rfl)
   | 8, _, _ => exact fun w Y => OpV.g (ah rfl)
   | 9, _, _ => exact fun w Y => OpV.g (ah rfl)
   | 10, _, _ => exact fun w Y => OpV.g ((aj (i := 1) (sT := 117) (Y.ow 0 rfl) rfl rfl (runUnderlying117 _) (sizeOf116 _) om (by rw [List.length_map, W8.l_len]; decide)).as (v' := slAddr z (1 * 1)) rfl)
   | 11, _, _ => exact fun w Y => OpV.g (au (u := wv v.b) (i := 1) (j := 0) (Y.ow 0 rfl) (by rw [List.length_map, W8.l_len]; decide) rfl (isAgg116 _) rfx)
   | 12, _, _ => exact fun w Y => OpV.g (du rfl rfl)
   | 13, _, _ => exact fun w Y => OpV.g (ah rfl)
   | 14, _, _ => exact fun w Y => OpV.g (ah rfl)
   | 15, _, _ => exact fun w Y => OpV.g ((aj (i := 2) (sT := 117) (Y.ow 0 rfl) rfl rfl (runUnderlying117 _) (sizeOf116 _) om (by rw [List.length_map, W8.l_len]; decide)).as (v' := slAddr z (2 * 1)) rfl)
   | 16, _, _ => exact fun w Y => OpV.g (au (u := wv v.c) (i := 2) (j := 0) (Y.ow 0 rfl) (by rw [List.length_map, W8.l_len]; decide) rfl (isAgg116 _) rfx)
   | 17, _, _ => exact fun w Y => OpV.g (du rfl rfl)
   | 18, _, _ => exact fun w Y => OpV.g (cc rfl rfl)
   | 19, _, _ => exact fun w Y => OpV.g (ah rfl)
   | 20, _, _ => exact fun w Y => OpV.g ((aj (i := 1) (sT := 117) (Y.ow 0 rfl) rfl rfl (runUnderlying117 _) (sizeOf116 _) om (by rw [List.length_map, W8.l_len]; decide)).as (v' := slAddr z (1 * 1)) rfl)
   | 21, _, _ => exact fun w Y => OpV.g (au (u := wv v.b) (i := 1) (j := 0) (Y.ow 0 rfl) (by rw [List.length_map, W8.l_len]; decide) rfl (isAgg116 _) rfx)
   | 22, _, _ => exact fun w Y => OpV.g (ah rfl)
   | 23, _, _ => exact fun w Y => OpV.g ((aj (i := 2) (sT := 117) (Y.ow 0 rfl) rfl rfl (runUnderlying117 _) (sizeOf116 _) om (by rw [List.length_map, W8.l_len]; decide)).as (v' := slAddr z (2 * 1)) rfl)
   | 24, _, _ => exact fun w Y => OpV.g (au (u := wv v.c) (i := 2) (j := 0) (Y.ow 0 rfl) (by rw [List.length_map, W8.l_len]; decide) rfl (isAgg116 _) rfx)
   | 25, _, _ => exact fun w Y => OpV.g (du rfl rfl)
   | 26, _, _ => exact fun w Y => OpV.g (cc rfl rfl)
   | i + 27, h, _ => exact absurd h om
  ·intro i hi
   exact absurd hi sm
  clear Z Y
  intro  a w19 Z Y
  replace Z : Fr 238 [(170, wv v.a), (171, wv (ror v.a 2)), (172, wv v.a), (173, wv (ror v.a 13)), (174, wv ((ror v.a 2) ^^^ (ror v.a 13))), (175, wv v.a), (176, wv (ror v.a 22)), (177, wv (((ror v.a 2) ^^^ (ror v.a 13)) ^^^ (ror v.a 22))), (178, wv v.a), (179, z), (180, slAddr z (1 * 1)), (181, wv v.b), (182, wv (v.a &&& v.b)), (183, wv v.a), (184, z), (185, slAddr z (2 * 1)), (186, wv v.c), (187, wv (v.a &&& v.c)), (188, wv ((v.a &&& v.b) ^^^ (v.a &&& v.c))), (189, z), (190, slAddr z (1 * 1)), (191, wv v.b), (192, z), (193, slAddr z (2 * 1)), (194, wv v.c), (195, wv (v.b &&& v.c)), (196, wv (((v.a &&& v.b) ^^^ (v.a &&& v.c)) ^^^ (v.b &&& v.c))), (0, _), (4, _), (5, _), (10, _), (11, _), (12, _), (13, _), (14, _), (15, _)] [] a := Z
  refine ab <| aP (k := 27) 29 [28] kr kr kr ?_
  refine wlv Z (bN rfl rfl) fun a Z => wla Z rfl fun a Z => ab <| aS kr ?_
  refine hK26 _ _ ?_
  replace Z := Z.p10 0 4 5 10 11 12 13 14 15 16 rfl
  rw [show (((v.h + (((ror v.e 6) ^^^ (ror v.e 11)) ^^^ (ror v.e 25))) + ((v.e &&& v.f) ^^^ ((~~~v.e) &&& v.g))) + ((kOf).getD ix 0#32)) + ((sch bs 64).getD ix 0#32) = tOf v (kOf.getD ix 0#32) ((sch bs 64).getD ix 0#32) from by rw [tOf, mix3]] at Z
  rw [show (((ror v.a 2) ^^^ (ror v.a 13)) ^^^ (ror v.a 22)) + (((v.a &&& v.b) ^^^ (v.a &&& v.c)) ^^^ (v.b &&& v.c)) = uOf v from by rw [uOf, mix3]] at Z
  refine aF kr (aG kr fun w20 hxz => ?_)
  replace Y := Y.grow hxz
  refine aT (k := 0) 22 [2, 3, 6, 9, 14, 15, 18, 21] Z kr kr kr rfx ?_
  replace Z := Z.p10 0 4 5 10 11 12 13 14 15 16 rfl
  refine aA [] (fun i => match i with | _ => fun _ _ => False) 22 [[], [], [0, 1], [], [], [4], [5], [], [7], [8], [], [10], [11], [], [12, 13], [], [], [16], [17], [], [19], [20]] [wv (tOf v (kOf.getD ix 0#32) ((sch bs 64).getD ix 0#32)), wv (uOf v), wv ((tOf v (kOf.getD ix 0#32) ((sch bs 64).getD ix 0#32)) + (uOf v)), wv v.a, z, slAddr z (1 * 1), wv v.b, z, slAddr z (2 * 1), wv v.c, z, slAddr z (3 * 1), wv v.d, wv (tOf v (kOf.getD ix 0#32) ((sch bs 64).getD ix 0#32)), wv (v.d + (tOf v (kOf.getD ix 0#32) ((sch bs 64).getD ix 0#32))), wv v.e, z, slAddr z (5 * 1), wv v.f, z, slAddr z (6 * 1), wv v.g] Z Y kr kr kr ?_ ?_ ?_
  ·intro i hi hiq
   match i, hi, hiq with
   | 0, _, _ => exact fun w Y => OpV.g (ah rfl)
   | 1, _, _ => exact fun w Y => OpV.g (ah rfl)
   | 2, _, _ => exact fun w Y => OpV.g (bN rfl rfl)
   | 3, _, _ => exact fun w Y => OpV.g (ah rfl)
   | 4, _, _ => exact fun w Y => OpV.g (ah rfl)
   | 5, _, _ => exact fun w Y => OpV.g ((aj (i := 1) (sT := 117) (Y.ow 0 rfl) rfl rfl (runUnderlying117 _) (sizeOf116 _) om (by rw [List.length_map, W8.l_len]; decide)).as (v' := slAddr z (1 * 1)) rfl)
   | 6, _, _ => exact fun w Y => OpV.g (au (u := wv v.b) (i := 1) (j := 0) (Y.ow 0 rfl) (by rw [List.length_map, W8.l_len]; decide) rfl (isAgg116 _) rfx)
   | 7, _, _ => exact fun w Y => OpV.g (ah rfl)
   | 8, _, _ => exact fun w Y => OpV.g ((aj (i := 2) (sT := 117) (Y.ow 0 rfl) rfl rfl (runUnderlying117 _) (sizeOf116 _) om (by rw [List.length_map, W8.l_len]; decide)).as (v' := slAddr z (2 * 1)) rfl)
   | 9, _, _ => exact fun w Y => OpV.g (au (u := wv v.c) (i := 2) (j := 0) (Y.ow 0 rfl) (by rw [List.length_map, W8.l_len]; decide) rfl (isAgg116 _) rfx)
   | 10, _, _ => exact fun w Y => OpV.g (ah rfl)
   | 11, _, _ => exact fun w Y => OpV.g ((aj (i := 3) (sT := 117) (Y.ow 0 rfl) rfl rfl (runUnderlying117 _) (sizeOf116 _) om (by rw [List.length_map, W8.l_len]; decide)).as (v' := slAddr z (3 * 1)) rfl)
   | 12, _, _ => exact fun w Y => OpV.g (au (u := wv v.d) (i := 3) (j := 0) (Y.ow 0 rfl) (by rw [List.length_map, W8.l_len]; decide) rfl (isAgg116 _) rfx)
   | 13, _, _ => exact fun w Y => OpV.g (ah rfl)
   | 14, _, _ => exact fun w Y => OpV.g (bN rfl rfl)
   | 15, _, _ => exact fun w Y => OpV.g (ah rfl)
   | 16, _, _ => exact fun w Y => OpV.g (ah rfl)
   | 17, _, _ => exact fun w Y => OpV.g ((aj (i := 5) (sT := 117) (Y.ow 0 rfl) rfl rfl (runUnderlying117 _) (sizeOf116 _) om (by rw [List.length_map, W8.l_len]; decide)).as (v' := slAddr z (5 * 1)) rfl)
   | 18, _, _ => exact fun w Y => OpV.g (au (u := wv v.f) (i := 5) (j := 0) (Y.ow 0 rfl) (by rw [List.length_map, W8.l_len]; decide) rfl (isAgg116 _) rfx)
   | 19, _, _ => exact fun w Y => OpV.g (ah rfl)
   | 20, _, _ => exact fun w Y => OpV.g ((aj (i := 6) (sT := 117) (Y.ow 0 rfl) rfl rfl (runUnderlying117 _) (sizeOf116 _) om (by rw [List.length_map, W8.l_len]; decide)).as (v' := slAddr z (6 * 1)) rfl)
   | 21, _, _ => exact fun w Y => OpV.g (au (u := wv v.g) (i := 6) (j := 0) (Y.ow 0 rfl) (by rw [List.length_map, W8.l_len]; decide) rfl (isAgg116 _) rfx)
   | i + 22, h, _ => exact absurd h om
  ·intro i hi
   exact absurd hi sm
  clear Z Y
  intro  a w21 Z Y
  replace Z : Fr 238 [(198, wv (tOf v (kOf.getD ix 0#32) ((sch bs 64).getD ix 0#32))), (199, wv (uOf v)), (200, wv ((tOf v (kOf.getD ix 0#32) ((sch bs 64).getD ix 0#32)) + (uOf v))), (201, wv v.a), (202, z), (203, slAddr z (1 * 1)), (204, wv v.b), (205, z), (206, slAddr z (2 * 1)), (207, wv v.c), (208, z), (209, slAddr z (3 * 1)), (210, wv v.d), (211, wv (tOf v (kOf.getD ix 0#32) ((sch bs 64).getD ix 0#32))), (212, wv (v.d + (tOf v (kOf.getD ix 0#32) ((sch bs 64).getD ix 0#32)))), (213, wv v.e), (214, z), (215, slAddr z (5 * 1)), (216, wv v.f), (217, z), (218, slAddr z (6 * 1)), (219, wv v.g), (0, _), (4, _), (5, _), (10, _), (11, _), (12, _), (13, _), (14, _), (15, _), (16, _)] [] a := Z
  refine ab <| aP (k := 22) 24 [23] kr kr kr ?_
  refine aC (E := 116) (sz := 1) rfl [[wv ((tOf v (kOf.getD ix 0#32) ((sch bs 64).getD ix 0#32)) + (uOf v))], [wv v.a], [wv v.b], [wv v.c], [wv (v.d + (tOf v (kOf.getD ix 0#32) ((sch bs 64).getD ix 0#32)))], [wv v.e], [wv v.f], [wv v.g]] kr sm rfl de de Z Y ?_
  clear Z Y
  intro a w22 Z Y
  refine wla Z rfl fun a Z => ab <| aS kr ?_
  refine hK22 _ _ ?_
  replace Z := Z.p6 0 4 5 10 12 11 rfl
  refine ao <| wlm Z rfl fun a Z => wlv Z (aV rfl rfl ⟨om, om⟩) fun a Z => wla Z rfl fun a Z => ab ?_
  replace Y : St No w0 [_, _, _, _] w22 := Y
  refine ⟨_, ?_, ix + 1, (rnd v (kOf.getD ix 0#32) ((sch bs 64).getD ix 0#32)), (.slice (some ⟨w21.hz, 0, none⟩) 8 8), rfl, om, (by rw [rounds, hrv]), Z.pick [0, 4, 5, 10, 11, 12], Y.select [0, 2, 3] de⟩
  omega
 rw [hc9] at Z
 try simp only [qz] at hc9
 obtain rfl : ix = 64 := by omega
 refine aJ <| hK18 _ _ <| aa fun K27 hK27 => wla Z rfl fun a Z => ab (hK27 _ _ <| ae fun K28 hK28 => ?_)
 refine aa fun K29 hK29 => wla Z rfl fun a Z => ab (hK29 _ _ <| aq ?_)
 replace Y : St No w0 [own (.slice none 0 0) 116 1 (((hv.add v).l.take 0).map fun x => [wv x]), own z 116 1 ((v.l).map fun x => [wv x]), own u 116 1 ((sch bs 64).map fun x => [wv x]), own kz 116 1 ((kOf).map fun x => [wv x])] w15 := Y.nil_own
 refine aR (fun m a w => ∃ (q : Nat) (y : Value), m = 8 - q ∧ (q ≤ 8) ∧ Fr 238 [(0, hvv), (4, .slice none 0 0), (11, z), (17, y), (18, iv (q : Int))] [] a ∧ St No w0 [own y 116 1 (((hv.add v).l.take q).map fun x => [wv x]), own z 116 1 ((v.l).map fun x => [wv x])] w) _ ⟨0, .slice none 0 0, rfl, Nat.zero_le _, Z.pick [0, 4, 11, 17, 18], Y.select [0, 1] de⟩ ?_
 rintro _ a w23 ⟨q, y, rfl, hq, Z, Y⟩
 refine ae fun K30 hK30 => aa fun K31 hK31 => wlm Z rfl fun a Z => wlv Z (v_lt rfl rfl) fun a Z => ab (hK31 _ _ ?_)
 refine ax Z rfl (fun hc10 => ?_) (fun hc10 => ?_)
 ·rw [hc10] at Z
  try simp only [qz] at hc10
  refine ar <| hK30 _ _ <| ae fun K32 hK32 => aq <| aF kr (aG kr fun w24 hxz => ?_)
  replace Y := Y.grow hxz
  refine aT (k := 0) 11 [0, 10] Z kr kr kr rfx ?_
  replace Z := Z.p7 0 4 11 17 18 221 222 rfl
  refine aA [10] (fun i => match i with | 10 => pm (fun b : Nat => .slice (some ⟨b, 0, none⟩) 1 1) (fun b => [own (.slice (some ⟨b, 0, none⟩) 1 1) 116 1 [[wv ((hv.l.getD q 0#32) + (v.l.getD q 0#32))]]]) (fun _ => True) | _ => fun _ _ => False) 11 [[], [], [], [1, 2], [3], [], [], [5, 6], [7], [4, 8], [9]] [y, hvv, iv (q : Int), slAddr hvv (q * 1), wv (hv.l.getD q 0#32), z, iv (q : Int), slAddr z (q * 1), wv (v.l.getD q 0#32), wv ((hv.l.getD q 0#32) + (v.l.getD q 0#32)), undef] Z Y kr kr kr ?_ ?_ ?_
  ·intro i hi hiq
   match i, hi, hiq with
   | 0, _, _ => exact fun w Y => OpV.g (ah rfl)
   | 1, _, _ => exact fun w Y => OpV.g (ah rfl)
   | 2, _, _ => exact fun w Y => OpV.g (ah rfl)
   | 3, _, _ => exact fun w Y => OpV.g ((aj (i := (q : Int)) (sT := 117) (Y.arg hhv) rfl rfl (runUnderlying117 _) (sizeOf116 _) om (by rw [List.length_map]; first | omega | (rw [aB]; omega) | (rw [List.length_take, aB]; omega) | (rw [W8.l_len]; omega) | (rw [bf]; omega))).as (v' := slAddr hvv (q * 1)) rfl)
   | 4, _, _ => exact fun w Y => OpV.g (au (u := wv (hv.l.getD q 0#32)) (i := q) (j := 0) (Y.arg hhv) (by rw [List.length_map]; first | omega | (rw [aB]; omega) | (rw [List.length_take, aB]; omega) | (rw [W8.l_len]; omega) | (rw [bf]; omega)) rfl (isAgg116 _) (by rw [br 0#32]; rfl))
   | 5, _, _ => exact fun w Y => OpV.g (ah rfl)
   | 6, _, _ => exact fun w Y => OpV.g (ah rfl)
   | 7, _, _ => exact fun w Y => OpV.g ((aj (i := (q : Int)) (sT := 117) (Y.ow 1 rfl) rfl rfl (runUnderlying117 _) (sizeOf116 _) om (by rw [List.length_map]; first | omega | (rw [aB]; omega) | (rw [List.length_take, aB]; omega) | (rw [W8.l_len]; omega) | (rw [bf]; omega))).as (v' := slAddr z (q * 1)) rfl)
   | 8, _, _ => exact fun w Y => OpV.g (au (u := wv (v.l.getD q 0#32)) (i := q) (j := 0) (Y.ow 1 rfl) (by rw [List.length_map]; first | omega | (rw [aB]; omega) | (rw [List.length_take, aB]; omega) | (rw [W8.l_len]; omega) | (rw [bf]; omega)) rfl (isAgg116 _) (by rw [br 0#32]; rfl))
   | 9, _, _ => exact fun w Y => OpV.g (bN rfl rfl)
   | 10, _, h => exact absurd sm h
  ·intro i hi
   simp only [List.mem_cons, List.not_mem_nil, or_false] at hi
   subst hi
   ·intro w Y
    exact aX (E := 116) (sz := 1) rfl [[wv ((hv.l.getD q 0#32) + (v.l.getD q 0#32))]] (fun _ => by kernel_rfl) sm rfl de
  clear Z Y
  rintro _ _ ⟨b11, rfl, -, rfl⟩ a w25 Z Y
  replace Z : Fr 238 [(225, y), (226, hvv), (227, iv (q : Int)), (228, slAddr hvv (q * 1)), (229, wv (hv.l.getD q 0#32)), (230, z), (231, iv (q : Int)), (232, slAddr z (q * 1)), (233, wv (v.l.getD q 0#32)), (234, wv ((hv.l.getD q 0#32) + (v.l.getD q 0#32))), (235, _), (0, _), (4, _), (11, _), (17, _), (18, _), (221, _), (222, _)] [] a := Z
  replace Y : St No w0 [_, _, _] w25 := Y
  refine ab <| aP (k := 11) 13 [12] kr kr kr ?_
  refine aN (i := 1) (sT := 117) (inf := Tryz.t116) (z := wv (0#32)) (b := 0) (off := 0) (m := 0) (c := 0) rfl rfl rfl (Y.ow 0 rfl) sm underlying117 rfl rfl rfl rfl de (by simp [Value.oneCell', yv, wv, sv]) (by have hby : Tryz.t116.bytes = 4 := rfl; simp only [big, hby, List.length_append, List.length_map, List.length_take, aB, W8.l_len, List.length_cons, List.length_nil]; omega) (by have hby : Tryz.t116.bytes = 4 := rfl; simp only [big, hby, List.length_append, List.length_map, List.length_take, aB, W8.l_len, List.length_cons, List.length_nil]; omega) de Z Y fun a w26 s12 Z Y _ => wla Z rfl fun a Z => ab <| aS kr ?_
  refine hK32 _ _ ?_
  replace Z := Z.p5 0 4 11 18 17 rfl
  replace Y := Y.k2 6 rfl
  refine ao <| wlm Z rfl fun a Z => wlv Z (aV rfl rfl ⟨om, om⟩) fun a Z => wla Z rfl fun a Z => ab ?_
  rw [show (((hv.add v).l.take q).map fun x => [wv x]) ++ ([[wv ((hv.l.getD q 0#32) + (v.l.getD q 0#32))]]) = (((hv.add v).l.take (q + 1)).map fun x => [wv x]) from by rw [nq hv v om]; simp] at Y
  refine ⟨_, ?_, q + 1, s12, rfl, om, Z.pick [0, 4, 11, 17, 18], Y.select [0, 1] de⟩
  omega
 rw [hc10] at Z
 try simp only [qz] at hc10
 refine aJ <| hK28 _ _ <| aa fun K33 hK33 => wlm Z rfl fun a Z => wla Z rfl fun a Z => ab (hK33 _ _ ?_)
 replace Z := Z.p1 4 rfl
 refine ap ?_
 refine al Z results83 (ac rfl ag) ?_
 obtain rfl : q = 8 := by omega
 exact ⟨y, rfl, trivial, Y.ext, St.out (E := [own y 116 1 (((block hv bs).l).map fun x => [wv x])]) (H := []) (by rw [block, hrv]; exact Y.select [0] de)⟩
theorem nT (v : W8) {q : Nat} (h : q < 8) : v.out.take (4 * (q + 1)) = v.out.take (4 * q) ++ [UInt8.ofNat (v.l.getD q 0#32 >>> 24).toNat, UInt8.ofNat (v.l.getD q 0#32 >>> 16).toNat, UInt8.ofNat (v.l.getD q 0#32 >>> 8).toNat, UInt8.ofNat (v.l.getD q 0#32).toNat] := by
 have : q = 0 ∨ q = 1 ∨ q = 2 ∨ q = 3 ∨ q = 4 ∨ q = 5 ∨ q = 6 ∨ q = 7 := by omega
 rcases this with rfl | rfl | rfl | rfl | rfl | rfl | rfl | rfl <;> simp [W8.out, W8.l, lP]
theorem dS (s : By) (w0 : World) (hs : s.length ≤ 100000000) :
  Ret Tryz.prog 45 #[sv s] w0 fun v w => v = sv (sha s) ∧ Ext No w0 w := by
 have hpb := fb s
 refine aD func45 rfl ntmps45 (lb rfl) fun a Z => ?_
 replace Z := Z.p1 0 rfl
 replace Y : St No w0 [] w0 := St.init w0
 refine aa fun K1 hK1 => wla Z rfl fun a Z => ab (hK1 _ _ <| aa fun K2 hK2 => ?_)
 refine aC (E := 116) (sz := 1) rfl [[wv (1779033703#32)], [wv (3144134277#32)], [wv (1013904242#32)], [wv (2773480762#32)], [wv (1359893119#32)], [wv (2600822924#32)], [wv (528734635#32)], [wv (1541459225#32)]] kr sm rfl de de Z Y ?_
 clear Z Y
 intro a w1 Z Y
 refine wla Z rfl fun a Z => ab (hK2 _ _ <| aa fun K3 hK3 => ?_)
 refine wlm Z rfl fun a Z => aK Z Y de call82 rfl (kh s _ hs) ?_
 clear Z Y
 intro a w2 x1 hp Z Y
 revert x1 hp Z Y; rintro bz hp Z Y
 clear hp
 replace Y : St No w0 [_, _] w2 := Y
 refine wla Z rfl fun a Z => ab (hK3 _ _ <| ae fun K4 hK4 => ?_)
 refine aa fun K5 hK5 => wla Z rfl fun a Z => ab (hK5 _ _ <| aq ?_)
 replace Y : St No w0 [_, _] w2 := Y
 refine aR (fun m a w => ∃ (q : Nat) (hz : Value), m = (padded s).length / 64 - q ∧ (q ≤ (padded s).length / 64) ∧ Fr 56 [(2, sv ([])), (4, bz), (3, hz), (5, iv ((64 * q : Nat) : Int))] [] a ∧ St No w0 [own hz 116 1 (((blocks h0 (padded s) q).l).map fun x => [wv x]), own bz 5 1 ((padded s).map fun b => [yv b])] w) _ ⟨0, (.slice (some ⟨w0.hz, 0, none⟩) 8 8), rfl, Nat.zero_le _, Z.pick [2, 4, 3, 5], Y.select [1, 0] de⟩ ?_
 rintro _ a w3 ⟨q, hz, rfl, hq, Z, Y⟩
 refine ae fun K6 hK6 => aa fun K7 hK7 => wlm Z rfl fun a Z => wlm Z rfl fun a Z => wlv Z ((aE (sT := 68) (Y.ow 1 rfl) rfl rfl (runUnderlying68 _)).asi (m' := ((padded s).length : Int)) (by rw [List.length_map])) fun a Z => wlv Z (v_lt rfl rfl) fun a Z => ab (hK7 _ _ ?_)
 refine ax Z rfl (fun hc2 => ?_) (fun hc2 => ?_)
 ·rw [hc2] at Z
  try simp only [qz] at hc2
  have hpl := eN s
  refine ar <| hK6 _ _ <| ae fun K8 hK8 => aq <| ao <| wlm Z rfl fun a Z => wlm Z rfl fun a Z => wlm Z rfl fun a Z => wlm Z rfl fun a Z => wlv Z (aV rfl rfl ⟨om, om⟩) fun a Z => wlv Z (bd (l := (64 * q)) (h := (64 * q + 64)) (Y.ow 1 rfl) rfl rfl rfl underlying68 kr (.inr (by first | rfl | (rw [show (((64 * q : Nat) : Int) : Int) = (((64 * q) : Nat) : Int) from by omega] <;> rfl))) (.inr (by first | rfl | (rw [show (((64 * q : Nat) : Int) + 64 : Int) = (((64 * q + 64) : Nat) : Int) from by omega] <;> rfl))) om (by first | (rw [List.length_map]; omega) | (simp <;> omega))) fun a Z => aK Z Y de call83 rfl (mh hz (cut bz 1 (64 * q) (64 * q + 64) (slCap bz)) (blocks h0 (padded s) q) (((padded s).drop (64 * q)).take 64) _ (Y.ow 0 rfl) (by have h := ((Y.ow 1 rfl).cutm (l := (64 * q)) (h := (64 * q + 64)) om (by first | omega | (simp; omega))); rwa [show 64 * q + 64 - 64 * q = 64 from by omega] at h) (by simp; omega)) ?_
  clear Z Y
  intro a w4 x4 hp Z Y
  revert x4 hp Z Y; rintro v3 hp Z Y
  clear hp
  replace Y : St No w0 [_, _, _] w4 := Y
  refine wla Z rfl fun a Z => ab <| hK8 _ _ ?_
  replace Z := Z.p4 2 4 5 3 rfl
  refine ao <| wlm Z rfl fun a Z => wlv Z (aV rfl rfl ⟨om, om⟩) fun a Z => wla Z rfl fun a Z => ab ?_
  replace Y : St No w0 [_, _, _] w4 := Y
  rw [show ((64 * q : Nat) : Int) + 64 = ((64 * (q + 1) : Nat) : Int) from by omega] at Z
  refine ⟨_, ?_, q + 1, v3, rfl, om, Z.pick [2, 4, 3, 5], Y.select [0, 2] de⟩
  omega
 rw [hc2] at Z
 try simp only [qz] at hc2
 have hpl := eN s
 obtain rfl : q = (padded s).length / 64 := by omega
 refine aJ <| hK4 _ _ <| aa fun K9 hK9 => wla Z rfl fun a Z => ab (hK9 _ _ ?_)
 replace Z := Z.p3 2 3 6 rfl
 refine ae fun K10 hK10 => aa fun K11 hK11 => wla Z rfl fun a Z => ab (hK11 _ _ <| aq ?_)
 replace Y : St No w0 [own (.slice none 0 0) 5 1 (((blocks h0 (padded s) ((padded s).length / 64)).out.take (4 * 0)).map fun b => [yv b]), own hz 116 1 (((blocks h0 (padded s) ((padded s).length / 64)).l).map fun x => [wv x]), own bz 5 1 ((padded s).map fun b => [yv b])] w3 := Y.nil_own
 refine aR (fun m a w => ∃ (r : Nat) (oz : Value), m = 8 - r ∧ (r ≤ 8) ∧ Fr 56 [(2, sv ([])), (3, hz), (6, oz), (7, iv (r : Int))] [] a ∧ St No w0 [own oz 5 1 (((blocks h0 (padded s) ((padded s).length / 64)).out.take (4 * r)).map fun b => [yv b]), own hz 116 1 (((blocks h0 (padded s) ((padded s).length / 64)).l).map fun x => [wv x])] w) _ ⟨0, .slice none 0 0, rfl, Nat.zero_le _, Z.pick [2, 3, 6, 7], Y.select [0, 1] de⟩ ?_
 rintro _ a w5 ⟨r, oz, rfl, hr, Z, Y⟩
 refine ae fun K12 hK12 => aa fun K13 hK13 => wlm Z rfl fun a Z => wlv Z (v_lt rfl rfl) fun a Z => ab (hK13 _ _ ?_)
 refine ax Z rfl (fun hc5 => ?_) (fun hc5 => ?_)
 ·rw [hc5] at Z
  try simp only [qz] at hc5
  refine ar <| hK12 _ _ <| ae fun K14 hK14 => aq <| aF kr (aG kr fun w6 hxz => ?_)
  replace Y := Y.grow hxz
  refine aT (k := 0) 25 [0, 24] Z kr kr kr rfx ?_
  replace Z := Z.p6 2 3 6 7 24 25 rfl
  refine aA [24] (fun i => match i with | 24 => pm (fun b : Nat => .slice (some ⟨b, 0, none⟩) 4 4) (fun b => [own (.slice (some ⟨b, 0, none⟩) 4 4) 5 1 [[yv (UInt8.ofNat (((blocks h0 (padded s) ((padded s).length / 64)).l.getD r 0#32) >>> 24).toNat)], [yv (UInt8.ofNat (((blocks h0 (padded s) ((padded s).length / 64)).l.getD r 0#32) >>> 16).toNat)], [yv (UInt8.ofNat (((blocks h0 (padded s) ((padded s).length / 64)).l.getD r 0#32) >>> 8).toNat)], [yv (UInt8.ofNat ((blocks h0 (padded s) ((padded s).length / 64)).l.getD r 0#32).toNat)]]]) (fun _ => True) | _ => fun _ _ => False) 25 [[], [], [], [1, 2], [3], [4], [5], [], [], [7, 8], [9], [10], [11], [], [], [13, 14], [15], [16], [17], [], [], [19, 20], [21], [22], [6, 12, 18, 23]] [oz, hz, iv (r : Int), slAddr hz (r * 1), wv ((blocks h0 (padded s) ((padded s).length / 64)).l.getD r 0#32), wv (((blocks h0 (padded s) ((padded s).length / 64)).l.getD r 0#32) >>> 24), yv (UInt8.ofNat (((blocks h0 (padded s) ((padded s).length / 64)).l.getD r 0#32) >>> 24).toNat), hz, iv (r : Int), slAddr hz (r * 1), wv ((blocks h0 (padded s) ((padded s).length / 64)).l.getD r 0#32), wv (((blocks h0 (padded s) ((padded s).length / 64)).l.getD r 0#32) >>> 16), yv (UInt8.ofNat (((blocks h0 (padded s) ((padded s).length / 64)).l.getD r 0#32) >>> 16).toNat), hz, iv (r : Int), slAddr hz (r * 1), wv ((blocks h0 (padded s) ((padded s).length / 64)).l.getD r 0#32), wv (((blocks h0 (padded s) ((padded s).length / 64)).l.getD r 0#32) >>> 8), yv (UInt8.ofNat (((blocks h0 (padded s) ((padded s).length / 64)).l.getD r 0#32) >>> 8).toNat), hz, iv (r : Int), slAddr hz (r * 1), wv ((blocks h0 (padded s) ((padded s).length / 64)).l.getD r 0#32), yv (UInt8.ofNat ((blocks h0 (padded s) ((padded s).length / 64)).l.getD r 0#32).toNat), undef] Z Y kr kr kr ?_ ?_ ?_
  ·intro i hi hiq
   match i, hi, hiq with
   | 0, _, _ => exact fun w Y => OpV.g (ah rfl)
   | 1, _, _ => exact fun w Y => OpV.g (ah rfl)
   | 2, _, _ => exact fun w Y => OpV.g (ah rfl)
   | 3, _, _ => exact fun w Y => OpV.g ((aj (i := (r : Int)) (sT := 117) (Y.ow 1 rfl) rfl rfl (runUnderlying117 _) (sizeOf116 _) om (by rw [List.length_map]; first | omega | (rw [W8.l_len]; omega))).as (v' := slAddr hz (r * 1)) rfl)
   | 4, _, _ => exact fun w Y => OpV.g (au (u := wv ((blocks h0 (padded s) ((padded s).length / 64)).l.getD r 0#32)) (i := r) (j := 0) (Y.ow 1 rfl) (by rw [List.length_map]; first | omega | (rw [W8.l_len]; omega)) rfl (isAgg116 _) (by rw [br 0#32]; rfl))
   | 5, _, _ => exact fun w Y => OpV.g (dv (n := 24) rfl rfl)
   | 6, _, _ => exact fun w Y => OpV.g (dB rfl kr underlying5)
   | 7, _, _ => exact fun w Y => OpV.g (ah rfl)
   | 8, _, _ => exact fun w Y => OpV.g (ah rfl)
   | 9, _, _ => exact fun w Y => OpV.g ((aj (i := (r : Int)) (sT := 117) (Y.ow 1 rfl) rfl rfl (runUnderlying117 _) (sizeOf116 _) om (by rw [List.length_map]; first | omega | (rw [W8.l_len]; omega))).as (v' := slAddr hz (r * 1)) rfl)
   | 10, _, _ => exact fun w Y => OpV.g (au (u := wv ((blocks h0 (padded s) ((padded s).length / 64)).l.getD r 0#32)) (i := r) (j := 0) (Y.ow 1 rfl) (by rw [List.length_map]; first | omega | (rw [W8.l_len]; omega)) rfl (isAgg116 _) (by rw [br 0#32]; rfl))
   | 11, _, _ => exact fun w Y => OpV.g (dv (n := 16) rfl rfl)
   | 12, _, _ => exact fun w Y => OpV.g (dB rfl kr underlying5)
   | 13, _, _ => exact fun w Y => OpV.g (ah rfl)
   | 14, _, _ => exact fun w Y => OpV.g (ah rfl)
   | 15, _, _ => exact fun w Y => OpV.g ((aj (i := (r : Int)) (sT := 117) (Y.ow 1 rfl) rfl rfl (runUnderlying117 _) (sizeOf116 _) om (by rw [List.length_map]; first | omega | (rw [W8.l_len]; omega))).as (v' := slAddr hz (r * 1)) rfl)
   | 16, _, _ => exact fun w Y => OpV.g (au (u := wv ((blocks h0 (padded s) ((padded s).length / 64)).l.getD r 0#32)) (i := r) (j := 0) (Y.ow 1 rfl) (by rw [List.length_map]; first | omega | (rw [W8.l_len]; omega)) rfl (isAgg116 _) (by rw [br 0#32]; rfl))
   | 17, _, _ => exact fun w Y => OpV.g (dv (n := 8) rfl rfl)
   | 18, _, _ => exact fun w Y => OpV.g (dB rfl kr underlying5)
   | 19, _, _ => exact fun w Y => OpV.g (ah rfl)
   | 20, _, _ => exact fun w Y => OpV.g (ah rfl)
   | 21, _, _ => exact fun w Y => OpV.g ((aj (i := (r : Int)) (sT := 117) (Y.ow 1 rfl) rfl rfl (runUnderlying117 _) (sizeOf116 _) om (by rw [List.length_map]; first | omega | (rw [W8.l_len]; omega))).as (v' := slAddr hz (r * 1)) rfl)
   | 22, _, _ => exact fun w Y => OpV.g (au (u := wv ((blocks h0 (padded s) ((padded s).length / 64)).l.getD r 0#32)) (i := r) (j := 0) (Y.ow 1 rfl) (by rw [List.length_map]; first | omega | (rw [W8.l_len]; omega)) rfl (isAgg116 _) (by rw [br 0#32]; rfl))
   | 23, _, _ => exact fun w Y => OpV.g (dB rfl kr underlying5)
   | 24, _, h => exact absurd sm h
   | i + 25, h, _ => exact absurd h om
  ·intro i hi
   simp only [List.mem_cons, List.not_mem_nil, or_false] at hi
   subst hi
   ·intro w Y
    exact aX (E := 5) (sz := 1) rfl [[yv (UInt8.ofNat (((blocks h0 (padded s) ((padded s).length / 64)).l.getD r 0#32) >>> 24).toNat)], [yv (UInt8.ofNat (((blocks h0 (padded s) ((padded s).length / 64)).l.getD r 0#32) >>> 16).toNat)], [yv (UInt8.ofNat (((blocks h0 (padded s) ((padded s).length / 64)).l.getD r 0#32) >>> 8).toNat)], [yv (UInt8.ofNat ((blocks h0 (padded s) ((padded s).length / 64)).l.getD r 0#32).toNat)]] (fun _ => by kernel_rfl) sm rfl de
  clear Z Y
  rintro _ _ ⟨b6, rfl, -, rfl⟩ a w7 Z Y
  replace Z : Fr 56 [(28, oz), (29, hz), (30, iv (r : Int)), (31, slAddr hz (r * 1)), (32, wv ((blocks h0 (padded s) ((padded s).length / 64)).l.getD r 0#32)), (33, wv (((blocks h0 (padded s) ((padded s).length / 64)).l.getD r 0#32) >>> 24)), (34, yv (UInt8.ofNat (((blocks h0 (padded s) ((padded s).length / 64)).l.getD r 0#32) >>> 24).toNat)), (35, hz), (36, iv (r : Int)), (37, slAddr hz (r * 1)), (38, wv ((blocks h0 (padded s) ((padded s).length / 64)).l.getD r 0#32)), (39, wv (((blocks h0 (padded s) ((padded s).length / 64)).l.getD r 0#32) >>> 16)), (40, yv (UInt8.ofNat (((blocks h0 (padded s) ((padded s).length / 64)).l.getD r 0#32) >>> 16).toNat)), (41, hz), (42, iv (r : Int)), (43, slAddr hz (r * 1)), (44, wv ((blocks h0 (padded s) ((padded s).length / 64)).l.getD r 0#32)), (45, wv (((blocks h0 (padded s) ((padded s).length / 64)).l.getD r 0#32) >>> 8)), (46, yv (UInt8.ofNat (((blocks h0 (padded s) ((padded s).length / 64)).l.getD r 0#32) >>> 8).toNat)), (47, hz), (48, iv (r : Int)), (49, slAddr hz (r * 1)), (50, wv ((blocks h0 (padded s) ((padded s).length / 64)).l.getD r 0#32)), (51, yv (UInt8.ofNat ((blocks h0 (padded s) ((padded s).length / 64)).l.getD r 0#32).toNat)), (52, _), (2, _), (3, _), (6, _), (7, _), (24, _), (25, _)] [] a := Z
  replace Y : St No w0 [_, _, _] w7 := Y
  refine ab <| aP (k := 25) 27 [26] kr kr kr ?_
  refine aN (i := 1) (sT := 68) (inf := Tryz.t5) (z := yv (0 : UInt8)) (b := 0) (off := 0) (m := 0) (c := 0) rfl rfl rfl (Y.ow 0 rfl) sm underlying68 rfl rfl rfl rfl de (by simp [Value.oneCell', yv, wv, sv]) (by have hby : Tryz.t5.bytes = 1 := rfl; simp only [big, hby, List.length_append, List.length_map, List.length_take, fV, List.length_cons, List.length_nil]; omega) (by have hby : Tryz.t5.bytes = 1 := rfl; simp only [big, hby, List.length_append, List.length_map, List.length_take, fV, List.length_cons, List.length_nil]; omega) de Z Y fun a w8 s7 Z Y _ => wla Z rfl fun a Z => ab <| aS kr ?_
  refine hK14 _ _ ?_
  replace Z := Z.p4 2 3 7 6 rfl
  replace Y := Y.k2 6 rfl
  refine ao <| wlm Z rfl fun a Z => wlv Z (aV rfl rfl ⟨om, om⟩) fun a Z => wla Z rfl fun a Z => ab ?_
  rw [show (((blocks h0 (padded s) ((padded s).length / 64)).out.take (4 * r)).map fun b => [yv b]) ++ ([[yv (UInt8.ofNat (((blocks h0 (padded s) ((padded s).length / 64)).l.getD r 0#32) >>> 24).toNat)], [yv (UInt8.ofNat (((blocks h0 (padded s) ((padded s).length / 64)).l.getD r 0#32) >>> 16).toNat)], [yv (UInt8.ofNat (((blocks h0 (padded s) ((padded s).length / 64)).l.getD r 0#32) >>> 8).toNat)], [yv (UInt8.ofNat ((blocks h0 (padded s) ((padded s).length / 64)).l.getD r 0#32).toNat)]]) = (((blocks h0 (padded s) ((padded s).length / 64)).out.take (4 * (r + 1))).map fun b => [yv b]) from by rw [nT _ om]; simp] at Y
  refine ⟨_, ?_, r + 1, s7, rfl, om, Z.pick [2, 3, 6, 7], Y.select [0, 1] de⟩
  omega
 rw [hc5] at Z
 try simp only [qz] at hc5
 obtain rfl : r = 8 := by omega
 rw [show 4 * 8 = 32 from rfl, List.take_of_length_le (by rw [fV]; decide)] at Y
 refine aJ <| hK10 _ _ <| aa fun K15 hK15 => wlm Z rfl fun a Z => wlv Z (di (Y.ow 0 rfl) rfl underlying68 underlying5 underlying9) fun a Z => wla Z rfl fun a Z => ab (hK15 _ _ ?_)
 replace Z := Z.p1 2 rfl
 refine ap ?_
 refine al Z results45 (ac rfl ag) ?_
 exact ⟨by rfl, Y.ext⟩
theorem na (s : By) (w0 : World) (hs : s.length ≤ 40000000) :
  Ret Tryz.prog 80 #[sv s] w0 fun v w => v = sv (leafH sha s) ∧ Ext No w0 w := by
 refine aD func80 rfl ntmps80 (lb rfl) fun a Z => ?_
 replace Z := Z.p1 0 rfl
 replace Y : St No w0 [] w0 := St.init w0
 refine aa fun K1 hK1 => wla Z rfl fun a Z => ab (hK1 _ _ <| aa fun K2 hK2 => ?_)
 refine wlm Z rfl fun a Z => wlv Z (bS rfl rfl (by (simp only [List.length_append, List.length_cons, List.length_nil]); omega)) fun a Z => am Z Y de call45 rfl (dS (([0]) ++ s) _ (by simp only [List.length_append, List.length_cons, List.length_nil]; omega)) ?_
 clear Z Y
 intro a w1 Z Y
 refine wla Z rfl fun a Z => ab (hK2 _ _ <| ap ?_)
 refine al Z results80 (ac rfl ag) ?_
 exact ⟨by rfl, Y.ext⟩
theorem fa (s t : By) (w0 : World) (hs : s.length ≤ 40000000) (ht : t.length ≤ 40000000) :
  Ret Tryz.prog 62 #[sv s, sv t] w0 fun v w => v = sv (nodeH sha s t) ∧ Ext No w0 w := by
 refine aD func62 rfl ntmps62 (lb rfl) fun a Z => ?_
 replace Z := Z.p2 0 1 rfl
 replace Y : St No w0 [] w0 := St.init w0
 refine aa fun K1 hK1 => wla Z rfl fun a Z => ab (hK1 _ _ <| aa fun K2 hK2 => ?_)
 refine wlm Z rfl fun a Z => wlv Z (bS rfl rfl (by (simp only [List.length_append, List.length_cons, List.length_nil]); omega)) fun a Z => wlm Z rfl fun a Z => wlv Z (bS rfl rfl (by (simp only [List.length_append, List.length_cons, List.length_nil]); omega)) fun a Z => am Z Y de call45 rfl (dS ((([1]) ++ s) ++ t) _ (by simp only [List.length_append, List.length_cons, List.length_nil]; omega)) ?_
 clear Z Y
 intro a w1 Z Y
 refine wla Z rfl fun a Z => ab (hK2 _ _ ?_)
 replace Z := Z.p1 4 rfl
 refine ap ?_
 refine al Z results62 (ac rfl ag) ?_
 exact ⟨by rfl, Y.ext⟩
theorem j0 {l : List By} (h : l.length = 1) : rootH sha l = leafH sha (l.getD 0 []) := by
 match l, h with
 | [x], _ => rfl
theorem dD (L : Nat) :
  ∀ (lv : Value) (ls : List By) (w0 : World), ls.length = L → SlAt w0 lv 1 (ls.map fun s => [sv s]) → ls.length ≤ 1000 → (∀ s ∈ ls, s.length ≤ 40000000) → Ret Tryz.prog 43 #[lv] w0 fun v w => v = sv (rootH sha ls) ∧ Ext No w0 w := by
 induction L using Nat.strongRecOn
 rename_i L ih
 intro lv ls w0 hL hlv hln hls
 have hnb := hlv.le
 rw [List.length_map] at hnb
 refine aD func43 rfl ntmps43 (lb rfl) fun a Z => ?_
 replace Z := Z.p1 0 rfl
 replace Y : St No w0 [] w0 := St.init w0
 refine aa fun K1 hK1 => wla Z rfl fun a Z => ab (hK1 _ _ <| ae fun K2 hK2 => ?_)
 refine aa fun K3 hK3 => wlm Z rfl fun a Z => wlv Z ((aE (sT := 26) (Y.arg hlv) rfl rfl (runUnderlying26 _)).asi (m' := (ls.length : Int)) sm) fun a Z => wlv Z (v_eq rfl rfl) fun a Z => ab (hK3 _ _ ?_)
 refine ax Z rfl (fun hc1 => ?_) (fun hc1 => ?_)
 ·rw [hc1] at Z
  try simp only [qz] at hc1
  refine aa fun K4 hK4 => am Z Y de call45 rfl (dS [] _ sm) ?_
  clear Z Y
  intro a w1 Z Y
  refine wla Z rfl fun a Z => ab (hK4 _ _ <| ap ?_)
  refine al Z results43 (ac rfl ag) ?_
  exact ⟨by simp only [retv]; rw [show ls = [] from List.eq_nil_of_length_eq_zero om]; rfl, Y.ext⟩
 rw [hc1] at Z
 try simp only [qz] at hc1
 refine ar <| hK2 _ _ <| ae fun K5 hK5 => aa fun K6 hK6 => wlm Z rfl fun a Z => wlv Z ((aE (sT := 26) (Y.arg hlv) rfl rfl (runUnderlying26 _)).asi (m' := (ls.length : Int)) sm) fun a Z => wlv Z (v_eq rfl rfl) fun a Z => ab (hK6 _ _ ?_)
 refine ax Z rfl (fun hc2 => ?_) (fun hc2 => ?_)
 ·rw [hc2] at Z
  try simp only [qz] at hc2
  have hx := hls _ (aW (d := []) (show 0 < ls.length by omega))
  refine aa fun K7 hK7 => wlm Z rfl fun a Z => wlv Z ((aj (i := 0) (sT := 26) (Y.arg hlv) rfl rfl (runUnderlying26 _) (sizeOf9 _) om (by rw [List.length_map]; omega)).as (v' := slAddr lv (0 * 1)) rfl) fun a Z => ?_
  refine wlv Z (au (u := sv (ls.getD 0 [])) (i := 0) (j := 0) (Y.arg hlv) (by rw [List.length_map]; omega) rfl (isAgg9 _) (by simp [List.getD_eq_getElem?_getD, List.getElem?_eq_getElem (show 0 < ls.length by omega)])) fun a Z => ?_
  refine am Z Y de call80 rfl (na (ls.getD 0 []) _ om) ?_
  clear Z Y
  intro a w2 Z Y
  refine wla Z rfl fun a Z => ab (hK7 _ _ ?_)
  replace Z := Z.p2 0 2 rfl
  refine ap ?_
  refine al Z results43 (ac rfl ag) ?_
  exact ⟨by simp only [retv]; rw [j0 om]; try rfl, Y.ext⟩
 rw [hc2] at Z
 try simp only [qz] at hc2
 have hlt := bG (n := ls.length) om
 have hlp := bB ls.length
 refine ar <| hK5 _ _ <| aa fun K8 hK8 => wlm Z rfl fun a Z => wlv Z ((aE (sT := 26) (Y.arg hlv) rfl rfl (runUnderlying26 _)).asi (m' := (ls.length : Int)) sm) fun a Z => am Z Y de call61 rfl (eZ ls.length _ om om) ?_
 clear Z Y
 intro a w3 Z Y
 refine wla Z rfl fun a Z => ab (hK8 _ _ ?_)
 replace Z := Z.p3 0 2 3 rfl
 refine ae fun K9 hK9 => aF kr (aG kr fun w4 hxz => ?_)
 replace Y := Y.grow hxz
 refine aT (k := 0) 7 [3, 6] Z kr kr kr rfx ?_
 replace Z := Z.p3 0 2 3 rfl
 refine aA [] (fun i => match i with | _ => fun _ _ => False) 7 [[], [], [0, 1], [2], [], [], [4, 5]] [lv, iv (lft ls.length : Int), (cut lv 1 0 (lft ls.length) (slCap lv)), sv (rootH sha (ls.take (lft ls.length))), lv, iv (lft ls.length : Int), (cut lv 1 (lft ls.length) ls.length (slCap lv))] Z Y kr kr kr ?_ ?_ ?_
 ·intro i hi hiq
  match i, hi, hiq with
  | 0, _, _ => exact fun w Y => OpV.g (ah rfl)
  | 1, _, _ => exact fun w Y => OpV.g (ah rfl)
  | 2, _, _ => exact fun w Y => OpV.g (bd (l := 0) (h := (lft ls.length)) (Y.arg hlv) rfl rfl rfl underlying26 kr (.inl ⟨rfl, rfl⟩) (.inr (by rw [show ((lft ls.length : Int) : Int) = (((lft ls.length) : Nat) : Int) from by omega] <;> rfl)) (Nat.zero_le _) (by first | (rw [List.length_map]; omega) | (simp <;> omega)))
  | 3, _, _ => exact fun w Y => bw call43 rfl (ih _ (by simp only [List.length_take, List.length_drop]; omega) (cut lv 1 0 (lft ls.length) (slCap lv)) (ls.take (lft ls.length)) _ rfl ((Y.arg hlv).cut0 (h := (lft ls.length)) (by first | omega | (rw [List.length_reverse]; omega) | simp | (simp; omega))) (by simp only [List.length_take, List.length_drop]; omega) (fun s h => hls s (List.mem_of_mem_take h)))
  | 4, _, _ => exact fun w Y => OpV.g (ah rfl)
  | 5, _, _ => exact fun w Y => OpV.g (ah rfl)
  | 6, _, _ => exact fun w Y => OpV.g (bd (l := (lft ls.length)) (h := ls.length) (Y.arg hlv) rfl rfl rfl underlying26 kr (.inr (by rw [show ((lft ls.length : Int) : Int) = (((lft ls.length) : Nat) : Int) from by omega] <;> rfl)) (.inl ⟨rfl, by simp⟩) om sm)
 ·intro i hi
  exact absurd hi sm
 clear Z Y
 intro  a w5 Z Y
 replace Z : Fr 27 [(18, lv), (19, iv (lft ls.length : Int)), (20, (cut lv 1 0 (lft ls.length) (slCap lv))), (21, sv (rootH sha (ls.take (lft ls.length)))), (22, lv), (23, iv (lft ls.length : Int)), (24, (cut lv 1 (lft ls.length) ls.length (slCap lv))), (0, _), (2, _), (3, _)] [] a := Z
 refine ab <| aP (k := 7) 10 [9] kr kr kr ?_
 refine am Z Y de call43 rfl (ih _ (by simp only [List.length_take, List.length_drop]; omega) (cut lv 1 (lft ls.length) ls.length (slCap lv)) (ls.drop (lft ls.length)) _ rfl ((Y.arg hlv).cutd (l := (lft ls.length)) (by first | omega | (rw [List.length_reverse]; omega) | simp | (simp; omega))) (by simp only [List.length_take, List.length_drop]; omega) (fun s h => hls s (List.mem_of_mem_drop h))) ?_
 clear Z Y
 intro a w6 Z Y
 refine am Z Y de call62 rfl (fa (rootH sha (ls.take (lft ls.length))) (rootH sha (ls.drop (lft ls.length))) _ (by first | omega | (rw [bc aZ]; decide)) (by first | omega | (rw [bc aZ]; decide))) ?_
 clear Z Y
 intro a w7 Z Y
 refine wla Z rfl fun a Z => ab <| aS kr ?_
 refine hK9 _ _ ?_
 replace Z := Z.p1 2 rfl
 refine ap ?_
 refine al Z results43 (ac rfl ag) ?_
 exact ⟨by simp only [retv]; rw [← ch sha om]; try rfl, Y.ext⟩
theorem gD {l : List By} {mi : Nat} {w : Bool} (h : l.length ≤ 1000) (h1 : 1 ≤ mi) (h2 : mi ≤ l.length) : (partH sha l mi w).length ≤ 11 := jR l.length l mi 10 w rfl h1 h2 om
theorem m5 (L : Nat) :
  ∀ (lv : Value) (ls : List By) (mi : Nat) (wh : Bool) (w0 : World), ls.length = L → SlAt w0 lv 1 (ls.map fun s => [sv s]) → 1 ≤ mi → mi ≤ ls.length → ls.length ≤ 1000 → (∀ s ∈ ls, s.length ≤ 40000000) → Ret Tryz.prog 86 #[lv, iv (mi : Int), .bool wh] w0 (MemR w0 (fun v : Value => v) (fun v => [own v 9 1 ((partH sha ls mi wh).map fun s => [sv s])]) (fun _ => True)) := by
 induction L using Nat.strongRecOn
 rename_i L ih
 intro lv ls mi wh w0 hL hlv hi0 hi hln hls
 have hnb := hlv.le
 rw [List.length_map] at hnb
 refine aD func86 rfl ntmps86 (lb rfl) fun a Z => ?_
 replace Z := Z.p3 0 1 2 rfl
 replace Y : St No w0 [] w0 := St.init w0
 refine aa fun K1 hK1 => wla Z rfl fun a Z => ab (hK1 _ _ <| ae fun K2 hK2 => ?_)
 refine aa fun K3 hK3 => wlm Z rfl fun a Z => wlm Z rfl fun a Z => wlv Z ((aE (sT := 26) (Y.arg hlv) rfl rfl (runUnderlying26 _)).asi (m' := (ls.length : Int)) sm) fun a Z => wlv Z (v_eq rfl rfl) fun a Z => ab (hK3 _ _ ?_)
 refine ax Z rfl (fun hc1 => ?_) (fun hc1 => ?_)
 ·rw [hc1] at Z
  try simp only [qz] at hc1
  obtain rfl : mi = ls.length := by omega
  refine ae fun K4 hK4 => aa fun K5 hK5 => wlm Z rfl fun a Z => ab (hK5 _ _ ?_)
  refine ax Z rfl (fun hc2 => ?_) (fun hc2 => ?_)
  ·rw [hc2] at Z
   try simp only [qz] at hc2
   refine aa fun K6 hK6 => wla Z rfl fun a Z => ab (hK6 _ _ <| ap ?_)
   refine al Z results86 (ac rfl ag) ?_
   have hW := (cM sha (l := ls) (w := wh)).trans (if_pos (by assumption))
   replace Y : St No w0 [own (.slice none 0 0) 9 1 (([] : List By).map fun s => [sv s])] w0 := Y.nil_own
   refine ⟨.slice none 0 0, rfl, trivial, Y.ext, St.out (E := [own (.slice none 0 0) 9 1 ((partH sha ls ls.length wh).map fun s => [sv s])]) (H := []) ?_⟩
   rw [show ((partH sha ls ls.length wh).map fun s => [sv s]) = (([] : List By).map fun s => [sv s]) from by first | (rw [hW]; done) | (rw [hW]; simp)]
   exact Y.select [0] de
  rw [hc2] at Z
  try simp only [qz] at hc2
  refine ar <| hK4 _ _ <| aa fun K7 hK7 => wlm Z rfl fun a Z => am Z Y de call43 rfl (dD _ lv ls _ rfl (Y.arg hlv) hln hls) ?_
  clear Z Y
  intro a w1 Z Y
  refine aC (E := 9) (sz := 1) rfl [[sv (rootH sha ls)]] kr sm rfl de de Z Y ?_
  clear Z Y
  intro a w2 Z Y
  refine wla Z rfl fun a Z => ab (hK7 _ _ ?_)
  replace Z := Z.p4 0 1 2 6 rfl
  refine ap ?_
  refine al Z results86 (ac rfl ag) ?_
  have hW := (cM sha (l := ls) (w := wh)).trans (if_neg (by simp_all))
  refine ⟨(.slice (some ⟨w1.hz, 0, none⟩) 1 1), rfl, trivial, Y.ext, St.out (E := [own (.slice (some ⟨w1.hz, 0, none⟩) 1 1) 9 1 ((partH sha ls ls.length wh).map fun s => [sv s])]) (H := []) ?_⟩
  rw [show ((partH sha ls ls.length wh).map fun s => [sv s]) = [[sv (rootH sha ls)]] from by first | (rw [hW]; done) | (rw [hW]; simp)]
  exact Y.select [0] de
 rw [hc1] at Z
 try simp only [qz] at hc1
 have hlt := bG (n := ls.length) om
 have hlp := bB ls.length
 refine ar <| hK2 _ _ <| aa fun K8 hK8 => wlm Z rfl fun a Z => wlv Z ((aE (sT := 26) (Y.arg hlv) rfl rfl (runUnderlying26 _)).asi (m' := (ls.length : Int)) sm) fun a Z => am Z Y de call61 rfl (eZ ls.length _ om om) ?_
 clear Z Y
 intro a w3 Z Y
 refine wla Z rfl fun a Z => ab (hK8 _ _ ?_)
 replace Z := Z.p5 0 1 2 6 7 rfl
 refine ae fun K9 hK9 => aa fun K10 hK10 => wlm Z rfl fun a Z => wlm Z rfl fun a Z => wlv Z (v_le rfl rfl) fun a Z => ab (hK10 _ _ ?_)
 refine ax Z rfl (fun hc3 => ?_) (fun hc3 => ?_)
 ·rw [hc3] at Z
  try simp only [qz] at hc3
  have hpl := gD (l := ls.take (lft ls.length)) (mi := mi) (w := wh) (by simp only [List.length_take, List.length_drop]; omega) om (by simp only [List.length_take, List.length_drop]; omega)
  refine ae fun K11 hK11 => aF kr (aG kr fun w4 hxz => ?_)
  replace Y := Y.grow hxz
  refine aT (k := 0) 9 [5, 8] Z kr kr kr rfx ?_
  replace Z := Z.p8 0 1 2 6 7 19 20 21 rfl
  refine aA [5] (fun i => match i with | 5 => pm (fun v : Value => v) (fun v => [own v 9 1 ((partH sha ((ls.take (lft ls.length))) mi wh).map fun s => [sv s])]) (fun _ => True) | _ => fun _ _ => False) 9 [[], [], [0, 1], [], [], [2, 3, 4], [], [], [6, 7]] [lv, iv (lft ls.length : Int), (cut lv 1 0 (lft ls.length) (slCap lv)), iv (mi : Int), .bool wh, undef, lv, iv (lft ls.length : Int), (cut lv 1 (lft ls.length) ls.length (slCap lv))] Z Y kr kr kr ?_ ?_ ?_
  ·intro i hi hiq
   match i, hi, hiq with
   | 0, _, _ => exact fun w Y => OpV.g (ah rfl)
   | 1, _, _ => exact fun w Y => OpV.g (ah rfl)
   | 2, _, _ => exact fun w Y => OpV.g (bd (l := 0) (h := (lft ls.length)) (Y.arg hlv) rfl rfl rfl underlying26 kr (.inl ⟨rfl, rfl⟩) (.inr (by rw [show ((lft ls.length : Int) : Int) = (((lft ls.length) : Nat) : Int) from by omega] <;> rfl)) (Nat.zero_le _) (by first | (rw [List.length_map]; omega) | (simp <;> omega)))
   | 3, _, _ => exact fun w Y => OpV.g (ah rfl)
   | 4, _, _ => exact fun w Y => OpV.g (ah rfl)
   | 5, _, h => exact absurd sm h
   | 6, _, _ => exact fun w Y => OpV.g (ah rfl)
   | 7, _, _ => exact fun w Y => OpV.g (ah rfl)
   | 8, _, _ => exact fun w Y => OpV.g (bd (l := (lft ls.length)) (h := ls.length) (Y.arg hlv) rfl rfl rfl underlying26 kr (.inr (by rw [show ((lft ls.length : Int) : Int) = (((lft ls.length) : Nat) : Int) from by omega] <;> rfl)) (.inl ⟨rfl, by simp⟩) om sm)
  ·intro i hi
   simp only [List.mem_cons, List.not_mem_nil, or_false] at hi
   subst hi
   ·intro w Y
    exact dO call86 rfl (ih _ (by simp only [List.length_take, List.length_drop]; omega) (cut lv 1 0 (lft ls.length) (slCap lv)) (ls.take (lft ls.length)) mi wh _ rfl ((Y.arg hlv).cut0 (h := (lft ls.length)) (by first | omega | (rw [List.length_reverse]; omega) | simp | (simp; omega))) om (by simp only [List.length_take, List.length_drop]; omega) (by simp only [List.length_take, List.length_drop]; omega) (fun s h => hls s (List.mem_of_mem_take h)))
  clear Z Y
  rintro v4 _ ⟨_, rfl, -, rfl⟩ a w5 Z Y
  replace Z : Fr 47 [(22, lv), (23, iv (lft ls.length : Int)), (24, (cut lv 1 0 (lft ls.length) (slCap lv))), (25, iv (mi : Int)), (26, .bool wh), (27, _), (28, lv), (29, iv (lft ls.length : Int)), (30, (cut lv 1 (lft ls.length) ls.length (slCap lv))), (0, _), (1, _), (2, _), (6, _), (7, _), (19, _), (20, _), (21, _)] [] a := Z
  replace Y : St No w0 [_] w5 := Y
  refine ab <| aP (k := 9) 13 [12] kr kr kr ?_
  refine am Z Y de call43 rfl (dD _ (cut lv 1 (lft ls.length) ls.length (slCap lv)) (ls.drop (lft ls.length)) _ rfl ((Y.arg hlv).cutd (l := (lft ls.length)) (by first | omega | (rw [List.length_reverse]; omega) | simp | (simp; omega))) (by simp only [List.length_take, List.length_drop]; omega) (fun s h => hls s (List.mem_of_mem_drop h))) ?_
  clear Z Y
  intro a w6 Z Y
  refine aC (E := 9) (sz := 1) rfl [[sv (rootH sha (ls.drop (lft ls.length)))]] kr sm rfl de de Z Y ?_
  clear Z Y
  intro a w7 Z Y
  refine aN (i := 1) (sT := 26) (inf := Tryz.t9) (z := .string (⟨#[]⟩)) (b := 0) (off := 0) (m := 0) (c := 0) rfl rfl rfl (Y.ow 0 rfl) sm underlying26 rfl rfl rfl rfl de (by simp [Value.oneCell', yv, wv, sv]) (by have hby : Tryz.t9.bytes = 16 := rfl; simp only [big, hby, List.length_append, List.length_map, List.length_cons, List.length_nil]; omega) (by have hby : Tryz.t9.bytes = 16 := rfl; simp only [big, hby, List.length_append, List.length_map, List.length_cons, List.length_nil]; omega) de Z Y fun a w8 s5 Z Y _ => wla Z rfl fun a Z => ab <| aS kr ?_
  refine hK11 _ _ ?_
  replace Z := Z.p4 0 1 7 6 rfl
  replace Y := Y.k1 2 rfl
  refine ap ?_
  refine al Z results86 (ac rfl ag) ?_
  have hW := (dj sha (l := ls) (m := mi) (w := wh) om om).trans (if_pos om)
  refine ⟨s5, rfl, trivial, Y.ext, St.out (E := [own s5 9 1 ((partH sha ls mi wh).map fun s => [sv s])]) (H := []) ?_⟩
  rw [show ((partH sha ls mi wh).map fun s => [sv s]) = ((partH sha ((ls.take (lft ls.length))) mi wh).map fun s => [sv s]) ++ ([[sv (rootH sha (ls.drop (lft ls.length)))]]) from by first | (rw [hW]; done) | (rw [hW]; simp)]
  exact Y.select [0] de
 rw [hc3] at Z
 try simp only [qz] at hc3
 have hpl := gD (l := ls.drop (lft ls.length)) (mi := (mi - lft ls.length)) (w := false) (by simp only [List.length_take, List.length_drop]; omega) om (by simp only [List.length_take, List.length_drop]; omega)
 refine ar <| hK9 _ _ <| ae fun K12 hK12 => aF kr (aG kr fun w9 hxz => ?_)
 replace Y := Y.grow hxz
 refine aT (k := 0) 10 [6, 9] Z kr kr kr rfx ?_
 replace Z := Z.p8 0 1 2 6 7 19 20 21 rfl
 refine aA [6] (fun i => match i with | 6 => pm (fun v : Value => v) (fun v => [own v 9 1 ((partH sha ((ls.drop (lft ls.length))) (mi - lft ls.length) false).map fun s => [sv s])]) (fun _ => True) | _ => fun _ _ => False) 10 [[], [], [0, 1], [], [], [3, 4], [2, 5], [], [], [7, 8]] [lv, iv (lft ls.length : Int), (cut lv 1 (lft ls.length) ls.length (slCap lv)), iv (mi : Int), iv (lft ls.length : Int), iv ((mi - lft ls.length : Nat) : Int), undef, lv, iv (lft ls.length : Int), (cut lv 1 0 (lft ls.length) (slCap lv))] Z Y kr kr kr ?_ ?_ ?_
 ·intro i hi hiq
  match i, hi, hiq with
  | 0, _, _ => exact fun w Y => OpV.g (ah rfl)
  | 1, _, _ => exact fun w Y => OpV.g (ah rfl)
  | 2, _, _ => exact fun w Y => OpV.g (bd (l := (lft ls.length)) (h := ls.length) (Y.arg hlv) rfl rfl rfl underlying26 kr (.inr (by rw [show ((lft ls.length : Int) : Int) = (((lft ls.length) : Nat) : Int) from by omega] <;> rfl)) (.inl ⟨rfl, by simp⟩) om sm)
  | 3, _, _ => exact fun w Y => OpV.g (ah rfl)
  | 4, _, _ => exact fun w Y => OpV.g (ah rfl)
  | 5, _, _ => exact fun w Y => OpV.g ((bh rfl rfl ⟨om, om⟩).asi (m' := ((mi - lft ls.length : Nat) : Int)) om)
  | 6, _, h => exact absurd sm h
  | 7, _, _ => exact fun w Y => OpV.g (ah rfl)
  | 8, _, _ => exact fun w Y => OpV.g (ah rfl)
  | 9, _, _ => exact fun w Y => OpV.g (bd (l := 0) (h := (lft ls.length)) (Y.arg hlv) rfl rfl rfl underlying26 kr (.inl ⟨rfl, rfl⟩) (.inr (by rw [show ((lft ls.length : Int) : Int) = (((lft ls.length) : Nat) : Int) from by omega] <;> rfl)) (Nat.zero_le _) (by first | (rw [List.length_map]; omega) | (simp <;> omega)))
 ·intro i hi
  simp only [List.mem_cons, List.not_mem_nil, or_false] at hi
  subst hi
  ·intro w Y
   exact dO call86 rfl (ih _ (by simp only [List.length_take, List.length_drop]; omega) (cut lv 1 (lft ls.length) ls.length (slCap lv)) (ls.drop (lft ls.length)) (mi - lft ls.length) false _ rfl ((Y.arg hlv).cutd (l := (lft ls.length)) (by first | omega | (rw [List.length_reverse]; omega) | simp | (simp; omega))) om (by simp only [List.length_take, List.length_drop]; omega) (by simp only [List.length_take, List.length_drop]; omega) (fun s h => hls s (List.mem_of_mem_drop h)))
 clear Z Y
 rintro v6 _ ⟨_, rfl, -, rfl⟩ a w10 Z Y
 replace Z : Fr 47 [(34, lv), (35, iv (lft ls.length : Int)), (36, (cut lv 1 (lft ls.length) ls.length (slCap lv))), (37, iv (mi : Int)), (38, iv (lft ls.length : Int)), (39, iv ((mi - lft ls.length : Nat) : Int)), (40, _), (41, lv), (42, iv (lft ls.length : Int)), (43, (cut lv 1 0 (lft ls.length) (slCap lv))), (0, _), (1, _), (2, _), (6, _), (7, _), (19, _), (20, _), (21, _)] [] a := Z
 replace Y : St No w0 [_] w10 := Y
 refine ab <| aP (k := 10) 14 [13] kr kr kr ?_
 refine am Z Y de call43 rfl (dD _ (cut lv 1 0 (lft ls.length) (slCap lv)) (ls.take (lft ls.length)) _ rfl ((Y.arg hlv).cut0 (h := (lft ls.length)) (by first | omega | (rw [List.length_reverse]; omega) | simp | (simp; omega))) (by simp only [List.length_take, List.length_drop]; omega) (fun s h => hls s (List.mem_of_mem_take h))) ?_
 clear Z Y
 intro a w11 Z Y
 refine aC (E := 9) (sz := 1) rfl [[sv (rootH sha (ls.take (lft ls.length)))]] kr sm rfl de de Z Y ?_
 clear Z Y
 intro a w12 Z Y
 refine aN (i := 1) (sT := 26) (inf := Tryz.t9) (z := .string (⟨#[]⟩)) (b := 0) (off := 0) (m := 0) (c := 0) rfl rfl rfl (Y.ow 0 rfl) sm underlying26 rfl rfl rfl rfl de (by simp [Value.oneCell', yv, wv, sv]) (by have hby : Tryz.t9.bytes = 16 := rfl; simp only [big, hby, List.length_append, List.length_map, List.length_cons, List.length_nil]; omega) (by have hby : Tryz.t9.bytes = 16 := rfl; simp only [big, hby, List.length_append, List.length_map, List.length_cons, List.length_nil]; omega) de Z Y fun a w13 s7 Z Y _ => wla Z rfl fun a Z => ab <| aS kr ?_
 refine hK12 _ _ ?_
 replace Z := Z.p1 6 rfl
 replace Y := Y.k1 2 rfl
 refine ap ?_
 refine al Z results86 (ac rfl ag) ?_
 have hW := (dj sha (l := ls) (m := mi) (w := wh) om om).trans (if_neg om)
 refine ⟨s7, rfl, trivial, Y.ext, St.out (E := [own s7 9 1 ((partH sha ls mi wh).map fun s => [sv s])]) (H := []) ?_⟩
 rw [show ((partH sha ls mi wh).map fun s => [sv s]) = ((partH sha ((ls.drop (lft ls.length))) (mi - lft ls.length) false).map fun s => [sv s]) ++ ([[sv (rootH sha (ls.take (lft ls.length)))]]) from by first | (rw [hW]; done) | (rw [hW]; simp)]
 exact Y.select [0] de
theorem pf (lv : Value) (ls : List By) (i : Nat) (w0 : World) (hlv : SlAt w0 lv 1 (ls.map fun s => [sv s])) (hi : i ≤ ls.length) (hln : ls.length ≤ 1000) (hls : ∀ s ∈ ls, s.length ≤ 40000000) :
  Ret Tryz.prog 54 #[lv, iv (i : Int)] w0 (MemR w0 (fun v : Value => .tuple #[v, iv 0]) (fun v => [own v 9 1 ((extH sha ls i).map fun s => [sv s])]) (fun _ => True)) := by
 refine aD func54 rfl ntmps54 (lb rfl) fun a Z => ?_
 replace Z := Z.p2 0 1 rfl
 replace Y : St No w0 [] w0 := St.init w0
 refine aa fun K1 hK1 => wla Z rfl fun a Z => wla Z rfl fun a Z => ab (hK1 _ _ <| ae fun K2 hK2 => ?_)
 refine aa fun K3 hK3 => wlm Z rfl fun a Z => wlv Z (v_lt rfl rfl) fun a Z => wlm Z rfl fun a Z => ?_
 rcases Bool.eq_false_or_eq_true (decide ((i : Int) < 0)) with hb1 | hb1
 ·rw [hb1] at Z
  try simp only [qz] at hb1
  omega
 rw [hb1] at Z
 try simp only [qz] at hb1
 refine wly Z (ah rfl) fun a Z => wly Z (ah rfl) fun a Z => wly Z ((aE (sT := 26) (Y.arg hlv) rfl rfl (runUnderlying26 _)).asi (m' := (ls.length : Int)) sm) fun a Z => wly Z (v_gt rfl rfl) fun a Z => wlv Z (ay rfl rfl) fun a Z => ab (hK3 _ _ ?_)
 replace Z := Z.p5 0 1 4 5 13 rfl
 refine ax Z rfl (fun hc2 => ?_) (fun hc2 => ?_)
 ·rw [hc2] at Z
  try simp only [qz] at hc2
  omega
 rw [hc2] at Z
 try simp only [qz] at hc2
 refine ar <| hK2 _ _ <| ae fun K4 hK4 => aa fun K5 hK5 => wlm Z rfl fun a Z => wlv Z (v_eq rfl rfl) fun a Z => ab (hK5 _ _ ?_)
 refine ax Z rfl (fun hc3 => ?_) (fun hc3 => ?_)
 ·rw [hc3] at Z
  try simp only [qz] at hc3
  refine aa fun K6 hK6 => wla Z rfl fun a Z => wla Z rfl fun a Z => ab (hK6 _ _ <| ap ?_)
  refine al Z results54 (ac rfl (ac rfl ag)) ?_
  have hW := (show extH sha ls i = [] from if_pos om)
  replace Y : St No w0 [own (.slice none 0 0) 9 1 (([] : List By).map fun s => [sv s])] w0 := Y.nil_own
  refine ⟨.slice none 0 0, rfl, trivial, Y.ext, St.out (E := [own (.slice none 0 0) 9 1 ((extH sha ls i).map fun s => [sv s])]) (H := []) ?_⟩
  rw [show ((extH sha ls i).map fun s => [sv s]) = (([] : List By).map fun s => [sv s]) from by first | (rw [hW]; done) | (rw [hW]; simp)]
  exact Y.select [0] de
 rw [hc3] at Z
 try simp only [qz] at hc3
 refine ar <| hK4 _ _ <| aa fun K7 hK7 => wlm Z rfl fun a Z => wlm Z rfl fun a Z => aK Z Y de call86 rfl (m5 _ lv ls i true _ rfl (Y.arg hlv) om om hln hls) ?_
 clear Z Y
 intro a w1 x5 hp Z Y
 revert x5 hp Z Y; rintro v4 hp Z Y
 clear hp
 replace Y : St No w0 [_] w1 := Y
 refine wla Z rfl fun a Z => wla Z rfl fun a Z => ab (hK7 _ _ ?_)
 replace Z := Z.p2 4 5 rfl
 refine ap ?_
 refine al Z results54 (ac rfl (ac rfl ag)) ?_
 have hW := (show extH sha ls i = partH sha ls i true from if_neg om)
 refine ⟨v4, rfl, trivial, Y.ext, St.out (E := [own v4 9 1 ((extH sha ls i).map fun s => [sv s])]) (H := []) ?_⟩
 rw [show ((extH sha ls i).map fun s => [sv s]) = ((partH sha ls i true).map fun s => [sv s]) from by first | (rw [hW]; done) | (rw [hW]; simp)]
 exact Y.select [0] de
theorem mR {f z : Nat} (h : z < 128 ^ (f + 1)) (hz : 128 ≤ z) : ∃ g, f = g + 1 := by
 cases f with
 | zero => exfalso; simp at h; omega
 | succ g => exact ⟨g, rfl⟩
theorem jk {f z : Nat} (h : z < 128 ^ (f + 1 + 1)) : z / 128 < 128 ^ (f + 1) := by
 rw [Nat.pow_succ] at h
 exact Nat.div_lt_of_lt_mul (by rw [Nat.mul_comm]; exact h)
theorem oY {f z : Nat} (h : 128 ≤ z) : vb (f + 1) z = UInt8.ofNat (z % 128 + 128) :: vb f (z / 128) := by rw [vb, if_neg om]
theorem pr {f z : Nat} (h : z < 128) : vb f z = [UInt8.ofNat z] := by cases f <;> simp [vb, h]
theorem k7 {n : Int} (h : small n) : zz n < 128 ^ (8 + 1) := by
 have := jY h.1 h.2
 have e : (128 : Nat) ^ (8 + 1) = 9223372036854775808 := by decide
 rw [e]; exact this
theorem mZ {n : Int} (h : small n) : zz n < 18446744073709551616 := by have := jY h.1 h.2; omega
def gs : Nat → Nat → List (UInt8 × Bool)
 | 0, z => [(UInt8.ofNat (z % 128), true)]
 | f + 1, z => if z < 128 then [(UInt8.ofNat (z % 128), true)] else (UInt8.ofNat (z % 128), false) :: gs f (z / 128)
def enc1 (x : UInt8 × Bool) : UInt8 := if x.2 then x.1 else x.1 ||| 128
def encG (x : UInt8 × Bool) : List Value := [yv x.1, .bool x.2]
def NxG (pre : List (UInt8 × Bool)) (x : UInt8 × Bool) : Prop := pre.length < 9
theorem pL {f z : Nat} (h : ¬ z < 128) : gs (f + 1) z = (UInt8.ofNat (z % 128), false) :: gs f (z / 128) := by rw [gs, if_neg h]
theorem pb {f z : Nat} (h : z < 128) : gs f z = [(UInt8.ofNat (z % 128), true)] := by cases f <;> simp [gs, h]
theorem or128 : ∀ k, k < 128 → UInt8.ofNat k ||| 128 = UInt8.ofNat (k + 128) := by decide
theorem pS : ∀ (f z : Nat), z < 128 ^ (f + 1) → (gs f z).map enc1 = vb f z
 | 0, z, h => by simp [gs, vb, enc1] at h ⊢; rw [Nat.mod_eq_of_lt h]
 | f + 1, z, h => by
  unfold gs vb
  split
  ·rename_i h1
   simp [enc1, Nat.mod_eq_of_lt h1]
  ·rw [List.map_cons, pS f _ (jk h), enc1]
   simp only [Bool.false_eq_true, if_false]
   rw [or128 _ (Nat.mod_lt _ de)]
def cu (n : Int) : Nat := (n % 18446744073709551616).toNat
theorem v_zz {P : Program} {w : World} {L : List (Nat × Value)} {dst : Option Tmp} {T T' ty : TypeId} {pos : String} {af : Array Edge} {gd : Option (Nat × Bool)} {x y : Operand} {n : Int} (hs : small n)
  (hx : ev L x = some (.int .u64 ((cu n * 2 % 18446744073709551616 : Nat) : Int))) (hy : ev L y = some (.int .u64 ((cu (if n < 0 then -1 else 0) : Nat) : Int))) : OpV P ⟨dst, .binOp .xor T x y T', ty, pos, af, gd⟩ L w (.int .u64 ((zz n : Nat) : Int)) := by
 have h1 := hs.1
 have h2 := hs.2
 by_cases hn : n < 0
 ·rw [if_pos hn] at hy
  have e : zz n = 18446744073709551615 - cu n * 2 % 18446744073709551616 := by unfold zz cu; rw [if_pos hn]; omega
  rw [e]
  exact pd (Nat.mod_lt _ de) hx (by rw [hy]; rfl)
 ·rw [if_neg hn] at hy
  have e : zz n = cu n * 2 % 18446744073709551616 := by unfold zz cu; rw [if_neg hn]; omega
  rw [e]
  exact oQ (Nat.mod_lt _ de) hx (by rw [hy]; rfl)
theorem mu (n : Int) (w0 : World) (hs : small n) :
  Ret Tryz.prog 81 #[iv n] w0 fun v w => v = .int .u64 ((zz n : Nat) : Int) ∧ Ext No w0 w := by
 have hs1 := hs.1
 have hs2 := hs.2
 refine aD func81 rfl ntmps81 (lb rfl) fun a Z => ?_
 replace Z := Z.p1 0 rfl
 replace Y : St No w0 [] w0 := St.init w0
 refine aa fun K1 hK1 => wla Z rfl fun a Z => ab (hK1 _ _ <| ae fun K2 hK2 => ?_)
 refine aa fun K3 hK3 => wlm Z rfl fun a Z => wlv Z (v_lt rfl rfl) fun a Z => ab (hK3 _ _ ?_)
 refine ax Z rfl (fun hc1 => ?_) (fun hc1 => ?_)
 ·rw [hc1] at Z
  try simp only [qz] at hc1
  refine aa fun K4 hK4 => wlm Z rfl fun a Z => wlv Z (jl rfl om om) fun a Z => wlv Z ((c8 rfl kr underlying114).asi (m' := (((-n).toNat : Nat) : Int)) om) fun a Z => wlv Z (nf (m := (-n).toNat) (n := 2) om rfl rfl) fun a Z => wlv Z (oB (m := ((-n).toNat * 2)) (n := 1) om om rfl rfl) fun a Z => wla Z rfl fun a Z => ab (hK4 _ _ ?_)
  replace Z := Z.p2 0 2 rfl
  refine ap ?_
  refine al Z results81 (ac rfl ag) ?_
  refine ⟨congrArg (Value.int .u64) ?_, Y.ext⟩
  unfold zz
  split <;> omega
 rw [hc1] at Z
 try simp only [qz] at hc1
 refine ar <| hK2 _ _ <| aa fun K5 hK5 => wlm Z rfl fun a Z => wlv Z ((c8 rfl kr underlying114).asi (m' := (((n).toNat : Nat) : Int)) om) fun a Z => wlv Z (nf (m := (n).toNat) (n := 2) om rfl rfl) fun a Z => wla Z rfl fun a Z => ab (hK5 _ _ ?_)
 replace Z := Z.p1 2 rfl
 refine ap ?_
 refine al Z results81 (ac rfl ag) ?_
 refine ⟨congrArg (Value.int .u64) ?_, Y.ext⟩
 unfold zz
 split <;> omega
theorem cL (n : Int) (w0 : World) (hs : small n) :
  Ret Tryz.prog 44 #[iv n] w0 fun v w => v = .tuple #[sv (putI n), iv 0] ∧ Ext No w0 w := by
 refine aD func44 rfl ntmps44 (lb rfl) fun a Z => ?_
 replace Z := Z.p1 0 rfl
 replace Y : St No w0 [] w0 := St.init w0
 refine aa fun K1 hK1 => wla Z rfl fun a Z => wla Z rfl fun a Z => ab (hK1 _ _ <| ae fun K2 hK2 => ?_)
 refine aa fun K3 hK3 => wlm Z rfl fun a Z => wlv Z ((v_lt rfl rfl).asb (b' := false) (by rw [decide_eq_false_iff_not]; have := hs.1; omega)) fun a Z => wlm Z rfl fun a Z => wly Z (ah rfl) fun a Z => wly Z ((v_gt rfl rfl).asb (b' := false) (by rw [decide_eq_false_iff_not]; have := hs.2; omega)) fun a Z => wlv Z (ay rfl rfl) fun a Z => ab (hK3 _ _ <| aL Z rfl ?_)
 refine ar <| hK2 _ _ <| aa fun K4 hK4 => wlm Z rfl fun a Z => am Z Y de call81 rfl (mu n _ hs) ?_
 clear Z Y
 intro a w1 Z Y
 refine wla Z rfl fun a Z => ab (hK4 _ _ ?_)
 replace Z := Z.p3 2 3 4 rfl
 refine aa fun K5 hK5 => wla Z rfl fun a Z => ab (hK5 _ _ <| ae fun K6 hK6 => ?_)
 refine aq ?_
 replace Y : St No w0 [own (.slice none 0 0) 5 1 ((([] : By)).map fun b => [yv b])] w1 := Y.nil_own
 refine aR (fun m a w => ∃ (f : Nat) (z : Nat) (bs : By) (v : Value), m = f ∧ (bs ++ vb f z = putI n) ∧ (z < 128 ^ (f + 1)) ∧ (bs.length + f = 8) ∧ (z < 18446744073709551616) ∧ Fr 31 [(2, sv ([])), (3, iv 0), (4, .int .u64 (z : Int)), (5, v)] [] a ∧ St No w0 [own v 5 1 ((bs).map fun b => [yv b])] w) _ ⟨8, zz n, [], .slice none 0 0, rfl, rfl, k7 hs, rfl, mZ hs, Z.pick [2, 3, 4, 5], Y⟩ ?_
 rintro _ a w2 ⟨f, z, bs, v, rfl, hb, hz, hl, hz6, Z, Y⟩
 refine ae fun K7 hK7 => aa fun K8 hK8 => wlm Z rfl fun a Z => wlv Z (v_ge rfl rfl) fun a Z => ab (hK8 _ _ ?_)
 refine ax Z rfl (fun hc1 => ?_) (fun hc1 => ?_)
 ·rw [hc1] at Z
  try simp only [qz] at hc1
  obtain ⟨g, rfl⟩ := mR hz om
  rw [oY om] at hb
  refine ar <| hK7 _ _ <| aq <| aa fun K9 hK9 => wlm Z rfl fun a Z => wlm Z rfl fun a Z => wlv Z (qj (m := z) (n := 128) om rfl rfl) fun a Z => wlv Z (pY (m := (z % 128)) (n := 128) om rfl rfl) fun a Z => wlv Z (fC (n := ((z % 128) + 128)) rfl kr underlying5) fun a Z => aC (E := 5) (sz := 1) rfl [[yv (UInt8.ofNat ((z % 128) + 128))]] kr sm rfl de de Z Y ?_
  clear Z Y
  intro a w3 Z Y
  refine aN (i := 1) (sT := 68) (inf := Tryz.t5) (z := yv (0 : UInt8)) (b := 0) (off := 0) (m := 0) (c := 0) rfl rfl rfl (Y.ow 0 rfl) sm underlying68 rfl rfl rfl rfl de (by simp [Value.oneCell', yv, wv, sv]) (by have hby : Tryz.t5.bytes = 1 := rfl; simp [big, hby] <;> omega) (by have hby : Tryz.t5.bytes = 1 := rfl; simp [big, hby] <;> omega) de Z Y fun a w4 s2 Z Y _ => ?_
  rw [show ((bs).map fun b => [yv b]) ++ ([[yv (UInt8.ofNat ((z % 128) + 128))]]) = ((bs ++ [(UInt8.ofNat ((z % 128) + 128))]).map fun b => [yv b]) from by simp] at Y
  refine wla Z rfl fun a Z => ab (hK9 _ _ ?_)
  replace Z := Z.p4 2 3 4 5 rfl
  replace Y := Y.k1 2 rfl
  refine ao <| wlm Z rfl fun a Z => wlv Z (qe (m := z) (n := 128) om om rfl rfl) fun a Z => wla Z rfl fun a Z => ab ?_
  refine ⟨_, ?_, g, z / 128, bs ++ [UInt8.ofNat (z % 128 + 128)], s2, rfl, (by rw [List.append_assoc]; exact hb), (jk hz), (by rw [List.length_append]; simp; omega), om, Z.pick [2, 3, 4, 5], Y⟩
  omega
 rw [hc1] at Z
 try simp only [qz] at hc1
 rw [pr om] at hb
 refine aJ <| hK6 _ _ <| aa fun K10 hK10 => wlm Z rfl fun a Z => wlm Z rfl fun a Z => wlv Z (fC (n := z) rfl kr underlying5) fun a Z => aC (E := 5) (sz := 1) rfl [[yv (UInt8.ofNat z)]] kr sm rfl de de Z Y ?_
 clear Z Y
 intro a w5 Z Y
 refine aN (i := 1) (sT := 68) (inf := Tryz.t5) (z := yv (0 : UInt8)) (b := 0) (off := 0) (m := 0) (c := 0) rfl rfl rfl (Y.ow 0 rfl) sm underlying68 rfl rfl rfl rfl de (by simp [Value.oneCell', yv, wv, sv]) (by have hby : Tryz.t5.bytes = 1 := rfl; simp [big, hby] <;> omega) (by have hby : Tryz.t5.bytes = 1 := rfl; simp [big, hby] <;> omega) de Z Y fun a w6 s3 Z Y _ => ?_
 rw [show ((bs).map fun b => [yv b]) ++ ([[yv (UInt8.ofNat z)]]) = ((bs ++ [(UInt8.ofNat z)]).map fun b => [yv b]) from by simp] at Y
 refine wlv Z (di (Y.ow 1 rfl) rfl underlying68 underlying5 underlying9) fun a Z => wla Z rfl fun a Z => wla Z rfl fun a Z => ab (hK10 _ _ ?_)
 replace Z := Z.p2 2 3 rfl
 replace Y : St No w0 [] w6 := Y.mask [false, false]
 refine ap ?_
 refine al Z results44 (ac rfl (ac rfl ag)) ?_
 exact ⟨by rw [← hb]; rfl, Y.ext⟩
theorem lS (z : Nat) (w0 : World) :
  Ret Tryz.prog 110 #[.int .u64 (z : Int)] w0 (MemR w0 (fun b : Nat => .func (.func 120) #[] #[pt b]) (fun b => [blk b [.int .u64 (z : Int)] 114]) (fun _ => True)) := by
 refine aD func110 rfl ntmps110 (lb rfl) fun a Z => ?_
 replace Z := Z.p1 0 rfl
 replace Y : St No w0 [] w0 := St.init w0
 refine aa fun K1 hK1 => bj Z Y de rfl (cs := [.int .u64 (z : Int)]) rfl ?_
 clear Z Y
 intro a w1 Z Y
 refine wla Z rfl fun a Z => ab (hK1 _ _ <| aa fun K2 hK2 => ?_)
 refine wlv Z (cy rfl rfl) fun a Z => wla Z rfl fun a Z => ab (hK2 _ _ <| ap ?_)
 refine al Z results110 (ac rfl ag) ?_
 exact ⟨w0.hz, rfl, trivial, Y.ext, St.out (H := []) Y⟩
theorem kW {M : Nat → Prop} {w0 : World} (z0 lp bg : Nat) (J Jx : List (UInt8 × Bool) → Ent → Prop) (hY : Rounds Tryz.prog M w0 lp encG NxG J Jx) (e0 : Ent) (ws : World) (hz0 : z0 < 128 ^ (8 + 1)) (hz06 : z0 < 18446744073709551616) (hJ : J [] e0) (Y : St M w0 [e0, blk bg [.int .u64 (z0 : Int)] 114] ws) :
  Ret Tryz.prog 120 #[.func (.yield lp) #[] #[], pt bg] ws fun _ w => ∃ e1 Hi1, St M w0 (e1 :: Hi1) w ∧ ((∃ xs, (xs = gs 8 z0 ∧ ∃ z1 : Nat, Hi1 = [blk bg [.int .u64 (z1 : Int)] 114]) ∧ J xs e1) ∨ (∃ pre, (∃ z1 : Nat, Hi1 = [blk bg [.int .u64 (z1 : Int)] 114]) ∧ Jx pre e1)) := by
 refine aD func120 rfl ntmps120 (lb rfl) fun a Z => ?_
 replace Z := Z.p2 0 1 rfl
 skip
 refine aq <| aR (fun m a w => ∃ (f : Nat) (z : Nat) (e : Ent) (dn : List (UInt8 × Bool)), m = f ∧ (dn ++ gs f z = gs 8 z0) ∧ (z < 128 ^ (f + 1)) ∧ (dn.length + f = 8) ∧ (z < 18446744073709551616) ∧ (J dn e) ∧ Fr 18 [(0, .func (.yield lp) #[] #[]), (1, pt bg)] [] a ∧ St M w0 [e, blk bg [.int .u64 (z : Int)] 114] w) _ ⟨8, z0, e0, [], rfl, rfl, hz0, rfl, hz06, hJ, Z.pick [0, 1], Y⟩ ?_
 rintro _ a w1 ⟨f, z, e, dn, rfl, hg, hz, hl, hz6, hJ, Z, Y⟩
 refine aq <| aa fun K1 hK1 => wlv Z (ld Y 1 rfl rfl (isAgg114 _) rfl) fun a Z => wlv Z (v_lt rfl rfl) fun a Z => wla Z rfl fun a Z => ab (hK1 _ _ <| ae fun K2 hK2 => ?_)
 refine aa fun K3 hK3 => wlm Z rfl fun a Z => wlv Z (ld Y 1 rfl rfl (isAgg114 _) rfl) fun a Z => wlv Z ((nr (m := z) (k := 7) om om rfl rfl).asi (m' := ((z % 128 : Nat) : Int)) rfl) fun a Z => wlv Z (fC (n := (z % 128)) rfl kr underlying5) fun a Z => wlm Z rfl fun a Z => wl_r (fh rfl rfl (hY.yield (pre := dn) (x := (UInt8.ofNat (z % 128), decide ((z : Int) < 128))) (by show dn.length < 9; omega) hJ (Y.only (i := 0) rfl))) rfl rfl Z ?_
 clear Z
 intro a v w2 hR Z
 obtain ⟨y1, e2, rfl, hx, hok, hft, hJt, hJf⟩ := hR
 replace Y := Y.exchange (k := 0) rfl hx hok hft
 replace Y : St M w0 [_, _] w2 := Y
 clear hx hok hft
 refine wlv Z (bq rfl) fun a Z => wlm Z rfl fun a Z => ?_
 rcases Bool.eq_false_or_eq_true (!y1) with hb3 | hb3
 ·rw [hb3] at Z
  try simp only [qz] at hb3
  have hJ := hJf hb3
  refine wln Z fun a Z => wlv Z (az rfl rfl) fun a Z => ab (hK3 _ _ ?_)
  replace Z := Z.p3 0 1 15 rfl
  refine aI Z rfl ?_
  refine ap ?_
  refine al Z results120 ag ?_
  first | exact ⟨_, _, Y, .inl ⟨_, ⟨rfl, _, rfl⟩, hJ⟩⟩ | exact ⟨_, _, Y, .inr ⟨_, ⟨_, rfl⟩, hJ⟩⟩
 rw [hb3] at Z
 try simp only [qz] at hb3
 have hJ := hJt hb3
 refine wly Z (ah rfl) fun a Z => wlv Z (ay rfl rfl) fun a Z => ab (hK3 _ _ ?_)
 replace Z := Z.p3 0 1 15 rfl
 refine ax Z rfl (fun hc4 => ?_) (fun hc4 => ?_)
 ·rw [hc4] at Z
  try simp only [qz] at hc4
  rw [decide_eq_true hc4] at hJ
  rw [pb om] at hg
  rw [hg] at hJ
  refine ap ?_
  refine al Z results120 ag ?_
  first | exact ⟨_, _, Y, .inl ⟨_, ⟨rfl, _, rfl⟩, hJ⟩⟩ | exact ⟨_, _, Y, .inr ⟨_, ⟨_, rfl⟩, hJ⟩⟩
 rw [hc4] at Z
 try simp only [qz] at hc4
 rw [decide_eq_false hc4] at hJ
 obtain ⟨g, rfl⟩ := mR hz om
 rw [pL om] at hg
 refine ar <| hK2 _ _ <| ao <| wlv Z (ld Y 1 rfl rfl (isAgg114 _) rfl) fun a Z => wlv Z ((nM (m := z) (n := 7) om rfl rfl).asi (m' := ((z / 128 : Nat) : Int)) rfl) fun a Z => aH 1 Z Y rfl rfl rfl (sizeOf114 _) rfl (lb rfl) (ds := [.int .u64 ((z / 128 : Nat) : Int)]) rfl rfl ?_
 clear Z Y
 intro a w3 Z Y
 refine ab ?_
 refine ⟨_, ?_, g, z / 128, e2, dn ++ [(UInt8.ofNat (z % 128), false)], rfl, (by rw [List.append_assoc]; exact hg), (jk hz), (by rw [List.length_append]; simp; omega), om, hJ, Z.pick [0, 1], Y⟩
 omega
theorem km {M : Nat → Prop} {w0 : World} (z0 bg : Nat) (hz0 : z0 < 128 ^ (8 + 1)) (hz06 : z0 < 18446744073709551616) :
  Iter Tryz.prog 120 [pt bg] encG NxG (fun xs Hi1 => xs = gs 8 z0 ∧ ∃ z1 : Nat, Hi1 = [blk bg [.int .u64 (z1 : Int)] 114]) (fun pre Hi1 => ∃ z1 : Nat, Hi1 = [blk bg [.int .u64 (z1 : Int)] 114]) M w0 [blk bg [.int .u64 (z0 : Int)] 114] :=
 fun lp J Jx w e hY hJ Y => kW z0 lp bg J Jx hY e w hz0 hz06 hJ Y
theorem hT (n : Int) (w0 : World) (hs : small n) :
  Ret Tryz.prog 96 #[iv n] w0 fun v w => v = .tuple #[sv (putI n), iv 0] ∧ Ext No w0 w := by
 have hs1 := hs.1
 have hs2 := hs.2
 refine aD func96 rfl ntmps96 (lb rfl) fun a Z => ?_
 replace Z := Z.p1 0 rfl
 replace Y : St No w0 [] w0 := St.init w0
 refine aa fun K1 hK1 => wla Z rfl fun a Z => wla Z rfl fun a Z => ab (hK1 _ _ <| ae fun K2 hK2 => ?_)
 refine aa fun K3 hK3 => wlm Z rfl fun a Z => wlv Z ((v_lt rfl rfl).asb (b' := false) (by rw [decide_eq_false_iff_not]; have := hs.1; omega)) fun a Z => wlm Z rfl fun a Z => wly Z (ah rfl) fun a Z => wly Z ((v_gt rfl rfl).asb (b' := false) (by rw [decide_eq_false_iff_not]; have := hs.2; omega)) fun a Z => wlv Z (ay rfl rfl) fun a Z => ab (hK3 _ _ <| aL Z rfl ?_)
 refine ar <| hK2 _ _ <| aa fun K4 hK4 => aU Z Y de (zeroValue68 _) (cs := [.slice none 0 0]) rfl ?_
 clear Z Y
 intro a w1 Z Y
 refine ab (hK4 _ _ ?_)
 replace Z := Z.p4 0 2 3 4 rfl
 refine ae fun K5 hK5 => aa fun K6 hK6 => wlm Z rfl fun a Z => wlv Z ((c8 rfl kr underlying114).asi (m' := ((cu (n) : Nat) : Int)) rfl) fun a Z => wlv Z (oJ (m := cu n) (n := 1) om rfl rfl) fun a Z => wlm Z rfl fun a Z => wlv Z (o5 om om rfl rfl) fun a Z => wlv Z ((c8 rfl kr underlying114).asi (m' := ((cu (if n < 0 then -1 else 0) : Nat) : Int)) rfl) fun a Z => wlv Z (v_zz hs rfl rfl) fun a Z => aK Z Y de call110 rfl (lS (zz n) _) ?_
 clear Z Y
 intro a w2 x1 hp Z Y
 revert x1 hp Z Y; rintro bg hp Z Y
 clear hp
 replace Y : St No w0 [_, _] w2 := Y
 refine ab (hK6 _ _ ?_)
 replace Z := Z.p4 2 3 4 20 rfl
 refine aq ?_
 replace Y : St No w0 [own (.slice none 0 0) 5 1 ((([] : List (UInt8 × Bool)).map enc1).map fun b => [yv b]), blk bg [.int .u64 (zz n : Int)] 114, blk w0.hz [.slice none 0 0] 68] w2 := Y.nil_own
 replace Y : St No w0 [blk w0.hz [.slice none 0 0] 68, own (.slice none 0 0) 5 1 ((([] : List (UInt8 × Bool)).map enc1).map fun b => [yv b]), blk bg [.int .u64 (zz n : Int)] 114] w2 := Y.select [2, 0, 1] de
 replace Z : Fr 33 [(2, sv ([])), (3, iv 0), (4, pt w0.hz), (20, .func (.func 120) #[] #[pt bg])] [] a := Z.pick [2, 3, 4, 20]
 refine cU (M := No) (w0 := w0) (encs := encG) (Hi := [blk bg [.int .u64 (zz n : Int)] 114]) (Hc := [blk w0.hz [.slice none 0 0] 68, own (.slice none 0 0) 5 1 ((([] : List (UInt8 × Bool)).map enc1).map fun b => [yv b])]) (fun pre H => ∃ (v : Value), H = [blk w0.hz [v] 68, own v 5 1 ((pre.map enc1).map fun b => [yv b])]) (fun _ _ _ => False) (fun pre xs H a => Fr 33 [(2, sv ([])), (3, iv 0), (4, pt w0.hz), (20, .func (.func 120) #[] #[pt bg]), (5, yv xs.1), (6, .bool xs.2)] [] a ∧ ∃ (v : Value), H = [blk w0.hz [v] 68, own v 5 1 ((pre.map enc1).map fun b => [yv b])]) rfl call120 Z Y (km (zz n) bg (k7 hs) (mZ hs)) de (fun _ => rfl) ⟨.slice none 0 0, rfl⟩ ?_ ?_ ?_ ?_
 ·clear Z Y
  rintro lp pre xs _ a w3 hnx ⟨v, rfl⟩ Z Y
  generalize (join [blk w0.hz [v] 68, own v 5 1 ((pre.map enc1).map fun b => [yv b])]).foot = M1 at Y ⊢
  replace Z : Fr 33 [(22, .bool xs.2), (21, yv xs.1), (2, sv ([])), (3, iv 0), (4, pt w0.hz), (20, .func (.func 120) #[] #[pt bg])] [] a := Z
  refine aa fun K7 hK7 => wla Z rfl fun a Z => ab (hK7 _ _ <| ao ?_)
  refine wla Z rfl fun a Z => ab ?_
  exact ⟨_, ⟨Z.pick [2, 3, 4, 20, 5, 6], v, rfl⟩, Y⟩
 ·rintro lp pre xs _ a w4 hnx ⟨Z, v, rfl⟩ hout hrec hnl Y
  clear hrec hnl
  generalize (join [blk w0.hz [v] 68, own v 5 1 ((pre.map enc1).map fun b => [yv b])]).foot = M1 at Y hout ⊢
  refine aq <| ae fun K8 hK8 => aa fun K9 hK9 => wlm Z rfl fun a Z => wlv Z (bq rfl) fun a Z => ab (hK9 _ _ ?_)
  refine ax Z rfl (fun hc2 => ?_) (fun hc2 => ?_)
  ·rw [hc2] at Z
   try simp only [qz] at hc2
   refine ao <| wlm Z rfl fun a Z => wlv Z (v_yor (a := xs.1) (b := (128 : UInt8)) rfl rfl) fun a Z => wla Z rfl fun a Z => ab <| hK8 _ _ ?_
   replace Z := Z.p4 2 3 4 5 rfl
   refine ao <| wlv Z (ld Y 0 rfl rfl (isAgg68 _) rfl) fun a Z => wlm Z rfl fun a Z => aC (E := 5) (sz := 1) rfl [[yv (xs.1 ||| (128 : UInt8))]] kr sm rfl de de Z Y ?_
   clear Z Y
   intro a w5 Z Y
   refine aN (i := 2) (sT := 68) (inf := Tryz.t5) (z := yv (0 : UInt8)) (b := 0) (off := 0) (m := 0) (c := 0) rfl rfl rfl (Y.ow 0 rfl) sm underlying68 rfl rfl rfl rfl de (by simp [Value.oneCell', yv, wv, sv]) (by have hby : Tryz.t5.bytes = 1 := rfl; have : pre.length < 9 := hnx; simp [big, hby] <;> omega) (by have hby : Tryz.t5.bytes = 1 := rfl; have : pre.length < 9 := hnx; simp [big, hby] <;> omega) de Z Y fun a w6 s3 Z Y _ => ?_
   rw [show ((pre.map enc1).map fun b => [yv b]) ++ ([[yv (xs.1 ||| (128 : UInt8))]]) = (((pre ++ [xs]).map enc1).map fun b => [yv b]) from by simp [enc1, hc2]] at Y
   refine cA 1 Z Y (Y.ow 2 rfl) rfl rfl rfl (sizeOf68 _) (lb rfl) (ds := [s3]) rfl rfl ?_
   clear Z Y
   intro a w7 Z Y
   refine ab ?_
   exact ⟨_, ⟨s3, rfl⟩, Y.select [1, 2] de⟩
  rw [hc2] at Z
  try simp only [qz] at hc2
  refine ar <| hK8 _ _ <| ao <| wlv Z (ld Y 0 rfl rfl (isAgg68 _) rfl) fun a Z => wlm Z rfl fun a Z => aC (E := 5) (sz := 1) rfl [[yv xs.1]] kr sm rfl de de Z Y ?_
  clear Z Y
  intro a w8 Z Y
  refine aN (i := 2) (sT := 68) (inf := Tryz.t5) (z := yv (0 : UInt8)) (b := 0) (off := 0) (m := 0) (c := 0) rfl rfl rfl (Y.ow 0 rfl) sm underlying68 rfl rfl rfl rfl de (by simp [Value.oneCell', yv, wv, sv]) (by have hby : Tryz.t5.bytes = 1 := rfl; have : pre.length < 9 := hnx; simp [big, hby] <;> omega) (by have hby : Tryz.t5.bytes = 1 := rfl; have : pre.length < 9 := hnx; simp [big, hby] <;> omega) de Z Y fun a w9 s4 Z Y _ => ?_
  rw [show ((pre.map enc1).map fun b => [yv b]) ++ ([[yv xs.1]]) = (((pre ++ [xs]).map enc1).map fun b => [yv b]) from by simp [enc1, hc2]] at Y
  refine cA 1 Z Y (Y.ow 2 rfl) rfl rfl rfl (sizeOf68 _) (lb rfl) (ds := [s4]) rfl rfl ?_
  clear Z Y
  intro a w10 Z Y
  refine ab ?_
  exact ⟨_, ⟨s4, rfl⟩, Y.select [1, 2] de⟩
 ·rintro D pre _ _ a w11 ⟨rfl, z1, rfl⟩ ⟨v, rfl⟩ Y Z
  replace Z : Fr 33 [(2, sv ([])), (3, iv 0), (4, pt w0.hz), (20, .func (.func 120) #[] #[pt bg])] [{ target := .collected D, args := #[] }] a := Z
  replace Y : St No w0 [_, _, _, _] w11 := Y
  refine hK5 _ _ <| aa fun K10 hK10 => wlv Z (ld Y 1 rfl rfl (isAgg68 _) rfl) fun a Z => wlv Z (di (Y.ow 2 rfl) rfl underlying68 underlying5 underlying9) fun a Z => wla Z rfl fun a Z => wla Z rfl fun a Z => ab (hK10 _ _ <| ap ?_)
  have hD := Y.g 0 rfl
  replace Y := Y.unmark (i := 0) (o' := .deferred none) rfl
  replace Y : St No w0 [_, _, _] _ := Y
  refine bV Z hD results96 (ac rfl (ac rfl ag)) ?_
  exact ⟨by rw [pS 8 _ (k7 hs)]; rfl, Y.ext⟩
 ·rintro D c pre _ _ a w12 _ h
  exact h.elim
def bld (T : TypeId) (b : Nat) (ad v : Value) (bs : By) : Ent := join [blk b [ad, v] T, own v 5 1 ((bs).map fun b => [yv b])]
theorem gP {M : Nat → Prop} {w0 w : World} {T : TypeId} {b : Nat} {ad v : Value} {bs : By} {H : List Ent} (h : St M w0 (bld T b ad v bs :: H) w) : St M w0 ([blk b [ad, v] T, own v 5 1 ((bs).map fun b => [yv b])] ++ H) w := St.unjoin _ _ h
theorem ju (T : TypeId) (b : Nat) (v : Value) (w0 : World) (hlie : liesAt Tryz.prog Tryz.prog.depth T (2 / Tryz.prog.cellsOf T) 0 86 1 = true) (hb : (blk b [.pointer none, v] T).ok w0) :
  Ret Tryz.prog 97 #[pt b] w0 fun u w => u = .tuple #[] ∧ Ext (· = b) w0 w ∧ (blk b [pt b, v] T).ok w := by
 refine aD func97 rfl ntmps97 (lb rfl) fun a Z => ?_
 replace Z := Z.p1 0 rfl
 replace Y : St (· = b) w0 [blk b [.pointer none, v] T] w0 := St.one hb
 refine aa fun K1 hK1 => wlm Z rfl fun a Z => wlv Z (bp rfl) fun a Z => wlv Z (ak (v := pt b) rfl kr) fun a Z => wlv Z (ld Y 0 rfl rfl (isAgg84 _) rfl) fun a Z => wlv Z (qA rfl rfl underlying84) fun a Z => ab (hK1 _ _ <| aI Z rfl ?_)
 refine ao <| wlm Z rfl fun a Z => wlm Z rfl fun a Z => wlv Z (k9 (j := Tryz.t86) (Y.g 0 rfl) rfl underlying84 underlying156 rfl rfl sm) fun a Z => wlv Z (kV func111 kr kr kr kr rfl) fun a Z => wlv Z (jf (j := Tryz.t86) (Y.g 0 rfl) rfl underlying156 underlying84 rfl hlie) fun a Z => wlv Z (bp rfl) fun a Z => wlv Z (ak (v := pt b) rfl kr) fun a Z => aH 0 Z Y rfl rfl rfl (sizeOf84 _) rfl (lb rfl) (ds := [pt b, v]) rfl rfl ?_
 clear Z Y
 intro a w2 Z Y
 refine ab ?_
 refine dt Z results97 ag ?_
 exact ⟨rfl, Y.ext, Y.g 0 rfl⟩
theorem kC (T : TypeId) (b : Nat) (v : Value) (w0 : World) (hlie : liesAt Tryz.prog Tryz.prog.depth T (2 / Tryz.prog.cellsOf T) 0 86 1 = true) (hb : (blk b [pt b, v] T).ok w0) :
  Ret Tryz.prog 97 #[pt b] w0 fun u w => u = .tuple #[] ∧ Ext (· = b) w0 w ∧ (blk b [pt b, v] T).ok w := by
 refine aD func97 rfl ntmps97 (lb rfl) fun a Z => ?_
 replace Z := Z.p1 0 rfl
 replace Y : St (· = b) w0 [blk b [pt b, v] T] w0 := St.one hb
 refine aa fun K1 hK1 => wlm Z rfl fun a Z => wlv Z (bp rfl) fun a Z => wlv Z (ak (v := pt b) rfl kr) fun a Z => wlv Z (ld Y 0 rfl rfl (isAgg84 _) rfl) fun a Z => wlv Z (nR rfl rfl underlying84) fun a Z => ab (hK1 _ _ <| aL Z rfl ?_)
 refine aa fun K2 hK2 => wlm Z rfl fun a Z => wlv Z (bp rfl) fun a Z => wlv Z (ak (v := pt b) rfl kr) fun a Z => wlv Z (ld Y 0 rfl rfl (isAgg84 _) rfl) fun a Z => wlm Z rfl fun a Z => wlv Z (pi (j := Tryz.t86) rfl rfl underlying84 rfl) fun a Z => ab (hK2 _ _ ?_)
 replace Z := Z.p1 19 rfl
 refine aL Z rfl ?_
 refine ar ?_
 refine dt Z results97 ag ?_
 exact ⟨rfl, Y.ext, Y.g 0 rfl⟩
theorem kR {M : Nat → Prop} {w0 : World} (T : TypeId) (b : Nat) (v : Value) (bs : By) (s : By) (ws : World) (hlie : liesAt Tryz.prog Tryz.prog.depth T (2 / Tryz.prog.cellsOf T) 0 86 1 = true) (hne : s ≠ []) (hbn : bs.length + s.length ≤ 1000000000) (Y : St M w0 [bld T b (.pointer none) v bs] ws) :
  Ret Tryz.prog 67 #[pt b, sv s] ws fun u w => u = .tuple #[iv (s.length : Int), .nilIface] ∧ ∃ v2, St M w0 [bld T b (pt b) v2 (bs ++ s)] w := by
 refine aD func67 rfl ntmps67 (lb rfl) fun a Z => ?_
 replace Z := Z.p2 0 1 rfl
 replace Y : St M w0 [blk b [.pointer none, v] T, own v 5 1 ((bs).map fun b => [yv b])] ws := gP Y
 refine aa fun K1 hK1 => wla Z rfl fun a Z => wla Z rfl fun a Z => ab (hK1 _ _ <| aa fun K2 hK2 => ?_)
 refine wlm Z rfl fun a Z => ge 0 Z Y de call97 rfl rfl (ju T b _ _ hlie (Y.g 0 rfl)) rfl ?_
 clear Z Y
 intro a w1 Z Y
 refine ab (hK2 _ _ <| aa fun K3 hK3 => ?_)
 refine wlm Z rfl fun a Z => wlm Z rfl fun a Z => wlv Z (bp rfl) fun a Z => wlv Z (ak (v := po b 1) rfl kr) fun a Z => wlv Z (ld Y 0 rfl rfl (isAgg68 _) rfl) fun a Z => wlm Z rfl fun a Z => ew (i := 1) (sT := 68) (uT := 9) (inf := Tryz.t5) (bs := bs) (s := s) rfl rfl rfl hne underlying68 underlying9 rfl rfl rfl rfl om de Z Y ?_
 clear Z Y
 intro a w2 s1 Z Y
 refine wlv Z (bp rfl) fun a Z => wlv Z (ak (v := po b 1) rfl kr) fun a Z => cA 0 Z Y (Y.ow 1 rfl) rfl rfl rfl (sizeOf68 _) (lb rfl) (ds := [pt b, s1]) rfl rfl ?_
 clear Z Y
 intro a w3 Z Y
 refine ab (hK3 _ _ ?_)
 replace Z := Z.p3 1 4 5 rfl
 refine aa fun K4 hK4 => wlm Z rfl fun a Z => wlv Z (bo rfl rfl (runUnderlying9 _)) fun a Z => wla Z rfl fun a Z => wla Z rfl fun a Z => ab (hK4 _ _ <| ap ?_)
 refine al Z results67 (ac rfl (ac rfl ag)) ?_
 replace Y : St M w0 [blk b [pt b, s1] T, own s1 5 1 ((bs ++ s).map fun b => [yv b])] _ := Y.select [0, 1] de
 exact ⟨rfl, s1, St.join [blk b [pt b, s1] T, own s1 5 1 ((bs ++ s).map fun b => [yv b])] [] Y⟩
theorem mI {M : Nat → Prop} {w0 : World} (T : TypeId) (b : Nat) (v : Value) (bs : By) (s : By) (ws : World) (hlie : liesAt Tryz.prog Tryz.prog.depth T (2 / Tryz.prog.cellsOf T) 0 86 1 = true) (hne : s ≠ []) (hbn : bs.length + s.length ≤ 1000000000) (Y : St M w0 [bld T b (pt b) v bs] ws) :
  Ret Tryz.prog 67 #[pt b, sv s] ws fun u w => u = .tuple #[iv (s.length : Int), .nilIface] ∧ ∃ v2, St M w0 [bld T b (pt b) v2 (bs ++ s)] w := by
 refine aD func67 rfl ntmps67 (lb rfl) fun a Z => ?_
 replace Z := Z.p2 0 1 rfl
 replace Y : St M w0 [blk b [pt b, v] T, own v 5 1 ((bs).map fun b => [yv b])] ws := gP Y
 refine aa fun K1 hK1 => wla Z rfl fun a Z => wla Z rfl fun a Z => ab (hK1 _ _ <| aa fun K2 hK2 => ?_)
 refine wlm Z rfl fun a Z => ge 0 Z Y de call97 rfl rfl (kC T b _ _ hlie (Y.g 0 rfl)) rfl ?_
 clear Z Y
 intro a w1 Z Y
 refine ab (hK2 _ _ <| aa fun K3 hK3 => ?_)
 refine wlm Z rfl fun a Z => wlm Z rfl fun a Z => wlv Z (bp rfl) fun a Z => wlv Z (ak (v := po b 1) rfl kr) fun a Z => wlv Z (ld Y 0 rfl rfl (isAgg68 _) rfl) fun a Z => wlm Z rfl fun a Z => ew (i := 1) (sT := 68) (uT := 9) (inf := Tryz.t5) (bs := bs) (s := s) rfl rfl rfl hne underlying68 underlying9 rfl rfl rfl rfl om de Z Y ?_
 clear Z Y
 intro a w2 s1 Z Y
 refine wlv Z (bp rfl) fun a Z => wlv Z (ak (v := po b 1) rfl kr) fun a Z => cA 0 Z Y (Y.ow 1 rfl) rfl rfl rfl (sizeOf68 _) (lb rfl) (ds := [pt b, s1]) rfl rfl ?_
 clear Z Y
 intro a w3 Z Y
 refine ab (hK3 _ _ ?_)
 replace Z := Z.p3 1 4 5 rfl
 refine aa fun K4 hK4 => wlm Z rfl fun a Z => wlv Z (bo rfl rfl (runUnderlying9 _)) fun a Z => wla Z rfl fun a Z => wla Z rfl fun a Z => ab (hK4 _ _ <| ap ?_)
 refine al Z results67 (ac rfl (ac rfl ag)) ?_
 replace Y : St M w0 [blk b [pt b, s1] T, own s1 5 1 ((bs ++ s).map fun b => [yv b])] _ := Y.select [0, 1] de
 exact ⟨rfl, s1, St.join [blk b [pt b, s1] T, own s1 5 1 ((bs ++ s).map fun b => [yv b])] [] Y⟩
theorem pK {w : World} {E : TypeId} {v : Value} {bs : By} (h : (own v E 1 ((bs).map fun b => [yv b])).ok w) (hne : bs ≠ []) : ∃ g cap, v = .slice (some ⟨g, 0, none⟩) bs.length cap ∧ cap ≠ 0 := by
 obtain ⟨h1, h2, h3, h4⟩ := h
 have hn : bs.length ≠ 0 := by simpa using hne
 rcases h4 with ⟨_, h0⟩ | ⟨g, cap, cur, fz, hv, _, _, hnc, _⟩
 ·rw [List.length_map] at h0; exact absurd h0 hn
 ·rw [List.length_map] at hv hnc; exact ⟨g, cap, hv, by omega⟩
theorem jB {M : Nat → Prop} {w0 : World} (T : TypeId) (b g cap : Nat) (bs : By) (ws : World) (hne : bs ≠ []) (hcap : cap ≠ 0) (Y : St M w0 [blk b [pt b, .slice (some ⟨g, 0, none⟩) bs.length cap] T, own (.slice (some ⟨g, 0, none⟩) bs.length cap) 5 1 ((bs).map fun b => [yv b])] ws) :
  Ret Tryz.prog 68 #[pt b] ws fun u w => u = sv bs ∧ St M w0 [blk b [pt b, .slice (some ⟨g, 0, none⟩) bs.length cap] T] w := by
 refine aD func68 rfl ntmps68 (lb rfl) fun a Z => ?_
 replace Z := Z.p1 0 rfl
 skip
 refine aa fun K1 hK1 => wla Z rfl fun a Z => ab (hK1 _ _ <| ae fun K2 hK2 => ?_)
 refine aF kr ?_
 replace Z := Z.p2 0 2 rfl
 replace Y : St M w0 (own (.slice (some ⟨g, 0, none⟩) bs.length cap) 5 1 ((bs).map fun b => [yv b]) :: [blk b [pt b, .slice (some ⟨g, 0, none⟩) bs.length cap] T]) ws := Y.front (i := 1) rfl
 refine g5 10 (own (.slice (some ⟨g, 0, none⟩) bs.length cap) 5 1 ((bs).map fun b => [yv b])) (fun _ => sl (.slice (some ⟨g, 0, none⟩) bs.length cap) 1 ((bs).map fun b => [yv b])) 11 [[], [0], [1], [2], [3], [], [5], [6], [7], [8], [4, 9]] (fun i => match i with | 0 => pv (pt b) | 1 => pv (pt b) | 2 => pv (po b 1) | 3 => pv (.slice (some ⟨g, 0, none⟩) bs.length cap) | 4 => pv (pt g) | 5 => pv (pt b) | 6 => pv (pt b) | 7 => pv (po b 1) | 8 => pv (.slice (some ⟨g, 0, none⟩) bs.length cap) | 9 => pv (iv (bs.length : Int)) | 10 => fun v E => v = sv bs ∧ E = [] | _ => fun _ _ => False) Z Y kr kr kr de ?_ ?_ ?_ ?_
 ·intro i v E h
  match i, h with
  | 0, _ => exact by decide
  | 1, _ => exact by decide
  | 2, _ => exact by decide
  | 3, _ => exact by decide
  | 4, _ => exact by decide
  | 5, _ => exact by decide
  | 6, _ => exact by decide
  | 7, _ => exact by decide
  | 8, _ => exact by decide
  | 9, _ => exact by decide
  | 10, _ => exact by decide
  | i + 11, h => exact h.elim
 ·intro i hi hiq e
  match i, hi, hiq with
  | 0, _, _ => exact fun w Y => OpV.g (ah rfl)
  | 1, _, _ =>
   rintro _ _ ⟨rfl, rfl⟩
   intro w Y
   exact OpV.g (bp rfl)
  | 2, _, _ =>
   rintro _ _ ⟨rfl, rfl⟩
   intro w Y
   exact OpV.g (ak (v := po b 1) rfl kr)
  | 3, _, _ =>
   rintro _ _ ⟨rfl, rfl⟩
   intro w Y
   exact OpV.g (ld Y 1 rfl rfl (isAgg68 _) rfl)
  | 4, _, _ =>
   rintro _ _ ⟨rfl, rfl⟩
   intro w Y
   exact OpV.g (jT rfl hcap)
  | 5, _, _ => exact fun w Y => OpV.g (ah rfl)
  | 6, _, _ =>
   rintro _ _ ⟨rfl, rfl⟩
   intro w Y
   exact OpV.g (bp rfl)
  | 7, _, _ =>
   rintro _ _ ⟨rfl, rfl⟩
   intro w Y
   exact OpV.g (ak (v := po b 1) rfl kr)
  | 8, _, _ =>
   rintro _ _ ⟨rfl, rfl⟩
   intro w Y
   exact OpV.g (ld Y 1 rfl rfl (isAgg68 _) rfl)
  | 9, _, _ =>
   rintro _ _ ⟨rfl, rfl⟩
   intro w Y
   exact OpV.g ((cN (v := iv (bs.length : Int)) (vs := [.slice (some ⟨g, 0, none⟩) bs.length cap]) (by simp [evs]; rfl) (by simp [builtin, Builtin.len_, runUnderlying68]; rfl)).as rfl)
  | 10, _, h => exact absurd rfl h
 ·rintro _ _ ⟨rfl, rfl⟩ _ _ ⟨rfl, rfl⟩
  intro w Y
  exact (gz (Y.g 0 rfl) hne rfl rfl underlying137 kr).mono fun v w' ⟨h1, h2, h3, h4⟩ => ⟨h2, h3, h4, ⟨h1, rfl⟩⟩
 clear Z Y
 rintro vq _ _ ⟨⟨rfl, rfl⟩, -⟩ _ _ ⟨⟨rfl, rfl⟩, -⟩ _ _ ⟨⟨rfl, rfl⟩, -⟩ _ _ ⟨⟨rfl, rfl⟩, -⟩ _ _ ⟨⟨rfl, rfl⟩, -⟩ _ _ ⟨⟨rfl, rfl⟩, -⟩ _ _ ⟨⟨rfl, rfl⟩, -⟩ _ _ ⟨⟨rfl, rfl⟩, -⟩ _ _ ⟨⟨rfl, rfl⟩, -⟩ _ _ ⟨⟨rfl, rfl⟩, -⟩ _ _ ⟨⟨rfl, rfl⟩, -⟩ a w1 Z Y
 replace Z := Z.p13 3 4 5 6 7 8 9 10 11 12 13 0 2 rfl
 replace Y : St M w0 [_, _] w1 := Y
 refine wla Z rfl fun a Z => ab <| hK2 _ _ ?_
 replace Z := Z.p1 2 rfl
 refine ap ?_
 refine al Z results68 (ac rfl ag) ?_
 exact ⟨rfl, Y.select [1] de⟩
theorem gj {M : Nat → Prop} {w0 : World} (T : TypeId) (b : Nat) (v : Value) (bs : By) (ws : World) (hne : bs ≠ []) (Y : St M w0 [bld T b (pt b) v bs] ws) :
  Ret Tryz.prog 68 #[pt b] ws fun u w => u = sv bs ∧ St M w0 [blk b [pt b, v] T] w := by
 have Y : St M w0 [blk b [pt b, v] T, own v 5 1 ((bs).map fun b => [yv b])] ws := gP Y
 obtain ⟨g, cap, rfl, hcap⟩ := pK (Y.g 1 rfl) hne
 exact jB T b g cap bs ws hne hcap Y
end Go.Proofs.YtddfkkdanpmnaaaGreatDoor
