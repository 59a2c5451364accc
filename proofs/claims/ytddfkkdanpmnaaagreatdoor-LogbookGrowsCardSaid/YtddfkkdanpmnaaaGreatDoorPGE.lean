/- Texts joined: WshN, RefI, LgA, LgB, LgC, LgD, LgE, LgF. -/
import Derived.Test.YtddfkkdanpmnaaaGreatDoorPGD
import Derived.Test.YtddfkkdanpmnaaaGreatDoorPGB
import Derived.Test.YtddfkkdanpmnaaaGreatDoorPGC
import Derived.Test.YtddfkkdanpmnaaaGreatDoorPGA
import Derived.Laws.StructEq
set_option linter.unusedVariables false
set_option linter.unusedSimpArgs false
set_option maxRecDepth 4000
set_option maxHeartbeats 4000000
namespace Go.Proofs.YtddfkkdanpmnaaaGreatDoor
open Go.RowKit Go.PW _root_.Go.Proofs.Tryz
theorem p128 (i : Nat) : (128 : Nat) ^ i = 2 ^ (7 * i) := by rw [Nat.pow_mul]
theorem v_ixz {P : Program} {w : World} {L : List (Nat × Value)} {dst : Option Tmp} {T T' ty : TypeId} {pos : String} {af : Array Edge} {gd : Option (Nat × Bool)} {x y : Operand} {z : Nat} (hz : z < 9223372036854775808)
  (hx : ev L x = some (iv ((z / 2 : Nat) : Int))) (hy : ev L y = some (iv (-((z % 2 : Nat) : Int)))) : OpV P ⟨dst, .binOp .xor T x y T', ty, pos, af, gd⟩ L w (iv (uz z)) := by
 have h := qx (P := P) (w := w) (dst := dst) (T := T) (T' := T') (ty := ty) (pos := pos) (af := af) (gd := gd) (n := ((z / 2 : Nat) : Int)) (decide (z % 2 = 1)) om om hx (hy.trans (by
  congr 2
  by_cases h : z % 2 = 1
  ·rw [decide_eq_true h, h]; rfl
  ·rw [decide_eq_false h, show z % 2 = 0 from by omega]; rfl))
 refine h.as ?_
 congr 1
 unfold uz
 by_cases h : z % 2 = 1
 ·rw [decide_eq_true h, if_pos rfl, if_neg om]
 ·rw [decide_eq_false h, if_neg de, if_pos om]
theorem qB {f i z : Nat} : wI f i z [] = none := by cases f <;> rfl
theorem iN {s : By} {p : Nat} (h : p < s.length) : s.drop p = s.getD p 0 :: s.drop (p + 1) := by
 rw [List.drop_eq_getElem_cons h, List.getD_eq_getElem?_getD, List.getElem?_eq_getElem h]; rfl
theorem oX {s : By} {p i z : Nat} (hi : i < 9) (hp : p + i < s.length) (hb : 128 ≤ (s.getD (p + i) 0).toNat) :
  wI (9 - i) i z (s.drop (p + i)) = wI (9 - (i + 1)) (i + 1) (z + (s.getD (p + i) 0).toNat % 128 * 2 ^ (7 * i)) (s.drop (p + (i + 1))) := by
 rw [iN hp, show 9 - i = (9 - (i + 1)) + 1 from by omega, wI, if_neg om, p128]; rfl
theorem la {s : By} {p i z : Nat} (hi : i < 9) (hp : p + i < s.length) (hb : (s.getD (p + i) 0).toNat < 128) (h : ((s.getD (p + i) 0).toNat = 0 ∧ 0 < i) ∨ uz (z + (s.getD (p + i) 0).toNat % 128 * 2 ^ (7 * i)) < -4611686018427387903) :
  wI (9 - i) i z (s.drop (p + i)) = none := by
 rw [iN hp, show 9 - i = (9 - (i + 1)) + 1 from by omega, wI, if_pos hb, p128, if_pos]
 exact h.imp_left fun ⟨h1, h2⟩ => ⟨UInt8.toNat_inj.1 (by rw [h1]; rfl), h2⟩
theorem lC {s : By} {p i z : Nat} (hi : i < 9) (hp : p + i < s.length) (hb : (s.getD (p + i) 0).toNat < 128) (h : ¬ ((s.getD (p + i) 0).toNat = 0 ∧ 0 < i)) (h2 : ¬ uz (z + (s.getD (p + i) 0).toNat % 128 * 2 ^ (7 * i)) < -4611686018427387903) :
  wI (9 - i) i z (s.drop (p + i)) = some (uz (z + (s.getD (p + i) 0).toNat % 128 * 2 ^ (7 * i)), i + 1) := by
 rw [iN hp, show 9 - i = (9 - (i + 1)) + 1 from by omega, wI, if_pos hb, p128, if_neg]
 rintro (⟨h3, h4⟩ | h3)
 ·exact h ⟨by rw [h3]; rfl, h4⟩
 ·exact h2 h3
theorem qq {z i b : Nat} (hz : z < 2 ^ (7 * i)) (hb : b < 128) : z + b * 2 ^ (7 * i) < 2 ^ (7 * (i + 1)) := by
 have e : 2 ^ (7 * (i + 1)) = 128 * 2 ^ (7 * i) := by rw [Nat.mul_add, Nat.pow_add, Nat.mul_comm]
 rw [e]
 have : (b + 1) * 2 ^ (7 * i) ≤ 128 * 2 ^ (7 * i) := Nat.mul_le_mul_right _ om
 rw [Nat.add_mul] at this
 omega
theorem z_63 {z i : Nat} (hi : i < 9) (hz : z < 2 ^ (7 * (i + 1))) : z < 9223372036854775808 := by
 have : (2 : Nat) ^ (7 * (i + 1)) ≤ 2 ^ 63 := Nat.pow_le_pow_right de om
 omega
def intV (s : By) (p : Nat) : Value := match rdI (s.drop p) with
 | some (n, r) => .tuple #[iv n, iv ((s.length - r.length : Nat) : Int), iv 0]
 | none => .tuple #[iv 0, iv 0, iv 10]
theorem eb {s : By} {p : Nat} (h : wI 9 0 0 (s.drop p) = none) : intV s p = .tuple #[iv 0, iv 0, iv 10] := by
 rw [nJ] at h
 unfold intV
 cases hr : rdI (s.drop p) with
 | none => rfl
 | some x => rw [hr] at h; cases h
theorem jL {s : By} {p k : Nat} {n : Int} (hp : p ≤ s.length) (h : wI 9 0 0 (s.drop p) = some (n, k)) : intV s p = .tuple #[iv n, iv ((p + k : Nat) : Int), iv 0] := by
 rw [nJ] at h
 unfold intV
 cases hr : rdI (s.drop p) with
 | none => rw [hr] at h; cases h
 | some x =>
  obtain ⟨n2, r⟩ := x
  rw [hr] at h
  simp only [Option.map_some, Option.some.injEq, Prod.mk.injEq] at h
  obtain ⟨rfl, rfl⟩ := h
  obtain ⟨_, h2⟩ := jz hr
  have h3 := congrArg List.length h2
  rw [List.length_drop, List.length_append] at h3
  have h4 := (bI n2).1
  simp only
  rw [List.length_drop, show p + (s.length - p - r.length) = s.length - r.length from by omega]
theorem ka (s : By) (p : Nat) (w0 : World) (hp : p ≤ s.length) (hsl : s.length ≤ 1000000) :
  Ret Tryz.prog 71 #[sv s, iv (p : Int)] w0 fun v w => v = intV s p ∧ Ext No w0 w := by
 refine aD func71 rfl ntmps71 (lb rfl) fun a Z => ?_
 replace Z := Z.p2 0 1 rfl
 replace Y : St No w0 [] w0 := St.init w0
 refine aa fun K1 hK1 => wla Z rfl fun a Z => wla Z rfl fun a Z => wla Z rfl fun a Z => ab (hK1 _ _ <| ae fun K2 hK2 => ?_)
 refine aa fun K3 hK3 => wlm Z rfl fun a Z => wlv Z ((v_lt rfl rfl).asb (b' := false) (by exact decide_eq_false om)) fun a Z => wlm Z rfl fun a Z => wly Z (ah rfl) fun a Z => wly Z (ah rfl) fun a Z => wly Z (bo rfl rfl (runUnderlying9 _)) fun a Z => wly Z ((v_gt rfl rfl).asb (b' := false) (by exact decide_eq_false om)) fun a Z => wlv Z (ay rfl rfl) fun a Z => ab (hK3 _ _ ?_)
 replace Z := Z.p6 0 1 4 5 6 18 rfl
 refine aL Z rfl ?_
 refine ar <| hK2 _ _ <| aa fun K4 hK4 => wla Z rfl fun a Z => ab (hK4 _ _ <| ae fun K5 hK5 => ?_)
 refine aa fun K6 hK6 => wlm Z rfl fun a Z => ab (hK6 _ _ <| aq ?_)
 refine aR (fun m a w => ∃ (i : Nat) (z : Nat), m = 9 - i ∧ (i ≤ 9) ∧ (wI 9 0 0 (s.drop p) = wI (9 - i) i z (s.drop (p + i))) ∧ (z < 2 ^ (7 * i)) ∧ Fr 67 [(0, sv s), (1, iv (p : Int)), (7, .int .u64 (z : Int)), (19, iv (i : Int))] [] a ∧ St No w0 [] w) _ ⟨0, 0, rfl, de, rfl, de, Z.pick [0, 1, 7, 19], Y.select [] de⟩ ?_
 rintro _ a w1 ⟨i, z, rfl, hi, hw, hz, Z, Y⟩
 refine aa fun K7 hK7 => wlv Z (v_lt rfl rfl) fun a Z => ab (hK7 _ _ <| ae fun K8 hK8 => ?_)
 refine ax Z rfl (fun hc1 => ?_) (fun hc1 => ?_)
 ·rw [hc1] at Z
  try simp only [qz] at hc1
  refine ar <| hK8 _ _ <| ae fun K9 hK9 => aq <| aa fun K10 hK10 => wlm Z rfl fun a Z => wla Z rfl fun a Z => ab (hK10 _ _ <| ae fun K11 hK11 => ?_)
  refine aa fun K12 hK12 => wlm Z rfl fun a Z => wlm Z rfl fun a Z => wlv Z (aV rfl rfl ⟨om, om⟩) fun a Z => wlm Z rfl fun a Z => wlv Z (bo rfl rfl (runUnderlying9 _)) fun a Z => wlv Z (v_ge rfl rfl) fun a Z => ab (hK12 _ _ ?_)
  replace Z := Z.p6 0 1 7 19 8 27 rfl
  refine ax Z rfl (fun hc2 => ?_) (fun hc2 => ?_)
  ·rw [hc2] at Z
   try simp only [qz] at hc2
   have hwn : wI 9 0 0 (s.drop p) = none := by rw [hw, List.drop_eq_nil_of_le om]; exact qB
   refine aJ <| hK5 _ _ <| aa fun K13 hK13 => wla Z rfl fun a Z => wla Z rfl fun a Z => wla Z rfl fun a Z => ab (hK13 _ _ ?_)
   replace Z := Z.p3 4 5 6 rfl
   refine ap ?_
   refine al Z results71 (ac rfl (ac rfl (ac rfl ag))) ?_
   exact ⟨(eb hwn).symm, Y.ext⟩
  rw [hc2] at Z
  try simp only [qz] at hc2
  have hpi : p + i < s.length := by omega
  have hm8 : (s.getD (p + i) 0).toNat % 128 < 128 := Nat.mod_lt _ de
  have hzl := qq hz hm8
  have hz6 := z_63 (i := i) om hzl
  refine ar <| hK11 _ _ <| aa fun K14 hK14 => wlm Z rfl fun a Z => wlm Z rfl fun a Z => wlm Z rfl fun a Z => wlv Z (aV rfl rfl ⟨om, om⟩) fun a Z => wlv Z (fE (k := (p + i)) rfl rfl (runUnderlying9 _) om om) fun a Z => wla Z rfl fun a Z => ab (hK14 _ _ ?_)
  replace Z := Z.p6 0 1 7 19 8 9 rfl
  refine aa fun K15 hK15 => wlm Z rfl fun a Z => wlm Z rfl fun a Z => wlv Z (qf (a := s.getD (p + i) 0) (b := (127 : UInt8)) rfl rfl) fun a Z => wlv Z ((ma rfl kr underlying114).asi (m' := (((s.getD (p + i) 0).toNat % 128 : Nat) : Int)) (by rw [y127])) fun a Z => wlm Z rfl fun a Z => wlv Z ((cW rfl rfl ⟨om, om⟩).asi (m' := ((7 * i : Nat) : Int)) om) fun a Z => wlv Z ((oJ (m := (s.getD (p + i) 0).toNat % 128) (n := 7 * i) om rfl rfl).asi (m' := (((s.getD (p + i) 0).toNat % 128 * 2 ^ (7 * i) : Nat) : Int)) (by rw [Nat.mod_eq_of_lt om])) fun a Z => wlv Z (v_uor (m := z) (n := (s.getD (p + i) 0).toNat % 128) (k := 7 * i) hz om rfl rfl) fun a Z => wla Z rfl fun a Z => ab (hK15 _ _ ?_)
  replace Z := Z.p6 0 1 19 8 9 7 rfl
  refine ae fun K16 hK16 => aa fun K17 hK17 => wlm Z rfl fun a Z => wlv Z (v_ge rfl rfl) fun a Z => ab (hK17 _ _ ?_)
  refine ax Z rfl (fun hc3 => ?_) (fun hc3 => ?_)
  ·rw [hc3] at Z
   try simp only [qz] at hc3
   refine aJ <| hK9 _ _ <| ao <| wlv Z (aV rfl rfl ⟨om, om⟩) fun a Z => wlm Z rfl fun a Z => ab ?_
   refine ⟨_, ?_, i + 1, (z + (s.getD (p + i) 0).toNat % 128 * 2 ^ (7 * i)), rfl, om, (by rw [hw]; exact oX om hpi om), hzl, Z.pick [0, 1, 7, 19], Y.select [] de⟩
   omega
  rw [hc3] at Z
  try simp only [qz] at hc3
  refine ar <| hK16 _ _ <| aa fun K18 hK18 => wlm Z rfl fun a Z => wlv Z ((nM (m := (z + (s.getD (p + i) 0).toNat % 128 * 2 ^ (7 * i))) (n := 1) de rfl rfl).asi (m' := (((z + (s.getD (p + i) 0).toNat % 128 * 2 ^ (7 * i)) / 2 : Nat) : Int)) rfl) fun a Z => wlv Z (g9 (n := (z + (s.getD (p + i) 0).toNat % 128 * 2 ^ (7 * i)) / 2) om rfl kr underlying3) fun a Z => wlm Z rfl fun a Z => wlv Z ((nr (m := (z + (s.getD (p + i) 0).toNat % 128 * 2 ^ (7 * i))) (k := 1) om de rfl rfl).asi (m' := (((z + (s.getD (p + i) 0).toNat % 128 * 2 ^ (7 * i)) % 2 : Nat) : Int)) rfl) fun a Z => wlv Z (g9 (n := (z + (s.getD (p + i) 0).toNat % 128 * 2 ^ (7 * i)) % 2) om rfl kr underlying3) fun a Z => wlv Z (jl rfl om om) fun a Z => wlv Z (v_ixz (z := (z + (s.getD (p + i) 0).toNat % 128 * 2 ^ (7 * i))) om rfl rfl) fun a Z => wla Z rfl fun a Z => ?_
  refine ab (hK18 _ _ ?_)
  replace Z := Z.p7 0 1 19 8 9 7 10 rfl
  refine ae fun K19 hK19 => aa fun K20 hK20 => wlm Z rfl fun a Z => wlv Z (v_eq rfl rfl) fun a Z => wlm Z rfl fun a Z => ?_
  rcases Bool.eq_false_or_eq_true (decide (((s.getD (p + i) 0).toNat : Int) = 0)) with hb4 | hb4
  ·rw [hb4] at Z
   try simp only [qz] at hb4
   refine wly Z (ah rfl) fun a Z => wly Z (v_gt rfl rfl) fun a Z => wlv Z (az rfl rfl) fun a Z => wlm Z rfl fun a Z => ?_
   rcases Bool.eq_false_or_eq_true (decide (0 < (i : Int))) with hb5 | hb5
   ·rw [hb5] at Z
    try simp only [qz] at hb5
    have hwn : wI 9 0 0 (s.drop p) = none := by rw [hw]; exact la om hpi om (.inl ⟨om, om⟩)
    refine wln Z fun a Z => wln Z fun a Z => wlv Z (az rfl rfl) fun a Z => ab (hK20 _ _ ?_)
    replace Z := Z.p7 0 1 19 8 7 10 60 rfl
    refine aI Z rfl ?_
    refine aJ <| hK5 _ _ <| aa fun K21 hK21 => wla Z rfl fun a Z => wla Z rfl fun a Z => wla Z rfl fun a Z => ab (hK21 _ _ ?_)
    replace Z := Z.p3 4 5 6 rfl
    refine ap ?_
    refine al Z results71 (ac rfl (ac rfl (ac rfl ag))) ?_
    exact ⟨(eb hwn).symm, Y.ext⟩
   rw [hb5] at Z
   try simp only [qz] at hb5
   have hng : ¬ ((s.getD (p + i) 0).toNat = 0 ∧ 0 < i) := by omega
   refine wly Z (ah rfl) fun a Z => wly Z (v_lt rfl rfl) fun a Z => wlv Z (ay rfl rfl) fun a Z => ab (hK20 _ _ ?_)
   replace Z := Z.p7 0 1 19 8 7 10 60 rfl
   refine ax Z rfl (fun hc6 => ?_) (fun hc6 => ?_)
   ·rw [hc6] at Z
    try simp only [qz] at hc6
    have hwn : wI 9 0 0 (s.drop p) = none := by rw [hw]; exact la om hpi om (.inr hc6)
    refine aJ <| hK5 _ _ <| aa fun K22 hK22 => wla Z rfl fun a Z => wla Z rfl fun a Z => wla Z rfl fun a Z => ab (hK22 _ _ ?_)
    replace Z := Z.p3 4 5 6 rfl
    refine ap ?_
    refine al Z results71 (ac rfl (ac rfl (ac rfl ag))) ?_
    exact ⟨(eb hwn).symm, Y.ext⟩
   rw [hc6] at Z
   try simp only [qz] at hc6
   have hwg := hw.trans (lC om hpi om om hc6)
   refine ar <| hK19 _ _ <| aa fun K23 hK23 => wlm Z rfl fun a Z => wlm Z rfl fun a Z => wlm Z rfl fun a Z => wlv Z (aV rfl rfl ⟨om, om⟩) fun a Z => wlv Z (aV rfl rfl ⟨om, om⟩) fun a Z => wla Z rfl fun a Z => wla Z rfl fun a Z => wla Z rfl fun a Z => ab (hK23 _ _ ?_)
   replace Z := Z.p7 0 1 19 7 4 5 6 rfl
   refine ap ?_
   refine al Z results71 (ac rfl (ac rfl (ac rfl ag))) ?_
   exact ⟨((jL hp hwg).trans (by simp only [retv]; congr 3; all_goals omega)).symm, Y.ext⟩
  rw [hb4] at Z
  try simp only [qz] at hb4
  refine wln Z fun a Z => wln Z fun a Z => wlv Z (ay rfl rfl) fun a Z => wlm Z rfl fun a Z => wly Z (ah rfl) fun a Z => wly Z (v_lt rfl rfl) fun a Z => wlv Z (ay rfl rfl) fun a Z => ab (hK20 _ _ ?_)
  replace Z := Z.p7 0 1 19 8 7 10 60 rfl
  refine ax Z rfl (fun hc7 => ?_) (fun hc7 => ?_)
  ·rw [hc7] at Z
   try simp only [qz] at hc7
   have hwn : wI 9 0 0 (s.drop p) = none := by rw [hw]; exact la om hpi om (.inr hc7)
   refine aJ <| hK5 _ _ <| aa fun K24 hK24 => wla Z rfl fun a Z => wla Z rfl fun a Z => wla Z rfl fun a Z => ab (hK24 _ _ ?_)
   replace Z := Z.p3 4 5 6 rfl
   refine ap ?_
   refine al Z results71 (ac rfl (ac rfl (ac rfl ag))) ?_
   exact ⟨(eb hwn).symm, Y.ext⟩
  rw [hc7] at Z
  try simp only [qz] at hc7
  have hwg := hw.trans (lC om hpi om om hc7)
  refine ar <| hK19 _ _ <| aa fun K25 hK25 => wlm Z rfl fun a Z => wlm Z rfl fun a Z => wlm Z rfl fun a Z => wlv Z (aV rfl rfl ⟨om, om⟩) fun a Z => wlv Z (aV rfl rfl ⟨om, om⟩) fun a Z => wla Z rfl fun a Z => wla Z rfl fun a Z => wla Z rfl fun a Z => ab (hK25 _ _ ?_)
  replace Z := Z.p7 0 1 19 7 4 5 6 rfl
  refine ap ?_
  refine al Z results71 (ac rfl (ac rfl (ac rfl ag))) ?_
  exact ⟨((jL hp hwg).trans (by simp only [retv]; congr 3; all_goals omega)).symm, Y.ext⟩
 rw [hc1] at Z
 try simp only [qz] at hc1
 have hwn : wI 9 0 0 (s.drop p) = none := by rw [hw, show 9 - i = 0 from by omega]; rfl
 refine aJ <| hK5 _ _ <| aa fun K26 hK26 => wla Z rfl fun a Z => wla Z rfl fun a Z => wla Z rfl fun a Z => ab (hK26 _ _ <| ap ?_)
 refine al Z results71 (ac rfl (ac rfl (ac rfl ag))) ?_
 exact ⟨(eb hwn).symm, Y.ext⟩
theorem dM {r q : By} {n : Int} (h : rdI r = some (n, q)) : q <:+ r := by
 obtain ⟨_, rfl⟩ := jz h; exact List.suffix_append _ _
theorem np {r x q : By} (h : rdS r = some (x, q)) : ∃ n r2, rdI r = some (n, r2) ∧ 0 ≤ n ∧ n ≤ 65536 ∧ n ≤ (r2.length : Int) ∧ x = r2.take n.toNat ∧ q = r2.drop n.toNat ∧ q.length = r2.length - n.toNat := by
 unfold rdS at h
 cases hq : rdI r with
 | none => rw [hq] at h; cases h
 | some p =>
  obtain ⟨n, t⟩ := p
  rw [hq] at h
  simp only at h
  split at h
  ·rename_i hc
   cases h
   exact ⟨n, t, rfl, hc.1, hc.2.1, hc.2.2, rfl, rfl, by rw [List.length_drop]⟩
  ·cases h
theorem qh {r : By} (h : rdS r = none) : rdI r = none ∨ ∃ n r2, rdI r = some (n, r2) ∧ (n < 0 ∨ 65536 < n ∨ (r2.length : Int) < n) := by
 unfold rdS at h
 cases hq : rdI r with
 | none => exact .inl rfl
 | some p =>
  obtain ⟨n, t⟩ := p
  rw [hq] at h
  simp only at h
  split at h
  ·cases h
  ·rename_i hc
   exact .inr ⟨n, t, rfl, by omega⟩
theorem pD {r x q : By} (h : rdS r = some (x, q)) : q <:+ r := by
 obtain ⟨n, r2, hi, _, _, _, _, rfl, _⟩ := np h
 exact (List.drop_suffix _ _).trans (dM hi)
theorem oU {s r2 q x : By} {n : Int} (hs : r2 <:+ s) (hx : x = r2.take n.toNat) (h0 : 0 ≤ n) (hn : n ≤ (r2.length : Int)) (hq : q.length = r2.length - n.toNat) : x = (s.drop (s.length - r2.length)).take (s.length - q.length - (s.length - r2.length)) := by
 have := hs.length_le
 rw [← List.suffix_iff_eq_drop.1 hs, hx]
 congr 1
 omega
theorem iY (s : By) (w0 : World) (hs : s.length ≤ 65536) :
  Ret Tryz.prog 66 #[sv s] w0 fun v w => v = .tuple #[sv (putS s), iv 0] ∧ Ext No w0 w := by
 have hpl := bI (s.length : Int)
 refine aD func66 rfl ntmps66 (lb rfl) fun a Z => ?_
 replace Z := Z.p1 0 rfl
 replace Y : St No w0 [] w0 := St.init w0
 refine aa fun K1 hK1 => wla Z rfl fun a Z => wla Z rfl fun a Z => ab (hK1 _ _ <| ae fun K2 hK2 => ?_)
 refine aa fun K3 hK3 => wlm Z rfl fun a Z => wlv Z (bo rfl rfl (runUnderlying9 _)) fun a Z => wlv Z ((v_gt rfl rfl).asb (b' := false) (by exact decide_eq_false om)) fun a Z => ab (hK3 _ _ <| aL Z rfl ?_)
 refine ar <| hK2 _ _ <| aa fun K4 hK4 => wlm Z rfl fun a Z => wlv Z (bo rfl rfl (runUnderlying9 _)) fun a Z => am Z Y de call96 rfl (hT (s.length : Int) _ (by unfold small; omega)) ?_
 clear Z Y
 intro a w1 Z Y
 refine wlm Z rfl fun a Z => wlv Z (ai rfl rfl) fun a Z => wlv Z (ai rfl rfl) fun a Z => wla Z rfl fun a Z => wla Z rfl fun a Z => ab (hK4 _ _ ?_)
 replace Z := Z.p4 0 2 3 4 rfl
 refine aa fun K5 hK5 => wlm Z rfl fun a Z => wlm Z rfl fun a Z => wlv Z (bS rfl rfl (by (try simp only [List.length_append]); omega)) fun a Z => wla Z rfl fun a Z => wla Z rfl fun a Z => ab (hK5 _ _ <| ap ?_)
 refine al Z results66 (ac rfl (ac rfl ag)) ?_
 exact ⟨by rfl, Y.ext⟩
theorem es {s r r2 : By} {n z : Int} {w0 : World} (hz : z = ((s.length - r.length : Nat) : Int)) (hsf : r <:+ s) (hsl : s.length ≤ 1000000) (hq : rdI r = some (n, r2)) :
  Ret Tryz.prog 71 #[sv s, iv z] w0 fun v w => v = .tuple #[iv n, iv ((s.length - r2.length : Nat) : Int), iv 0] ∧ Ext No w0 w := by
 subst hz
 have := ka s (s.length - r.length) w0 om hsl
 unfold intV at this
 rw [← List.suffix_iff_eq_drop.1 hsf, hq] at this
 exact this
theorem ed {s r : By} {z : Int} {w0 : World} (hz : z = ((s.length - r.length : Nat) : Int)) (hsf : r <:+ s) (hsl : s.length ≤ 1000000) (hq : rdI r = none) :
  Ret Tryz.prog 71 #[sv s, iv z] w0 fun v w => v = .tuple #[iv 0, iv 0, iv 10] ∧ Ext No w0 w := by
 subst hz
 have := ka s (s.length - r.length) w0 om hsl
 unfold intV at this
 rw [← List.suffix_iff_eq_drop.1 hsf, hq] at this
 exact this
theorem mt (s r x q : By) (z : Int) (w0 : World) (hz : z = ((s.length - r.length : Nat) : Int)) (hsf : r <:+ s) (hsl : s.length ≤ 1000000) (hq : rdS r = some (x, q)) :
  Ret Tryz.prog 73 #[sv s, iv z] w0 fun v w => v = .tuple #[sv x, iv ((s.length - q.length : Nat) : Int), iv 0] ∧ Ext No w0 w := by
 obtain ⟨n, r2, hi, h0, h6, hl, hx, -, hql⟩ := np hq
 have hsu := hsf.length_le
 have hsf2 := (dM hi).trans hsf
 have hsu2 := hsf2.length_le
 refine aD func73 rfl ntmps73 (lb rfl) fun a Z => ?_
 replace Z := Z.p2 0 1 rfl
 replace Y : St No w0 [] w0 := St.init w0
 refine aa fun K1 hK1 => wla Z rfl fun a Z => wla Z rfl fun a Z => wla Z rfl fun a Z => ab (hK1 _ _ <| aa fun K2 hK2 => ?_)
 refine wlm Z rfl fun a Z => wlm Z rfl fun a Z => am Z Y de call71 rfl (es hz hsf hsl hi) ?_
 clear Z Y
 intro a w1 Z Y
 refine wlm Z rfl fun a Z => wlv Z (ai rfl rfl) fun a Z => wlv Z (ai rfl rfl) fun a Z => wlv Z (ai rfl rfl) fun a Z => wla Z rfl fun a Z => wla Z rfl fun a Z => wla Z rfl fun a Z => ab (hK2 _ _ ?_)
 replace Z := Z.p7 0 4 5 6 7 8 9 rfl
 refine ae fun K3 hK3 => aa fun K4 hK4 => wlm Z rfl fun a Z => wlv Z ((v_ne rfl rfl).asb (b' := false) rfl) fun a Z => ab (hK4 _ _ <| aL Z rfl ?_)
 refine ar <| hK3 _ _ <| ae fun K5 hK5 => aa fun K6 hK6 => wlm Z rfl fun a Z => wlv Z ((v_lt rfl rfl).asb (b' := false) (by exact decide_eq_false om)) fun a Z => wlm Z rfl fun a Z => wly Z (ah rfl) fun a Z => wly Z ((v_gt rfl rfl).asb (b' := false) (by exact decide_eq_false om)) fun a Z => wlv Z (ay rfl rfl) fun a Z => wlm Z rfl fun a Z => wly Z (ah rfl) fun a Z => wly Z (ah rfl) fun a Z => wly Z (bo rfl rfl (runUnderlying9 _)) fun a Z => wly Z (ah rfl) fun a Z => wly Z (bh rfl rfl ⟨om, om⟩) fun a Z => wly Z ((v_gt rfl rfl).asb (b' := false) (by exact decide_eq_false om)) fun a Z => wlv Z (ay rfl rfl) fun a Z => ab (hK6 _ _ ?_)
 replace Z := Z.p7 0 4 5 6 7 8 33 rfl
 refine aL Z rfl ?_
 refine ar <| hK5 _ _ <| aa fun K7 hK7 => wlm Z rfl fun a Z => wlm Z rfl fun a Z => wlm Z rfl fun a Z => wlm Z rfl fun a Z => wlv Z ((aV rfl rfl ⟨om, om⟩).asi (m' := ((s.length - q.length : Nat) : Int)) om) fun a Z => wlv Z ((iX (xs := s) (l := s.length - r2.length) (h := s.length - q.length) rfl rfl rfl underlying9 (.inr ⟨.i64, rfl⟩) (.inr ⟨.i64, rfl⟩) om om).as (v' := sv x) (by rw [← oU hsf2 hx h0 hl hql])) fun a Z => wlm Z rfl fun a Z => wlm Z rfl fun a Z => wlv Z ((aV rfl rfl ⟨om, om⟩).asi (m' := ((s.length - q.length : Nat) : Int)) om) fun a Z => wla Z rfl fun a Z => wla Z rfl fun a Z => wla Z rfl fun a Z => ab (hK7 _ _ ?_)
 replace Z := Z.p3 4 5 6 rfl
 refine ap ?_
 refine al Z results73 (ac rfl (ac rfl (ac rfl ag))) ?_
 exact ⟨by rfl, Y.ext⟩
theorem kb (s r r2 : By) (n z : Int) (w0 : World) (hz : z = ((s.length - r.length : Nat) : Int)) (hsf : r <:+ s) (hsl : s.length ≤ 1000000) (hi : rdI r = some (n, r2)) (hb : n < 0 ∨ 65536 < n ∨ (r2.length : Int) < n) :
  Ret Tryz.prog 73 #[sv s, iv z] w0 fun v w => v = .tuple #[sv ([] : By), iv 0, iv 10] ∧ Ext No w0 w := by
 have hsu := hsf.length_le
 have hsf2 := (dM hi).trans hsf
 have hsu2 := hsf2.length_le
 refine aD func73 rfl ntmps73 (lb rfl) fun a Z => ?_
 replace Z := Z.p2 0 1 rfl
 replace Y : St No w0 [] w0 := St.init w0
 refine aa fun K1 hK1 => wla Z rfl fun a Z => wla Z rfl fun a Z => wla Z rfl fun a Z => ab (hK1 _ _ <| aa fun K2 hK2 => ?_)
 refine wlm Z rfl fun a Z => wlm Z rfl fun a Z => am Z Y de call71 rfl (es hz hsf hsl hi) ?_
 clear Z Y
 intro a w1 Z Y
 refine wlm Z rfl fun a Z => wlv Z (ai rfl rfl) fun a Z => wlv Z (ai rfl rfl) fun a Z => wlv Z (ai rfl rfl) fun a Z => wla Z rfl fun a Z => wla Z rfl fun a Z => wla Z rfl fun a Z => ab (hK2 _ _ ?_)
 replace Z := Z.p7 0 4 5 6 7 8 9 rfl
 refine ae fun K3 hK3 => aa fun K4 hK4 => wlm Z rfl fun a Z => wlv Z ((v_ne rfl rfl).asb (b' := false) rfl) fun a Z => ab (hK4 _ _ <| aL Z rfl ?_)
 refine ar <| hK3 _ _ <| ae fun K5 hK5 => aa fun K6 hK6 => wlm Z rfl fun a Z => wlv Z (v_lt rfl rfl) fun a Z => wlm Z rfl fun a Z => ?_
 rcases Bool.eq_false_or_eq_true (decide (n < 0)) with hb1 | hb1
 ·rw [hb1] at Z
  try simp only [qz] at hb1
  refine wln Z fun a Z => wln Z fun a Z => wlv Z (az rfl rfl) fun a Z => wlm Z rfl fun a Z => wln Z fun a Z => wln Z fun a Z => wln Z fun a Z => wln Z fun a Z => wln Z fun a Z => wln Z fun a Z => wlv Z (az rfl rfl) fun a Z => ?_
  refine ab (hK6 _ _ ?_)
  replace Z := Z.p7 0 4 5 6 7 8 33 rfl
  refine aI Z rfl ?_
  refine aa fun K7 hK7 => wla Z rfl fun a Z => wla Z rfl fun a Z => wla Z rfl fun a Z => ab (hK7 _ _ <| ap ?_)
  refine al Z results73 (ac rfl (ac rfl (ac rfl ag))) ?_
  exact ⟨by rfl, Y.ext⟩
 rw [hb1] at Z
 try simp only [qz] at hb1
 refine wly Z (ah rfl) fun a Z => wly Z (v_gt rfl rfl) fun a Z => wlv Z (ay rfl rfl) fun a Z => wlm Z rfl fun a Z => ?_
 rcases Bool.eq_false_or_eq_true (decide (65536 < n)) with hb2 | hb2
 ·rw [hb2] at Z
  try simp only [qz] at hb2
  refine wln Z fun a Z => wln Z fun a Z => wln Z fun a Z => wln Z fun a Z => wln Z fun a Z => wln Z fun a Z => wlv Z (az rfl rfl) fun a Z => ab (hK6 _ _ ?_)
  replace Z := Z.p7 0 4 5 6 7 8 33 rfl
  refine aI Z rfl ?_
  refine aa fun K8 hK8 => wla Z rfl fun a Z => wla Z rfl fun a Z => wla Z rfl fun a Z => ab (hK8 _ _ <| ap ?_)
  refine al Z results73 (ac rfl (ac rfl (ac rfl ag))) ?_
  exact ⟨by rfl, Y.ext⟩
 rw [hb2] at Z
 try simp only [qz] at hb2
 refine wly Z (ah rfl) fun a Z => wly Z (ah rfl) fun a Z => wly Z (bo rfl rfl (runUnderlying9 _)) fun a Z => wly Z (ah rfl) fun a Z => wly Z (bh rfl rfl ⟨om, om⟩) fun a Z => wly Z (v_gt rfl rfl) fun a Z => wlv Z (ay rfl rfl) fun a Z => ab (hK6 _ _ ?_)
 replace Z := Z.p7 0 4 5 6 7 8 33 rfl
 refine ax Z rfl (fun hc3 => ?_) (fun hc3 => ?_)
 ·rw [hc3] at Z
  try simp only [qz] at hc3
  refine aa fun K9 hK9 => wla Z rfl fun a Z => wla Z rfl fun a Z => wla Z rfl fun a Z => ab (hK9 _ _ <| ap ?_)
  refine al Z results73 (ac rfl (ac rfl (ac rfl ag))) ?_
  exact ⟨by rfl, Y.ext⟩
 rw [hc3] at Z
 try simp only [qz] at hc3
 exfalso; omega
theorem kn (s r : By) (z : Int) (w0 : World) (hz : z = ((s.length - r.length : Nat) : Int)) (hsf : r <:+ s) (hsl : s.length ≤ 1000000) (hi : rdI r = none) :
  Ret Tryz.prog 73 #[sv s, iv z] w0 fun v w => v = .tuple #[sv ([] : By), iv 0, iv 10] ∧ Ext No w0 w := by
 refine aD func73 rfl ntmps73 (lb rfl) fun a Z => ?_
 replace Z := Z.p2 0 1 rfl
 replace Y : St No w0 [] w0 := St.init w0
 refine aa fun K1 hK1 => wla Z rfl fun a Z => wla Z rfl fun a Z => wla Z rfl fun a Z => ab (hK1 _ _ <| aa fun K2 hK2 => ?_)
 refine wlm Z rfl fun a Z => wlm Z rfl fun a Z => am Z Y de call71 rfl (ed hz hsf hsl hi) ?_
 clear Z Y
 intro a w1 Z Y
 refine wlm Z rfl fun a Z => wlv Z (ai rfl rfl) fun a Z => wlv Z (ai rfl rfl) fun a Z => wlv Z (ai rfl rfl) fun a Z => wla Z rfl fun a Z => wla Z rfl fun a Z => wla Z rfl fun a Z => ab (hK2 _ _ ?_)
 replace Z := Z.p7 0 4 5 6 7 8 9 rfl
 refine ae fun K3 hK3 => aa fun K4 hK4 => wlm Z rfl fun a Z => wlv Z ((v_ne rfl rfl).asb (b' := true) rfl) fun a Z => ab (hK4 _ _ <| aI Z rfl ?_)
 refine aa fun K5 hK5 => wlm Z rfl fun a Z => wla Z rfl fun a Z => wla Z rfl fun a Z => wla Z rfl fun a Z => ab (hK5 _ _ <| ap ?_)
 refine al Z results73 (ac rfl (ac rfl (ac rfl ag))) ?_
 exact ⟨by rfl, Y.ext⟩
theorem kw {s r : By} {z : Int} {w0 : World} (hz : z = ((s.length - r.length : Nat) : Int)) (hsf : r <:+ s) (hsl : s.length ≤ 1000000) (hq : rdS r = none) :
  Ret Tryz.prog 73 #[sv s, iv z] w0 fun v w => v = .tuple #[sv ([] : By), iv 0, iv 10] ∧ Ext No w0 w := by
 rcases qh hq with hi | ⟨n, r2, hi, hb⟩
 ·exact kn s r z w0 hz hsf hsl hi
 ·exact kb s r r2 n z w0 hz hsf hsl hi hb
theorem g4 (s : By) (w0 : World) (hs : s.length ≤ 65536) :
  Ret Tryz.prog 94 #[sv s] w0 fun v w => v = .tuple #[sv (putS s), iv 0] ∧ Ext No w0 w := by
 have hpl := bI (s.length : Int)
 refine aD func94 rfl ntmps94 (lb rfl) fun a Z => ?_
 replace Z := Z.p1 0 rfl
 replace Y : St No w0 [] w0 := St.init w0
 refine aa fun K1 hK1 => wla Z rfl fun a Z => wla Z rfl fun a Z => ab (hK1 _ _ <| ae fun K2 hK2 => ?_)
 refine aa fun K3 hK3 => wlm Z rfl fun a Z => wlv Z (bo rfl rfl (runUnderlying9 _)) fun a Z => wlv Z ((v_gt rfl rfl).asb (b' := false) (by exact decide_eq_false om)) fun a Z => ab (hK3 _ _ <| aL Z rfl ?_)
 refine ar <| hK2 _ _ <| aa fun K4 hK4 => wlm Z rfl fun a Z => wlv Z (bo rfl rfl (runUnderlying9 _)) fun a Z => am Z Y de call44 rfl (cL (s.length : Int) _ (by unfold small; omega)) ?_
 clear Z Y
 intro a w1 Z Y
 refine wlm Z rfl fun a Z => wlv Z (ai rfl rfl) fun a Z => wlv Z (ai rfl rfl) fun a Z => wla Z rfl fun a Z => wla Z rfl fun a Z => ab (hK4 _ _ ?_)
 replace Z := Z.p4 0 2 3 4 rfl
 refine aa fun K5 hK5 => wlm Z rfl fun a Z => wlm Z rfl fun a Z => wlv Z (bS rfl rfl (by (try simp only [List.length_append]); omega)) fun a Z => wla Z rfl fun a Z => wla Z rfl fun a Z => ab (hK5 _ _ <| ap ?_)
 refine al Z results94 (ac rfl (ac rfl ag)) ?_
 exact ⟨by rfl, Y.ext⟩
def smalls (l : List Int) : Prop := ∀ n ∈ l, small n
def i64 (n : Int) : Prop := -9223372036854775808 ≤ n ∧ n ≤ 9223372036854775807
def Rec.cells (x : Rec) : List Value := [iv x.t, iv x.kind, iv x.a, iv x.b, sv x.text]
theorem bW {l : List (List Value)} (h : ∀ e ∈ l, ∃ p : Rec, e = p.cells) : ∀ e ∈ l, ∀ u ∈ e, u.oneCell' = true := by
 intro e he u hu
 obtain ⟨p, rfl⟩ := h e he
 simp only [Rec.cells, List.mem_cons, List.not_mem_nil, or_false] at hu
 rcases hu with rfl | rfl | rfl | rfl | rfl <;> rfl
def Rin.cells (y : Rin) : List Value := [iv y.x0, iv y.x1, iv y.x2, iv y.x3, iv y.x4]
def Rin.z : Rin := ⟨0, 0, 0, 0, 0⟩
def Rin.wt (y : Rin) : Prop := i64 y.x0 ∧ i64 y.x1 ∧ i64 y.x2 ∧ i64 y.x3 ∧ i64 y.x4
theorem nw {α : Type} {d : α} {xs ys : List α} {k : Nat} (hl : xs.length = ys.length) (hk : xs.length ≤ k) (h : ∀ j, j < k → xs.getD j d = ys.getD j d) : xs = ys := by
 refine List.ext_getElem hl fun j h1 h2 => ?_
 have := h j om
 simpa [List.getD_eq_getElem?_getD, h1, h2] using this
theorem o0 {α : Type} {d : α} {xs ys : List α} {k : Nat} (h : xs.getD k d ≠ ys.getD k d) : xs ≠ ys := fun e => h (by rw [e])
def prevT (l : List Rec) : Nat → Int
 | 0 => 0
 | k + 1 => (l.getD k Rec.z).t
theorem ol {l : List Rec} {k : Nat} (h : 0 < k) : prevT l k = (l.getD (k - 1) Rec.z).t := by
 cases k with
 | zero => exact absurd h (Nat.lt_irrefl 0)
 | succ k => rfl
theorem Rec.t0 {x : Rec} (h : x.ok = true) : 0 ≤ x.t := by
 simp only [Rec.ok, inB, Bool.and_eq_true, decide_eq_true_eq] at h; omega
theorem fd {l : List Rec} {k : Nat} (h : k < l.length) : l.drop k = l.getD k Rec.z :: l.drop (k + 1) := by
 rw [List.drop_eq_getElem_cons h, List.getD_eq_getElem?_getD, List.getElem?_eq_getElem h]; rfl
section
variable {l : List Rec} {k : Nat} {t : Int}
theorem nP (hk : k < l.length) (ho : (l.getD k Rec.z).ok = true) (ht : t ≤ (l.getD k Rec.z).t) : aQ t (l.drop k) = aQ (prevT l (k + 1)) (l.drop (k + 1)) := by
 rw [fd hk, aQ, ho, decide_eq_true ht]; rfl
theorem pP (hk : k < l.length) (ho : (l.getD k Rec.z).ok = false) : aQ t (l.drop k) = false := by rw [fd hk, aQ, ho]; rfl
theorem pQ (hk : k < l.length) (ht : (l.getD k Rec.z).t < t) : aQ t (l.drop k) = false := by rw [fd hk, aQ, decide_eq_false om, Bool.and_false]; rfl
end
def eB (x : Rec) : By := if x.ok = true then x.enc else []
def eE (x : Rec) : Int := if x.ok = true then 0 else 110
theorem nE (x : Rec) : (eB x).length ≤ 300 := by
 unfold eB
 split
 ·rename_i h
  have h1 := x.enc_len
  have h2 := Rec.len h
  omega
 ·simp
def decR (acc : List Int) (m : Nat) (r : By) : Option Rec := match intsR m r with
 | none => none
 | some (l, t) => tailR (acc ++ l) t
def decX (s : By) : Rec := (decRec s).getD Rec.z
def decE (s : By) : Int := if (decRec s).isSome = true then 0 else 110
section
variable {acc : List Int} {m : Nat} {r q x s : By} {n : Int}
theorem oD : decRec s = decR [] 4 s := by
 unfold decRec decR
 cases intsR 4 s <;> rfl
theorem fR (h : rdI r = some (n, q)) : decR acc (m + 1) r = decR (acc ++ [n]) m q := by
 unfold decR
 rw [n7 h]
 cases intsR m q with
 | none => rfl
 | some p => simp
theorem eX (h : rdI r = none) : decR acc (m + 1) r = none := by unfold decR; rw [lT h]
theorem oE : decR acc 0 r = tailR acc r := by unfold decR; simp [intsR]
theorem mj (h : rdS r = none) : tailR acc r = none := by unfold tailR; rw [h]
theorem oI (h : rdS r = some (x, q)) : tailR acc r = shutR acc x q := by unfold tailR; rw [h]
theorem mA (h1 : q = []) (h2 : (recN acc x).ok = true) : shutR acc x q = some (recN acc x) := if_pos ⟨h1, h2⟩
theorem mo (h : q ≠ []) : shutR acc x q = none := if_neg fun hh => h hh.1
theorem mF (h : (recN acc x).ok = false) : shutR acc x q = none := if_neg fun hh => by rw [h] at hh; cases hh.2
end
def codesB (l : List Rec) : List By := l.map eB
theorem cK {l : List Rec} (h : ∀ x ∈ l, x.ok = true) : codesB l = codesR l := List.map_congr_left fun x hx => if_pos (h x hx)
theorem eI (l : List Rec) : ∀ s ∈ codesB l, s.length ≤ 300 := by
 intro s hs
 obtain ⟨x, _, rfl⟩ := List.mem_map.1 hs
 exact nE x
theorem db (l : List Rec) : (codesB l).length = l.length := List.length_map ..
theorem jy (l : List Rec) (x : Rec) : codesB (l ++ [x]) = codesB l ++ [eB x] := by simp [codesB]
def addOk (o : Int) (l : List Rec) (x : Rec) : Bool := logOk o l && logOk o (l ++ [x])
theorem dY {P : Program} {w : World} {d : Nat} {xs ys : Array Value} {f : Field} {fs : List Field} {a b : Value} {r r' : Bool} (hn : f.name ≠ "_") (h1 : (part f.type xs f.offset).run P w = .ok a w) (h2 : (part f.type ys f.offset).run P w = .ok b w)
  (h3 : (Op.equalIn d f.type a b).run P w = .ok r w) (h4 : (Op.eqFields d xs ys fs).run P w = .ok r' w) : (Op.eqFields d xs ys (f :: fs)).run P w = .ok (r && r') w := by
 simp only [Op.eqFields, hn, ne_eq, not_false_eq_true, if_true, Sem.run_bind, h1, h2, h3, Result.andThen_ok]
 cases r
 ·simp
 ·simpa using h4
theorem pp {P : Program} {w : World} {d : Nat} {xs ys : Array Value} : (Op.eqFields d xs ys []).run P w = .ok true w := by simp [Op.eqFields]
theorem eqI {w : World} (d : Nat) (a b : Int) : (Op.equalIn (d + 1) 3 (iv a) (iv b)).run Tryz.prog w = .ok (decide (a = b)) w := by
 rw [run_equalIn_int w d 3 .i64 .i64 a b underlying3]; congr 1
theorem eqS {w : World} (d : Nat) (a b : By) : (Op.equalIn (d + 1) 9 (sv a) (sv b)).run Tryz.prog w = .ok (decide (a = b)) w := by
 unfold sv
 rw [run_equalIn_string w d 9 _ _ underlying9, ByteArray.toList_mk, ByteArray.toList_mk]; congr 1
 rw [Bool.eq_iff_iff]; simp
theorem eqRec (a0 a1 a2 a3 : Int) (a4 : By) (c0 c1 c2 c3 : Int) (c4 : By) (w : World) : (Op.equal 48 (.agg #[iv a0, iv a1, iv a2, iv a3, sv a4]) (.agg #[iv c0, iv c1, iv c2, iv c3, sv c4])).run Tryz.prog w = .ok (decide (Rec.mk a0 a1 a2 a3 a4 = Rec.mk c0 c1 c2 c3 c4)) w := by
 have e : decide (Rec.mk a0 a1 a2 a3 a4 = Rec.mk c0 c1 c2 c3 c4) = (decide (a0 = c0) && (decide (a1 = c1) && (decide (a2 = c2) && (decide (a3 = c3) && (decide (a4 = c4) && true))))) := by
  rw [Bool.eq_iff_iff]; simp [and_assoc]
 rw [e]
 unfold Op.equal Op.maxDepth
 obtain ⟨dd, hd⟩ : ∃ dd, 10000 = dd + 1 + 1 + 1 := ⟨9997, rfl⟩
 rw [hd, run_equalIn_struct w (dd + 1 + 1) 48 _ _ kr kr]
 simp only [Program.fieldsOf, underlying48]
 refine dY (a := iv a0) (b := iv c0) (r := decide (a0 = c0)) de (by simp [part, isAgg3, sv]) (by simp [part, isAgg3, sv]) (eqI _ _ _) ?_
 refine dY (a := iv a1) (b := iv c1) (r := decide (a1 = c1)) de (by simp [part, isAgg3, sv]) (by simp [part, isAgg3, sv]) (eqI _ _ _) ?_
 refine dY (a := iv a2) (b := iv c2) (r := decide (a2 = c2)) de (by simp [part, isAgg3, sv]) (by simp [part, isAgg3, sv]) (eqI _ _ _) ?_
 refine dY (a := iv a3) (b := iv c3) (r := decide (a3 = c3)) de (by simp [part, isAgg3, sv]) (by simp [part, isAgg3, sv]) (eqI _ _ _) ?_
 refine dY (a := sv a4) (b := sv c4) (r := decide (a4 = c4)) de (by simp [part, isAgg9, sv]) (by simp [part, isAgg9, sv]) (eqS _ _ _) ?_
 exact pp
theorem cj (n m : Int) (w0 : World) (hn : -9223372036854775808 ≤ n ∧ n ≤ 9223372036854775807) (hm : 0 < m ∧ m ≤ 9223372036854775807) :
  Ret Tryz.prog 38 #[iv n, iv m] w0 fun v w => v = iv (pickI n m) ∧ Ext No w0 w := by
 refine aD func38 rfl ntmps38 (lb rfl) fun a Z => ?_
 replace Z := Z.p2 0 1 rfl
 replace Y : St No w0 [] w0 := St.init w0
 refine aa fun K1 hK1 => wla Z rfl fun a Z => ab (hK1 _ _ <| ae fun K2 hK2 => ?_)
 refine aa fun K3 hK3 => wlm Z rfl fun a Z => wlv Z (v_lt rfl rfl) fun a Z => ab (hK3 _ _ ?_)
 refine ax Z rfl (fun hc1 => ?_) (fun hc1 => ?_)
 ·rw [hc1] at Z
  try simp only [qz] at hc1
  refine ao <| wlm Z rfl fun a Z => wlv Z (aV rfl rfl ⟨om, om⟩) fun a Z => wlv Z (jl rfl om om) fun a Z => wla Z rfl fun a Z => ab <| hK2 _ _ <| aa fun K4 hK4 => wlm Z rfl fun a Z => wlm Z rfl fun a Z => wlv Z (ik rfl rfl om om) fun a Z => wla Z rfl fun a Z => ab (hK4 _ _ ?_)
  replace Z := Z.p1 4 rfl
  refine ap ?_
  refine al Z results38 (ac rfl ag) ?_
  exact ⟨by simp only [retv, pickI]; simp [hc1], Y.ext⟩
 rw [hc1] at Z
 try simp only [qz] at hc1
 refine ar <| hK2 _ _ <| aa fun K5 hK5 => wlm Z rfl fun a Z => wlm Z rfl fun a Z => wlv Z (ik rfl rfl om om) fun a Z => wla Z rfl fun a Z => ab (hK5 _ _ ?_)
 replace Z := Z.p1 4 rfl
 refine ap ?_
 refine al Z results38 (ac rfl ag) ?_
 exact ⟨by simp only [retv, pickI]; simp [hc1], Y.ext⟩
theorem kd (n m : Int) (w0 : World) (hn : -9223372036854775808 ≤ n ∧ n ≤ 9223372036854775807) (hm : 0 < m ∧ m ≤ 9223372036854775807) :
  Ret Tryz.prog 17 #[iv n, iv m] w0 fun v w => v = iv (pickI n m) ∧ Ext No w0 w := by
 refine aD func17 rfl ntmps17 (lb rfl) fun a Z => ?_
 replace Z := Z.p2 0 1 rfl
 replace Y : St No w0 [] w0 := St.init w0
 refine aa fun K1 hK1 => wla Z rfl fun a Z => ab (hK1 _ _ <| ae fun K2 hK2 => ?_)
 refine aa fun K3 hK3 => wlm Z rfl fun a Z => wlv Z (v_lt rfl rfl) fun a Z => ab (hK3 _ _ ?_)
 refine ax Z rfl (fun hc1 => ?_) (fun hc1 => ?_)
 ·rw [hc1] at Z
  try simp only [qz] at hc1
  refine ao <| wlm Z rfl fun a Z => wlv Z (aV rfl rfl ⟨om, om⟩) fun a Z => wlv Z (jl rfl om om) fun a Z => wla Z rfl fun a Z => ab <| hK2 _ _ <| aa fun K4 hK4 => wlm Z rfl fun a Z => wlm Z rfl fun a Z => wlv Z (ik rfl rfl om om) fun a Z => wla Z rfl fun a Z => ab (hK4 _ _ ?_)
  replace Z := Z.p1 4 rfl
  refine ap ?_
  refine al Z results17 (ac rfl ag) ?_
  exact ⟨by simp only [retv, pickI]; simp [hc1], Y.ext⟩
 rw [hc1] at Z
 try simp only [qz] at hc1
 refine ar <| hK2 _ _ <| aa fun K5 hK5 => wlm Z rfl fun a Z => wlm Z rfl fun a Z => wlv Z (ik rfl rfl om om) fun a Z => wla Z rfl fun a Z => ab (hK5 _ _ ?_)
 replace Z := Z.p1 4 rfl
 refine ap ?_
 refine al Z results17 (ac rfl ag) ?_
 exact ⟨by simp only [retv, pickI]; simp [hc1], Y.ext⟩
theorem fw (x : Rec) (w0 : World) :
  Ret Tryz.prog 79 #[.agg #[iv x.t, iv x.kind, iv x.a, iv x.b, sv x.text]] w0 fun v w => v = .bool x.ok ∧ Ext No w0 w := by
 refine aD func79 rfl ntmps79 (lb rfl) fun a Z => ?_
 replace Z := Z.p1 0 rfl
 replace Y : St No w0 [] w0 := St.init w0
 refine aa fun K1 hK1 => bj Z Y de rfl (cs := [iv x.t, iv x.kind, iv x.a, iv x.b, sv x.text]) rfl ?_
 clear Z Y
 intro a w1 Z Y
 refine wla Z rfl fun a Z => ab (hK1 _ _ <| aa fun K2 hK2 => ?_)
 refine wlv Z (ak (v := pt w0.hz) rfl kr) fun a Z => wlv Z (ld Y 0 rfl rfl (isAgg3 _) rfl) fun a Z => wlv Z (v_ge rfl rfl) fun a Z => wlm Z rfl fun a Z => ?_
 refine cR (N := 47) (df := []) 4 [(10, .bool ((decide (0 ≤ x.t)) && (decide (x.t ≤ 10000000)))), (0, .agg #[iv x.t, iv x.kind, iv x.a, iv x.b, sv x.text]), (1, pt w0.hz), (2, .bool false)] ?_ (fun hj => ?_)
 rotate_left
 ·rcases Bool.eq_false_or_eq_true (decide (0 ≤ x.t)) with hb1 | hb1
  ·rw [hb1] at Z
   have hb1b := hb1
   try simp only [qz, Bool.and_eq_true, Bool.or_eq_true, Bool.and_eq_false_iff, Bool.or_eq_false_iff] at hb1
   refine wly Z (ak (v := pt w0.hz) rfl kr) fun a Z => wly Z (ld Y 0 rfl rfl (isAgg3 _) rfl) fun a Z => wly Z (v_le rfl rfl) fun a Z => wlv Z (az rfl rfl) fun a Z => ?_
   refine hj _ ?_
   try rw [hb1b]
   exact Z.pick [10, 0, 1, 2]
  rw [hb1] at Z
  have hb1b := hb1
  try simp only [qz, Bool.and_eq_true, Bool.or_eq_true, Bool.and_eq_false_iff, Bool.or_eq_false_iff] at hb1
  refine wln Z fun a Z => wln Z fun a Z => wln Z fun a Z => wlv Z (ay rfl rfl) fun a Z => ?_
  refine hj _ ?_
  try rw [hb1b]
  exact Z.pick [10, 0, 1, 2]
 intro a Z
 refine wlm Z rfl fun a Z => ?_
 refine cR (N := 47) (df := []) 4 [(15, .bool (((decide (0 ≤ x.t)) && (decide (x.t ≤ 10000000))) && (decide (1 ≤ x.kind)))), (0, .agg #[iv x.t, iv x.kind, iv x.a, iv x.b, sv x.text]), (1, pt w0.hz), (2, .bool false)] ?_ (fun hj => ?_)
 rotate_left
 ·rcases Bool.eq_false_or_eq_true ((decide (0 ≤ x.t)) && (decide (x.t ≤ 10000000))) with hb2 | hb2
  ·rw [hb2] at Z
   have hb2b := hb2
   try simp only [qz, Bool.and_eq_true, Bool.or_eq_true, Bool.and_eq_false_iff, Bool.or_eq_false_iff] at hb2
   refine wly Z (ak (v := po w0.hz 1) rfl kr) fun a Z => wly Z (ld Y 0 rfl rfl (isAgg3 _) rfl) fun a Z => wly Z (v_ge rfl rfl) fun a Z => wlv Z (az rfl rfl) fun a Z => ?_
   refine hj _ ?_
   try rw [hb2b]
   exact Z.pick [15, 0, 1, 2]
  rw [hb2] at Z
  have hb2b := hb2
  try simp only [qz, Bool.and_eq_true, Bool.or_eq_true, Bool.and_eq_false_iff, Bool.or_eq_false_iff] at hb2
  refine wln Z fun a Z => wln Z fun a Z => wln Z fun a Z => wlv Z (ay rfl rfl) fun a Z => ?_
  refine hj _ ?_
  try rw [hb2b]
  exact Z.pick [15, 0, 1, 2]
 intro a Z
 refine wlm Z rfl fun a Z => ?_
 refine cR (N := 47) (df := []) 4 [(20, .bool ((((decide (0 ≤ x.t)) && (decide (x.t ≤ 10000000))) && (decide (1 ≤ x.kind))) && (decide (x.kind ≤ 20)))), (0, .agg #[iv x.t, iv x.kind, iv x.a, iv x.b, sv x.text]), (1, pt w0.hz), (2, .bool false)] ?_ (fun hj => ?_)
 rotate_left
 ·rcases Bool.eq_false_or_eq_true (((decide (0 ≤ x.t)) && (decide (x.t ≤ 10000000))) && (decide (1 ≤ x.kind))) with hb3 | hb3
  ·rw [hb3] at Z
   have hb3b := hb3
   try simp only [qz, Bool.and_eq_true, Bool.or_eq_true, Bool.and_eq_false_iff, Bool.or_eq_false_iff] at hb3
   refine wly Z (ak (v := po w0.hz 1) rfl kr) fun a Z => wly Z (ld Y 0 rfl rfl (isAgg3 _) rfl) fun a Z => wly Z (v_le rfl rfl) fun a Z => wlv Z (az rfl rfl) fun a Z => ?_
   refine hj _ ?_
   try rw [hb3b]
   exact Z.pick [20, 0, 1, 2]
  rw [hb3] at Z
  have hb3b := hb3
  try simp only [qz, Bool.and_eq_true, Bool.or_eq_true, Bool.and_eq_false_iff, Bool.or_eq_false_iff] at hb3
  refine wln Z fun a Z => wln Z fun a Z => wln Z fun a Z => wlv Z (ay rfl rfl) fun a Z => ?_
  refine hj _ ?_
  try rw [hb3b]
  exact Z.pick [20, 0, 1, 2]
 intro a Z
 refine wlm Z rfl fun a Z => ?_
 refine cR (N := 47) (df := []) 4 [(25, .bool (((((decide (0 ≤ x.t)) && (decide (x.t ≤ 10000000))) && (decide (1 ≤ x.kind))) && (decide (x.kind ≤ 20))) && (decide (-1 ≤ x.a)))), (0, .agg #[iv x.t, iv x.kind, iv x.a, iv x.b, sv x.text]), (1, pt w0.hz), (2, .bool false)] ?_ (fun hj => ?_)
 rotate_left
 ·rcases Bool.eq_false_or_eq_true ((((decide (0 ≤ x.t)) && (decide (x.t ≤ 10000000))) && (decide (1 ≤ x.kind))) && (decide (x.kind ≤ 20))) with hb4 | hb4
  ·rw [hb4] at Z
   have hb4b := hb4
   try simp only [qz, Bool.and_eq_true, Bool.or_eq_true, Bool.and_eq_false_iff, Bool.or_eq_false_iff] at hb4
   refine wly Z (ak (v := po w0.hz 2) rfl kr) fun a Z => wly Z (ld Y 0 rfl rfl (isAgg3 _) rfl) fun a Z => wly Z (v_ge rfl rfl) fun a Z => wlv Z (az rfl rfl) fun a Z => ?_
   refine hj _ ?_
   try rw [hb4b]
   exact Z.pick [25, 0, 1, 2]
  rw [hb4] at Z
  have hb4b := hb4
  try simp only [qz, Bool.and_eq_true, Bool.or_eq_true, Bool.and_eq_false_iff, Bool.or_eq_false_iff] at hb4
  refine wln Z fun a Z => wln Z fun a Z => wln Z fun a Z => wlv Z (ay rfl rfl) fun a Z => ?_
  refine hj _ ?_
  try rw [hb4b]
  exact Z.pick [25, 0, 1, 2]
 intro a Z
 refine wlm Z rfl fun a Z => ?_
 refine cR (N := 47) (df := []) 4 [(30, .bool ((((((decide (0 ≤ x.t)) && (decide (x.t ≤ 10000000))) && (decide (1 ≤ x.kind))) && (decide (x.kind ≤ 20))) && (decide (-1 ≤ x.a))) && (decide (x.a ≤ 99999999)))), (0, .agg #[iv x.t, iv x.kind, iv x.a, iv x.b, sv x.text]), (1, pt w0.hz), (2, .bool false)] ?_ (fun hj => ?_)
 rotate_left
 ·rcases Bool.eq_false_or_eq_true (((((decide (0 ≤ x.t)) && (decide (x.t ≤ 10000000))) && (decide (1 ≤ x.kind))) && (decide (x.kind ≤ 20))) && (decide (-1 ≤ x.a))) with hb5 | hb5
  ·rw [hb5] at Z
   have hb5b := hb5
   try simp only [qz, Bool.and_eq_true, Bool.or_eq_true, Bool.and_eq_false_iff, Bool.or_eq_false_iff] at hb5
   refine wly Z (ak (v := po w0.hz 2) rfl kr) fun a Z => wly Z (ld Y 0 rfl rfl (isAgg3 _) rfl) fun a Z => wly Z (v_le rfl rfl) fun a Z => wlv Z (az rfl rfl) fun a Z => ?_
   refine hj _ ?_
   try rw [hb5b]
   exact Z.pick [30, 0, 1, 2]
  rw [hb5] at Z
  have hb5b := hb5
  try simp only [qz, Bool.and_eq_true, Bool.or_eq_true, Bool.and_eq_false_iff, Bool.or_eq_false_iff] at hb5
  refine wln Z fun a Z => wln Z fun a Z => wln Z fun a Z => wlv Z (ay rfl rfl) fun a Z => ?_
  refine hj _ ?_
  try rw [hb5b]
  exact Z.pick [30, 0, 1, 2]
 intro a Z
 refine wlm Z rfl fun a Z => ?_
 refine cR (N := 47) (df := []) 4 [(35, .bool (((((((decide (0 ≤ x.t)) && (decide (x.t ≤ 10000000))) && (decide (1 ≤ x.kind))) && (decide (x.kind ≤ 20))) && (decide (-1 ≤ x.a))) && (decide (x.a ≤ 99999999))) && (decide (-1 ≤ x.b)))), (0, .agg #[iv x.t, iv x.kind, iv x.a, iv x.b, sv x.text]), (1, pt w0.hz), (2, .bool false)] ?_ (fun hj => ?_)
 rotate_left
 ·rcases Bool.eq_false_or_eq_true ((((((decide (0 ≤ x.t)) && (decide (x.t ≤ 10000000))) && (decide (1 ≤ x.kind))) && (decide (x.kind ≤ 20))) && (decide (-1 ≤ x.a))) && (decide (x.a ≤ 99999999))) with hb6 | hb6
  ·rw [hb6] at Z
   have hb6b := hb6
   try simp only [qz, Bool.and_eq_true, Bool.or_eq_true, Bool.and_eq_false_iff, Bool.or_eq_false_iff] at hb6
   refine wly Z (ak (v := po w0.hz 3) rfl kr) fun a Z => wly Z (ld Y 0 rfl rfl (isAgg3 _) rfl) fun a Z => wly Z (v_ge rfl rfl) fun a Z => wlv Z (az rfl rfl) fun a Z => ?_
   refine hj _ ?_
   try rw [hb6b]
   exact Z.pick [35, 0, 1, 2]
  rw [hb6] at Z
  have hb6b := hb6
  try simp only [qz, Bool.and_eq_true, Bool.or_eq_true, Bool.and_eq_false_iff, Bool.or_eq_false_iff] at hb6
  refine wln Z fun a Z => wln Z fun a Z => wln Z fun a Z => wlv Z (ay rfl rfl) fun a Z => ?_
  refine hj _ ?_
  try rw [hb6b]
  exact Z.pick [35, 0, 1, 2]
 intro a Z
 refine wlm Z rfl fun a Z => ?_
 refine cR (N := 47) (df := []) 4 [(40, .bool ((((((((decide (0 ≤ x.t)) && (decide (x.t ≤ 10000000))) && (decide (1 ≤ x.kind))) && (decide (x.kind ≤ 20))) && (decide (-1 ≤ x.a))) && (decide (x.a ≤ 99999999))) && (decide (-1 ≤ x.b))) && (decide (x.b ≤ 99999999)))), (0, .agg #[iv x.t, iv x.kind, iv x.a, iv x.b, sv x.text]), (1, pt w0.hz), (2, .bool false)] ?_ (fun hj => ?_)
 rotate_left
 ·rcases Bool.eq_false_or_eq_true (((((((decide (0 ≤ x.t)) && (decide (x.t ≤ 10000000))) && (decide (1 ≤ x.kind))) && (decide (x.kind ≤ 20))) && (decide (-1 ≤ x.a))) && (decide (x.a ≤ 99999999))) && (decide (-1 ≤ x.b))) with hb7 | hb7
  ·rw [hb7] at Z
   have hb7b := hb7
   try simp only [qz, Bool.and_eq_true, Bool.or_eq_true, Bool.and_eq_false_iff, Bool.or_eq_false_iff] at hb7
   refine wly Z (ak (v := po w0.hz 3) rfl kr) fun a Z => wly Z (ld Y 0 rfl rfl (isAgg3 _) rfl) fun a Z => wly Z (v_le rfl rfl) fun a Z => wlv Z (az rfl rfl) fun a Z => ?_
   refine hj _ ?_
   try rw [hb7b]
   exact Z.pick [40, 0, 1, 2]
  rw [hb7] at Z
  have hb7b := hb7
  try simp only [qz, Bool.and_eq_true, Bool.or_eq_true, Bool.and_eq_false_iff, Bool.or_eq_false_iff] at hb7
  refine wln Z fun a Z => wln Z fun a Z => wln Z fun a Z => wlv Z (ay rfl rfl) fun a Z => ?_
  refine hj _ ?_
  try rw [hb7b]
  exact Z.pick [40, 0, 1, 2]
 intro a Z
 refine wlm Z rfl fun a Z => ?_
 refine cR (N := 47) (df := []) 5 [(46, .bool (((((((((decide (0 ≤ x.t)) && (decide (x.t ≤ 10000000))) && (decide (1 ≤ x.kind))) && (decide (x.kind ≤ 20))) && (decide (-1 ≤ x.a))) && (decide (x.a ≤ 99999999))) && (decide (-1 ≤ x.b))) && (decide (x.b ≤ 99999999))) && (decide ((x.text.length : Int) ≤ 200)))), (0, .agg #[iv x.t, iv x.kind, iv x.a, iv x.b, sv x.text]), (1, pt w0.hz), (2, .bool false)] ?_ (fun hj => ?_)
 rotate_left
 ·rcases Bool.eq_false_or_eq_true ((((((((decide (0 ≤ x.t)) && (decide (x.t ≤ 10000000))) && (decide (1 ≤ x.kind))) && (decide (x.kind ≤ 20))) && (decide (-1 ≤ x.a))) && (decide (x.a ≤ 99999999))) && (decide (-1 ≤ x.b))) && (decide (x.b ≤ 99999999))) with hb8 | hb8
  ·rw [hb8] at Z
   have hb8b := hb8
   try simp only [qz, Bool.and_eq_true, Bool.or_eq_true, Bool.and_eq_false_iff, Bool.or_eq_false_iff] at hb8
   refine wly Z (ak (v := po w0.hz 4) rfl kr) fun a Z => wly Z (ld Y 0 rfl rfl (isAgg9 _) rfl) fun a Z => wly Z (bo rfl rfl (runUnderlying9 _)) fun a Z => wly Z (v_le rfl rfl) fun a Z => wlv Z (az rfl rfl) fun a Z => ?_
   refine hj _ ?_
   try rw [hb8b]
   exact Z.pick [46, 0, 1, 2]
  rw [hb8] at Z
  have hb8b := hb8
  try simp only [qz, Bool.and_eq_true, Bool.or_eq_true, Bool.and_eq_false_iff, Bool.or_eq_false_iff] at hb8
  refine wln Z fun a Z => wln Z fun a Z => wln Z fun a Z => wln Z fun a Z => wlv Z (ay rfl rfl) fun a Z => ?_
  refine hj _ ?_
  try rw [hb8b]
  exact Z.pick [46, 0, 1, 2]
 intro a Z
 refine wla Z rfl fun a Z => ab (hK2 _ _ <| ap ?_)
 refine al Z results79 (ac rfl ag) ?_
 refine ⟨?_, Y.ext⟩
 simp only [retv]
 refine congrArg Value.bool ?_
 rw [Bool.eq_iff_iff]; simp only [Rec.ok, inB, Bool.and_eq_true, decide_eq_true_eq]; omega
theorem ll (o : Int) (lv : Value) (l : List Rec) (w0 : World) (hlv : SlAt w0 lv 5 (l.map Rec.cells)) :
  Ret Tryz.prog 42 #[.agg #[iv o, lv]] w0 fun v w => v = .bool (logOk o l) ∧ Ext No w0 w := by
 have hxb := hlv.2.1
 simp only [List.length_map, big] at hxb
 refine aD func42 rfl ntmps42 (lb rfl) fun a Z => ?_
 replace Z := Z.p1 0 rfl
 replace Y : St No w0 [] w0 := St.init w0
 refine aa fun K1 hK1 => bj Z Y de rfl (cs := [iv o, lv]) rfl ?_
 clear Z Y
 intro a w1 Z Y
 refine wla Z rfl fun a Z => ab (hK1 _ _ <| ae fun K2 hK2 => ?_)
 refine aa fun K3 hK3 => wlv Z (ak (v := pt w0.hz) rfl kr) fun a Z => wlv Z (ld Y 0 rfl rfl (isAgg3 _) rfl) fun a Z => wlv Z (v_lt rfl rfl) fun a Z => wlm Z rfl fun a Z => ?_
 rcases Bool.eq_false_or_eq_true (decide (o < 0)) with hb1 | hb1
 ·rw [hb1] at Z
  try simp only [qz] at hb1
  refine wln Z fun a Z => wln Z fun a Z => wln Z fun a Z => wlv Z (az rfl rfl) fun a Z => wlm Z rfl fun a Z => wln Z fun a Z => wln Z fun a Z => wln Z fun a Z => wln Z fun a Z => wlv Z (az rfl rfl) fun a Z => ab (hK3 _ _ ?_)
  replace Z := Z.p3 1 2 17 rfl
  refine aI Z rfl ?_
  refine aa fun K4 hK4 => wla Z rfl fun a Z => ab (hK4 _ _ <| ap ?_)
  refine al Z results42 (ac rfl ag) ?_
  refine ⟨?_, Y.ext⟩
  simp only [retv]
  refine congrArg Value.bool ?_
  exact (by rw [eq_comm, Bool.eq_false_iff]; intro h; simp only [logOk, inB, Bool.and_eq_true, decide_eq_true_eq] at h; omega)
 rw [hb1] at Z
 try simp only [qz] at hb1
 refine wly Z (ak (v := pt w0.hz) rfl kr) fun a Z => wly Z (ld Y 0 rfl rfl (isAgg3 _) rfl) fun a Z => wly Z (v_gt rfl rfl) fun a Z => wlv Z (ay rfl rfl) fun a Z => wlm Z rfl fun a Z => ?_
 rcases Bool.eq_false_or_eq_true (decide (99 < o)) with hb2 | hb2
 ·rw [hb2] at Z
  try simp only [qz] at hb2
  refine wln Z fun a Z => wln Z fun a Z => wln Z fun a Z => wln Z fun a Z => wlv Z (az rfl rfl) fun a Z => ab (hK3 _ _ ?_)
  replace Z := Z.p3 1 2 17 rfl
  refine aI Z rfl ?_
  refine aa fun K5 hK5 => wla Z rfl fun a Z => ab (hK5 _ _ <| ap ?_)
  refine al Z results42 (ac rfl ag) ?_
  refine ⟨?_, Y.ext⟩
  simp only [retv]
  refine congrArg Value.bool ?_
  exact (by rw [eq_comm, Bool.eq_false_iff]; intro h; simp only [logOk, inB, Bool.and_eq_true, decide_eq_true_eq] at h; omega)
 rw [hb2] at Z
 try simp only [qz] at hb2
 refine wly Z (ak (v := po w0.hz 1) rfl kr) fun a Z => wly Z (ld Y 0 rfl rfl (isAgg23 _) rfl) fun a Z => wly Z ((aE (sT := 23) (Y.arg hlv) rfl rfl (runUnderlying23 _)).asi (m' := (l.length : Int)) (by rw [List.length_map])) fun a Z => wly Z (v_gt rfl rfl) fun a Z => wlv Z (ay rfl rfl) fun a Z => ab (hK3 _ _ ?_)
 replace Z := Z.p3 1 2 17 rfl
 refine ax Z rfl (fun hc3 => ?_) (fun hc3 => ?_)
 ·rw [hc3] at Z
  try simp only [qz] at hc3
  refine aa fun K6 hK6 => wla Z rfl fun a Z => ab (hK6 _ _ <| ap ?_)
  refine al Z results42 (ac rfl ag) ?_
  refine ⟨?_, Y.ext⟩
  simp only [retv]
  refine congrArg Value.bool ?_
  exact (by rw [eq_comm, Bool.eq_false_iff]; intro h; simp only [logOk, inB, Bool.and_eq_true, decide_eq_true_eq] at h; omega)
 rw [hc3] at Z
 try simp only [qz] at hc3
 refine ar <| hK2 _ _ <| ae fun K7 hK7 => aa fun K8 hK8 => wla Z rfl fun a Z => ab (hK8 _ _ <| aq ?_)
 refine aR (fun m a w => ∃ (k : Nat), m = l.length - k ∧ (k ≤ l.length) ∧ (aQ 0 l = aQ (prevT l k) (l.drop k)) ∧ Fr 52 [(1, pt w0.hz), (3, iv (k : Int))] [] a ∧ St No w0 [blk w0.hz [iv o, lv] 25] w) _ ⟨0, rfl, Nat.zero_le _, rfl, Z.pick [1, 3], Y.select [0] de⟩ ?_
 rintro _ a w2 ⟨k, rfl, hk, hs, Z, Y⟩
 refine ae fun K9 hK9 => aa fun K10 hK10 => wlm Z rfl fun a Z => wlv Z (ak (v := po w0.hz 1) rfl kr) fun a Z => wlv Z (ld Y 0 rfl rfl (isAgg23 _) rfl) fun a Z => wlv Z ((aE (sT := 23) (Y.arg hlv) rfl rfl (runUnderlying23 _)).asi (m' := (l.length : Int)) (by rw [List.length_map])) fun a Z => wlv Z (v_lt rfl rfl) fun a Z => ab (hK10 _ _ ?_)
 refine ax Z rfl (fun hc4 => ?_) (fun hc4 => ?_)
 ·rw [hc4] at Z
  try simp only [qz] at hc4
  have hkx : k < l.length := by omega
  refine ar <| hK9 _ _ <| ae fun K11 hK11 => aq <| ae fun K12 hK12 => aF kr (aG kr fun w3 hxz => ?_)
  replace Y := Y.grow hxz
  refine aT (k := 0) 3 [1, 2] Z kr kr kr rfx ?_
  replace Z := Z.p7 1 3 18 19 20 21 22 rfl
  refine aA [] (fun i => match i with | _ => fun _ _ => False) 3 [[], [0], []] [po w0.hz 1, lv, iv (k : Int)] Z Y kr kr kr ?_ ?_ ?_
  ·intro i hi hiq
   match i, hi, hiq with
   | 0, _, _ => exact fun w Y => OpV.g (ak (v := po w0.hz 1) rfl kr)
   | 1, _, _ => exact fun w Y => OpV.g (ld Y 0 rfl rfl (isAgg23 _) rfl)
   | 2, _, _ => exact fun w Y => OpV.g (ah rfl)
  ·intro i hi
   exact absurd hi sm
  clear Z Y
  intro  a w4 Z Y
  replace Z : Fr 52 [(25, po w0.hz 1), (26, lv), (27, iv (k : Int)), (1, _), (3, _), (18, _), (19, _), (20, _), (21, _), (22, _)] [] a := Z
  refine ab <| aP (k := 3) 11 [10] kr kr kr ?_
  refine wlv Z ((aj (i := (k : Int)) (sT := 23) (Y.arg hlv) rfl rfl (runUnderlying23 _) (sizeOf48 _) om (by rw [List.length_map]; omega)).as (v' := slAddr lv (k * 5)) rfl) fun a Z => wlv Z ((bX (Y.arg hlv) (i := k) (by rw [List.length_map]; omega) rfl (isAgg48 _) (sizeOf48 _)).as (v' := .agg #[iv ((l.getD k Rec.z).t), iv ((l.getD k Rec.z).kind), iv ((l.getD k Rec.z).a), iv ((l.getD k Rec.z).b), sv ((l.getD k Rec.z).text)]) (by rw [br Rec.z]; rfl)) fun a Z => am Z Y de call79 rfl (fw (l.getD k Rec.z) _) ?_
  clear Z Y
  intro a w5 Z Y
  refine wlv Z (bq rfl) fun a Z => wlm Z rfl fun a Z => ?_
  rcases Bool.eq_false_or_eq_true (!((l.getD k Rec.z).ok)) with hb5 | hb5
  ·rw [hb5] at Z
   try simp only [qz] at hb5
   have hbad : aQ 0 l = false := by rw [hs]; exact pP hkx (by simpa using hb5)
   refine wln Z fun a Z => wln Z fun a Z => wln Z fun a Z => ab ?_
   replace Z : Fr 52 [(1, pt w0.hz), (3, iv (k : Int)), (18, iv (k : Int)), (19, po w0.hz 1), (20, lv), (21, iv (l.length : Int)), (22, .bool true), (25, po w0.hz 1), (26, lv), (27, iv (k : Int)), (28, slAddr lv (k * 5)), (29, .agg #[iv ((l.getD k Rec.z).t), iv ((l.getD k Rec.z).kind), iv ((l.getD k Rec.z).a), iv ((l.getD k Rec.z).b), sv ((l.getD k Rec.z).text)]), (30, .bool ((l.getD k Rec.z).ok)), (31, .bool true), (32, .bool true), (33, undef), (34, undef), (35, undef)] [] a := Z.pick [1, 3, 18, 19, 20, 21, 22, 25, 26, 27, 28, 29, 30, 31, 32, 33, 34, 35]
   refine fQ (k := 11) 24 [16, 23] Z kr kr kr rfx fun a Z => ?_
   replace Z : Fr 52 [(36, undef), (37, undef), (38, undef), (39, undef), (40, undef), (41, undef), (42, undef), (43, undef), (44, undef), (45, undef), (46, undef), (47, undef), (48, undef), (1, pt w0.hz), (3, iv (k : Int)), (18, iv (k : Int)), (19, po w0.hz 1), (20, lv), (21, iv (l.length : Int)), (22, .bool true), (25, po w0.hz 1), (26, lv), (27, iv (k : Int)), (28, slAddr lv (k * 5)), (29, .agg #[iv ((l.getD k Rec.z).t), iv ((l.getD k Rec.z).kind), iv ((l.getD k Rec.z).a), iv ((l.getD k Rec.z).b), sv ((l.getD k Rec.z).text)]), (30, .bool ((l.getD k Rec.z).ok)), (31, .bool true), (32, .bool true), (33, undef), (34, undef), (35, undef)] [] a := Z
   refine aP (k := 24) 27 [26] kr kr kr ?_
   refine wl_vu Z de rfl de rfl fun a Z => wln Z fun a Z => wlv Z (az rfl rfl) fun a Z => ab <| aS kr ?_
   refine hK12 _ _ ?_
   replace Z := Z.p3 1 3 51 rfl
   refine aI Z rfl ?_
   refine aa fun K13 hK13 => wla Z rfl fun a Z => ab (hK13 _ _ <| ap ?_)
   refine al Z results42 (ac rfl ag) ?_
   refine ⟨?_, Y.ext⟩
   simp only [retv]
   refine congrArg Value.bool ?_
   unfold logOk; rw [hbad]; rfl
  rw [hb5] at Z
  try simp only [qz] at hb5
  have hok : (l.getD k Rec.z).ok = true := by simpa using hb5
  have ht0 := Rec.t0 hok
  refine wly Z (ah rfl) fun a Z => wly Z (v_gt rfl rfl) fun a Z => wly Z (ah rfl) fun a Z => ab ?_
  rcases Bool.eq_false_or_eq_true (decide (0 < (k : Int))) with hb6 | hb6
  ·rw [hb6] at Z
   try simp only [qz] at hb6
   have hpv := ol (l := l) (k := k) om
   refine aT (k := 11) 24 [16, 23] Z kr kr kr rfx ?_
   replace Z : Fr 52 [(1, _), (3, _), (18, _), (19, _), (20, _), (21, _), (22, _), (25, _), (26, _), (27, _), (28, _), (29, _), (30, _), (31, _), (32, _), (33, _), (34, _), (35, _)] [] a := Z.pick [1, 3, 18, 19, 20, 21, 22, 25, 26, 27, 28, 29, 30, 31, 32, 33, 34, 35]
   refine aA [] (fun i => match i with | _ => fun _ _ => False) 13 [[], [0], [], [1, 2], [3], [4], [], [6], [], [8], [7, 9], [10], [11]] [po w0.hz 1, lv, iv (k : Int), slAddr lv (k * 5), slAddr lv (k * 5 + 0), iv ((l.getD k Rec.z).t), po w0.hz 1, lv, iv (k : Int), iv ((k : Int) - 1), slAddr lv ((k - 1) * 5), slAddr lv ((k - 1) * 5 + 0), iv ((l.getD (k - 1) Rec.z).t)] Z Y kr kr kr ?_ ?_ ?_
   ·intro i hi hiq
    match i, hi, hiq with
    | 0, _, _ => exact fun w Y => OpV.g (ak (v := po w0.hz 1) rfl kr)
    | 1, _, _ => exact fun w Y => OpV.g (ld Y 0 rfl rfl (isAgg23 _) rfl)
    | 2, _, _ => exact fun w Y => OpV.g (ah rfl)
    | 3, _, _ => exact fun w Y => OpV.g ((aj (i := (k : Int)) (sT := 23) (Y.arg hlv) rfl rfl (runUnderlying23 _) (sizeOf48 _) om (by rw [List.length_map]; omega)).as (v' := slAddr lv (k * 5)) rfl)
    | 4, _, _ => exact fun w Y => OpV.g (cG (k := k * 5) (j := 0) (Y.arg hlv) (i := k) (by rw [List.length_map]; omega) rfl (fun _ _ => by kernel_rfl))
    | 5, _, _ => exact fun w Y => OpV.g (au (u := iv ((l.getD k Rec.z).t)) (i := k) (j := 0) (Y.arg hlv) (by rw [List.length_map]; omega) rfl (isAgg3 _) (by rw [br Rec.z]; rfl))
    | 6, _, _ => exact fun w Y => OpV.g (ak (v := po w0.hz 1) rfl kr)
    | 7, _, _ => exact fun w Y => OpV.g (ld Y 0 rfl rfl (isAgg23 _) rfl)
    | 8, _, _ => exact fun w Y => OpV.g (ah rfl)
    | 9, _, _ => exact fun w Y => OpV.g (bh rfl rfl ⟨om, om⟩)
    | 10, _, _ => exact fun w Y => OpV.g ((aj (i := (k : Int) - 1) (sT := 23) (Y.arg hlv) rfl rfl (runUnderlying23 _) (sizeOf48 _) om (by rw [List.length_map]; omega)).as (v' := slAddr lv ((k - 1) * 5)) (by rw [show ((k : Int) - 1).toNat = (k - 1) from by omega]))
    | 11, _, _ => exact fun w Y => OpV.g (cG (k := (k - 1) * 5) (j := 0) (Y.arg hlv) (i := (k - 1)) (by rw [List.length_map]; omega) rfl (fun _ _ => by kernel_rfl))
    | 12, _, _ => exact fun w Y => OpV.g (au (u := iv ((l.getD (k - 1) Rec.z).t)) (i := (k - 1)) (j := 0) (Y.arg hlv) (by rw [List.length_map]; omega) rfl (isAgg3 _) (by rw [br Rec.z]; rfl))
    | i + 13, h, _ => exact absurd h om
   ·intro i hi
    exact absurd hi sm
   clear Z Y
   intro  a w6 Z Y
   replace Z : Fr 52 [(36, po w0.hz 1), (37, lv), (38, iv (k : Int)), (39, slAddr lv (k * 5)), (40, slAddr lv (k * 5 + 0)), (41, iv ((l.getD k Rec.z).t)), (42, po w0.hz 1), (43, lv), (44, iv (k : Int)), (45, iv ((k : Int) - 1)), (46, slAddr lv ((k - 1) * 5)), (47, slAddr lv ((k - 1) * 5 + 0)), (48, iv ((l.getD (k - 1) Rec.z).t)), (1, _), (3, _), (18, _), (19, _), (20, _), (21, _), (22, _), (25, _), (26, _), (27, _), (28, _), (29, _), (30, _), (31, _), (32, _), (33, _), (34, _), (35, _)] [] a := Z
   refine ab <| aP (k := 24) 27 [26] kr kr kr ?_
   refine wly Z (v_lt rfl rfl) fun a Z => wly Z (az rfl rfl) fun a Z => wlv Z (ay rfl rfl) fun a Z => ab <| aS kr ?_
   refine hK12 _ _ ?_
   replace Z := Z.p3 1 3 51 rfl
   refine ax Z rfl (fun hc7 => ?_) (fun hc7 => ?_)
   ·rw [hc7] at Z
    try simp only [qz] at hc7
    have hbad : aQ 0 l = false := by rw [hs]; exact pQ hkx (by rw [hpv]; exact hc7)
    refine aa fun K14 hK14 => wla Z rfl fun a Z => ab (hK14 _ _ <| ap ?_)
    refine al Z results42 (ac rfl ag) ?_
    refine ⟨?_, Y.ext⟩
    simp only [retv]
    refine congrArg Value.bool ?_
    unfold logOk; rw [hbad]; rfl
   rw [hc7] at Z
   try simp only [qz] at hc7
   have hgo : prevT l k ≤ (l.getD k Rec.z).t := by rw [hpv]; omega
   refine ar <| hK11 _ _ <| ao <| wlm Z rfl fun a Z => wlv Z (aV rfl rfl ⟨om, om⟩) fun a Z => wla Z rfl fun a Z => ab ?_
   refine ⟨_, ?_, k + 1, rfl, om, (by rw [hs]; exact nP hkx hok hgo), Z.pick [1, 3], Y.select [0] de⟩
   omega
  rw [hb6] at Z
  try simp only [qz] at hb6
  have hgo : prevT l k ≤ (l.getD k Rec.z).t := by
   have h0 : k = 0 := by omega
   rw [h0] at ht0 ⊢; exact ht0
  replace Z : Fr 52 [(1, pt w0.hz), (3, iv (k : Int)), (18, iv (k : Int)), (19, po w0.hz 1), (20, lv), (21, iv (l.length : Int)), (22, .bool true), (25, po w0.hz 1), (26, lv), (27, iv (k : Int)), (28, slAddr lv (k * 5)), (29, .agg #[iv ((l.getD k Rec.z).t), iv ((l.getD k Rec.z).kind), iv ((l.getD k Rec.z).a), iv ((l.getD k Rec.z).b), sv ((l.getD k Rec.z).text)]), (30, .bool ((l.getD k Rec.z).ok)), (31, .bool false), (32, .bool false), (33, iv (k : Int)), (34, .bool false), (35, .bool false)] [] a := Z.pick [1, 3, 18, 19, 20, 21, 22, 25, 26, 27, 28, 29, 30, 31, 32, 33, 34, 35]
  refine fQ (k := 11) 24 [16, 23] Z kr kr kr rfx fun a Z => ?_
  replace Z : Fr 52 [(36, undef), (37, undef), (38, undef), (39, undef), (40, undef), (41, undef), (42, undef), (43, undef), (44, undef), (45, undef), (46, undef), (47, undef), (48, undef), (1, pt w0.hz), (3, iv (k : Int)), (18, iv (k : Int)), (19, po w0.hz 1), (20, lv), (21, iv (l.length : Int)), (22, .bool true), (25, po w0.hz 1), (26, lv), (27, iv (k : Int)), (28, slAddr lv (k * 5)), (29, .agg #[iv ((l.getD k Rec.z).t), iv ((l.getD k Rec.z).kind), iv ((l.getD k Rec.z).a), iv ((l.getD k Rec.z).b), sv ((l.getD k Rec.z).text)]), (30, .bool ((l.getD k Rec.z).ok)), (31, .bool false), (32, .bool false), (33, iv (k : Int)), (34, .bool false), (35, .bool false)] [] a := Z
  refine aP (k := 24) 27 [26] kr kr kr ?_
  refine wln Z fun a Z => wly Z (ay rfl rfl) fun a Z => wlv Z (ay rfl rfl) fun a Z => ab <| aS kr ?_
  refine hK12 _ _ ?_
  replace Z := Z.p3 1 3 51 rfl
  refine aL Z rfl ?_
  refine ar <| hK11 _ _ <| ao <| wlm Z rfl fun a Z => wlv Z (aV rfl rfl ⟨om, om⟩) fun a Z => wla Z rfl fun a Z => ab ?_
  refine ⟨_, ?_, k + 1, rfl, om, (by rw [hs]; exact nP hkx hok hgo), Z.pick [1, 3], Y.select [0] de⟩
  omega
 rw [hc4] at Z
 try simp only [qz] at hc4
 have hall : aQ 0 l = true := by rw [hs, show k = l.length by omega, List.drop_length]; rfl
 refine aJ <| hK7 _ _ <| aa fun K15 hK15 => wla Z rfl fun a Z => ab (hK15 _ _ ?_)
 replace Z := Z.p1 2 rfl
 replace Y : St No w0 [] w2 := Y.mask [false]
 refine ap ?_
 refine al Z results42 (ac rfl ag) ?_
 refine ⟨?_, Y.ext⟩
 simp only [retv]
 refine congrArg Value.bool ?_
 rw [eq_comm]; simp only [logOk, inB, Bool.and_eq_true, decide_eq_true_eq]; exact ⟨⟨hall, by omega, by omega⟩, by omega⟩
theorem pj (x : Rec) (w0 : World) (hok : x.ok = true) :
  Ret Tryz.prog 58 #[.agg #[iv x.t, iv x.kind, iv x.a, iv x.b, sv x.text]] w0 fun v w => v = .tuple #[sv x.enc, iv 0] ∧ Ext No w0 w := by
 have hsm := Rec.smalls hok
 have hs0 : small x.t := hsm _ sm
 have hs1 : small x.kind := hsm _ sm
 have hs2 : small x.a := hsm _ sm
 have hs3 : small x.b := hsm _ sm
 have hle := Rec.len hok
 have hq0 := bI x.t
 have hq1 := bI x.kind
 have hq2 := bI x.a
 have hq3 := bI x.b
 have hq4 := bI (x.text.length : Int)
 have hq5 : (putS x.text).length ≤ 300 := by unfold putS; rw [List.length_append]; omega
 refine aD func58 rfl ntmps58 (lb rfl) fun a Z => ?_
 replace Z := Z.p1 0 rfl
 replace Y : St No w0 [] w0 := St.init w0
 refine aa fun K1 hK1 => bj Z Y de rfl (cs := [iv x.t, iv x.kind, iv x.a, iv x.b, sv x.text]) rfl ?_
 clear Z Y
 intro a w1 Z Y
 refine wla Z rfl fun a Z => wla Z rfl fun a Z => ab (hK1 _ _ <| ae fun K2 hK2 => ?_)
 refine aa fun K3 hK3 => wlv Z (aw (Y.g 0 rfl) rfl (isAgg48 _) (sizeOf48 _)) fun a Z => am Z Y de call79 rfl (fw x _) ?_
 clear Z Y
 intro a w2 Z Y
 refine wlv Z (bq rfl) fun a Z => ab (hK3 _ _ ?_)
 refine ax Z rfl (fun hc1 => ?_) (fun hc1 => ?_)
 ·rw [hc1] at Z
  try simp only [qz] at hc1
  simp [hok] at hc1
 rw [hc1] at Z
 try simp only [qz] at hc1
 refine ar <| hK2 _ _ <| aa fun K4 hK4 => wla Z rfl fun a Z => ab (hK4 _ _ <| ae fun K5 hK5 => ?_)
 refine aa fun K6 hK6 => wlv Z (ak (v := pt w0.hz) rfl kr) fun a Z => wlv Z (ld Y 0 rfl rfl (isAgg3 _) rfl) fun a Z => wlv Z (ak (v := po w0.hz 1) rfl kr) fun a Z => wlv Z (ld Y 0 rfl rfl (isAgg3 _) rfl) fun a Z => wlv Z (ak (v := po w0.hz 2) rfl kr) fun a Z => wlv Z (ld Y 0 rfl rfl (isAgg3 _) rfl) fun a Z => wlv Z (ak (v := po w0.hz 3) rfl kr) fun a Z => wlv Z (ld Y 0 rfl rfl (isAgg3 _) rfl) fun a Z => aC (E := 3) (sz := 1) rfl [[iv x.t], [iv x.kind], [iv x.a], [iv x.b]] kr sm rfl de de Z Y ?_
 clear Z Y
 intro a w3 Z Y
 refine wlv Z ((aE (sT := 40) (Y.ow 0 rfl) rfl rfl (runUnderlying40 _)).asi (m' := 4) rfx) fun a Z => wlm Z rfl fun a Z => ab (hK6 _ _ ?_)
 replace Z := Z.p7 1 2 3 4 22 23 24 rfl
 refine aq <| fo 6 ?_
 refine cf ?_
 refine aa fun K7 hK7 => wlv Z ((v_lt rfl rfl).asb (b' := true) rfl) fun a Z => ab (hK7 _ _ <| ae fun K8 hK8 => ?_)
 refine aI Z rfl ?_
 refine ar <| hK8 _ _ <| ae fun K9 hK9 => aq <| aa fun K10 hK10 => wlv Z ((aj (i := 0) (sT := 40) (Y.ow 0 rfl) rfl rfl (runUnderlying40 _) (sizeOf3 _) om sm).as (v' := slAddr (.slice (some ⟨w2.hz, 0, none⟩) 4 4) (0 * 1)) rfl) fun a Z => wlv Z (au (u := iv x.t) (i := 0) (j := 0) (Y.ow 0 rfl) sm rfl (isAgg3 _) rfx) fun a Z => wla Z rfl fun a Z => ab (hK10 _ _ <| aa fun K11 hK11 => ?_)
 refine wlm Z rfl fun a Z => am Z Y de call44 rfl (cL x.t _ (by assumption)) ?_
 clear Z Y
 intro a w4 Z Y
 refine wlm Z rfl fun a Z => wlv Z (ai rfl rfl) fun a Z => wlv Z (ai rfl rfl) fun a Z => wla Z rfl fun a Z => wla Z rfl fun a Z => ab (hK11 _ _ ?_)
 replace Z := Z.p8 1 2 3 4 22 23 24 7 rfl
 refine ao <| wlm Z rfl fun a Z => wlm Z rfl fun a Z => wlv Z (bS rfl rfl (by first | omega | (simp only [List.length_append, List.length_nil]; omega))) fun a Z => wla Z rfl fun a Z => ab <| hK9 _ _ <| ao <| wlv Z ((aV rfl rfl de).asi (m' := 1) rfl) fun a Z => wlm Z rfl fun a Z => ab <| cf ?_
 refine aa fun K12 hK12 => wlv Z ((v_lt rfl rfl).asb (b' := true) rfl) fun a Z => ab (hK12 _ _ <| ae fun K13 hK13 => ?_)
 refine aI Z rfl ?_
 refine ar <| hK13 _ _ <| ae fun K14 hK14 => aq <| aa fun K15 hK15 => wlv Z ((aj (i := 1) (sT := 40) (Y.ow 0 rfl) rfl rfl (runUnderlying40 _) (sizeOf3 _) om sm).as (v' := slAddr (.slice (some ⟨w2.hz, 0, none⟩) 4 4) (1 * 1)) rfl) fun a Z => wlv Z (au (u := iv x.kind) (i := 1) (j := 0) (Y.ow 0 rfl) sm rfl (isAgg3 _) rfx) fun a Z => wla Z rfl fun a Z => ab (hK15 _ _ ?_)
 replace Z := Z.p8 1 2 3 22 23 4 24 6 rfl
 refine aa fun K16 hK16 => wlm Z rfl fun a Z => am Z Y de call44 rfl (cL x.kind _ (by assumption)) ?_
 clear Z Y
 intro a w5 Z Y
 refine wlm Z rfl fun a Z => wlv Z (ai rfl rfl) fun a Z => wlv Z (ai rfl rfl) fun a Z => wla Z rfl fun a Z => wla Z rfl fun a Z => ab (hK16 _ _ ?_)
 replace Z := Z.p8 1 2 3 22 23 4 24 7 rfl
 refine ao <| wlm Z rfl fun a Z => wlm Z rfl fun a Z => wlv Z (bS rfl rfl (by first | omega | (simp only [List.length_append, List.length_nil]; omega))) fun a Z => wla Z rfl fun a Z => ab <| hK14 _ _ <| ao <| wlv Z ((aV rfl rfl de).asi (m' := 2) rfl) fun a Z => wlm Z rfl fun a Z => ab <| cf ?_
 refine aa fun K17 hK17 => wlv Z ((v_lt rfl rfl).asb (b' := true) rfl) fun a Z => ab (hK17 _ _ <| ae fun K18 hK18 => ?_)
 refine aI Z rfl ?_
 refine ar <| hK18 _ _ <| ae fun K19 hK19 => aq <| aa fun K20 hK20 => wlv Z ((aj (i := 2) (sT := 40) (Y.ow 0 rfl) rfl rfl (runUnderlying40 _) (sizeOf3 _) om sm).as (v' := slAddr (.slice (some ⟨w2.hz, 0, none⟩) 4 4) (2 * 1)) rfl) fun a Z => wlv Z (au (u := iv x.a) (i := 2) (j := 0) (Y.ow 0 rfl) sm rfl (isAgg3 _) rfx) fun a Z => wla Z rfl fun a Z => ab (hK20 _ _ ?_)
 replace Z := Z.p8 1 2 3 22 23 4 24 6 rfl
 refine aa fun K21 hK21 => wlm Z rfl fun a Z => am Z Y de call44 rfl (cL x.a _ (by assumption)) ?_
 clear Z Y
 intro a w6 Z Y
 refine wlm Z rfl fun a Z => wlv Z (ai rfl rfl) fun a Z => wlv Z (ai rfl rfl) fun a Z => wla Z rfl fun a Z => wla Z rfl fun a Z => ab (hK21 _ _ ?_)
 replace Z := Z.p8 1 2 3 22 23 4 24 7 rfl
 refine ao <| wlm Z rfl fun a Z => wlm Z rfl fun a Z => wlv Z (bS rfl rfl (by first | omega | (simp only [List.length_append, List.length_nil]; omega))) fun a Z => wla Z rfl fun a Z => ab <| hK19 _ _ <| ao <| wlv Z ((aV rfl rfl de).asi (m' := 3) rfl) fun a Z => wlm Z rfl fun a Z => ab <| cf ?_
 refine aa fun K22 hK22 => wlv Z ((v_lt rfl rfl).asb (b' := true) rfl) fun a Z => ab (hK22 _ _ <| ae fun K23 hK23 => ?_)
 refine aI Z rfl ?_
 refine ar <| hK23 _ _ <| ae fun K24 hK24 => aq <| aa fun K25 hK25 => wlv Z ((aj (i := 3) (sT := 40) (Y.ow 0 rfl) rfl rfl (runUnderlying40 _) (sizeOf3 _) om sm).as (v' := slAddr (.slice (some ⟨w2.hz, 0, none⟩) 4 4) (3 * 1)) rfl) fun a Z => wlv Z (au (u := iv x.b) (i := 3) (j := 0) (Y.ow 0 rfl) sm rfl (isAgg3 _) rfx) fun a Z => wla Z rfl fun a Z => ab (hK25 _ _ ?_)
 replace Z := Z.p8 1 2 3 22 23 4 24 6 rfl
 refine aa fun K26 hK26 => wlm Z rfl fun a Z => am Z Y de call44 rfl (cL x.b _ (by assumption)) ?_
 clear Z Y
 intro a w7 Z Y
 refine wlm Z rfl fun a Z => wlv Z (ai rfl rfl) fun a Z => wlv Z (ai rfl rfl) fun a Z => wla Z rfl fun a Z => wla Z rfl fun a Z => ab (hK26 _ _ ?_)
 replace Z := Z.p8 1 2 3 22 23 4 24 7 rfl
 refine ao <| wlm Z rfl fun a Z => wlm Z rfl fun a Z => wlv Z (bS rfl rfl (by first | omega | (simp only [List.length_append, List.length_nil]; omega))) fun a Z => wla Z rfl fun a Z => ab <| hK24 _ _ <| ao <| wlv Z ((aV rfl rfl de).asi (m' := 4) rfl) fun a Z => wlm Z rfl fun a Z => ab <| cf ?_
 refine aa fun K27 hK27 => wlv Z ((v_lt rfl rfl).asb (b' := false) rfl) fun a Z => ab (hK27 _ _ <| ae fun K28 hK28 => ?_)
 refine aL Z rfl ?_
 refine aJ <| hK5 _ _ <| aa fun K29 hK29 => wlv Z (ak (v := po w0.hz 4) rfl kr) fun a Z => wlv Z (ld Y 1 rfl rfl (isAgg9 _) rfl) fun a Z => am Z Y de call94 rfl (g4 x.text _ om) ?_
 clear Z Y
 intro a w8 Z Y
 refine wlm Z rfl fun a Z => wlv Z (ai rfl rfl) fun a Z => wlv Z (ai rfl rfl) fun a Z => wla Z rfl fun a Z => wla Z rfl fun a Z => ab (hK29 _ _ ?_)
 replace Z := Z.p4 2 3 4 9 rfl
 replace Y : St No w0 [] w8 := Y.mask [false, false]
 refine aa fun K30 hK30 => wlm Z rfl fun a Z => wlm Z rfl fun a Z => wlv Z (bS rfl rfl (by first | omega | (simp only [List.length_append, List.length_nil]; omega))) fun a Z => wla Z rfl fun a Z => wla Z rfl fun a Z => ab (hK30 _ _ <| ap ?_)
 refine al Z results58 (ac rfl (ac rfl ag)) ?_
 exact ⟨by simp only [retv]; simp [Rec.enc, puts], Y.ext⟩
theorem oA (x : Rec) (w0 : World) (hok : x.ok = false) :
  Ret Tryz.prog 58 #[.agg #[iv x.t, iv x.kind, iv x.a, iv x.b, sv x.text]] w0 fun v w => v = .tuple #[sv ([] : By), iv 110] ∧ Ext No w0 w := by
 refine aD func58 rfl ntmps58 (lb rfl) fun a Z => ?_
 replace Z := Z.p1 0 rfl
 replace Y : St No w0 [] w0 := St.init w0
 refine aa fun K1 hK1 => bj Z Y de rfl (cs := [iv x.t, iv x.kind, iv x.a, iv x.b, sv x.text]) rfl ?_
 clear Z Y
 intro a w1 Z Y
 refine wla Z rfl fun a Z => wla Z rfl fun a Z => ab (hK1 _ _ <| ae fun K2 hK2 => ?_)
 refine aa fun K3 hK3 => wlv Z (aw (Y.g 0 rfl) rfl (isAgg48 _) (sizeOf48 _)) fun a Z => am Z Y de call79 rfl (fw x _) ?_
 clear Z Y
 intro a w2 Z Y
 refine wlv Z (bq rfl) fun a Z => ab (hK3 _ _ ?_)
 refine ax Z rfl (fun hc1 => ?_) (fun hc1 => ?_)
 ·rw [hc1] at Z
  try simp only [qz] at hc1
  refine aa fun K4 hK4 => wla Z rfl fun a Z => wla Z rfl fun a Z => ab (hK4 _ _ <| ap ?_)
  refine al Z results58 (ac rfl (ac rfl ag)) ?_
  exact ⟨by rfl, Y.ext⟩
 rw [hc1] at Z
 try simp only [qz] at hc1
 simp [hok] at hc1
theorem oG (x : Rec) (w0 : World) : Ret Tryz.prog 58 #[.agg #[iv x.t, iv x.kind, iv x.a, iv x.b, sv x.text]] w0 fun v w => v = .tuple #[sv (eB x), iv (eE x)] ∧ Ext No w0 w := by
 unfold eB eE
 cases h : x.ok with
 | true => rw [if_pos rfl, if_pos rfl]; exact pj x w0 h
 | false => rw [if_neg sm, if_neg sm]; exact oA x w0 h
end Go.Proofs.YtddfkkdanpmnaaaGreatDoor
namespace Go.Proofs.YtddfkkdanpmnaaaGreatDoor
open Go.RowKit Go.PW _root_.Go.Proofs.Tryz
theorem hP {o : Int} {l : List Rec} {x : Rec} (h : addOk o l x = true) : logOk o l = true ∧ logOk o (l ++ [x]) = true := by
 unfold addOk at h; simpa using h
theorem mT (av bv : Value) (xs ys : List Rec) (w0 : World) (hav : SlAt w0 av 5 (xs.map Rec.cells)) (hbv : SlAt w0 bv 5 (ys.map Rec.cells)) :
  Ret Tryz.prog 60 #[av, bv] w0 fun v w => v = .bool (decide (xs = ys)) ∧ Ext No w0 w := by
 have hxb := hav.2.1
 have hyb := hbv.2.1
 simp only [List.length_map, big] at hxb hyb
 refine aD func60 rfl ntmps60 (lb rfl) fun a Z => ?_
 replace Z := Z.p2 0 1 rfl
 replace Y : St No w0 [] w0 := St.init w0
 refine aa fun K1 hK1 => wla Z rfl fun a Z => ab (hK1 _ _ <| ae fun K2 hK2 => ?_)
 refine aa fun K3 hK3 => wlm Z rfl fun a Z => wlv Z ((aE (sT := 23) (Y.arg hav) rfl rfl (runUnderlying23 _)).asi (m' := (xs.length : Int)) (by rw [List.length_map])) fun a Z => wlm Z rfl fun a Z => wlv Z ((aE (sT := 23) (Y.arg hbv) rfl rfl (runUnderlying23 _)).asi (m' := (ys.length : Int)) (by rw [List.length_map])) fun a Z => wlv Z (v_ne rfl rfl) fun a Z => ab (hK3 _ _ ?_)
 refine ax Z rfl (fun hc1 => ?_) (fun hc1 => ?_)
 ·rw [hc1] at Z
  try simp only [qz] at hc1
  refine aa fun K4 hK4 => wla Z rfl fun a Z => ab (hK4 _ _ <| ap ?_)
  refine al Z results60 (ac rfl ag) ?_
  exact ⟨by simp only [retv]; congr 1; refine (decide_eq_false fun h => ?_).symm; subst h; simp at hc1, Y.ext⟩
 rw [hc1] at Z
 try simp only [qz] at hc1
 have hlen : xs.length = ys.length := by omega
 refine ar <| hK2 _ _ <| ae fun K5 hK5 => aa fun K6 hK6 => wla Z rfl fun a Z => ab (hK6 _ _ <| aq ?_)
 refine aR (fun m a w => ∃ (k : Nat), m = xs.length - k ∧ (k ≤ xs.length) ∧ (∀ j, j < k → xs.getD j Rec.z = ys.getD j Rec.z) ∧ Fr 26 [(0, av), (1, bv), (5, iv (k : Int))] [] a ∧ St No w0 [] w) _ ⟨0, rfl, Nat.zero_le _, (fun j h => absurd h (Nat.not_lt_zero _)), Z.pick [0, 1, 5], Y.select [] de⟩ ?_
 rintro _ a w1 ⟨k, rfl, hk, hsame, Z, Y⟩
 refine ae fun K7 hK7 => aa fun K8 hK8 => wlm Z rfl fun a Z => wlm Z rfl fun a Z => wlv Z ((aE (sT := 23) (Y.arg hav) rfl rfl (runUnderlying23 _)).asi (m' := (xs.length : Int)) (by rw [List.length_map])) fun a Z => wlv Z (v_lt rfl rfl) fun a Z => ab (hK8 _ _ ?_)
 refine ax Z rfl (fun hc2 => ?_) (fun hc2 => ?_)
 ·rw [hc2] at Z
  try simp only [qz] at hc2
  have hkx : k < xs.length := by omega
  have hky : k < ys.length := by omega
  refine ar <| hK7 _ _ <| ae fun K9 hK9 => aq <| ae fun K10 hK10 => aF kr (aG kr fun w2 hxz => ?_)
  replace Y := Y.grow hxz
  refine aT (k := 0) 8 [3, 7] Z kr kr kr rfx ?_
  replace Z := Z.p7 0 1 5 11 12 13 14 rfl
  refine aA [] (fun i => match i with | _ => fun _ _ => False) 8 [[], [], [0, 1], [2], [], [], [4, 5], [6]] [av, iv (k : Int), slAddr av (k * 5), .agg #[iv ((xs.getD k Rec.z).t), iv ((xs.getD k Rec.z).kind), iv ((xs.getD k Rec.z).a), iv ((xs.getD k Rec.z).b), sv ((xs.getD k Rec.z).text)], bv, iv (k : Int), slAddr bv (k * 5), .agg #[iv ((ys.getD k Rec.z).t), iv ((ys.getD k Rec.z).kind), iv ((ys.getD k Rec.z).a), iv ((ys.getD k Rec.z).b), sv ((ys.getD k Rec.z).text)]] Z Y kr kr kr ?_ ?_ ?_
  ·intro i hi hiq
   match i, hi, hiq with
   | 0, _, _ => exact fun w Y => OpV.g (ah rfl)
   | 1, _, _ => exact fun w Y => OpV.g (ah rfl)
   | 2, _, _ => exact fun w Y => OpV.g ((aj (i := (k : Int)) (sT := 23) (Y.arg hav) rfl rfl (runUnderlying23 _) (sizeOf48 _) om (by rw [List.length_map]; exact hkx)).as (v' := slAddr av (k * 5)) rfl)
   | 3, _, _ => exact fun w Y => OpV.g ((bX (Y.arg hav) (i := k) (by rw [List.length_map]; exact hkx) rfl (isAgg48 _) (sizeOf48 _)).as (v' := .agg #[iv ((xs.getD k Rec.z).t), iv ((xs.getD k Rec.z).kind), iv ((xs.getD k Rec.z).a), iv ((xs.getD k Rec.z).b), sv ((xs.getD k Rec.z).text)]) (by rw [br Rec.z]; rfl))
   | 4, _, _ => exact fun w Y => OpV.g (ah rfl)
   | 5, _, _ => exact fun w Y => OpV.g (ah rfl)
   | 6, _, _ => exact fun w Y => OpV.g ((aj (i := (k : Int)) (sT := 23) (Y.arg hbv) rfl rfl (runUnderlying23 _) (sizeOf48 _) om (by rw [List.length_map]; exact hky)).as (v' := slAddr bv (k * 5)) rfl)
   | 7, _, _ => exact fun w Y => OpV.g ((bX (Y.arg hbv) (i := k) (by rw [List.length_map]; exact hky) rfl (isAgg48 _) (sizeOf48 _)).as (v' := .agg #[iv ((ys.getD k Rec.z).t), iv ((ys.getD k Rec.z).kind), iv ((ys.getD k Rec.z).a), iv ((ys.getD k Rec.z).b), sv ((ys.getD k Rec.z).text)]) (by rw [br Rec.z]; rfl))
  ·intro i hi
   exact absurd hi sm
  clear Z Y
  intro  a w3 Z Y
  replace Z : Fr 26 [(17, av), (18, iv (k : Int)), (19, slAddr av (k * 5)), (20, .agg #[iv ((xs.getD k Rec.z).t), iv ((xs.getD k Rec.z).kind), iv ((xs.getD k Rec.z).a), iv ((xs.getD k Rec.z).b), sv ((xs.getD k Rec.z).text)]), (21, bv), (22, iv (k : Int)), (23, slAddr bv (k * 5)), (24, .agg #[iv ((ys.getD k Rec.z).t), iv ((ys.getD k Rec.z).kind), iv ((ys.getD k Rec.z).a), iv ((ys.getD k Rec.z).b), sv ((ys.getD k Rec.z).text)]), (0, _), (1, _), (5, _), (11, _), (12, _), (13, _), (14, _)] [] a := Z
  refine ab <| aP (k := 8) 9 [8] kr kr kr ?_
  refine wlv Z ((n6 rfl rfl kr (eqRec ((xs.getD k Rec.z).t) ((xs.getD k Rec.z).kind) ((xs.getD k Rec.z).a) ((xs.getD k Rec.z).b) ((xs.getD k Rec.z).text) ((ys.getD k Rec.z).t) ((ys.getD k Rec.z).kind) ((ys.getD k Rec.z).a) ((ys.getD k Rec.z).b) ((ys.getD k Rec.z).text) _)).asb (b' := !(decide ((xs.getD k Rec.z) = (ys.getD k Rec.z)))) rfx) fun a Z => ab <| aS kr ?_
  refine hK10 _ _ ?_
  replace Z := Z.p4 0 1 5 25 rfl
  refine ax Z rfl (fun hc3 => ?_) (fun hc3 => ?_)
  ·rw [hc3] at Z
   try simp only [qz] at hc3
   refine aa fun K11 hK11 => wla Z rfl fun a Z => ab (hK11 _ _ <| ap ?_)
   refine al Z results60 (ac rfl ag) ?_
   exact ⟨by simp only [retv]; congr 1; exact (decide_eq_false (o0 (d := Rec.z) (k := k) (by simpa using hc3))).symm, Y.ext⟩
  rw [hc3] at Z
  try simp only [qz] at hc3
  refine ar <| hK9 _ _ <| ao <| wlm Z rfl fun a Z => wlv Z (aV rfl rfl ⟨om, om⟩) fun a Z => wla Z rfl fun a Z => ab ?_
  refine ⟨_, ?_, k + 1, rfl, om, (fun j h => by rcases Nat.lt_succ_iff_lt_or_eq.1 h with h | rfl; exact hsame j h; simpa using hc3), Z.pick [0, 1, 5], Y.select [] de⟩
  omega
 rw [hc2] at Z
 try simp only [qz] at hc2
 refine aJ <| hK5 _ _ <| aa fun K12 hK12 => wla Z rfl fun a Z => ab (hK12 _ _ ?_)
 replace Z := Z.p1 4 rfl
 refine ap ?_
 refine al Z results60 (ac rfl ag) ?_
 exact ⟨by simp only [retv]; congr 1; exact (decide_eq_true (nw hlen om hsame)).symm, Y.ext⟩
theorem nZ (o1 o2 : Int) (av bv : Value) (xs ys : List Rec) (w0 : World) (hav : SlAt w0 av 5 (xs.map Rec.cells)) (hbv : SlAt w0 bv 5 (ys.map Rec.cells)) :
  Ret Tryz.prog 27 #[.agg #[iv o1, av], .agg #[iv o2, bv]] w0 fun v w => v = .bool (decide (o1 = o2) && decide (xs = ys)) ∧ Ext No w0 w := by
 refine aD func27 rfl ntmps27 (lb rfl) fun a Z => ?_
 replace Z := Z.p2 0 1 rfl
 replace Y : St No w0 [] w0 := St.init w0
 refine aa fun K1 hK1 => bj Z Y de rfl (cs := [iv o1, av]) rfl ?_
 clear Z Y
 intro a w1 Z Y
 refine bj Z Y de rfl (cs := [iv o2, bv]) rfl ?_
 clear Z Y
 intro a w2 Z Y
 refine wla Z rfl fun a Z => ab (hK1 _ _ <| aa fun K2 hK2 => ?_)
 refine wlv Z (ak (v := pt w0.hz) rfl kr) fun a Z => wlv Z (ld Y 1 rfl rfl (isAgg3 _) rfl) fun a Z => wlv Z (ak (v := pt w1.hz) rfl kr) fun a Z => wlv Z (ld Y 0 rfl rfl (isAgg3 _) rfl) fun a Z => wlv Z (v_eq rfl rfl) fun a Z => wlm Z rfl fun a Z => ?_
 rcases Bool.eq_false_or_eq_true (decide (o1 = o2)) with hb1 | hb1
 ·rw [hb1] at Z
  try simp only [qz] at hb1
  refine wly Z (ak (v := po w0.hz 1) rfl kr) fun a Z => wly Z (ld Y 1 rfl rfl (isAgg23 _) rfl) fun a Z => wly Z (ak (v := po w1.hz 1) rfl kr) fun a Z => wly Z (ld Y 0 rfl rfl (isAgg23 _) rfl) fun a Z => ba Z Y de rfl de rfl call60 rfl (mT av bv xs ys _ (Y.arg hav) (Y.arg hbv)) ?_
  clear Z Y
  intro a w3 Z Y
  refine wlv Z (az rfl rfl) fun a Z => wla Z rfl fun a Z => ab (hK2 _ _ ?_)
  replace Z := Z.p1 4 rfl
  replace Y : St No w0 [] w3 := Y.mask [false, false]
  refine ap ?_
  refine al Z results27 (ac rfl ag) ?_
  exact ⟨by simp only [retv]; simp [hb1], Y.ext⟩
 rw [hb1] at Z
 try simp only [qz] at hb1
 refine wln Z fun a Z => wln Z fun a Z => wln Z fun a Z => wln Z fun a Z => wln Z fun a Z => wlv Z (ay rfl rfl) fun a Z => wla Z rfl fun a Z => ab (hK2 _ _ ?_)
 replace Z := Z.p1 4 rfl
 replace Y : St No w0 [] w2 := Y.mask [false, false]
 refine ap ?_
 refine al Z results27 (ac rfl ag) ?_
 exact ⟨by simp only [retv]; simp [hb1], Y.ext⟩
theorem fl (o : Int) (lv : Value) (l : List Rec) (w0 : World) (hlv : SlAt w0 lv 5 (l.map Rec.cells)) (hll : l.length ≤ 1000) :
  Ret Tryz.prog 29 #[.agg #[iv o, lv]] w0 (MemR w0 (fun v : Value => v) (fun v => [own v 9 1 ((codesB (l)).map fun s => [sv s])]) (fun _ => True)) := by
 refine aD func29 rfl ntmps29 (lb rfl) fun a Z => ?_
 replace Z := Z.p1 0 rfl
 replace Y : St No w0 [] w0 := St.init w0
 refine aa fun K1 hK1 => bj Z Y de rfl (cs := [iv o, lv]) rfl ?_
 clear Z Y
 intro a w1 Z Y
 refine wla Z rfl fun a Z => ab (hK1 _ _ <| aa fun K2 hK2 => ?_)
 refine wla Z rfl fun a Z => ab (hK2 _ _ <| ae fun K3 hK3 => ?_)
 refine aa fun K4 hK4 => wla Z rfl fun a Z => ab (hK4 _ _ <| aq ?_)
 replace Y : St No w0 [own (.slice none 0 0) 9 1 ((codesB (l.take 0)).map fun s => [sv s]), blk w0.hz [iv o, lv] 25] w1 := Y.nil_own
 refine aR (fun m a w => ∃ (k : Nat) (v : Value), m = l.length - k ∧ (k ≤ l.length) ∧ Fr 28 [(1, pt w0.hz), (2, .slice none 0 0), (3, v), (4, iv (k : Int))] [] a ∧ St No w0 [own v 9 1 ((codesB (l.take k)).map fun s => [sv s]), blk w0.hz [iv o, lv] 25] w) _ ⟨0, .slice none 0 0, rfl, Nat.zero_le _, Z.pick [1, 2, 3, 4], Y⟩ ?_
 rintro _ a w2 ⟨k, v, rfl, hk, Z, Y⟩
 refine ae fun K5 hK5 => aa fun K6 hK6 => wlm Z rfl fun a Z => wlv Z (ak (v := po w0.hz 1) rfl kr) fun a Z => wlv Z (ld Y 1 rfl rfl (isAgg23 _) rfl) fun a Z => wlv Z ((aE (sT := 23) (Y.arg hlv) rfl rfl (runUnderlying23 _)).asi (m' := (l.length : Int)) (by rw [List.length_map])) fun a Z => wlv Z (v_lt rfl rfl) fun a Z => ab (hK6 _ _ ?_)
 refine ax Z rfl (fun hc1 => ?_) (fun hc1 => ?_)
 ·rw [hc1] at Z
  try simp only [qz] at hc1
  have hkx : k < l.length := by omega
  refine ar <| hK5 _ _ <| ae fun K7 hK7 => aq <| aa fun K8 hK8 => wlv Z (ak (v := po w0.hz 1) rfl kr) fun a Z => wlv Z (ld Y 1 rfl rfl (isAgg23 _) rfl) fun a Z => wlm Z rfl fun a Z => wlv Z ((aj (i := (k : Int)) (sT := 23) (Y.arg hlv) rfl rfl (runUnderlying23 _) (sizeOf48 _) om (by rw [List.length_map]; omega)).as (v' := slAddr lv (k * 5)) rfl) fun a Z => wlv Z ((bX (Y.arg hlv) (i := k) (by rw [List.length_map]; omega) rfl (isAgg48 _) (sizeOf48 _)).as (v' := .agg #[iv ((l.getD k Rec.z).t), iv ((l.getD k Rec.z).kind), iv ((l.getD k Rec.z).a), iv ((l.getD k Rec.z).b), sv ((l.getD k Rec.z).text)]) (by rw [br Rec.z]; rfl)) fun a Z => am Z Y de call58 rfl (oG (l.getD k Rec.z) _) ?_
  clear Z Y
  intro a w3 Z Y
  refine wlm Z rfl fun a Z => wlv Z (ai rfl rfl) fun a Z => wlv Z (ai rfl rfl) fun a Z => wla Z rfl fun a Z => wla Z rfl fun a Z => ab (hK8 _ _ ?_)
  replace Z := Z.p5 1 2 3 4 5 rfl
  refine ao <| wlm Z rfl fun a Z => wlm Z rfl fun a Z => aC (E := 9) (sz := 1) rfl [[sv (eB (l.getD k Rec.z))]] kr sm rfl de de Z Y ?_
  clear Z Y
  intro a w4 Z Y
  refine aN (i := 1) (sT := 26) (inf := Tryz.t9) (z := .string (⟨#[]⟩)) (b := 0) (off := 0) (m := 0) (c := 0) rfl rfl rfl (Y.ow 0 rfl) sm underlying26 rfl rfl rfl rfl de (by simp [Value.oneCell', yv, wv, sv]) (by have hby : Tryz.t9.bytes = 16 := rfl; simp only [big, hby, List.length_append, List.length_map, db, List.length_take, List.length_cons, List.length_nil]; omega) (by have hby : Tryz.t9.bytes = 16 := rfl; simp only [big, hby, List.length_append, List.length_map, db, List.length_take, List.length_cons, List.length_nil]; omega) de Z Y fun a w5 s2 Z Y _ => ?_
  rw [show ((codesB (l.take k)).map fun s => [sv s]) ++ ([[sv (eB (l.getD k Rec.z))]]) = ((codesB (l.take (k + 1))).map fun s => [sv s]) from by rw [bO Rec.z hkx, jy]; simp] at Y
  refine wla Z rfl fun a Z => ab <| hK7 _ _ <| ao <| wlm Z rfl fun a Z => wlv Z (aV rfl rfl ⟨om, om⟩) fun a Z => wla Z rfl fun a Z => ab ?_
  refine ⟨_, ?_, k + 1, s2, rfl, om, Z.pick [1, 2, 3, 4], Y.mask [false, true, true]⟩
  omega
 rw [hc1] at Z
 try simp only [qz] at hc1
 have hke : k = l.length := by omega
 rw [hke, List.take_length] at Y
 refine aJ <| hK3 _ _ <| aa fun K9 hK9 => wlm Z rfl fun a Z => wla Z rfl fun a Z => ab (hK9 _ _ ?_)
 replace Z := Z.p1 2 rfl
 replace Y := Y.k1 1 rfl
 refine ap ?_
 refine al Z results29 (ac rfl ag) ?_
 exact ⟨v, rfl, trivial, Y.ext, St.out (E := [own v 9 1 ((codesB (l)).map fun s => [sv s])]) (H := []) (Y.select [0] de)⟩
theorem pG {a b : Int} (ha : i64 a) (hb : 1 ≤ b) : -9223372036854775808 ≤ a.tdiv b ∧ a.tdiv b ≤ 9223372036854775807 := by
 have h : (a.tdiv b).natAbs ≤ a.natAbs := by rw [Int.natAbs_tdiv]; exact Nat.div_le_self _ _
 unfold i64 at ha
 by_cases h0 : 0 ≤ a
 ·have := Int.tdiv_nonneg h0 (by omega : 0 ≤ b); omega
 ·have h1 : a.tdiv b = -((-a).tdiv b) := by rw [Int.neg_tdiv, Int.neg_neg]
  have := Int.tdiv_nonneg (by omega : 0 ≤ -a) (by omega : 0 ≤ b); omega
def timeR : Int → List Rin → Int
 | t, [] => t
 | t, y :: l => timeR (t + pickI y.x0 30) l
theorem gR : ∀ (l : List Rin) (t : Int) (y : Rin), timeR t (l ++ [y]) = timeR t l + pickI y.x0 30
 | [], t, y => rfl
 | x :: l, t, y => gR l _ y
theorem gq : ∀ (l : List Rin) (t : Int) (y : Rin), recsR t (l ++ [y]) = recsR t l ++ [entR (timeR t l + pickI y.x0 30) y.x1 y.x2 y.x3 y.x4]
 | [], t, y => rfl
 | x :: l, t, y => by rw [List.cons_append, recsR, gq l _ y]; rfl
theorem j2 : ∀ (l : List Rin) (t : Int), 0 ≤ t → 0 ≤ timeR t l ∧ timeR t l ≤ t + 30 * l.length
 | [], t, h => ⟨h, by simp [timeR]⟩
 | x :: l, t, h => by
  have h1 := bF x.x0 (n := 30) om
  have h2 := j2 l (t + pickI x.x0 30) om
  rw [timeR, List.length_cons]; omega
theorem gT {α : Type} {l : List α} {k : Nat} (hk : k ≤ l.length) (h : ¬ (k < l.length ∧ k < 12)) (h12 : k ≤ 12) : l.take k = l.take 12 := by
 by_cases h1 : k = 12
 ·rw [h1]
 ·rw [List.take_of_length_le om, List.take_of_length_le om]
theorem o7 {l : List Rec} {k j : Nat} {us : List Value} {y : Rec} (hk : k < l.length) (h : splice (l.getD k Rec.z).cells j us = y.cells) (hk2 : k < (l.map Rec.cells).length) : (l.map Rec.cells).set k (splice (l.map Rec.cells)[k] j us) = (l.set k y).map Rec.cells := by
 rw [List.map_set, ← h]
 congr 2
 rw [List.getElem_map, List.getD_eq_getElem?_getD, List.getElem?_eq_getElem hk]; rfl
theorem nv {s : By} {n : Nat} : s.take (min s.length n) = s.take n := by
 rw [Nat.min_def]; split
 ·rw [List.take_of_length_le (Nat.le_refl _), List.take_of_length_le om]
 ·rfl
def keyR (n : Int) : By := sha (putI (pickI n 1099511627776))
def exR : List Rec := [⟨10, 1, 7, -1, [110, 101, 119, 115]⟩, ⟨20, 2, 0, 5, []⟩, ⟨20, 1, 8, -1, []⟩]
theorem l9 {P : Program} {w : World} {L : List (Nat × Value)} {dst : Option Tmp} {T T' ty : TypeId} {pos : String} {af : Array Edge} {gd : Option (Nat × Bool)} {x : Operand} {n : Int} (hx : ev L x = some (iv n)) (hs : (P.underlying T).isSome = true) (hd : P.underlying T' = some (.int .u8)) : OpV P ⟨dst, .convert T T' x, ty, pos, af, gd⟩ L w (yv (UInt8.ofNat (n % 256).toNat)) :=
 (dq hx hs hd).as (by
  have h1 : 0 ≤ n % 256 := Int.emod_nonneg _ de
  have h2 : n % 256 < 256 := Int.emod_lt_of_pos _ de
  have e : ((UInt8.ofNat (n % 256).toNat).toNat : Int) = n % 256 := by rw [bJ om]; omega
  unfold yv
  rw [e]
  simp [IntKind.wrap, IntKind.signed, IntKind.bits])
theorem mf (t x0 x1 x2 x3 : Int) (w0 : World) (ht : i64 t) (h0 : i64 x0) (h1 : i64 x1) (h2 : i64 x2) (h3 : i64 x3) :
  Ret Tryz.prog 39 #[iv t, .agg #[iv x0, iv x1, iv x2, iv x3]] w0 fun v w => v = .agg #[iv ((entR t x0 x1 x2 x3).t), iv ((entR t x0 x1 x2 x3).kind), iv ((entR t x0 x1 x2 x3).a), iv ((entR t x0 x1 x2 x3).b), sv ((entR t x0 x1 x2 x3).text)] ∧ Ext No w0 w := by
 have hp4 := bF x3 (n := 4) de
 have hpa := bF x0 (n := 3) de
 have hpb := bF x1 (n := 200) de
 have hpc := bF x2 (n := 200) de
 refine aD func39 rfl ntmps39 (lb rfl) fun a Z => ?_
 replace Z := Z.p2 0 1 rfl
 replace Y : St No w0 [] w0 := St.init w0
 refine aa fun K1 hK1 => bj Z Y de rfl (cs := [iv x0, iv x1, iv x2, iv x3]) rfl ?_
 clear Z Y
 intro a w1 Z Y
 refine aU Z Y de (zeroValue48 _) (cs := [iv 0, iv 0, iv 0, iv 0, .string (⟨#[]⟩)]) rfl ?_
 clear Z Y
 intro a w2 Z Y
 refine ab (hK1 _ _ <| ae fun K2 hK2 => ?_)
 refine aF kr (aG kr fun w3 hxz => ?_)
 replace Y := Y.grow hxz
 refine aT (k := 0) 16 [14, 15] Z kr kr kr rfx ?_
 replace Z := Z.p4 0 1 3 4 rfl
 refine aA [15] (fun i => match i with | 15 => pm (fun b : Nat => pt b) (fun b => [blk b [iv 0, iv 0, iv 0, iv 0, .string (⟨#[]⟩)] 48]) (fun _ => True) | _ => fun _ _ => False) 16 [[], [0], [], [2], [3], [4], [], [6], [7], [8], [], [10], [11], [12], [1, 5, 9, 13], []] [iv t, iv (pickI t 10000001), pt w0.hz, iv x0, iv (pickI x0 3), iv (1 + (pickI x0 3)), po w0.hz 1, iv x1, iv (pickI x1 200), iv ((pickI x1 200) - 1), po w0.hz 2, iv x2, iv (pickI x2 200), iv ((pickI x2 200) - 1), .agg #[iv (pickI t 10000001), iv (1 + (pickI x0 3)), iv ((pickI x1 200) - 1), iv ((pickI x2 200) - 1), .string (⟨#[]⟩)], undef] Z Y kr kr kr ?_ ?_ ?_
 ·intro i hi hiq
  match i, hi, hiq with
  | 0, _, _ => exact fun w Y => OpV.g (ah rfl)
  | 1, _, _ => exact fun w Y => bw call38 rfl (cj t 10000001 _ (by first | assumption | (unfold i64 at *; omega) | omega) om)
  | 2, _, _ => exact fun w Y => OpV.g (aY (v := pt w0.hz) rfl rfl kr)
  | 3, _, _ => exact fun w Y => OpV.g (ld Y 1 rfl rfl (isAgg3 _) rfl)
  | 4, _, _ => exact fun w Y => bw call38 rfl (cj x0 3 _ (by first | assumption | (unfold i64 at *; omega) | omega) om)
  | 5, _, _ => exact fun w Y => OpV.g (aV rfl rfl ⟨om, om⟩)
  | 6, _, _ => exact fun w Y => OpV.g (aY (v := po w0.hz 1) rfl rfl kr)
  | 7, _, _ => exact fun w Y => OpV.g (ld Y 1 rfl rfl (isAgg3 _) rfl)
  | 8, _, _ => exact fun w Y => bw call38 rfl (cj x1 200 _ (by first | assumption | (unfold i64 at *; omega) | omega) om)
  | 9, _, _ => exact fun w Y => OpV.g (bh rfl rfl ⟨om, om⟩)
  | 10, _, _ => exact fun w Y => OpV.g (aY (v := po w0.hz 2) rfl rfl kr)
  | 11, _, _ => exact fun w Y => OpV.g (ld Y 1 rfl rfl (isAgg3 _) rfl)
  | 12, _, _ => exact fun w Y => bw call38 rfl (cj x2 200 _ (by first | assumption | (unfold i64 at *; omega) | omega) om)
  | 13, _, _ => exact fun w Y => OpV.g (bh rfl rfl ⟨om, om⟩)
  | 14, _, _ => exact fun w Y => OpV.g (bA (v := .agg #[iv (pickI t 10000001), iv (1 + (pickI x0 3)), iv ((pickI x1 200) - 1), iv ((pickI x2 200) - 1), .string (⟨#[]⟩)]) rfl kr)
  | 15, _, h => exact absurd sm h
  | i + 16, h, _ => exact absurd h om
 ·intro i hi
  simp only [List.mem_cons, List.not_mem_nil, or_false] at hi
  subst hi
  ·intro w Y
   exact ei (zeroValue48 _) (cs := [iv 0, iv 0, iv 0, iv 0, .string (⟨#[]⟩)]) rfl
 clear Z Y
 rintro _ _ ⟨b1, rfl, -, rfl⟩ a w4 Z Y
 replace Z : Fr 43 [(7, iv t), (8, iv (pickI t 10000001)), (9, pt w0.hz), (10, iv x0), (11, iv (pickI x0 3)), (12, iv (1 + (pickI x0 3))), (13, po w0.hz 1), (14, iv x1), (15, iv (pickI x1 200)), (16, iv ((pickI x1 200) - 1)), (17, po w0.hz 2), (18, iv x2), (19, iv (pickI x2 200)), (20, iv ((pickI x2 200) - 1)), (21, .agg #[iv (pickI t 10000001), iv (1 + (pickI x0 3)), iv ((pickI x1 200) - 1), iv ((pickI x2 200) - 1), .string (⟨#[]⟩)]), (5, _), (0, _), (1, _), (3, _), (4, _)] [] a := Z
 replace Y : St No w0 [_, _, _] w4 := Y
 refine ab <| aP (k := 16) 17 [16] kr kr kr ?_
 refine aH 0 Z Y rfl rfl rfl (sizeOf48 _) rfl (lb rfl) (ds := [iv (pickI t 10000001), iv (1 + (pickI x0 3)), iv ((pickI x1 200) - 1), iv ((pickI x2 200) - 1), .string (⟨#[]⟩)]) rfl rfl ?_
 clear Z Y
 intro a w5 Z Y
 refine ab <| aS kr ?_
 refine hK2 _ _ ?_
 replace Z := Z.p3 3 4 5 rfl
 refine ae fun K3 hK3 => aa fun K4 hK4 => wla Z rfl fun a Z => ab (hK4 _ _ <| aq ?_)
 refine aR (fun m a w => ∃ (k : Nat), m = (pickI x3 4).toNat - k ∧ ((k : Int) ≤ pickI x3 4) ∧ Fr 43 [(3, pt w0.hz), (4, pt w1.hz), (5, pt b1), (6, iv (k : Int))] [] a ∧ St No w0 [blk b1 [iv (pickI t 10000001), iv (1 + (pickI x0 3)), iv ((pickI x1 200) - 1), iv ((pickI x2 200) - 1), sv (textR x3 k)] 48, blk w1.hz [iv 0, iv 0, iv 0, iv 0, .string (⟨#[]⟩)] 48, blk w0.hz [iv x0, iv x1, iv x2, iv x3] 67] w) _ ⟨0, rfl, hp4.1, Z.pick [3, 4, 5, 6], Y.select [0, 1, 2] de⟩ ?_
 rintro _ a w6 ⟨k, rfl, hk, Z, Y⟩
 refine ae fun K5 hK5 => aa fun K6 hK6 => wlm Z rfl fun a Z => wlv Z (aY (v := po w0.hz 3) rfl rfl kr) fun a Z => wlv Z (ld Y 2 rfl rfl (isAgg3 _) rfl) fun a Z => am Z Y de call38 rfl (cj x3 4 _ (by first | assumption | (unfold i64 at *; omega) | omega) om) ?_
 clear Z Y
 intro a w7 Z Y
 refine wlv Z (v_lt rfl rfl) fun a Z => ab (hK6 _ _ ?_)
 refine ax Z rfl (fun hc2 => ?_) (fun hc2 => ?_)
 ·rw [hc2] at Z
  try simp only [qz] at hc2
  have hk4 : k < 4 := by omega
  have htl := fq x3 k
  have htl2 := bF (x3.tdiv (4 + (k : Int))) (n := 256) de
  have htd := pG h3 (b := 4 + (k : Int)) om
  refine ar <| hK5 _ _ <| ae fun K7 hK7 => aq <| aF kr (aG kr fun w8 hxz => ?_)
  replace Y := Y.grow hxz
  refine aT (k := 0) 11 [1, 10] Z kr kr kr rfx ?_
  replace Z := Z.p9 3 4 5 6 22 23 24 25 26 rfl
  refine aA [9] (fun i => match i with | 9 => pm (fun b : Nat => .slice (some ⟨b, 0, none⟩) 1 1) (fun b => [own (.slice (some ⟨b, 0, none⟩) 1 1) 5 1 [[yv (UInt8.ofNat (pickI (x3.tdiv (4 + (k : Int))) 256).toNat)]]]) (fun _ => True) | _ => fun _ _ => False) 11 [[], [0], [], [2], [], [4], [3, 5], [6], [7], [8], [9]] [po b1 4, sv (textR x3 k), po w0.hz 3, iv x3, iv (k : Int), iv (4 + (k : Int)), iv (x3.tdiv (4 + (k : Int))), iv (pickI (x3.tdiv (4 + (k : Int))) 256), yv (UInt8.ofNat (pickI (x3.tdiv (4 + (k : Int))) 256).toNat), undef, sv ([(UInt8.ofNat (pickI (x3.tdiv (4 + (k : Int))) 256).toNat)])] Z Y kr kr kr ?_ ?_ ?_
  ·intro i hi hiq
   match i, hi, hiq with
   | 0, _, _ => exact fun w Y => OpV.g (ak (v := po b1 4) rfl kr)
   | 1, _, _ => exact fun w Y => OpV.g (ld Y 0 rfl rfl (isAgg9 _) rfl)
   | 2, _, _ => exact fun w Y => OpV.g (aY (v := po w0.hz 3) rfl rfl kr)
   | 3, _, _ => exact fun w Y => OpV.g (ld Y 2 rfl rfl (isAgg3 _) rfl)
   | 4, _, _ => exact fun w Y => OpV.g (ah rfl)
   | 5, _, _ => exact fun w Y => OpV.g (aV rfl rfl ⟨om, om⟩)
   | 6, _, _ => exact fun w Y => OpV.g (qg rfl rfl om h3)
   | 7, _, _ => exact fun w Y => bw call38 rfl (cj (x3.tdiv (4 + (k : Int))) 256 _ (by first | assumption | (unfold i64 at *; omega) | omega) om)
   | 8, _, _ => exact fun w Y => OpV.g ((l9 (n := pickI (x3.tdiv (4 + (k : Int))) 256) rfl kr underlying5).as (v' := yv (UInt8.ofNat (pickI (x3.tdiv (4 + (k : Int))) 256).toNat)) (by have hp := bF (x3.tdiv (4 + (k : Int))) (n := 256) de; rw [Int.emod_eq_of_lt hp.1 hp.2]))
   | 9, _, h => exact absurd sm h
   | 10, _, _ =>
    rintro _ _ ⟨b3, rfl, -, rfl⟩
    intro w Y
    exact OpV.g (di (xs := [(UInt8.ofNat (pickI (x3.tdiv (4 + (k : Int))) 256).toNat)]) (Y.ow 0 rfl) rfl underlying68 underlying5 underlying9)
  ·intro i hi
   simp only [List.mem_cons, List.not_mem_nil, or_false] at hi
   subst hi
   ·intro w Y
    exact aX (E := 5) (sz := 1) rfl [[yv (UInt8.ofNat (pickI (x3.tdiv (4 + (k : Int))) 256).toNat)]] (fun _ => by kernel_rfl) sm rfl de
  clear Z Y
  rintro _ _ ⟨b3, rfl, -, rfl⟩ a w9 Z Y
  replace Z : Fr 43 [(29, po b1 4), (30, sv (textR x3 k)), (31, po w0.hz 3), (32, iv x3), (33, iv (k : Int)), (34, iv (4 + (k : Int))), (35, iv (x3.tdiv (4 + (k : Int)))), (36, iv (pickI (x3.tdiv (4 + (k : Int))) 256)), (37, yv (UInt8.ofNat (pickI (x3.tdiv (4 + (k : Int))) 256).toNat)), (38, _), (39, sv ([(UInt8.ofNat (pickI (x3.tdiv (4 + (k : Int))) 256).toNat)])), (3, _), (4, _), (5, _), (6, _), (22, _), (23, _), (24, _), (25, _), (26, _)] [] a := Z
  replace Y : St No w0 [_, _, _, _] w9 := Y
  refine ab <| aP (k := 11) 14 [13] kr kr kr ?_
  refine wlv Z (bS rfl rfl (by simp only [List.length_cons, List.length_nil]; omega)) fun a Z => wlv Z (ak (v := po b1 4) rfl kr) fun a Z => aH 1 Z Y rfl rfl rfl (sizeOf9 _) rfl (lb rfl) (ds := [iv (pickI t 10000001), iv (1 + (pickI x0 3)), iv ((pickI x1 200) - 1), iv ((pickI x2 200) - 1), sv ((textR x3 k) ++ ([(UInt8.ofNat (pickI (x3.tdiv (4 + (k : Int))) 256).toNat)]))]) rfl rfl ?_
  clear Z Y
  intro a w10 Z Y
  refine ab <| aS kr ?_
  refine hK7 _ _ ?_
  replace Z := Z.p4 3 4 5 6 rfl
  replace Y := Y.k3 14 rfl
  refine ao <| wlm Z rfl fun a Z => wlv Z (aV rfl rfl ⟨om, om⟩) fun a Z => wla Z rfl fun a Z => ab ?_
  refine ⟨_, ?_, k + 1, rfl, om, Z.pick [3, 4, 5, 6], Y.select [0, 1, 2] de⟩
  omega
 rw [hc2] at Z
 try simp only [qz] at hc2
 refine aJ <| hK3 _ _ <| aa fun K8 hK8 => wlv Z (aw (Y.g 0 rfl) rfl (isAgg48 _) (sizeOf48 _)) fun a Z => aH 1 Z Y rfl rfl rfl (sizeOf48 _) rfl (lb rfl) (ds := [iv (pickI t 10000001), iv (1 + (pickI x0 3)), iv ((pickI x1 200) - 1), iv ((pickI x2 200) - 1), sv (textR x3 k)]) rfl rfl ?_
 clear Z Y
 intro a w11 Z Y
 refine ab (hK8 _ _ ?_)
 replace Z := Z.p1 4 rfl
 replace Y := Y.k1 2 rfl
 refine ap ?_
 refine al Z results39 (aM rfl (bU (Y.g 0 rfl) (isAgg48 _) (sizeOf48 _)) ag) ?_
 have hke : k = (pickI x3 4).toNat := by omega
 exact ⟨by simp only [retv]; unfold entR; rw [← hke], Y.ext⟩
theorem mS (owner : Int) (xv : Value) (ys : List Rin) (w0 : World) (hxv : SlAt w0 xv 5 (ys.map Rin.cells)) (hys : ∀ y ∈ ys, y.wt) (how : i64 owner) :
  Ret Tryz.prog 7 #[iv owner, xv] w0 (MemR w0 (fun v : Value => .agg #[iv (pickI owner 100), v]) (fun v => [own v 48 5 ((madeR ys).map Rec.cells)]) (fun _ => True)) := by
 have hxb := hxv.2.1
 simp only [List.length_map, big] at hxb
 refine aD func7 rfl ntmps7 (lb rfl) fun a Z => ?_
 replace Z := Z.p2 0 1 rfl
 replace Y : St No w0 [] w0 := St.init w0
 refine aa fun K1 hK1 => aU Z Y de (zeroValue25 _) (cs := [iv 0, .slice none 0 0]) rfl ?_
 clear Z Y
 intro a w1 Z Y
 refine ab (hK1 _ _ <| aa fun K2 hK2 => ?_)
 refine wlm Z rfl fun a Z => am Z Y de call38 rfl (cj owner 100 _ (by first | assumption | (unfold i64 at *; omega) | omega) om) ?_
 clear Z Y
 intro a w2 Z Y
 refine wlv Z (bA (v := .agg #[iv (pickI owner 100), .slice none 0 0]) rfl kr) fun a Z => aU Z Y de (zeroValue25 _) (cs := [iv 0, .slice none 0 0]) rfl ?_
 clear Z Y
 intro a w3 Z Y
 refine aH 0 Z Y rfl rfl rfl (sizeOf25 _) rfl (lb rfl) (ds := [iv (pickI owner 100), .slice none 0 0]) rfl rfl ?_
 clear Z Y
 intro a w4 Z Y
 refine ab (hK2 _ _ <| aa fun K3 hK3 => ?_)
 refine wla Z rfl fun a Z => ab (hK3 _ _ <| ae fun K4 hK4 => ?_)
 refine aa fun K5 hK5 => wla Z rfl fun a Z => ab (hK5 _ _ <| aq ?_)
 replace Y : St No w0 [own (.slice none 0 0) 48 5 ((recsR 0 (ys.take 0)).map Rec.cells), blk w2.hz [iv (pickI owner 100), .slice none 0 0] 25, blk w0.hz [iv 0, .slice none 0 0] 25] w4 := Y.nil_own
 refine aR (fun m a w => ∃ (k : Nat) (v : Value), m = 12 - k ∧ (k ≤ ys.length) ∧ (k ≤ 12) ∧ Fr 58 [(1, xv), (4, pt w0.hz), (5, pt w2.hz), (6, iv (timeR 0 (ys.take k))), (7, iv (k : Int))] [] a ∧ St No w0 [blk w2.hz [iv (pickI owner 100), v] 25, blk w0.hz [iv 0, .slice none 0 0] 25, own v 48 5 ((recsR 0 (ys.take k)).map Rec.cells)] w) _ ⟨0, .slice none 0 0, rfl, Nat.zero_le _, de, Z.pick [1, 4, 5, 6, 7], Y.select [1, 2, 0] de⟩ ?_
 rintro _ a w5 ⟨k, v, rfl, hk, hk12, Z, Y⟩
 refine ae fun K6 hK6 => aa fun K7 hK7 => wlm Z rfl fun a Z => wlm Z rfl fun a Z => wlv Z ((aE (sT := 22) (Y.arg hxv) rfl rfl (runUnderlying22 _)).asi (m' := (ys.length : Int)) (by rw [List.length_map])) fun a Z => wlv Z (v_lt rfl rfl) fun a Z => wlm Z rfl fun a Z => ?_
 rcases Bool.eq_false_or_eq_true (decide ((k : Int) < (ys.length : Int))) with hb1 | hb1
 ·rw [hb1] at Z
  try simp only [qz] at hb1
  have hky : k < ys.length := by omega
  refine wly Z (ah rfl) fun a Z => wly Z (v_lt rfl rfl) fun a Z => wlv Z (az rfl rfl) fun a Z => ab (hK7 _ _ ?_)
  replace Z := Z.p6 1 4 5 6 7 18 rfl
  refine ax Z rfl (fun hc2 => ?_) (fun hc2 => ?_)
  ·rw [hc2] at Z
   try simp only [qz] at hc2
   obtain ⟨y, hy⟩ : ∃ y, ys.getD k Rin.z = y := ⟨_, rfl⟩
   obtain ⟨hy0, hy1, hy2, hy3, hy4⟩ : y.wt := by rw [← hy]; exact hys _ (aW hky)
   have htm := j2 (ys.take k) 0 om
   rw [List.length_take] at htm
   have hp30 := bF y.x0 (n := 30) de
   refine ar <| hK6 _ _ <| ae fun K8 hK8 => aq <| aa fun K9 hK9 => wlm Z rfl fun a Z => wlm Z rfl fun a Z => wlm Z rfl fun a Z => wlv Z ((aj (i := (k : Int)) (sT := 22) (Y.arg hxv) rfl rfl (runUnderlying22 _) (sizeOf65 _) om (by rw [List.length_map]; omega)).as (v' := slAddr xv (k * 5)) rfl) fun a Z => wlv Z (cb (k := k * 5) (j := 0) (Y.arg hxv) (i := k) (by rw [List.length_map]; omega) rfl rfl (fun _ _ => by kernel_rfl)) fun a Z => wlv Z (au (u := iv y.x0) (i := k) (j := 0) (Y.arg hxv) (by rw [List.length_map]; omega) rfl (isAgg3 _) (by rw [br Rin.z, hy]; rfl)) fun a Z => am Z Y de call38 rfl (cj y.x0 30 _ (by first | assumption | (unfold i64 at *; omega) | omega) om) ?_
   clear Z Y
   intro a w6 Z Y
   refine wlv Z (aV rfl rfl ⟨om, om⟩) fun a Z => wla Z rfl fun a Z => ab (hK9 _ _ ?_)
   replace Z := Z.p5 1 4 5 7 6 rfl
   refine aF kr (aG kr fun w7 hxz => ?_)
   replace Y := Y.grow hxz
   refine aT (k := 0) 26 [1, 25] Z kr kr kr rfx ?_
   replace Z := Z.p5 1 4 5 7 6 rfl
   refine aA [25] (fun i => match i with | 25 => pm (fun b : Nat => .slice (some ⟨b, 0, none⟩) 1 1) (fun b => [own (.slice (some ⟨b, 0, none⟩) 1 1) 48 5 [[iv ((entR ((timeR 0 (ys.take k)) + (pickI y.x0 30)) y.x1 y.x2 y.x3 y.x4).t), iv ((entR ((timeR 0 (ys.take k)) + (pickI y.x0 30)) y.x1 y.x2 y.x3 y.x4).kind), iv ((entR ((timeR 0 (ys.take k)) + (pickI y.x0 30)) y.x1 y.x2 y.x3 y.x4).a), iv ((entR ((timeR 0 (ys.take k)) + (pickI y.x0 30)) y.x1 y.x2 y.x3 y.x4).b), sv ((entR ((timeR 0 (ys.take k)) + (pickI y.x0 30)) y.x1 y.x2 y.x3 y.x4).text)]]]) (fun _ => True) | _ => fun _ _ => False) 26 [[], [0], [], [], [], [3, 4], [5], [6], [], [], [8, 9], [10], [11], [], [], [13, 14], [15], [16], [], [], [18, 19], [20], [21], [7, 12, 17, 22], [2, 23], [24]] [po w2.hz 1, v, iv ((timeR 0 (ys.take k)) + (pickI y.x0 30)), xv, iv (k : Int), slAddr xv (k * 5), slAddr xv (k * 5 + 1), iv y.x1, xv, iv (k : Int), slAddr xv (k * 5), slAddr xv (k * 5 + 2), iv y.x2, xv, iv (k : Int), slAddr xv (k * 5), slAddr xv (k * 5 + 3), iv y.x3, xv, iv (k : Int), slAddr xv (k * 5), slAddr xv (k * 5 + 4), iv y.x4, .agg #[iv y.x1, iv y.x2, iv y.x3, iv y.x4], .agg #[iv ((entR ((timeR 0 (ys.take k)) + (pickI y.x0 30)) y.x1 y.x2 y.x3 y.x4).t), iv ((entR ((timeR 0 (ys.take k)) + (pickI y.x0 30)) y.x1 y.x2 y.x3 y.x4).kind), iv ((entR ((timeR 0 (ys.take k)) + (pickI y.x0 30)) y.x1 y.x2 y.x3 y.x4).a), iv ((entR ((timeR 0 (ys.take k)) + (pickI y.x0 30)) y.x1 y.x2 y.x3 y.x4).b), sv ((entR ((timeR 0 (ys.take k)) + (pickI y.x0 30)) y.x1 y.x2 y.x3 y.x4).text)], undef] Z Y kr kr kr ?_ ?_ ?_
   ·intro i hi hiq
    match i, hi, hiq with
    | 0, _, _ => exact fun w Y => OpV.g (ak (v := po w2.hz 1) rfl kr)
    | 1, _, _ => exact fun w Y => OpV.g (ld Y 0 rfl rfl (isAgg23 _) rfl)
    | 2, _, _ => exact fun w Y => OpV.g (ah rfl)
    | 3, _, _ => exact fun w Y => OpV.g (ah rfl)
    | 4, _, _ => exact fun w Y => OpV.g (ah rfl)
    | 5, _, _ => exact fun w Y => OpV.g ((aj (i := (k : Int)) (sT := 22) (Y.arg hxv) rfl rfl (runUnderlying22 _) (sizeOf65 _) om (by rw [List.length_map]; omega)).as (v' := slAddr xv (k * 5)) rfl)
    | 6, _, _ => exact fun w Y => OpV.g (cb (k := k * 5) (j := 1) (Y.arg hxv) (i := k) (by rw [List.length_map]; omega) rfl rfl (fun _ _ => by kernel_rfl))
    | 7, _, _ => exact fun w Y => OpV.g (au (u := iv y.x1) (i := k) (j := 1) (Y.arg hxv) (by rw [List.length_map]; omega) rfl (isAgg3 _) (by rw [br Rin.z, hy]; rfl))
    | 8, _, _ => exact fun w Y => OpV.g (ah rfl)
    | 9, _, _ => exact fun w Y => OpV.g (ah rfl)
    | 10, _, _ => exact fun w Y => OpV.g ((aj (i := (k : Int)) (sT := 22) (Y.arg hxv) rfl rfl (runUnderlying22 _) (sizeOf65 _) om (by rw [List.length_map]; omega)).as (v' := slAddr xv (k * 5)) rfl)
    | 11, _, _ => exact fun w Y => OpV.g (cb (k := k * 5) (j := 2) (Y.arg hxv) (i := k) (by rw [List.length_map]; omega) rfl rfl (fun _ _ => by kernel_rfl))
    | 12, _, _ => exact fun w Y => OpV.g (au (u := iv y.x2) (i := k) (j := 2) (Y.arg hxv) (by rw [List.length_map]; omega) rfl (isAgg3 _) (by rw [br Rin.z, hy]; rfl))
    | 13, _, _ => exact fun w Y => OpV.g (ah rfl)
    | 14, _, _ => exact fun w Y => OpV.g (ah rfl)
    | 15, _, _ => exact fun w Y => OpV.g ((aj (i := (k : Int)) (sT := 22) (Y.arg hxv) rfl rfl (runUnderlying22 _) (sizeOf65 _) om (by rw [List.length_map]; omega)).as (v' := slAddr xv (k * 5)) rfl)
    | 16, _, _ => exact fun w Y => OpV.g (cb (k := k * 5) (j := 3) (Y.arg hxv) (i := k) (by rw [List.length_map]; omega) rfl rfl (fun _ _ => by kernel_rfl))
    | 17, _, _ => exact fun w Y => OpV.g (au (u := iv y.x3) (i := k) (j := 3) (Y.arg hxv) (by rw [List.length_map]; omega) rfl (isAgg3 _) (by rw [br Rin.z, hy]; rfl))
    | 18, _, _ => exact fun w Y => OpV.g (ah rfl)
    | 19, _, _ => exact fun w Y => OpV.g (ah rfl)
    | 20, _, _ => exact fun w Y => OpV.g ((aj (i := (k : Int)) (sT := 22) (Y.arg hxv) rfl rfl (runUnderlying22 _) (sizeOf65 _) om (by rw [List.length_map]; omega)).as (v' := slAddr xv (k * 5)) rfl)
    | 21, _, _ => exact fun w Y => OpV.g (cb (k := k * 5) (j := 4) (Y.arg hxv) (i := k) (by rw [List.length_map]; omega) rfl rfl (fun _ _ => by kernel_rfl))
    | 22, _, _ => exact fun w Y => OpV.g (au (u := iv y.x4) (i := k) (j := 4) (Y.arg hxv) (by rw [List.length_map]; omega) rfl (isAgg3 _) (by rw [br Rin.z, hy]; rfl))
    | 23, _, _ => exact fun w Y => OpV.g (bA (v := .agg #[iv y.x1, iv y.x2, iv y.x3, iv y.x4]) rfl kr)
    | 24, _, _ => exact fun w Y => bw call39 rfl (mf ((timeR 0 (ys.take k)) + (pickI y.x0 30)) y.x1 y.x2 y.x3 y.x4 _ (by unfold i64; omega) (by assumption) (by assumption) (by assumption) (by assumption))
    | 25, _, h => exact absurd sm h
    | i + 26, h, _ => exact absurd h om
   ·intro i hi
    simp only [List.mem_cons, List.not_mem_nil, or_false] at hi
    subst hi
    ·intro w Y
     exact aX (E := 48) (sz := 5) rfl [[iv ((entR ((timeR 0 (ys.take k)) + (pickI y.x0 30)) y.x1 y.x2 y.x3 y.x4).t), iv ((entR ((timeR 0 (ys.take k)) + (pickI y.x0 30)) y.x1 y.x2 y.x3 y.x4).kind), iv ((entR ((timeR 0 (ys.take k)) + (pickI y.x0 30)) y.x1 y.x2 y.x3 y.x4).a), iv ((entR ((timeR 0 (ys.take k)) + (pickI y.x0 30)) y.x1 y.x2 y.x3 y.x4).b), sv ((entR ((timeR 0 (ys.take k)) + (pickI y.x0 30)) y.x1 y.x2 y.x3 y.x4).text)]] (fun _ => by kernel_rfl) sm rfl de
   clear Z Y
   rintro _ _ ⟨b3, rfl, -, rfl⟩ a w8 Z Y
   replace Z : Fr 58 [(29, po w2.hz 1), (30, v), (31, iv ((timeR 0 (ys.take k)) + (pickI y.x0 30))), (32, xv), (33, iv (k : Int)), (34, slAddr xv (k * 5)), (35, slAddr xv (k * 5 + 1)), (36, iv y.x1), (37, xv), (38, iv (k : Int)), (39, slAddr xv (k * 5)), (40, slAddr xv (k * 5 + 2)), (41, iv y.x2), (42, xv), (43, iv (k : Int)), (44, slAddr xv (k * 5)), (45, slAddr xv (k * 5 + 3)), (46, iv y.x3), (47, xv), (48, iv (k : Int)), (49, slAddr xv (k * 5)), (50, slAddr xv (k * 5 + 4)), (51, iv y.x4), (52, .agg #[iv y.x1, iv y.x2, iv y.x3, iv y.x4]), (53, .agg #[iv ((entR ((timeR 0 (ys.take k)) + (pickI y.x0 30)) y.x1 y.x2 y.x3 y.x4).t), iv ((entR ((timeR 0 (ys.take k)) + (pickI y.x0 30)) y.x1 y.x2 y.x3 y.x4).kind), iv ((entR ((timeR 0 (ys.take k)) + (pickI y.x0 30)) y.x1 y.x2 y.x3 y.x4).a), iv ((entR ((timeR 0 (ys.take k)) + (pickI y.x0 30)) y.x1 y.x2 y.x3 y.x4).b), sv ((entR ((timeR 0 (ys.take k)) + (pickI y.x0 30)) y.x1 y.x2 y.x3 y.x4).text)]), (54, _), (1, _), (4, _), (5, _), (7, _), (6, _)] [] a := Z
   replace Y : St No w0 [_, _, _, _] w8 := Y
   refine ab <| aP (k := 26) 29 [28] kr kr kr ?_
   refine aN (i := 3) (sT := 23) (inf := Tryz.t48) (z := .agg #[iv 0, iv 0, iv 0, iv 0, .string (⟨#[]⟩)]) (b := 0) (off := 0) (m := 0) (c := 0) rfl rfl rfl (Y.ow 0 rfl) sm underlying23 rfl rfl rfl rfl de (by simp [Value.oneCell', yv, wv, sv]) (by have hby : Tryz.t48.bytes = 48 := rfl; simp only [big, hby, List.length_append, List.length_map, ej, List.length_take, List.length_cons, List.length_nil]; omega) (by have hby : Tryz.t48.bytes = 48 := rfl; simp only [big, hby, List.length_append, List.length_map, ej, List.length_take, List.length_cons, List.length_nil]; omega) de Z Y fun a w9 s4 Z Y _ => wlv Z (ak (v := po w2.hz 1) rfl kr) fun a Z => cA 1 Z Y (Y.ow 3 rfl) rfl rfl rfl (sizeOf23 _) (lb rfl) (ds := [iv (pickI owner 100), s4]) rfl rfl ?_
   clear Z Y
   intro a w10 Z Y
   refine ab <| aS kr ?_
   refine hK8 _ _ ?_
   replace Z := Z.p5 1 4 5 7 6 rfl
   replace Y := Y.k3 14 rfl
   rw [show ((recsR 0 (ys.take k)).map Rec.cells) ++ ([[iv ((entR ((timeR 0 (ys.take k)) + (pickI y.x0 30)) y.x1 y.x2 y.x3 y.x4).t), iv ((entR ((timeR 0 (ys.take k)) + (pickI y.x0 30)) y.x1 y.x2 y.x3 y.x4).kind), iv ((entR ((timeR 0 (ys.take k)) + (pickI y.x0 30)) y.x1 y.x2 y.x3 y.x4).a), iv ((entR ((timeR 0 (ys.take k)) + (pickI y.x0 30)) y.x1 y.x2 y.x3 y.x4).b), sv ((entR ((timeR 0 (ys.take k)) + (pickI y.x0 30)) y.x1 y.x2 y.x3 y.x4).text)]]) = ((recsR 0 (ys.take (k + 1))).map Rec.cells) from by rw [bO Rin.z hky, gq, hy, List.map_append]; rfl] at Y
   rw [show timeR 0 (ys.take k) + pickI y.x0 30 = timeR 0 (ys.take (k + 1)) from by rw [bO Rin.z hky, gR, hy]] at Z
   refine ao <| wlm Z rfl fun a Z => wlv Z (aV rfl rfl ⟨om, om⟩) fun a Z => wla Z rfl fun a Z => ab ?_
   refine ⟨_, ?_, k + 1, s4, rfl, om, om, Z.pick [1, 4, 5, 6, 7], Y.select [0, 1, 2] de⟩
   omega
  rw [hc2] at Z
  try simp only [qz] at hc2
  have htk := gT hk om hk12
  refine aJ <| hK4 _ _ <| aa fun K10 hK10 => wlv Z (aw (Y.g 0 rfl) rfl (isAgg25 _) (sizeOf25 _)) fun a Z => bu (us := [iv (pickI owner 100), v]) 1 Z Y rfl rfl rfl (sizeOf25 _) (by intro z hz; simp only [List.mem_cons, List.not_mem_nil, or_false] at hz; rcases hz with rfl | rfl <;> first | rfl | exact SlAt.one (Y.ow 2 rfl)) (lb rfl) (ds := [iv (pickI owner 100), v]) rfl rfl ?_
  clear Z Y
  intro a w11 Z Y
  refine ab (hK10 _ _ ?_)
  replace Z := Z.p1 4 rfl
  replace Y := Y.k2 6 rfl
  refine ap ?_
  refine al Z results7 (aM rfl (bU (Y.g 0 rfl) (isAgg25 _) (sizeOf25 _)) ag) ?_
  rw [htk] at Y
  exact ⟨v, rfl, trivial, Y.ext, St.out (E := [own v 48 5 ((madeR ys).map Rec.cells)]) (H := []) (Y.select [1] de)⟩
 rw [hb1] at Z
 try simp only [qz] at hb1
 have htk := gT hk om hk12
 refine wln Z fun a Z => wln Z fun a Z => wlv Z (ay rfl rfl) fun a Z => ab (hK7 _ _ ?_)
 replace Z := Z.p6 1 4 5 6 7 18 rfl
 refine aL Z rfl ?_
 refine aJ <| hK4 _ _ <| aa fun K11 hK11 => wlv Z (aw (Y.g 0 rfl) rfl (isAgg25 _) (sizeOf25 _)) fun a Z => bu (us := [iv (pickI owner 100), v]) 1 Z Y rfl rfl rfl (sizeOf25 _) (by intro z hz; simp only [List.mem_cons, List.not_mem_nil, or_false] at hz; rcases hz with rfl | rfl <;> first | rfl | exact SlAt.one (Y.ow 2 rfl)) (lb rfl) (ds := [iv (pickI owner 100), v]) rfl rfl ?_
 clear Z Y
 intro a w12 Z Y
 refine ab (hK11 _ _ ?_)
 replace Z := Z.p1 4 rfl
 replace Y := Y.k2 6 rfl
 refine ap ?_
 refine al Z results7 (aM rfl (bU (Y.g 0 rfl) (isAgg25 _) (sizeOf25 _)) ag) ?_
 rw [htk] at Y
 exact ⟨v, rfl, trivial, Y.ext, St.out (E := [own v 48 5 ((madeR ys).map Rec.cells)]) (H := []) (Y.select [1] de)⟩
theorem pE (n : Int) (w0 : World) (hn : i64 n) :
  Ret Tryz.prog 12 #[iv n] w0 fun v w => v = sv (keyR n) ∧ Ext No w0 w := by
 have hp := bF n (n := 1099511627776) de
 have hq := bI (pickI n 1099511627776)
 refine aD func12 rfl ntmps12 (lb rfl) fun a Z => ?_
 replace Z := Z.p1 0 rfl
 replace Y : St No w0 [] w0 := St.init w0
 refine aa fun K1 hK1 => wla Z rfl fun a Z => ab (hK1 _ _ <| aa fun K2 hK2 => ?_)
 refine wlm Z rfl fun a Z => am Z Y de call38 rfl (cj n 1099511627776 _ (by first | assumption | (unfold i64 at *; omega) | omega) om) ?_
 clear Z Y
 intro a w1 Z Y
 refine am Z Y de call44 rfl (cL (pickI n 1099511627776) _ (by unfold small; omega)) ?_
 clear Z Y
 intro a w2 Z Y
 refine wlm Z rfl fun a Z => wlv Z (ai rfl rfl) fun a Z => wlv Z (ai rfl rfl) fun a Z => wla Z rfl fun a Z => wla Z rfl fun a Z => ab (hK2 _ _ ?_)
 replace Z := Z.p2 2 3 rfl
 refine aa fun K3 hK3 => wlm Z rfl fun a Z => am Z Y de call45 rfl (dS (putI (pickI n 1099511627776)) _ om) ?_
 clear Z Y
 intro a w3 Z Y
 refine wla Z rfl fun a Z => ab (hK3 _ _ <| ap ?_)
 refine al Z results12 (ac rfl ag) ?_
 exact ⟨by rfl, Y.ext⟩
theorem dE {old : By} {m n : Nat} {p : List By} {w : Bool} (h : n ≤ m ∨ p.length = 0) (hw : w = true ∨ p.length = 0) : sdH sha old m n p w = ([], old, old) := by
 rw [fW (h.imp id List.eq_nil_of_length_eq_zero), if_pos (hw.imp id List.eq_nil_of_length_eq_zero)]
theorem gB {old : By} {m n : Nat} {p : List By} {w : Bool} (h : n ≤ m ∨ p.length = 0) (hw : w = false) (h0 : ¬ p.length = 0) : sdH sha old m n p w = ([], p.getD 0 [], p.getD 0 []) := by
 have hp : p ≠ [] := fun e => h0 (by rw [e]; rfl)
 rw [fW (h.imp id List.eq_nil_of_length_eq_zero), if_neg (by rw [hw]; simp [hp])]
 cases p <;> rfl
theorem cO {old : By} (ho : old.length = 32) : ∀ (p : List By) (m n : Nat) (w : Bool), (∀ x ∈ p, x.length = 32) → (sdH sha old m n p w).1.length ≤ 2 * p.length ∧ (sdH sha old m n p w).2.1.length = 32 ∧ (sdH sha old m n p w).2.2.length = 32 ∧ ∀ z ∈ (sdH sha old m n p w).1, z.length ≤ 65 := by
 intro p
 induction hL : p.length generalizing p with
 | zero => intro m n w _; rw [dE (.inr hL) (.inr hL)]; simp [ho]
 | succ k ih =>
  intro m n w hp
  have hp0 : ¬ p.length = 0 := by omega
  by_cases h : n ≤ m
  ·cases w with
   | true => rw [dE (.inl h) (.inl rfl)]; simp [ho]
   | false =>
    have hx := hp _ (aW (d := []) (show 0 < p.length by omega))
    rw [gB (.inl h) rfl hp0]; exact ⟨by simp, hx, hx, by simp⟩
  ·have hk : (p.take (p.length - 1)).length = k := by rw [List.length_take]; omega
   have hp' : ∀ x ∈ p.take (p.length - 1), x.length = 32 := fun x hx => hp x (List.mem_of_mem_take hx)
   have hx := hp _ (aW (d := []) (show p.length - 1 < p.length by omega))
   by_cases hi : m ≤ lft n
   ·rw [lG om om hi]
    obtain ⟨i1, i2, i3, i4⟩ := ih _ hk m (lft n) w hp'
    refine ⟨by simp; omega, i2, aZ _, fun z hz => ?_⟩
    rcases List.mem_append.1 hz with hz | hz
    ·exact i4 z hz
    ·rw [List.mem_singleton.1 hz]; simp only [List.length_cons, List.length_append]; omega
   ·rw [kc om om hi]
    obtain ⟨i1, i2, i3, i4⟩ := ih _ hk (m - lft n) (n - lft n) false hp'
    refine ⟨by simp; omega, aZ _, aZ _, fun z hz => ?_⟩
    rcases List.mem_append.1 hz with hz | hz
    ·exact i4 z hz
    ·simp only [List.mem_cons, List.not_mem_nil, or_false] at hz
     rcases hz with rfl | rfl <;> simp only [List.length_cons, List.length_append] <;> omega
theorem ko : ∀ (n : Nat) (l : List By), l.length = n → 1 ≤ n → (hashL sha l).length + 1 ≤ 2 * n := by
 intro n
 induction n using Nat.strongRecOn with
 | _ n ih =>
  intro l hl h1
  match l with
  | [] => simp at hl; omega
  | [s] => rw [← hl]; simp [ep]
  | a :: b :: l =>
   generalize hg : a :: b :: l = l2 at *
   have h2 : 2 ≤ l2.length := by rw [← hg]; simp
   have h3 := bG h2
   have h4 := bB l2.length
   have i1 := ih (lft l2.length) om (l2.take (lft l2.length)) (by rw [List.length_take]; omega) om
   have i2 := ih (l2.length - lft l2.length) om (l2.drop (lft l2.length)) (by rw [List.length_drop]) om
   rw [dC sha h2, List.length_append, List.length_append, List.length_singleton]; omega
theorem fB (n : Nat) (l : List By) (hl : l.length = n) : (hashL sha l).length ≤ 2 * n + 1 := by
 by_cases h : 1 ≤ n
 ·have := ko n l hl h; omega
 ·obtain rfl : l = [] := List.eq_nil_of_length_eq_zero om
  simp [ie]
theorem kD {b : Nat} (hb : 65 ≤ b) : ∀ (n : Nat) (l : List By), l.length = n → (∀ s ∈ l, s.length + 1 ≤ b) → ∀ z ∈ hashL sha l, z.length ≤ b := by
 intro n
 induction n using Nat.strongRecOn with
 | _ n ih =>
  intro l hl hs z hz
  match l with
  | [] => rw [ie] at hz; rw [List.mem_singleton.1 hz]; simp
  | [s] => rw [ep] at hz; rw [List.mem_singleton.1 hz]; simpa using hs s sm
  | a :: b2 :: l =>
   generalize hg : a :: b2 :: l = l2 at *
   have h2 : 2 ≤ l2.length := by rw [← hg]; simp
   have h3 := bG h2
   have h4 := bB l2.length
   rw [dC sha h2] at hz
   rcases List.mem_append.1 hz with hz | hz
   ·rcases List.mem_append.1 hz with hz | hz
    ·exact ih (lft l2.length) om _ (by rw [List.length_take]; omega) (fun s h => hs s (List.mem_of_mem_take h)) z hz
    ·exact ih (l2.length - lft l2.length) om _ (by rw [List.length_drop]) (fun s h => hs s (List.mem_of_mem_drop h)) z hz
   ·rw [List.mem_singleton.1 hz]
    simp only [List.length_cons, List.length_append, bc aZ]; omega
theorem jd {l : List By} (h : l.length = 1) : hashL sha l = [0 :: l.getD 0 []] := by
 match l, h with
 | [x], _ => rfl
theorem nW (L : Nat) :
  ∀ (lv : Value) (ls : List By) (w0 : World), ls.length = L → SlAt w0 lv 1 (ls.map fun s => [sv s]) → ls.length ≤ 1000 → (∀ s ∈ ls, s.length ≤ 30000000) → Ret Tryz.prog 28 #[lv] w0 (MemR w0 (fun v : Value => v) (fun v => [own v 9 1 ((hashL sha ls).map fun s => [sv s])]) (fun _ => True)) := by
 induction L using Nat.strongRecOn
 rename_i L ih
 intro lv ls w0 hL hlv hln hls0
 have hls : ∀ s ∈ ls, s.length ≤ 40000000 := fun s h => Nat.le_trans (hls0 s h) de
 have hnb := hlv.le
 rw [List.length_map] at hnb
 refine aD func28 rfl ntmps28 (lb rfl) fun a Z => ?_
 replace Z := Z.p1 0 rfl
 replace Y : St No w0 [] w0 := St.init w0
 refine aa fun K1 hK1 => wla Z rfl fun a Z => ab (hK1 _ _ <| ae fun K2 hK2 => ?_)
 refine aa fun K3 hK3 => wlm Z rfl fun a Z => wlv Z ((aE (sT := 26) (Y.arg hlv) rfl rfl (runUnderlying26 _)).asi (m' := (ls.length : Int)) sm) fun a Z => wlv Z (v_eq rfl rfl) fun a Z => ab (hK3 _ _ ?_)
 refine ax Z rfl (fun hc1 => ?_) (fun hc1 => ?_)
 ·rw [hc1] at Z
  try simp only [qz] at hc1
  refine aa fun K4 hK4 => aC (E := 9) (sz := 1) rfl [[sv ([])]] kr sm rfl de de Z Y ?_
  clear Z Y
  intro a w1 Z Y
  refine wla Z rfl fun a Z => ab (hK4 _ _ <| ap ?_)
  refine al Z results28 (ac rfl ag) ?_
  have hW := (show hashL sha ls = [[]] from by rw [show ls = [] from List.eq_nil_of_length_eq_zero om]; rfl)
  refine ⟨(.slice (some ⟨w0.hz, 0, none⟩) 1 1), rfl, trivial, Y.ext, St.out (E := [own (.slice (some ⟨w0.hz, 0, none⟩) 1 1) 9 1 ((hashL sha ls).map fun s => [sv s])]) (H := []) ?_⟩
  rw [show ((hashL sha ls).map fun s => [sv s]) = [[sv ([])]] from by first | (rw [hW]; done) | (rw [hW]; simp)]
  exact Y.select [0] de
 rw [hc1] at Z
 try simp only [qz] at hc1
 refine ar <| hK2 _ _ <| ae fun K5 hK5 => aa fun K6 hK6 => wlm Z rfl fun a Z => wlv Z ((aE (sT := 26) (Y.arg hlv) rfl rfl (runUnderlying26 _)).asi (m' := (ls.length : Int)) sm) fun a Z => wlv Z (v_eq rfl rfl) fun a Z => ab (hK6 _ _ ?_)
 refine ax Z rfl (fun hc2 => ?_) (fun hc2 => ?_)
 ·rw [hc2] at Z
  try simp only [qz] at hc2
  have hx := hls _ (aW (d := []) (show 0 < ls.length by omega))
  refine aa fun K7 hK7 => wlm Z rfl fun a Z => wlv Z ((aj (i := 0) (sT := 26) (Y.arg hlv) rfl rfl (runUnderlying26 _) (sizeOf9 _) om (by rw [List.length_map]; omega)).as (v' := slAddr lv (0 * 1)) rfl) fun a Z => ?_
  refine wlv Z (au (u := sv (ls.getD 0 [])) (i := 0) (j := 0) (Y.arg hlv) (by rw [List.length_map]; omega) rfl (isAgg9 _) (by simp [List.getD_eq_getElem?_getD, List.getElem?_eq_getElem (show 0 < ls.length by omega)])) fun a Z => ?_
  refine wlv Z (bS rfl rfl (by (simp only [List.length_append, List.length_cons, List.length_nil]); omega)) fun a Z => aC (E := 9) (sz := 1) rfl [[sv (([0]) ++ (ls.getD 0 []))]] kr sm rfl de de Z Y ?_
  clear Z Y
  intro a w2 Z Y
  refine wla Z rfl fun a Z => ab (hK7 _ _ ?_)
  replace Z := Z.p2 0 2 rfl
  refine ap ?_
  refine al Z results28 (ac rfl ag) ?_
  have hW := jd (l := ls) om
  refine ⟨(.slice (some ⟨w0.hz, 0, none⟩) 1 1), rfl, trivial, Y.ext, St.out (E := [own (.slice (some ⟨w0.hz, 0, none⟩) 1 1) 9 1 ((hashL sha ls).map fun s => [sv s])]) (H := []) ?_⟩
  rw [show ((hashL sha ls).map fun s => [sv s]) = [[sv (([0]) ++ (ls.getD 0 []))]] from by first | (rw [hW]; done) | (rw [hW]; simp)]
  exact Y.select [0] de
 rw [hc2] at Z
 try simp only [qz] at hc2
 have hlt := bG (n := ls.length) om
 have hlp := bB ls.length
 have hc1 := fB _ (ls.take (lft ls.length)) rfl
 have hc2 := fB _ (ls.drop (lft ls.length)) rfl
 rw [List.length_take] at hc1
 rw [List.length_drop] at hc2
 have hrt := bc aZ (ls.take (lft ls.length))
 have hrd := bc aZ (ls.drop (lft ls.length))
 refine ar <| hK5 _ _ <| aa fun K8 hK8 => wlm Z rfl fun a Z => wlv Z ((aE (sT := 26) (Y.arg hlv) rfl rfl (runUnderlying26 _)).asi (m' := (ls.length : Int)) sm) fun a Z => am Z Y de call61 rfl (eZ ls.length _ om om) ?_
 clear Z Y
 intro a w3 Z Y
 refine wla Z rfl fun a Z => ab (hK8 _ _ ?_)
 replace Z := Z.p3 0 2 3 rfl
 refine ae fun K9 hK9 => aF kr (aG kr fun w4 hxz => ?_)
 replace Y := Y.grow hxz
 refine aT (k := 0) 7 [3, 6] Z kr kr kr rfx ?_
 replace Z := Z.p3 0 2 3 rfl
 refine aA [3] (fun i => match i with | 3 => pm (fun v : Value => v) (fun v => [own v 9 1 ((hashL sha ((ls.take (lft ls.length)))).map fun s => [sv s])]) (fun _ => True) | _ => fun _ _ => False) 7 [[], [], [0, 1], [2], [], [], [4, 5]] [lv, iv (lft ls.length : Int), (cut lv 1 0 (lft ls.length) (slCap lv)), undef, lv, iv (lft ls.length : Int), (cut lv 1 (lft ls.length) ls.length (slCap lv))] Z Y kr kr kr ?_ ?_ ?_
 ·intro i hi hiq
  match i, hi, hiq with
  | 0, _, _ => exact fun w Y => OpV.g (ah rfl)
  | 1, _, _ => exact fun w Y => OpV.g (ah rfl)
  | 2, _, _ => exact fun w Y => OpV.g (bd (l := 0) (h := (lft ls.length)) (Y.arg hlv) rfl rfl rfl underlying26 kr (.inl ⟨rfl, rfl⟩) (.inr (by rw [show ((lft ls.length : Int) : Int) = (((lft ls.length) : Nat) : Int) from by omega] <;> rfl)) (Nat.zero_le _) (by first | (rw [List.length_map]; omega) | (simp <;> omega)))
  | 3, _, h => exact absurd sm h
  | 4, _, _ => exact fun w Y => OpV.g (ah rfl)
  | 5, _, _ => exact fun w Y => OpV.g (ah rfl)
  | 6, _, _ => exact fun w Y => OpV.g (bd (l := (lft ls.length)) (h := ls.length) (Y.arg hlv) rfl rfl rfl underlying26 kr (.inr (by rw [show ((lft ls.length : Int) : Int) = (((lft ls.length) : Nat) : Int) from by omega] <;> rfl)) (.inl ⟨rfl, by simp⟩) om sm)
 ·intro i hi
  simp only [List.mem_cons, List.not_mem_nil, or_false] at hi
  subst hi
  ·intro w Y
   exact dO call28 rfl (ih _ (by simp only [List.length_take, List.length_drop]; omega) (cut lv 1 0 (lft ls.length) (slCap lv)) (ls.take (lft ls.length)) _ rfl ((Y.arg hlv).cut0 (h := (lft ls.length)) (by first | omega | (rw [List.length_reverse]; omega) | simp | (simp; omega))) (by simp only [List.length_take, List.length_drop]; omega) (fun s h => hls0 s (List.mem_of_mem_take h)))
 clear Z Y
 rintro v3 _ ⟨_, rfl, -, rfl⟩ a w5 Z Y
 replace Z : Fr 42 [(20, lv), (21, iv (lft ls.length : Int)), (22, (cut lv 1 0 (lft ls.length) (slCap lv))), (23, _), (24, lv), (25, iv (lft ls.length : Int)), (26, (cut lv 1 (lft ls.length) ls.length (slCap lv))), (0, _), (2, _), (3, _)] [] a := Z
 replace Y : St No w0 [_] w5 := Y
 refine ab <| aP (k := 7) 10 [9] kr kr kr ?_
 refine aK Z Y de call28 rfl (ih _ (by simp only [List.length_take, List.length_drop]; omega) (cut lv 1 (lft ls.length) ls.length (slCap lv)) (ls.drop (lft ls.length)) _ rfl ((Y.arg hlv).cutd (l := (lft ls.length)) (by first | omega | (rw [List.length_reverse]; omega) | simp | (simp; omega))) (by simp only [List.length_take, List.length_drop]; omega) (fun s h => hls0 s (List.mem_of_mem_drop h))) ?_
 clear Z Y
 intro a w6 x5 hp Z Y
 revert x5 hp Z Y; rintro v4 hp Z Y
 clear hp
 replace Y : St No w0 [_, _] w6 := Y
 refine bE (i := 1) (sT := 26) (inf := Tryz.t9) (z := .string (⟨#[]⟩)) rfl rfl rfl (Y.ow 0 rfl) underlying26 rfl rfl rfl rfl de (by first | (simp [Value.oneCell', yv, wv, sv]; done) | (intro e he u hu; obtain ⟨s, _, rfl⟩ := List.mem_map.1 he; rw [List.mem_singleton.1 hu]; rfl)) (by have hby : Tryz.t9.bytes = 16 := rfl; simp only [big, hby, List.length_append, List.length_map, List.length_reverse, List.length_cons, List.length_nil]; omega) (by have hby : Tryz.t9.bytes = 16 := rfl; simp only [big, hby, List.length_append, List.length_map, List.length_reverse, List.length_cons, List.length_nil]; omega) de Z Y ?_
 clear Z Y
 intro a w7 s6 Z Y
 refine wla Z rfl fun a Z => ab <| aS kr ?_
 refine hK9 _ _ ?_
 replace Z := Z.p4 0 2 3 4 rfl
 replace Y := Y.k1 2 rfl
 refine ae fun K10 hK10 => aF kr (aG kr fun w8 hxz => ?_)
 replace Y := Y.grow hxz
 refine aT (k := 0) 12 [0, 11] Z kr kr kr rfx ?_
 replace Z := Z.p4 0 2 3 4 rfl
 refine aA [11] (fun i => match i with | 11 => pm (fun b : Nat => .slice (some ⟨b, 0, none⟩) 1 1) (fun b => [own (.slice (some ⟨b, 0, none⟩) 1 1) 9 1 [[sv ((([1]) ++ (rootH sha (ls.take (lft ls.length)))) ++ (rootH sha (ls.drop (lft ls.length))))]]]) (fun _ => True) | _ => fun _ _ => False) 12 [[], [], [], [1, 2], [3], [4], [], [], [6, 7], [8], [5, 9], [10]] [s6, lv, iv (lft ls.length : Int), (cut lv 1 0 (lft ls.length) (slCap lv)), sv (rootH sha (ls.take (lft ls.length))), sv (([1]) ++ (rootH sha (ls.take (lft ls.length)))), lv, iv (lft ls.length : Int), (cut lv 1 (lft ls.length) ls.length (slCap lv)), sv (rootH sha (ls.drop (lft ls.length))), sv ((([1]) ++ (rootH sha (ls.take (lft ls.length)))) ++ (rootH sha (ls.drop (lft ls.length)))), undef] Z Y kr kr kr ?_ ?_ ?_
 ·intro i hi hiq
  match i, hi, hiq with
  | 0, _, _ => exact fun w Y => OpV.g (ah rfl)
  | 1, _, _ => exact fun w Y => OpV.g (ah rfl)
  | 2, _, _ => exact fun w Y => OpV.g (ah rfl)
  | 3, _, _ => exact fun w Y => OpV.g (bd (l := 0) (h := (lft ls.length)) (Y.arg hlv) rfl rfl rfl underlying26 kr (.inl ⟨rfl, rfl⟩) (.inr (by rw [show ((lft ls.length : Int) : Int) = (((lft ls.length) : Nat) : Int) from by omega] <;> rfl)) (Nat.zero_le _) (by first | (rw [List.length_map]; omega) | (simp <;> omega)))
  | 4, _, _ => exact fun w Y => bw call43 rfl (dD _ (cut lv 1 0 (lft ls.length) (slCap lv)) (ls.take (lft ls.length)) _ rfl ((Y.arg hlv).cut0 (h := (lft ls.length)) (by first | omega | (rw [List.length_reverse]; omega) | simp | (simp; omega))) (by simp only [List.length_take, List.length_drop]; omega) (fun s h => hls s (List.mem_of_mem_take h)))
  | 5, _, _ => exact fun w Y => OpV.g (bS rfl rfl (by (simp only [List.length_append, List.length_cons, List.length_nil]); omega))
  | 6, _, _ => exact fun w Y => OpV.g (ah rfl)
  | 7, _, _ => exact fun w Y => OpV.g (ah rfl)
  | 8, _, _ => exact fun w Y => OpV.g (bd (l := (lft ls.length)) (h := ls.length) (Y.arg hlv) rfl rfl rfl underlying26 kr (.inr (by rw [show ((lft ls.length : Int) : Int) = (((lft ls.length) : Nat) : Int) from by omega] <;> rfl)) (.inl ⟨rfl, by simp⟩) om sm)
  | 9, _, _ => exact fun w Y => bw call43 rfl (dD _ (cut lv 1 (lft ls.length) ls.length (slCap lv)) (ls.drop (lft ls.length)) _ rfl ((Y.arg hlv).cutd (l := (lft ls.length)) (by first | omega | (rw [List.length_reverse]; omega) | simp | (simp; omega))) (by simp only [List.length_take, List.length_drop]; omega) (fun s h => hls s (List.mem_of_mem_drop h)))
  | 10, _, _ => exact fun w Y => OpV.g (bS rfl rfl (by (simp only [List.length_append, List.length_cons, List.length_nil]); omega))
  | 11, _, h => exact absurd sm h
  | i + 12, h, _ => exact absurd h om
 ·intro i hi
  simp only [List.mem_cons, List.not_mem_nil, or_false] at hi
  subst hi
  ·intro w Y
   exact aX (E := 9) (sz := 1) rfl [[sv ((([1]) ++ (rootH sha (ls.take (lft ls.length)))) ++ (rootH sha (ls.drop (lft ls.length))))]] (fun _ => by kernel_rfl) sm rfl de
 clear Z Y
 rintro _ _ ⟨b7, rfl, -, rfl⟩ a w9 Z Y
 replace Z : Fr 42 [(29, s6), (30, lv), (31, iv (lft ls.length : Int)), (32, (cut lv 1 0 (lft ls.length) (slCap lv))), (33, sv (rootH sha (ls.take (lft ls.length)))), (34, sv (([1]) ++ (rootH sha (ls.take (lft ls.length))))), (35, lv), (36, iv (lft ls.length : Int)), (37, (cut lv 1 (lft ls.length) ls.length (slCap lv))), (38, sv (rootH sha (ls.drop (lft ls.length)))), (39, sv ((([1]) ++ (rootH sha (ls.take (lft ls.length)))) ++ (rootH sha (ls.drop (lft ls.length))))), (40, _), (0, _), (2, _), (3, _), (4, _)] [] a := Z
 replace Y : St No w0 [_, _] w9 := Y
 refine ab <| aP (k := 12) 14 [13] kr kr kr ?_
 refine aN (i := 1) (sT := 26) (inf := Tryz.t9) (z := .string (⟨#[]⟩)) (b := 0) (off := 0) (m := 0) (c := 0) rfl rfl rfl (Y.ow 0 rfl) sm underlying26 rfl rfl rfl rfl de (by simp [Value.oneCell', yv, wv, sv]) (by have hby : Tryz.t9.bytes = 16 := rfl; simp only [big, hby, List.length_append, List.length_map, List.length_reverse, List.length_cons, List.length_nil]; omega) (by have hby : Tryz.t9.bytes = 16 := rfl; simp only [big, hby, List.length_append, List.length_map, List.length_reverse, List.length_cons, List.length_nil]; omega) de Z Y fun a w10 s8 Z Y _ => wla Z rfl fun a Z => ab <| aS kr ?_
 refine hK10 _ _ ?_
 replace Z := Z.p1 2 rfl
 replace Y := Y.k1 2 rfl
 refine ap ?_
 refine al Z results28 (ac rfl ag) ?_
 have hW := dC sha (l := ls) om
 refine ⟨s8, rfl, trivial, Y.ext, St.out (E := [own s8 9 1 ((hashL sha ls).map fun s => [sv s])]) (H := []) ?_⟩
 rw [show ((hashL sha ls).map fun s => [sv s]) = (((hashL sha ((ls.take (lft ls.length)))).map fun s => [sv s]) ++ ((hashL sha ((ls.drop (lft ls.length)))).map fun s => [sv s])) ++ ([[sv ((([1]) ++ (rootH sha (ls.take (lft ls.length)))) ++ (rootH sha (ls.drop (lft ls.length))))]]) from by first | (rw [hW]; done) | (rw [hW]; simp)]
 exact Y.select [0] de
theorem en (old : By) (hold : old.length = 32) (L : Nat) :
  ∀ (m n : Nat) (lv : Value) (ls : List By) (wh : Bool) (w0 : World), ls.length = L → SlAt w0 lv 1 (ls.map fun s => [sv s]) → 1 ≤ m ∧ m ≤ n ∧ n ≤ 9223372036854775807 → ls.length ≤ 1000 → (∀ x ∈ ls, x.length = 32) → Ret Tryz.prog 30 #[sv old, iv (m : Int), iv (n : Int), lv, .bool wh] w0 (MemR w0 (fun v : Value => .tuple #[v, sv (sdH sha old m n ls wh).2.1, sv (sdH sha old m n ls wh).2.2]) (fun v => [own v 9 1 (((sdH sha old m n ls wh).1).map fun s => [sv s])]) (fun _ => True)) := by
 induction L using Nat.strongRecOn
 rename_i L ih
 intro m n lv ls wh w0 hL hlv hni hln hls
 have hnb := hlv.le
 rw [List.length_map] at hnb
 have hlt2 : 2 ≤ n → lft n < n := fun h => bG h
 refine aD func30 rfl ntmps30 (lb rfl) fun a Z => ?_
 replace Z := Z.p5 0 1 2 3 4 rfl
 replace Y : St No w0 [] w0 := St.init w0
 refine aa fun K1 hK1 => wla Z rfl fun a Z => wla Z rfl fun a Z => wla Z rfl fun a Z => ab (hK1 _ _ <| ae fun K2 hK2 => ?_)
 refine aa fun K3 hK3 => wlm Z rfl fun a Z => wlm Z rfl fun a Z => wlv Z (v_ge rfl rfl) fun a Z => wlm Z rfl fun a Z => ?_
 rcases Bool.eq_false_or_eq_true (decide ((n : Int) ≤ (m : Int))) with hb1 | hb1
 ·rw [hb1] at Z
  try simp only [qz] at hb1
  refine wln Z fun a Z => wln Z fun a Z => wln Z fun a Z => wlv Z (az rfl rfl) fun a Z => ab (hK3 _ _ ?_)
  replace Z := Z.p9 0 1 2 3 4 10 11 12 29 rfl
  refine aI Z rfl ?_
  refine ae fun K4 hK4 => aa fun K5 hK5 => wlm Z rfl fun a Z => wlm Z rfl fun a Z => ?_
  rcases Bool.eq_false_or_eq_true (wh) with hb2 | hb2
  ·rw [hb2] at Z
   try simp only [qz] at hb2
   refine wln Z fun a Z => wln Z fun a Z => wln Z fun a Z => wlv Z (az rfl rfl) fun a Z => ab (hK5 _ _ ?_)
   replace Z := Z.p9 0 1 2 3 4 10 11 12 35 rfl
   refine aI Z rfl ?_
   refine aa fun K6 hK6 => wlm Z rfl fun a Z => wlm Z rfl fun a Z => wla Z rfl fun a Z => wla Z rfl fun a Z => wla Z rfl fun a Z => ab (hK6 _ _ <| ap ?_)
   refine al Z results30 (ac rfl (ac rfl (ac rfl ag))) ?_
   have hW := dE (old := old) (m := m) (n := n) (p := ls) (w := wh) om (by first | exact .inl (by assumption) | exact .inr om)
   replace Y : St No w0 [own (.slice none 0 0) 9 1 (([] : List By).map fun s => [sv s])] w0 := Y.nil_own
   refine ⟨.slice none 0 0, by rw [hW]; rfl, trivial, Y.ext, St.out (E := [own (.slice none 0 0) 9 1 (((sdH sha old m n ls wh).1).map fun s => [sv s])]) (H := []) ?_⟩
   rw [show (((sdH sha old m n ls wh).1).map fun s => [sv s]) = (([] : List By).map fun s => [sv s]) from by first | (rw [hW]; done) | (rw [hW]; simp)]
   exact Y.select [0] de
  rw [hb2] at Z
  try simp only [qz] at hb2
  refine wly Z (ah rfl) fun a Z => wly Z ((aE (sT := 26) (Y.arg hlv) rfl rfl (runUnderlying26 _)).asi (m' := (ls.length : Int)) sm) fun a Z => wly Z (v_eq rfl rfl) fun a Z => wlv Z (ay rfl rfl) fun a Z => ab (hK5 _ _ ?_)
  replace Z := Z.p9 0 1 2 3 4 10 11 12 35 rfl
  refine ax Z rfl (fun hc3 => ?_) (fun hc3 => ?_)
  ·rw [hc3] at Z
   try simp only [qz] at hc3
   refine aa fun K7 hK7 => wlm Z rfl fun a Z => wlm Z rfl fun a Z => wla Z rfl fun a Z => wla Z rfl fun a Z => wla Z rfl fun a Z => ab (hK7 _ _ <| ap ?_)
   refine al Z results30 (ac rfl (ac rfl (ac rfl ag))) ?_
   have hW := dE (old := old) (m := m) (n := n) (p := ls) (w := wh) om (by first | exact .inl (by assumption) | exact .inr om)
   replace Y : St No w0 [own (.slice none 0 0) 9 1 (([] : List By).map fun s => [sv s])] w0 := Y.nil_own
   refine ⟨.slice none 0 0, by rw [hW]; rfl, trivial, Y.ext, St.out (E := [own (.slice none 0 0) 9 1 (((sdH sha old m n ls wh).1).map fun s => [sv s])]) (H := []) ?_⟩
   rw [show (((sdH sha old m n ls wh).1).map fun s => [sv s]) = (([] : List By).map fun s => [sv s]) from by first | (rw [hW]; done) | (rw [hW]; simp)]
   exact Y.select [0] de
  rw [hc3] at Z
  try simp only [qz] at hc3
  refine ar <| hK4 _ _ <| ae fun K8 hK8 => aF kr (aG kr fun w1 hxz => ?_)
  replace Y := Y.grow hxz
  refine aT (k := 0) 8 [5, 7] Z kr kr kr rfx ?_
  replace Z := Z.p7 0 1 2 3 4 12 35 rfl
  refine aA [] (fun i => match i with | _ => fun _ _ => False) 8 [[], [0], [1], [], [3], [4], [], [2]] [lv, slAddr lv (0 * 1), sv (ls.getD 0 []), lv, slAddr lv (0 * 1), sv (ls.getD 0 []), .slice none 0 0, sv (ls.getD 0 [])] Z Y kr kr kr ?_ ?_ ?_
  ·intro i hi hiq
   match i, hi, hiq with
   | 0, _, _ => exact fun w Y => OpV.g (ah rfl)
   | 1, _, _ => exact fun w Y => OpV.g ((aj (i := 0) (sT := 26) (Y.arg hlv) rfl rfl (runUnderlying26 _) (sizeOf9 _) om (by rw [List.length_map]; omega)).as (v' := slAddr lv (0 * 1)) rfl)
   | 2, _, _ => exact fun w Y => OpV.g (au (u := sv (ls.getD 0 [])) (i := 0) (j := 0) (Y.arg hlv) (by rw [List.length_map]; omega) rfl (isAgg9 _) (by simp [List.getD_eq_getElem?_getD, List.getElem?_eq_getElem (show 0 < ls.length by omega)]))
   | 3, _, _ => exact fun w Y => OpV.g (ah rfl)
   | 4, _, _ => exact fun w Y => OpV.g ((aj (i := 0) (sT := 26) (Y.arg hlv) rfl rfl (runUnderlying26 _) (sizeOf9 _) om (by rw [List.length_map]; omega)).as (v' := slAddr lv (0 * 1)) rfl)
   | 5, _, _ => exact fun w Y => OpV.g (au (u := sv (ls.getD 0 [])) (i := 0) (j := 0) (Y.arg hlv) (by rw [List.length_map]; omega) rfl (isAgg9 _) (by simp [List.getD_eq_getElem?_getD, List.getElem?_eq_getElem (show 0 < ls.length by omega)]))
   | 6, _, _ => exact fun w Y => OpV.g (cw rfl)
   | 7, _, _ => exact fun w Y => OpV.g (cw rfl)
  ·intro i hi
   exact absurd hi sm
  clear Z Y
  intro  a w2 Z Y
  replace Z : Fr 111 [(38, lv), (39, slAddr lv (0 * 1)), (40, sv (ls.getD 0 [])), (41, lv), (42, slAddr lv (0 * 1)), (43, sv (ls.getD 0 [])), (10, .slice none 0 0), (11, sv (ls.getD 0 [])), (0, _), (1, _), (2, _), (3, _), (4, _), (12, _), (35, _)] [] a := Z
  refine ab <| aP (k := 8) 9 [8] kr kr kr ?_
  refine wla Z rfl fun a Z => ab <| aS kr ?_
  refine hK8 _ _ ?_
  replace Z := Z.p8 0 1 2 3 4 10 11 12 rfl
  refine ap ?_
  refine al Z results30 (ac rfl (ac rfl (ac rfl ag))) ?_
  have hW := gB (old := old) (m := m) (n := n) (p := ls) (w := wh) om (by assumption) om
  replace Y : St No w0 [own (.slice none 0 0) 9 1 (([] : List By).map fun s => [sv s])] w2 := Y.nil_own
  refine ⟨.slice none 0 0, by rw [hW]; rfl, trivial, Y.ext, St.out (E := [own (.slice none 0 0) 9 1 (((sdH sha old m n ls wh).1).map fun s => [sv s])]) (H := []) ?_⟩
  rw [show (((sdH sha old m n ls wh).1).map fun s => [sv s]) = (([] : List By).map fun s => [sv s]) from by first | (rw [hW]; done) | (rw [hW]; simp)]
  exact Y.select [0] de
 rw [hb1] at Z
 try simp only [qz] at hb1
 refine wly Z (ah rfl) fun a Z => wly Z ((aE (sT := 26) (Y.arg hlv) rfl rfl (runUnderlying26 _)).asi (m' := (ls.length : Int)) sm) fun a Z => wly Z (v_eq rfl rfl) fun a Z => wlv Z (ay rfl rfl) fun a Z => ab (hK3 _ _ ?_)
 replace Z := Z.p9 0 1 2 3 4 10 11 12 29 rfl
 refine ax Z rfl (fun hc4 => ?_) (fun hc4 => ?_)
 ·rw [hc4] at Z
  try simp only [qz] at hc4
  refine ae fun K9 hK9 => aa fun K10 hK10 => wlm Z rfl fun a Z => wlm Z rfl fun a Z => ?_
  rcases Bool.eq_false_or_eq_true (wh) with hb5 | hb5
  ·rw [hb5] at Z
   try simp only [qz] at hb5
   refine wln Z fun a Z => wln Z fun a Z => wln Z fun a Z => wlv Z (az rfl rfl) fun a Z => ab (hK10 _ _ ?_)
   replace Z := Z.p9 0 1 2 3 4 10 11 12 35 rfl
   refine aI Z rfl ?_
   refine aa fun K11 hK11 => wlm Z rfl fun a Z => wlm Z rfl fun a Z => wla Z rfl fun a Z => wla Z rfl fun a Z => wla Z rfl fun a Z => ab (hK11 _ _ <| ap ?_)
   refine al Z results30 (ac rfl (ac rfl (ac rfl ag))) ?_
   have hW := dE (old := old) (m := m) (n := n) (p := ls) (w := wh) om (by first | exact .inl (by assumption) | exact .inr om)
   replace Y : St No w0 [own (.slice none 0 0) 9 1 (([] : List By).map fun s => [sv s])] w0 := Y.nil_own
   refine ⟨.slice none 0 0, by rw [hW]; rfl, trivial, Y.ext, St.out (E := [own (.slice none 0 0) 9 1 (((sdH sha old m n ls wh).1).map fun s => [sv s])]) (H := []) ?_⟩
   rw [show (((sdH sha old m n ls wh).1).map fun s => [sv s]) = (([] : List By).map fun s => [sv s]) from by first | (rw [hW]; done) | (rw [hW]; simp)]
   exact Y.select [0] de
  rw [hb5] at Z
  try simp only [qz] at hb5
  refine wly Z (ah rfl) fun a Z => wly Z ((aE (sT := 26) (Y.arg hlv) rfl rfl (runUnderlying26 _)).asi (m' := (ls.length : Int)) sm) fun a Z => wly Z (v_eq rfl rfl) fun a Z => wlv Z (ay rfl rfl) fun a Z => ab (hK10 _ _ ?_)
  replace Z := Z.p9 0 1 2 3 4 10 11 12 35 rfl
  refine ax Z rfl (fun hc6 => ?_) (fun hc6 => ?_)
  ·rw [hc6] at Z
   try simp only [qz] at hc6
   refine aa fun K12 hK12 => wlm Z rfl fun a Z => wlm Z rfl fun a Z => wla Z rfl fun a Z => wla Z rfl fun a Z => wla Z rfl fun a Z => ab (hK12 _ _ <| ap ?_)
   refine al Z results30 (ac rfl (ac rfl (ac rfl ag))) ?_
   have hW := dE (old := old) (m := m) (n := n) (p := ls) (w := wh) om (by first | exact .inl (by assumption) | exact .inr om)
   replace Y : St No w0 [own (.slice none 0 0) 9 1 (([] : List By).map fun s => [sv s])] w0 := Y.nil_own
   refine ⟨.slice none 0 0, by rw [hW]; rfl, trivial, Y.ext, St.out (E := [own (.slice none 0 0) 9 1 (((sdH sha old m n ls wh).1).map fun s => [sv s])]) (H := []) ?_⟩
   rw [show (((sdH sha old m n ls wh).1).map fun s => [sv s]) = (([] : List By).map fun s => [sv s]) from by first | (rw [hW]; done) | (rw [hW]; simp)]
   exact Y.select [0] de
  rw [hc6] at Z
  try simp only [qz] at hc6
  have hlt : 1 ≤ m → lft n < n := fun _ => bG (n := n) om
  have hlp := bB n
  have hx32 := hls _ (aW (d := []) (show ls.length - 1 < ls.length by omega))
  refine ar <| hK9 _ _ <| ae fun K13 hK13 => aF kr (aG kr fun w3 hxz => ?_)
  replace Y := Y.grow hxz
  refine aT (k := 0) 8 [5, 7] Z kr kr kr rfx ?_
  replace Z := Z.p7 0 1 2 3 4 12 35 rfl
  refine aA [] (fun i => match i with | _ => fun _ _ => False) 8 [[], [0], [1], [], [3], [4], [], [2]] [lv, slAddr lv (0 * 1), sv (ls.getD 0 []), lv, slAddr lv (0 * 1), sv (ls.getD 0 []), .slice none 0 0, sv (ls.getD 0 [])] Z Y kr kr kr ?_ ?_ ?_
  ·intro i hi hiq
   match i, hi, hiq with
   | 0, _, _ => exact fun w Y => OpV.g (ah rfl)
   | 1, _, _ => exact fun w Y => OpV.g ((aj (i := 0) (sT := 26) (Y.arg hlv) rfl rfl (runUnderlying26 _) (sizeOf9 _) om (by rw [List.length_map]; omega)).as (v' := slAddr lv (0 * 1)) rfl)
   | 2, _, _ => exact fun w Y => OpV.g (au (u := sv (ls.getD 0 [])) (i := 0) (j := 0) (Y.arg hlv) (by rw [List.length_map]; omega) rfl (isAgg9 _) (by simp [List.getD_eq_getElem?_getD, List.getElem?_eq_getElem (show 0 < ls.length by omega)]))
   | 3, _, _ => exact fun w Y => OpV.g (ah rfl)
   | 4, _, _ => exact fun w Y => OpV.g ((aj (i := 0) (sT := 26) (Y.arg hlv) rfl rfl (runUnderlying26 _) (sizeOf9 _) om (by rw [List.length_map]; omega)).as (v' := slAddr lv (0 * 1)) rfl)
   | 5, _, _ => exact fun w Y => OpV.g (au (u := sv (ls.getD 0 [])) (i := 0) (j := 0) (Y.arg hlv) (by rw [List.length_map]; omega) rfl (isAgg9 _) (by simp [List.getD_eq_getElem?_getD, List.getElem?_eq_getElem (show 0 < ls.length by omega)]))
   | 6, _, _ => exact fun w Y => OpV.g (cw rfl)
   | 7, _, _ => exact fun w Y => OpV.g (cw rfl)
  ·intro i hi
   exact absurd hi sm
  clear Z Y
  intro  a w4 Z Y
  replace Z : Fr 111 [(38, lv), (39, slAddr lv (0 * 1)), (40, sv (ls.getD 0 [])), (41, lv), (42, slAddr lv (0 * 1)), (43, sv (ls.getD 0 [])), (10, .slice none 0 0), (11, sv (ls.getD 0 [])), (0, _), (1, _), (2, _), (3, _), (4, _), (12, _), (35, _)] [] a := Z
  refine ab <| aP (k := 8) 9 [8] kr kr kr ?_
  refine wla Z rfl fun a Z => ab <| aS kr ?_
  refine hK13 _ _ ?_
  replace Z := Z.p8 0 1 2 3 4 10 11 12 rfl
  refine ap ?_
  refine al Z results30 (ac rfl (ac rfl (ac rfl ag))) ?_
  have hW := gB (old := old) (m := m) (n := n) (p := ls) (w := wh) om (by assumption) om
  replace Y : St No w0 [own (.slice none 0 0) 9 1 (([] : List By).map fun s => [sv s])] w4 := Y.nil_own
  refine ⟨.slice none 0 0, by rw [hW]; rfl, trivial, Y.ext, St.out (E := [own (.slice none 0 0) 9 1 (((sdH sha old m n ls wh).1).map fun s => [sv s])]) (H := []) ?_⟩
  rw [show (((sdH sha old m n ls wh).1).map fun s => [sv s]) = (([] : List By).map fun s => [sv s]) from by first | (rw [hW]; done) | (rw [hW]; simp)]
  exact Y.select [0] de
 rw [hc4] at Z
 try simp only [qz] at hc4
 have hlt : 1 ≤ m → lft n < n := fun _ => bG (n := n) om
 have hlp := bB n
 have hx32 := hls _ (aW (d := []) (show ls.length - 1 < ls.length by omega))
 refine ar <| hK2 _ _ <| aa fun K14 hK14 => wlm Z rfl fun a Z => wlm Z rfl fun a Z => wlv Z ((aE (sT := 26) (Y.arg hlv) rfl rfl (runUnderlying26 _)).asi (m' := (ls.length : Int)) sm) fun a Z => wlv Z (bh rfl rfl ⟨om, om⟩) fun a Z => wlv Z ((aj (i := (ls.length : Int) - 1) (sT := 26) (Y.arg hlv) rfl rfl (runUnderlying26 _) (sizeOf9 _) om (by rw [List.length_map]; omega)).as (v' := slAddr lv ((ls.length - 1) * 1)) (by rw [show ((ls.length : Int) - 1).toNat = (ls.length - 1) from by omega])) fun a Z => ?_
 refine wlv Z (au (u := sv (ls.getD (ls.length - 1) [])) (i := (ls.length - 1)) (j := 0) (Y.arg hlv) (by rw [List.length_map]; omega) rfl (isAgg9 _) (by simp [List.getD_eq_getElem?_getD, List.getElem?_eq_getElem (show (ls.length - 1) < ls.length by omega)])) fun a Z => wla Z rfl fun a Z => ?_
 refine ab (hK14 _ _ ?_)
 replace Z := Z.p9 0 1 2 3 4 10 11 12 13 rfl
 refine aa fun K15 hK15 => wlm Z rfl fun a Z => wlm Z rfl fun a Z => wlv Z ((aE (sT := 26) (Y.arg hlv) rfl rfl (runUnderlying26 _)).asi (m' := (ls.length : Int)) sm) fun a Z => wlv Z (bh rfl rfl ⟨om, om⟩) fun a Z => wlv Z (bd (l := 0) (h := (ls.length - 1)) (Y.arg hlv) rfl rfl rfl underlying26 kr (.inl ⟨rfl, rfl⟩) (.inr (by rw [show ((ls.length : Int) - 1 : Int) = (((ls.length - 1) : Nat) : Int) from by omega] <;> rfl)) (Nat.zero_le _) (by first | (rw [List.length_map]; omega) | (simp <;> omega))) fun a Z => wla Z rfl fun a Z => ab (hK15 _ _ ?_)
 replace Z := Z.p9 0 1 2 4 10 11 12 13 14 rfl
 refine aa fun K16 hK16 => wlm Z rfl fun a Z => am Z Y de call61 rfl (eZ n _ om om) ?_
 clear Z Y
 intro a w5 Z Y
 refine wla Z rfl fun a Z => ab (hK16 _ _ <| ae fun K17 hK17 => ?_)
 refine aa fun K18 hK18 => wlm Z rfl fun a Z => wlm Z rfl fun a Z => wlv Z (v_le rfl rfl) fun a Z => ab (hK18 _ _ ?_)
 refine ax Z rfl (fun hc7 => ?_) (fun hc7 => ?_)
 ·rw [hc7] at Z
  try simp only [qz] at hc7
  refine aa fun K19 hK19 => wlm Z rfl fun a Z => wlm Z rfl fun a Z => wlm Z rfl fun a Z => wlm Z rfl fun a Z => wlm Z rfl fun a Z => aK Z Y de call30 rfl (ih (ls.take (ls.length - 1)).length (by rw [List.length_take]; omega) m (lft n) (cut lv 1 0 (ls.length - 1) (slCap lv)) (ls.take (ls.length - 1)) wh _ rfl ((Y.arg hlv).cut0 (h := (ls.length - 1)) (by first | omega | (rw [List.length_reverse]; omega) | simp | (simp; omega))) om (by rw [List.length_take]; omega) (fun x h => hls x (List.mem_of_mem_take h))) ?_
  clear Z Y
  intro a w6 x9 hp Z Y
  revert x9 hp Z Y; rintro v8 hp Z Y
  clear hp
  replace Y : St No w0 [_] w6 := Y
  obtain ⟨hrc, hr32, hs32, -⟩ := cO hold (ls.take (ls.length - 1)) m (lft n) wh (fun x h => hls x (List.mem_of_mem_take h))
  rw [List.length_take] at hrc
  refine wlm Z rfl fun a Z => wlv Z (ai rfl rfl) fun a Z => wlv Z (ai rfl rfl) fun a Z => wlv Z (ai rfl rfl) fun a Z => wla Z rfl fun a Z => wla Z rfl fun a Z => wla Z rfl fun a Z => ab (hK19 _ _ ?_)
  replace Z := Z.p12 0 1 2 10 11 12 13 14 15 16 17 18 rfl
  refine aa fun K20 hK20 => wlm Z rfl fun a Z => wlm Z rfl fun a Z => wlv Z (bS rfl rfl (by (simp only [List.length_append, List.length_cons, List.length_nil]); omega)) fun a Z => wlm Z rfl fun a Z => wlv Z (bS rfl rfl (by (simp only [List.length_append, List.length_cons, List.length_nil]); omega)) fun a Z => aC (E := 9) (sz := 1) rfl [[sv ((([1]) ++ ((sdH sha old m (lft n) (ls.take (ls.length - 1)) wh).2.2)) ++ (ls.getD (ls.length - 1) []))]] kr sm rfl de de Z Y ?_
  clear Z Y
  intro a w7 Z Y
  refine aN (i := 1) (sT := 26) (inf := Tryz.t9) (z := .string (⟨#[]⟩)) (b := 0) (off := 0) (m := 0) (c := 0) rfl rfl rfl (Y.ow 0 rfl) sm underlying26 rfl rfl rfl rfl de (by simp [Value.oneCell', yv, wv, sv]) (by have hby : Tryz.t9.bytes = 16 := rfl; simp only [big, hby, List.length_append, List.length_map, List.length_reverse, List.length_cons, List.length_nil]; omega) (by have hby : Tryz.t9.bytes = 16 := rfl; simp only [big, hby, List.length_append, List.length_map, List.length_reverse, List.length_cons, List.length_nil]; omega) de Z Y fun a w8 s10 Z Y _ => wlm Z rfl fun a Z => wlm Z rfl fun a Z => wlm Z rfl fun a Z => am Z Y de call62 rfl (fa ((sdH sha old m (lft n) (ls.take (ls.length - 1)) wh).2.2) (ls.getD (ls.length - 1) []) _ (by first | omega | (rw [bc aZ]; decide)) (by first | omega | (rw [bc aZ]; decide))) ?_
  clear Z Y
  intro a w9 Z Y
  refine wla Z rfl fun a Z => wla Z rfl fun a Z => wla Z rfl fun a Z => ab (hK20 _ _ ?_)
  replace Z := Z.p9 0 1 2 13 14 15 10 11 12 rfl
  replace Y := Y.k1 2 rfl
  refine ap ?_
  refine al Z results30 (ac rfl (ac rfl (ac rfl ag))) ?_
  have hW := lG (S := sha) (old := old) (m := m) (n := n) (p := ls) (w := wh) om om om
  refine ⟨s10, by rw [hW]; rfl, trivial, Y.ext, St.out (E := [own s10 9 1 (((sdH sha old m n ls wh).1).map fun s => [sv s])]) (H := []) ?_⟩
  rw [show (((sdH sha old m n ls wh).1).map fun s => [sv s]) = (((sdH sha old m (lft n) (ls.take (ls.length - 1)) wh).1).map fun s => [sv s]) ++ ([[sv ((([1]) ++ ((sdH sha old m (lft n) (ls.take (ls.length - 1)) wh).2.2)) ++ (ls.getD (ls.length - 1) []))]]) from by first | (rw [hW]; done) | (rw [hW]; simp)]
  exact Y.select [0] de
 rw [hc7] at Z
 try simp only [qz] at hc7
 refine ar <| hK17 _ _ <| aa fun K21 hK21 => wlm Z rfl fun a Z => wlm Z rfl fun a Z => wlm Z rfl fun a Z => wlv Z ((bh rfl rfl ⟨om, om⟩).asi (m' := ((m - lft n : Nat) : Int)) om) fun a Z => wlm Z rfl fun a Z => wlm Z rfl fun a Z => wlv Z ((bh rfl rfl ⟨om, om⟩).asi (m' := ((n - lft n : Nat) : Int)) om) fun a Z => wlm Z rfl fun a Z => aK Z Y de call30 rfl (ih (ls.take (ls.length - 1)).length (by rw [List.length_take]; omega) (m - lft n) (n - lft n) (cut lv 1 0 (ls.length - 1) (slCap lv)) (ls.take (ls.length - 1)) false _ rfl ((Y.arg hlv).cut0 (h := (ls.length - 1)) (by first | omega | (rw [List.length_reverse]; omega) | simp | (simp; omega))) om (by rw [List.length_take]; omega) (fun x h => hls x (List.mem_of_mem_take h))) ?_
 clear Z Y
 intro a w10 x12 hp Z Y
 revert x12 hp Z Y; rintro v11 hp Z Y
 clear hp
 replace Y : St No w0 [_] w10 := Y
 obtain ⟨hrc, hr32, hs32, -⟩ := cO hold (ls.take (ls.length - 1)) (m - lft n) (n - lft n) false (fun x h => hls x (List.mem_of_mem_take h))
 rw [List.length_take] at hrc
 refine wlm Z rfl fun a Z => wlv Z (ai rfl rfl) fun a Z => wlv Z (ai rfl rfl) fun a Z => wlv Z (ai rfl rfl) fun a Z => wla Z rfl fun a Z => wla Z rfl fun a Z => wla Z rfl fun a Z => ab (hK21 _ _ ?_)
 replace Z := Z.p7 10 11 12 13 19 20 21 rfl
 refine aa fun K22 hK22 => wlm Z rfl fun a Z => wlm Z rfl fun a Z => wlv Z (bS rfl rfl (by (simp only [List.length_append, List.length_cons, List.length_nil]); omega)) fun a Z => wlm Z rfl fun a Z => wlv Z (bS rfl rfl (by (simp only [List.length_append, List.length_cons, List.length_nil]); omega)) fun a Z => wlm Z rfl fun a Z => wlv Z (bS rfl rfl (by (simp only [List.length_append, List.length_cons, List.length_nil]); omega)) fun a Z => wlm Z rfl fun a Z => wlv Z (bS rfl rfl (by (simp only [List.length_append, List.length_cons, List.length_nil]); omega)) fun a Z => aC (E := 9) (sz := 1) rfl [[sv ((([1]) ++ (ls.getD (ls.length - 1) [])) ++ ((sdH sha old (m - lft n) (n - lft n) (ls.take (ls.length - 1)) false).2.1))], [sv ((([1]) ++ (ls.getD (ls.length - 1) [])) ++ ((sdH sha old (m - lft n) (n - lft n) (ls.take (ls.length - 1)) false).2.2))]] kr sm rfl de de Z Y ?_
 clear Z Y
 intro a w11 Z Y
 refine aN (i := 1) (sT := 26) (inf := Tryz.t9) (z := .string (⟨#[]⟩)) (b := 0) (off := 0) (m := 0) (c := 0) rfl rfl rfl (Y.ow 0 rfl) sm underlying26 rfl rfl rfl rfl de (by simp [Value.oneCell', yv, wv, sv]) (by have hby : Tryz.t9.bytes = 16 := rfl; simp only [big, hby, List.length_append, List.length_map, List.length_reverse, List.length_cons, List.length_nil]; omega) (by have hby : Tryz.t9.bytes = 16 := rfl; simp only [big, hby, List.length_append, List.length_map, List.length_reverse, List.length_cons, List.length_nil]; omega) de Z Y fun a w12 s13 Z Y _ => wlm Z rfl fun a Z => wlm Z rfl fun a Z => am Z Y de call62 rfl (fa (ls.getD (ls.length - 1) []) ((sdH sha old (m - lft n) (n - lft n) (ls.take (ls.length - 1)) false).2.1) _ (by first | omega | (rw [bc aZ]; decide)) (by first | omega | (rw [bc aZ]; decide))) ?_
 clear Z Y
 intro a w13 Z Y
 refine wlm Z rfl fun a Z => wlm Z rfl fun a Z => am Z Y de call62 rfl (fa (ls.getD (ls.length - 1) []) ((sdH sha old (m - lft n) (n - lft n) (ls.take (ls.length - 1)) false).2.2) _ (by first | omega | (rw [bc aZ]; decide)) (by first | omega | (rw [bc aZ]; decide))) ?_
 clear Z Y
 intro a w14 Z Y
 refine wla Z rfl fun a Z => wla Z rfl fun a Z => wla Z rfl fun a Z => ab (hK22 _ _ ?_)
 replace Z := Z.p3 10 11 12 rfl
 replace Y := Y.k1 2 rfl
 refine ap ?_
 refine al Z results30 (ac rfl (ac rfl (ac rfl ag))) ?_
 have hW := kc (S := sha) (old := old) (m := m) (n := n) (p := ls) (w := wh) om om om
 refine ⟨s13, by rw [hW]; rfl, trivial, Y.ext, St.out (E := [own s13 9 1 (((sdH sha old m n ls wh).1).map fun s => [sv s])]) (H := []) ?_⟩
 rw [show (((sdH sha old m n ls wh).1).map fun s => [sv s]) = (((sdH sha old (m - lft n) (n - lft n) (ls.take (ls.length - 1)) false).1).map fun s => [sv s]) ++ ([[sv ((([1]) ++ (ls.getD (ls.length - 1) [])) ++ ((sdH sha old (m - lft n) (n - lft n) (ls.take (ls.length - 1)) false).2.1))], [sv ((([1]) ++ (ls.getD (ls.length - 1) [])) ++ ((sdH sha old (m - lft n) (n - lft n) (ls.take (ls.length - 1)) false).2.2))]]) from by first | (rw [hW]; done) | (rw [hW]; simp)]
 exact Y.select [0] de
def colxB (s t : By) : Bool := !decide (s = t) && decide (sha s = sha t)
def colxH (xs ys : List By) : Bool := xs.any fun s => ys.any fun t => colxB s t
theorem mg {xs ys : List By} {i j : Nat} (hi : i < xs.length) (hj : j < ys.length) (h : colxB (xs.getD i []) (ys.getD j []) = true) : colxH xs ys = true :=
 List.any_eq_true.2 ⟨_, aW hi, List.any_eq_true.2 ⟨_, aW hj, h⟩⟩
theorem kv {xs ys : List By} (h : ∀ i, i < xs.length → ∀ j, j < ys.length → colxB (xs.getD i []) (ys.getD j []) = false) : colxH xs ys = false := by
 rw [Bool.eq_false_iff]
 intro hc
 obtain ⟨s, hs, h2⟩ := List.any_eq_true.1 hc
 obtain ⟨t, ht, h3⟩ := List.any_eq_true.1 h2
 obtain ⟨i, hi, rfl⟩ := List.getElem_of_mem hs
 obtain ⟨j, hj, rfl⟩ := List.getElem_of_mem ht
 have := h i hi j hj
 rw [List.getD_eq_getElem?_getD, List.getD_eq_getElem?_getD, List.getElem?_eq_getElem hi, List.getElem?_eq_getElem hj] at this
 simp only [Option.getD_some] at this
 rw [this] at h3; cases h3
theorem pM {ys : List By} {j : Nat} (h : j < ys.length) : (ys.map sha).getD j [] = sha (ys.getD j []) := by
 rw [List.getD_eq_getElem?_getD, List.getElem?_map, List.getElem?_eq_getElem h, List.getD_eq_getElem?_getD, List.getElem?_eq_getElem h]; rfl
theorem kg (av bv : Value) (xs ys : List By) (w0 : World) (hav : SlAt w0 av 1 ((xs).map fun s => [sv s])) (hbv : SlAt w0 bv 1 ((ys).map fun s => [sv s])) (hxs : ∀ s ∈ xs, s.length ≤ 100000000) (hys : ∀ s ∈ ys, s.length ≤ 100000000) (hyn : ys.length ≤ 1000) :
  Ret Tryz.prog 63 #[av, bv] w0 fun v w => v = .bool (colxH xs ys) ∧ Ext No w0 w := by
 have hxb := hav.2.1
 simp only [List.length_map, big] at hxb
 refine aD func63 rfl ntmps63 (lb rfl) fun a Z => ?_
 replace Z := Z.p2 0 1 rfl
 replace Y : St No w0 [] w0 := St.init w0
 refine aa fun K1 hK1 => wla Z rfl fun a Z => ab (hK1 _ _ <| aa fun K2 hK2 => ?_)
 refine wla Z rfl fun a Z => ab (hK2 _ _ <| ae fun K3 hK3 => ?_)
 refine aa fun K4 hK4 => wla Z rfl fun a Z => ab (hK4 _ _ <| aq ?_)
 replace Y : St No w0 [own (.slice none 0 0) 9 1 (((ys.take 0).map sha).map fun s => [sv s])] w0 := Y.nil_own
 refine aR (fun m a w => ∃ (k : Nat) (vs : Value), m = ys.length - k ∧ (k ≤ ys.length) ∧ Fr 58 [(0, av), (1, bv), (4, .bool false), (5, vs), (6, iv (k : Int))] [] a ∧ St No w0 [own vs 9 1 (((ys.take k).map sha).map fun s => [sv s])] w) _ ⟨0, .slice none 0 0, rfl, Nat.zero_le _, Z.pick [0, 1, 4, 5, 6], Y.select [0] de⟩ ?_
 rintro _ a w1 ⟨k, vs, rfl, hk, Z, Y⟩
 refine ae fun K5 hK5 => aa fun K6 hK6 => wlm Z rfl fun a Z => wlm Z rfl fun a Z => wlv Z ((aE (sT := 26) (Y.arg hbv) rfl rfl (runUnderlying26 _)).asi (m' := (ys.length : Int)) (by rw [List.length_map])) fun a Z => wlv Z (v_lt rfl rfl) fun a Z => ab (hK6 _ _ ?_)
 refine ax Z rfl (fun hc1 => ?_) (fun hc1 => ?_)
 ·rw [hc1] at Z
  try simp only [qz, Bool.and_eq_true, Bool.or_eq_true, Bool.and_eq_false_iff, Bool.or_eq_false_iff] at hc1
  refine ar <| hK5 _ _ <| ae fun K7 hK7 => aq <| ao <| wlm Z rfl fun a Z => wlm Z rfl fun a Z => wlm Z rfl fun a Z => wlv Z ((aj (i := (k : Int)) (sT := 26) (Y.arg hbv) rfl rfl (runUnderlying26 _) (sizeOf9 _) om (by first | (rw [List.length_map]; omega) | (rw [List.length_map, List.length_map]; omega))).as (v' := slAddr bv (k * 1)) rfl) fun a Z => wlv Z (au (u := sv (ys.getD k [])) (i := k) (j := 0) (Y.arg hbv) (by first | (rw [List.length_map]; omega) | (rw [List.length_map, List.length_map]; omega)) rfl (isAgg9 _) (by rw [br []]; rfl)) fun a Z => am Z Y de call45 rfl (dS (ys.getD k []) _ (by first | exact hxs _ (aW om) | exact hys _ (aW om))) ?_
  clear Z Y
  intro a w2 Z Y
  refine aC (E := 9) (sz := 1) rfl [[sv (sha (ys.getD k []))]] kr sm rfl de de Z Y ?_
  clear Z Y
  intro a w3 Z Y
  refine aN (i := 1) (sT := 26) (inf := Tryz.t9) (z := .string (⟨#[]⟩)) (b := 0) (off := 0) (m := 0) (c := 0) rfl rfl rfl (Y.ow 0 rfl) sm underlying26 rfl rfl rfl rfl de (by simp [Value.oneCell', yv, wv, sv]) (by have hby : Tryz.t9.bytes = 16 := rfl; simp [big, hby] <;> omega) (by have hby : Tryz.t9.bytes = 16 := rfl; simp [big, hby] <;> omega) de Z Y fun a w4 s2 Z Y _ => ?_
  rw [show (((ys.take k).map sha).map fun s => [sv s]) ++ ([[sv (sha (ys.getD k []))]]) = (((ys.take (k + 1)).map sha).map fun s => [sv s]) from by rw [bO [] om]; simp] at Y
  refine wla Z rfl fun a Z => ab <| hK7 _ _ ?_
  replace Z := Z.p5 0 1 4 6 5 rfl
  replace Y := Y.k1 2 rfl
  refine ao <| wlm Z rfl fun a Z => wlv Z (aV rfl rfl ⟨om, om⟩) fun a Z => wla Z rfl fun a Z => ab ?_
  refine ⟨_, ?_, k + 1, s2, rfl, om, Z.pick [0, 1, 4, 5, 6], Y.select [0] de⟩
  omega
 rw [hc1] at Z
 try simp only [qz, Bool.and_eq_true, Bool.or_eq_true, Bool.and_eq_false_iff, Bool.or_eq_false_iff] at hc1
 obtain rfl : k = ys.length := by omega
 rw [List.take_length] at Y
 refine aJ <| hK3 _ _ <| ae fun K8 hK8 => aa fun K9 hK9 => wla Z rfl fun a Z => ab (hK9 _ _ <| aq ?_)
 refine aR (fun m a w => ∃ (x : Nat), m = xs.length - x ∧ (x ≤ xs.length) ∧ (∀ i, i < x → ∀ j, j < ys.length → colxB (xs.getD i []) (ys.getD j []) = false) ∧ Fr 58 [(0, av), (1, bv), (5, vs), (7, iv (x : Int))] [] a ∧ St No w0 [own vs 9 1 ((ys.map sha).map fun s => [sv s])] w) _ ⟨0, rfl, Nat.zero_le _, (fun i h => absurd h (Nat.not_lt_zero _)), Z.pick [0, 1, 5, 7], Y.select [0] de⟩ ?_
 rintro _ a w5 ⟨x, rfl, hx, hno, Z, Y⟩
 refine ae fun K10 hK10 => aa fun K11 hK11 => wlm Z rfl fun a Z => wlm Z rfl fun a Z => wlv Z ((aE (sT := 26) (Y.arg hav) rfl rfl (runUnderlying26 _)).asi (m' := (xs.length : Int)) (by rw [List.length_map])) fun a Z => wlv Z (v_lt rfl rfl) fun a Z => ab (hK11 _ _ ?_)
 refine ax Z rfl (fun hc3 => ?_) (fun hc3 => ?_)
 ·rw [hc3] at Z
  try simp only [qz, Bool.and_eq_true, Bool.or_eq_true, Bool.and_eq_false_iff, Bool.or_eq_false_iff] at hc3
  have hxl : x < xs.length := by omega
  refine ar <| hK10 _ _ <| ae fun K12 hK12 => aq <| aa fun K13 hK13 => wlm Z rfl fun a Z => wlm Z rfl fun a Z => wlv Z ((aj (i := (x : Int)) (sT := 26) (Y.arg hav) rfl rfl (runUnderlying26 _) (sizeOf9 _) om (by first | (rw [List.length_map]; omega) | (rw [List.length_map, List.length_map]; omega))).as (v' := slAddr av (x * 1)) rfl) fun a Z => wlv Z (au (u := sv (xs.getD x [])) (i := x) (j := 0) (Y.arg hav) (by first | (rw [List.length_map]; omega) | (rw [List.length_map, List.length_map]; omega)) rfl (isAgg9 _) (by rw [br []]; rfl)) fun a Z => am Z Y de call45 rfl (dS (xs.getD x []) _ (by first | exact hxs _ (aW om) | exact hys _ (aW om))) ?_
  clear Z Y
  intro a w6 Z Y
  refine wla Z rfl fun a Z => ab (hK13 _ _ ?_)
  replace Z := Z.p5 0 1 5 7 8 rfl
  refine aa fun K14 hK14 => wla Z rfl fun a Z => ab (hK14 _ _ <| aq ?_)
  refine aR (fun m a w => ∃ (y : Nat), m = ys.length - y ∧ (y ≤ ys.length) ∧ (∀ j, j < y → colxB (xs.getD x []) (ys.getD j []) = false) ∧ Fr 58 [(0, av), (1, bv), (5, vs), (7, iv (x : Int)), (8, sv (sha (xs.getD x []))), (9, iv (y : Int))] [] a ∧ St No w0 [own vs 9 1 ((ys.map sha).map fun s => [sv s])] w) _ ⟨0, rfl, Nat.zero_le _, (fun i h => absurd h (Nat.not_lt_zero _)), Z.pick [0, 1, 5, 7, 8, 9], Y.select [0] de⟩ ?_
  rintro _ a w7 ⟨y, rfl, hy, hno2, Z, Y⟩
  refine ae fun K15 hK15 => aa fun K16 hK16 => wlm Z rfl fun a Z => wlm Z rfl fun a Z => wlv Z ((aE (sT := 26) (Y.arg hbv) rfl rfl (runUnderlying26 _)).asi (m' := (ys.length : Int)) (by rw [List.length_map])) fun a Z => wlv Z (v_lt rfl rfl) fun a Z => ab (hK16 _ _ ?_)
  refine ax Z rfl (fun hc4 => ?_) (fun hc4 => ?_)
  ·rw [hc4] at Z
   try simp only [qz, Bool.and_eq_true, Bool.or_eq_true, Bool.and_eq_false_iff, Bool.or_eq_false_iff] at hc4
   have hyl : y < ys.length := by omega
   refine ar <| hK15 _ _ <| ae fun K17 hK17 => aq <| ae fun K18 hK18 => aF kr (aG kr fun w8 hxz => ?_)
   replace Y := Y.grow hxz
   refine aT (k := 0) 8 [3, 7] Z kr kr kr rfx ?_
   replace Z := Z.p10 0 1 5 7 8 9 35 36 37 38 rfl
   refine aA [] (fun i => match i with | _ => fun _ _ => False) 8 [[], [], [0, 1], [2], [], [], [4, 5], [6]] [av, iv (x : Int), slAddr av (x * 1), sv (xs.getD x []), bv, iv (y : Int), slAddr bv (y * 1), sv (ys.getD y [])] Z Y kr kr kr ?_ ?_ ?_
   ·intro i hi hiq
    match i, hi, hiq with
    | 0, _, _ => exact fun w Y => OpV.g (ah rfl)
    | 1, _, _ => exact fun w Y => OpV.g (ah rfl)
    | 2, _, _ => exact fun w Y => OpV.g ((aj (i := (x : Int)) (sT := 26) (Y.arg hav) rfl rfl (runUnderlying26 _) (sizeOf9 _) om (by first | (rw [List.length_map]; omega) | (rw [List.length_map, List.length_map]; omega))).as (v' := slAddr av (x * 1)) rfl)
    | 3, _, _ => exact fun w Y => OpV.g (au (u := sv (xs.getD x [])) (i := x) (j := 0) (Y.arg hav) (by first | (rw [List.length_map]; omega) | (rw [List.length_map, List.length_map]; omega)) rfl (isAgg9 _) (by rw [br []]; rfl))
    | 4, _, _ => exact fun w Y => OpV.g (ah rfl)
    | 5, _, _ => exact fun w Y => OpV.g (ah rfl)
    | 6, _, _ => exact fun w Y => OpV.g ((aj (i := (y : Int)) (sT := 26) (Y.arg hbv) rfl rfl (runUnderlying26 _) (sizeOf9 _) om (by first | (rw [List.length_map]; omega) | (rw [List.length_map, List.length_map]; omega))).as (v' := slAddr bv (y * 1)) rfl)
    | 7, _, _ => exact fun w Y => OpV.g (au (u := sv (ys.getD y [])) (i := y) (j := 0) (Y.arg hbv) (by first | (rw [List.length_map]; omega) | (rw [List.length_map, List.length_map]; omega)) rfl (isAgg9 _) (by rw [br []]; rfl))
   ·intro i hi
    exact absurd hi sm
   clear Z Y
   intro  a w9 Z Y
   replace Z : Fr 58 [(41, av), (42, iv (x : Int)), (43, slAddr av (x * 1)), (44, sv (xs.getD x [])), (45, bv), (46, iv (y : Int)), (47, slAddr bv (y * 1)), (48, sv (ys.getD y [])), (0, _), (1, _), (5, _), (7, _), (8, _), (9, _), (35, _), (36, _), (37, _), (38, _)] [] a := Z
   refine ab <| aP (k := 8) 10 [9] kr kr kr ?_
   refine wlv Z (v_sne rfl rfl) fun a Z => wlm Z rfl fun a Z => ab ?_
   rcases Bool.eq_false_or_eq_true (!decide (xs.getD x [] = ys.getD y [])) with hb5 | hb5
   ·rw [hb5] at Z
    try simp only [qz] at hb5
    refine aT (k := 10) 15 [10, 14] Z kr kr kr rfx ?_
    replace Z : Fr 58 [(0, _), (1, _), (5, _), (7, _), (8, _), (9, _), (35, _), (36, _), (37, _), (38, _), (41, _), (42, _), (43, _), (44, _), (45, _), (46, _), (47, _), (48, _), (49, _), (50, _)] [] a := Z.pick [0, 1, 5, 7, 8, 9, 35, 36, 37, 38, 41, 42, 43, 44, 45, 46, 47, 48, 49, 50]
    refine aA [] (fun i => match i with | _ => fun _ _ => False) 5 [[], [], [], [1, 2], [3]] [sv (sha (xs.getD x [])), vs, iv (y : Int), slAddr vs (y * 1), sv (sha (ys.getD y []))] Z Y kr kr kr ?_ ?_ ?_
    ·intro i hi hiq
     match i, hi, hiq with
     | 0, _, _ => exact fun w Y => OpV.g (ah rfl)
     | 1, _, _ => exact fun w Y => OpV.g (ah rfl)
     | 2, _, _ => exact fun w Y => OpV.g (ah rfl)
     | 3, _, _ => exact fun w Y => OpV.g ((aj (i := (y : Int)) (sT := 26) (Y.ow 0 rfl) rfl rfl (runUnderlying26 _) (sizeOf9 _) om (by first | (rw [List.length_map]; omega) | (rw [List.length_map, List.length_map]; omega))).as (v' := slAddr vs (y * 1)) rfl)
     | 4, _, _ => exact fun w Y => OpV.g (au (u := sv (sha (ys.getD y []))) (i := y) (j := 0) (Y.ow 0 rfl) (by first | (rw [List.length_map]; omega) | (rw [List.length_map, List.length_map]; omega)) rfl (isAgg9 _) (by rw [br [], pM om]; rfl))
    ·intro i hi
     exact absurd hi sm
    clear Z Y
    intro  a w10 Z Y
    replace Z : Fr 58 [(51, sv (sha (xs.getD x []))), (52, vs), (53, iv (y : Int)), (54, slAddr vs (y * 1)), (55, sv (sha (ys.getD y []))), (0, _), (1, _), (5, _), (7, _), (8, _), (9, _), (35, _), (36, _), (37, _), (38, _), (41, _), (42, _), (43, _), (44, _), (45, _), (46, _), (47, _), (48, _), (49, _), (50, _)] [] a := Z
    refine ab <| aP (k := 15) 17 [16] kr kr kr ?_
    refine wly Z (dX rfl rfl) fun a Z => wlv Z (az rfl rfl) fun a Z => ab <| aS kr ?_
    refine hK18 _ _ ?_
    replace Z := Z.p7 0 1 5 7 8 9 57 rfl
    refine ax Z rfl (fun hc6 => ?_) (fun hc6 => ?_)
    ·rw [hc6] at Z
     try simp only [qz, Bool.and_eq_true, Bool.or_eq_true, Bool.and_eq_false_iff, Bool.or_eq_false_iff] at hc6
     refine aa fun K19 hK19 => wla Z rfl fun a Z => ab (hK19 _ _ <| ap ?_)
     refine al Z results63 (ac rfl ag) ?_
     exact ⟨by simp only [retv]; congr 1; exact (mg hxl hyl (by unfold colxB; simp [-List.getD_eq_getElem?_getD, hb5, hc6])).symm, Y.ext⟩
    rw [hc6] at Z
    try simp only [qz, Bool.and_eq_true, Bool.or_eq_true, Bool.and_eq_false_iff, Bool.or_eq_false_iff] at hc6
    refine ar <| hK17 _ _ <| ao <| wlm Z rfl fun a Z => wlv Z (aV rfl rfl ⟨om, om⟩) fun a Z => wla Z rfl fun a Z => ab ?_
    refine ⟨_, ?_, y + 1, rfl, om, (fun j h => by rcases Nat.lt_succ_iff_lt_or_eq.1 h with h | rfl; exact hno2 j h; unfold colxB; simp [-List.getD_eq_getElem?_getD, hc6]), Z.pick [0, 1, 5, 7, 8, 9], Y.select [0] de⟩
    omega
   rw [hb5] at Z
   try simp only [qz] at hb5
   replace Z : Fr 58 [(0, av), (1, bv), (5, vs), (7, iv (x : Int)), (8, sv (sha (xs.getD x []))), (9, iv (y : Int)), (35, iv (y : Int)), (36, bv), (37, iv (ys.length : Int)), (38, .bool true), (41, av), (42, iv (x : Int)), (43, slAddr av (x * 1)), (44, sv (xs.getD x [])), (45, bv), (46, iv (y : Int)), (47, slAddr bv (y * 1)), (48, sv (ys.getD y [])), (49, .bool false), (50, .bool false)] [] a := Z.pick [0, 1, 5, 7, 8, 9, 35, 36, 37, 38, 41, 42, 43, 44, 45, 46, 47, 48, 49, 50]
   refine fQ (k := 10) 15 [10, 14] Z kr kr kr rfx fun a Z => ?_
   replace Z : Fr 58 [(51, undef), (52, undef), (53, undef), (54, undef), (55, undef), (0, av), (1, bv), (5, vs), (7, iv (x : Int)), (8, sv (sha (xs.getD x []))), (9, iv (y : Int)), (35, iv (y : Int)), (36, bv), (37, iv (ys.length : Int)), (38, .bool true), (41, av), (42, iv (x : Int)), (43, slAddr av (x * 1)), (44, sv (xs.getD x [])), (45, bv), (46, iv (y : Int)), (47, slAddr bv (y * 1)), (48, sv (ys.getD y [])), (49, .bool false), (50, .bool false)] [] a := Z
   refine aP (k := 15) 17 [16] kr kr kr ?_
   refine wln Z fun a Z => wlv Z (ay rfl rfl) fun a Z => ab <| aS kr ?_
   refine hK18 _ _ ?_
   replace Z := Z.p7 0 1 5 7 8 9 57 rfl
   refine aL Z rfl ?_
   refine ar <| hK17 _ _ <| ao <| wlm Z rfl fun a Z => wlv Z (aV rfl rfl ⟨om, om⟩) fun a Z => wla Z rfl fun a Z => ab ?_
   refine ⟨_, ?_, y + 1, rfl, om, (fun j h => by rcases Nat.lt_succ_iff_lt_or_eq.1 h with h | rfl; exact hno2 j h; unfold colxB; simp [-List.getD_eq_getElem?_getD, hb5]), Z.pick [0, 1, 5, 7, 8, 9], Y.select [0] de⟩
   omega
  rw [hc4] at Z
  try simp only [qz, Bool.and_eq_true, Bool.or_eq_true, Bool.and_eq_false_iff, Bool.or_eq_false_iff] at hc4
  refine aJ <| hK12 _ _ <| ao <| wlm Z rfl fun a Z => wlv Z (aV rfl rfl ⟨om, om⟩) fun a Z => wla Z rfl fun a Z => ab ?_
  refine ⟨_, ?_, x + 1, rfl, om, (fun i h => by rcases Nat.lt_succ_iff_lt_or_eq.1 h with h | rfl; exact hno i h; exact fun j hj => hno2 j om), Z.pick [0, 1, 5, 7], Y.select [0] de⟩
  omega
 rw [hc3] at Z
 try simp only [qz, Bool.and_eq_true, Bool.or_eq_true, Bool.and_eq_false_iff, Bool.or_eq_false_iff] at hc3
 refine aJ <| hK8 _ _ <| aa fun K20 hK20 => wla Z rfl fun a Z => ab (hK20 _ _ ?_)
 replace Z := Z.p1 4 rfl
 refine ap ?_
 refine al Z results63 (ac rfl ag) ?_
 exact ⟨by simp only [retv]; congr 1; exact (kv fun i h => hno i om).symm, Y.ext⟩
def outB (l : List By) : Bool := (l.any fun s => decide (sha s = zero32)) || colxH l l
theorem nQ {l : List By} {k : Nat} (hk : k < l.length) (h : sha (l.getD k []) = zero32) : outB l = true := by
 unfold outB; rw [List.any_eq_true.2 ⟨_, aW hk, decide_eq_true h⟩]; rfl
theorem oL {l : List By} (h : ∀ i, i < l.length → ¬ sha (l.getD i []) = zero32) : outB l = colxH l l := by
 unfold outB
 have : (l.any fun s => decide (sha s = zero32)) = false := by
  rw [Bool.eq_false_iff]
  intro hc
  obtain ⟨s, hs, h2⟩ := List.any_eq_true.1 hc
  obtain ⟨i, hi, rfl⟩ := List.getElem_of_mem hs
  have := h i hi
  rw [List.getD_eq_getElem?_getD, List.getElem?_eq_getElem hi] at this
  exact this (of_decide_eq_true h2)
 rw [this]; rfl
theorem ng {a b : List By} (h : Two sha a b) : colxH a b = true := by
 obtain ⟨x, hx, y, hy, h1, h2⟩ := h
 exact List.any_eq_true.2 ⟨x, hx, List.any_eq_true.2 ⟨y, hy, by unfold colxB; rw [decide_eq_false h1, decide_eq_true h2]; rfl⟩⟩
theorem o6 {a l : List By} {b : List By} (h : Two sha a b) (h1 : ∀ x ∈ a, x ∈ l) (h2 : ∀ x ∈ b, x ∈ l) : outB l = true := by
 unfold outB
 rw [ng (h.mono h1 h2), Bool.or_true]
theorem lA (lv : Value) (ls : List By) (w0 : World) (hlv : SlAt w0 lv 1 (ls.map fun s => [sv s])) (hls : ∀ s ∈ ls, s.length ≤ 100000000) (hln : ls.length ≤ 1000) :
  Ret Tryz.prog 31 #[lv] w0 fun v w => v = .bool (outB ls) ∧ Ext No w0 w := by
 have hxb := hlv.2.1
 simp only [List.length_map, big] at hxb
 refine aD func31 rfl ntmps31 (lb rfl) fun a Z => ?_
 replace Z := Z.p1 0 rfl
 replace Y : St No w0 [] w0 := St.init w0
 refine aa fun K1 hK1 => wla Z rfl fun a Z => ab (hK1 _ _ <| ae fun K2 hK2 => ?_)
 refine aa fun K3 hK3 => wla Z rfl fun a Z => ab (hK3 _ _ <| aq ?_)
 refine aR (fun m a w => ∃ (k : Nat), m = ls.length - k ∧ (k ≤ ls.length) ∧ (∀ i, i < k → ¬ sha (ls.getD i []) = zero32) ∧ Fr 21 [(0, lv), (3, iv (k : Int))] [] a ∧ St No w0 [] w) _ ⟨0, rfl, Nat.zero_le _, (fun i h => absurd h (Nat.not_lt_zero _)), Z.pick [0, 3], Y.select [] de⟩ ?_
 rintro _ a w1 ⟨k, rfl, hk, hno, Z, Y⟩
 refine ae fun K4 hK4 => aa fun K5 hK5 => wlm Z rfl fun a Z => wlm Z rfl fun a Z => wlv Z ((aE (sT := 26) (Y.arg hlv) rfl rfl (runUnderlying26 _)).asi (m' := (ls.length : Int)) sm) fun a Z => wlv Z (v_lt rfl rfl) fun a Z => ab (hK5 _ _ ?_)
 refine ax Z rfl (fun hc1 => ?_) (fun hc1 => ?_)
 ·rw [hc1] at Z
  try simp only [qz] at hc1
  have hkx : k < ls.length := by omega
  refine ar <| hK4 _ _ <| ae fun K6 hK6 => aq <| ae fun K7 hK7 => aF kr (aG kr fun w2 hxz => ?_)
  replace Y := Y.grow hxz
  refine aT (k := 0) 7 [4, 6] Z kr kr kr rfx ?_
  replace Z := Z.p6 0 3 4 5 6 7 rfl
  refine aA [5] (fun i => match i with | 5 => pm (fun b : Nat => .slice (some ⟨b, 0, none⟩) 32 32) (fun b => [own (.slice (some ⟨b, 0, none⟩) 32 32) 5 1 ((List.replicate 32 (0 : UInt8)).map fun b => [yv b])]) (fun _ => True) | _ => fun _ _ => False) 7 [[], [], [0, 1], [2], [3], [], [5]] [lv, iv (k : Int), slAddr lv (k * 1), sv (ls.getD k []), sv (sha (ls.getD k [])), undef, sv (List.replicate 32 (0 : UInt8))] Z Y kr kr kr ?_ ?_ ?_
  ·intro i hi hiq
   match i, hi, hiq with
   | 0, _, _ => exact fun w Y => OpV.g (ah rfl)
   | 1, _, _ => exact fun w Y => OpV.g (ah rfl)
   | 2, _, _ => exact fun w Y => OpV.g ((aj (i := (k : Int)) (sT := 26) (Y.arg hlv) rfl rfl (runUnderlying26 _) (sizeOf9 _) om (by rw [List.length_map]; omega)).as (v' := slAddr lv (k * 1)) rfl)
   | 3, _, _ => exact fun w Y => OpV.g (au (u := sv (ls.getD k [])) (i := k) (j := 0) (Y.arg hlv) (by rw [List.length_map]; omega) rfl (isAgg9 _) (by simp [List.getD_eq_getElem?_getD, List.getElem?_eq_getElem (show k < ls.length by omega)]))
   | 4, _, _ => exact fun w Y => bw call45 rfl (dS (ls.getD k []) _ (hls _ (aW hkx)))
   | 5, _, h => exact absurd sm h
   | 6, _, _ =>
    rintro _ _ ⟨b2, rfl, -, rfl⟩
    intro w Y
    exact OpV.g (di (Y.ow 0 rfl) rfl underlying68 underlying5 underlying9)
  ·intro i hi
   simp only [List.mem_cons, List.not_mem_nil, or_false] at hi
   subst hi
   ·intro w Y
    exact jv (n := 32) (E := 5) (sz := 1) rfl rfl ((List.replicate 32 (0 : UInt8)).map fun b => [yv b]) (fun _ => by kernel_rfl) (by intro e he; first | (simp at he; simp [he]; done) | (obtain ⟨_, _, rfl⟩ := List.mem_map.1 he; rfl)) sm de
  clear Z Y
  rintro _ _ ⟨b2, rfl, -, rfl⟩ a w3 Z Y
  replace Z : Fr 21 [(10, lv), (11, iv (k : Int)), (12, slAddr lv (k * 1)), (13, sv (ls.getD k [])), (14, sv (sha (ls.getD k []))), (15, _), (16, sv (List.replicate 32 (0 : UInt8))), (0, _), (3, _), (4, _), (5, _), (6, _), (7, _)] [] a := Z
  replace Y : St No w0 [_] w3 := Y
  refine ab <| aP (k := 7) 8 [7] kr kr kr ?_
  refine wlv Z (dX rfl rfl) fun a Z => ab <| aS kr ?_
  refine hK7 _ _ ?_
  replace Z := Z.p3 0 3 17 rfl
  replace Y : St No w0 [] w3 := Y.mask [false]
  refine ax Z rfl (fun hc3 => ?_) (fun hc3 => ?_)
  ·rw [hc3] at Z
   try simp only [qz] at hc3
   refine aa fun K8 hK8 => wla Z rfl fun a Z => ab (hK8 _ _ <| ap ?_)
   refine al Z results31 (ac rfl ag) ?_
   exact ⟨by simp only [retv]; rw [nQ hkx hc3]; try rfl, Y.ext⟩
  rw [hc3] at Z
  try simp only [qz] at hc3
  refine ar <| hK6 _ _ <| ao <| wlm Z rfl fun a Z => wlv Z (aV rfl rfl ⟨om, om⟩) fun a Z => wla Z rfl fun a Z => ab ?_
  refine ⟨_, ?_, k + 1, rfl, om, (fun j h => by rcases Nat.lt_succ_iff_lt_or_eq.1 h with h | rfl; exact hno j h; exact hc3), Z.pick [0, 3], Y.select [] de⟩
  omega
 rw [hc1] at Z
 try simp only [qz] at hc1
 have hke : k = ls.length := by omega
 refine aJ <| hK2 _ _ <| aa fun K9 hK9 => wlm Z rfl fun a Z => wlm Z rfl fun a Z => am Z Y de call63 rfl (kg lv lv ls ls _ (Y.arg hlv) (Y.arg hlv) hls hls hln) ?_
 clear Z Y
 intro a w4 Z Y
 refine wla Z rfl fun a Z => ab (hK9 _ _ ?_)
 replace Z := Z.p1 2 rfl
 refine ap ?_
 refine al Z results31 (ac rfl ag) ?_
 exact ⟨by simp only [retv]; rw [oL (fun i h => hno i om)]; try rfl, Y.ext⟩
def headB (o : Int) (l : List Rec) : By := if logOk o l = true then rootH sha (codesR l) else []
def headE (o : Int) (l : List Rec) : Int := if logOk o l = true then 0 else 110
theorem dI {o : Int} {l : List Rec} : headE o l = 0 ↔ logOk o l = true := by
 unfold headE; split <;> simp_all
theorem dA {o : Int} {l : List Rec} (h : logOk o l = true) : headB o l = rootH sha (codesR l) := if_pos h
def signOk (key : By) (o : Int) (l : List Rec) : Bool := logOk o l && decide (key.length = 32)
def signB (key : By) (o : Int) (l : List Rec) : By := if signOk key o l = true then tagR sha key o (l.length : Int) (rootH sha (codesR l)) else []
def signE (key : By) (o : Int) (l : List Rec) : Int := if signOk key o l = true then 0 else 110
def checkB (root : By) (n i : Int) (x : Rec) (p : List By) : Bool := x.ok && cE sha root n i x.enc p
def few11 (xs : List By) (m : Nat) : List By := (xs.take m).map fun s => s.take 40
theorem mw (xs : List By) (m : Nat) : (few11 xs m).length ≤ m := by rw [few11, List.length_map, List.length_take]; omega
theorem oH {xs : List By} {k : Nat} (h : k < xs.length) : few11 xs (k + 1) = few11 xs k ++ [(xs.getD k []).take 40] := by
 rw [few11, bO [] h, List.map_append]; rfl
theorem lm {xs : List By} {k m : Nat} (hk : k ≤ xs.length) (h : ¬ (k < xs.length ∧ k < m)) (hm : k ≤ m) : few11 xs k = few11 xs m := by
 unfold few11
 by_cases h1 : k = m
 ·rw [h1]
 ·rw [List.take_of_length_le om, List.take_of_length_le om]
theorem bM {l : List Rec} (h : ∀ x ∈ l, x.ok = true) : ∀ s ∈ codesR l, s.length ≤ 300 := by rw [← cK h]; exact eI l
theorem qt (av : Value) (xs : List By) (mm : Nat) (w0 : World) (hav : SlAt w0 av 1 (xs.map fun s => [sv s])) (hm : mm ≤ 1000) :
  Ret Tryz.prog 6 #[av, iv (mm : Int)] w0 (MemR w0 (fun v : Value => v) (fun v => [own v 9 1 ((few11 xs mm).map fun s => [sv s])]) (fun _ => True)) := by
 have hxb := hav.2.1
 simp only [List.length_map, big] at hxb
 refine aD func6 rfl ntmps6 (lb rfl) fun a Z => ?_
 replace Z := Z.p2 0 1 rfl
 replace Y : St No w0 [] w0 := St.init w0
 refine aa fun K1 hK1 => wla Z rfl fun a Z => ab (hK1 _ _ <| aa fun K2 hK2 => ?_)
 refine wla Z rfl fun a Z => ab (hK2 _ _ <| ae fun K3 hK3 => ?_)
 refine aa fun K4 hK4 => wla Z rfl fun a Z => ab (hK4 _ _ <| aq ?_)
 replace Y : St No w0 [own (.slice none 0 0) 9 1 ((few11 xs 0).map fun s => [sv s])] w0 := Y.nil_own
 refine aR (fun m a w => ∃ (k : Nat) (v : Value), m = mm - k ∧ (k ≤ xs.length) ∧ (k ≤ mm) ∧ Fr 33 [(0, av), (1, iv (mm : Int)), (4, .slice none 0 0), (5, v), (6, iv (k : Int))] [] a ∧ St No w0 [own v 9 1 ((few11 xs k).map fun s => [sv s])] w) _ ⟨0, .slice none 0 0, rfl, Nat.zero_le _, Nat.zero_le _, Z.pick [0, 1, 4, 5, 6], Y⟩ ?_
 rintro _ a w1 ⟨k, v, rfl, hk, hkm, Z, Y⟩
 refine ae fun K5 hK5 => aa fun K6 hK6 => wlm Z rfl fun a Z => wlm Z rfl fun a Z => wlv Z ((aE (sT := 26) (Y.arg hav) rfl rfl (runUnderlying26 _)).asi (m' := (xs.length : Int)) sm) fun a Z => wlv Z (v_lt rfl rfl) fun a Z => wlm Z rfl fun a Z => ?_
 rcases Bool.eq_false_or_eq_true (decide ((k : Int) < (xs.length : Int))) with hb1 | hb1
 ·rw [hb1] at Z
  try simp only [qz] at hb1
  have hkx : k < xs.length := by omega
  refine wly Z (ah rfl) fun a Z => wly Z (ah rfl) fun a Z => wly Z (v_lt rfl rfl) fun a Z => wlv Z (az rfl rfl) fun a Z => ab (hK6 _ _ ?_)
  replace Z := Z.p6 0 1 4 5 6 15 rfl
  refine ax Z rfl (fun hc2 => ?_) (fun hc2 => ?_)
  ·rw [hc2] at Z
   try simp only [qz] at hc2
   refine ar <| hK5 _ _ <| ae fun K7 hK7 => aq <| aF kr (aG kr fun w2 hxz => ?_)
   replace Y := Y.grow hxz
   refine aT (k := 0) 13 [0, 12] Z kr kr kr rfx ?_
   replace Z := Z.p6 0 1 4 5 6 15 rfl
   refine aA [12] (fun i => match i with | 12 => pm (fun b : Nat => .slice (some ⟨b, 0, none⟩) 1 1) (fun b => [own (.slice (some ⟨b, 0, none⟩) 1 1) 9 1 [[sv ((xs.getD k []).take (min (xs.getD k []).length 40))]]]) (fun _ => True) | _ => fun _ _ => False) 13 [[], [], [], [1, 2], [3], [], [], [5, 6], [7], [8], [9], [4, 10], [11]] [v, av, iv (k : Int), slAddr av (k * 1), sv (xs.getD k []), av, iv (k : Int), slAddr av (k * 1), sv (xs.getD k []), iv ((xs.getD k []).length : Int), iv (min ((xs.getD k []).length : Int) 40), sv ((xs.getD k []).take (min (xs.getD k []).length 40)), undef] Z Y kr kr kr ?_ ?_ ?_
   ·intro i hi hiq
    match i, hi, hiq with
    | 0, _, _ => exact fun w Y => OpV.g (ah rfl)
    | 1, _, _ => exact fun w Y => OpV.g (ah rfl)
    | 2, _, _ => exact fun w Y => OpV.g (ah rfl)
    | 3, _, _ => exact fun w Y => OpV.g ((aj (i := (k : Int)) (sT := 26) (Y.arg hav) rfl rfl (runUnderlying26 _) (sizeOf9 _) om (by rw [List.length_map]; omega)).as (v' := slAddr av (k * 1)) rfl)
    | 4, _, _ => exact fun w Y => OpV.g (au (u := sv (xs.getD k [])) (i := k) (j := 0) (Y.arg hav) (by rw [List.length_map]; omega) rfl (isAgg9 _) (by simp [List.getD_eq_getElem?_getD, List.getElem?_eq_getElem (show k < xs.length by omega)]))
    | 5, _, _ => exact fun w Y => OpV.g (ah rfl)
    | 6, _, _ => exact fun w Y => OpV.g (ah rfl)
    | 7, _, _ => exact fun w Y => OpV.g ((aj (i := (k : Int)) (sT := 26) (Y.arg hav) rfl rfl (runUnderlying26 _) (sizeOf9 _) om (by rw [List.length_map]; omega)).as (v' := slAddr av (k * 1)) rfl)
    | 8, _, _ => exact fun w Y => OpV.g (au (u := sv (xs.getD k [])) (i := k) (j := 0) (Y.arg hav) (by rw [List.length_map]; omega) rfl (isAgg9 _) (by simp [List.getD_eq_getElem?_getD, List.getElem?_eq_getElem (show k < xs.length by omega)]))
    | 9, _, _ => exact fun w Y => OpV.g (bo rfl rfl (runUnderlying9 _))
    | 10, _, _ => exact fun w Y => OpV.g (nh rfl rfl)
    | 11, _, _ => exact fun w Y => OpV.g ((jK (xs := xs.getD k []) (l := 0) (h := (min (xs.getD k []).length 40)) rfl rfl rfl underlying9 (.inl ⟨rfl, rfl⟩) (.inr (by rw [show (min ((xs.getD k []).length : Int) 40 : Int) = (((min (xs.getD k []).length 40) : Nat) : Int) from by omega] <;> rfl)) om (by first | omega | exact Nat.min_le_left _ _)).as (v' := sv ((xs.getD k []).take (min (xs.getD k []).length 40))) rfl)
    | 12, _, h => exact absurd sm h
    | i + 13, h, _ => exact absurd h om
   ·intro i hi
    simp only [List.mem_cons, List.not_mem_nil, or_false] at hi
    subst hi
    ·intro w Y
     exact aX (E := 9) (sz := 1) rfl [[sv ((xs.getD k []).take (min (xs.getD k []).length 40))]] (fun _ => by kernel_rfl) sm rfl de
   clear Z Y
   rintro _ _ ⟨b3, rfl, -, rfl⟩ a w3 Z Y
   replace Z : Fr 33 [(18, v), (19, av), (20, iv (k : Int)), (21, slAddr av (k * 1)), (22, sv (xs.getD k [])), (23, av), (24, iv (k : Int)), (25, slAddr av (k * 1)), (26, sv (xs.getD k [])), (27, iv ((xs.getD k []).length : Int)), (28, iv (min ((xs.getD k []).length : Int) 40)), (29, sv ((xs.getD k []).take (min (xs.getD k []).length 40))), (30, _), (0, _), (1, _), (4, _), (5, _), (6, _), (15, _)] [] a := Z
   replace Y : St No w0 [_, _] w3 := Y
   refine ab <| aP (k := 13) 15 [14] kr kr kr ?_
   refine aN (i := 1) (sT := 26) (inf := Tryz.t9) (z := .string (⟨#[]⟩)) (b := 0) (off := 0) (m := 0) (c := 0) rfl rfl rfl (Y.ow 0 rfl) sm underlying26 rfl rfl rfl rfl de (by simp [Value.oneCell', yv, wv, sv]) (by have hby : Tryz.t9.bytes = 16 := rfl; simp only [big, hby, few11, List.length_append, List.length_map, List.length_take, List.length_cons, List.length_nil]; omega) (by have hby : Tryz.t9.bytes = 16 := rfl; simp only [big, hby, few11, List.length_append, List.length_map, List.length_take, List.length_cons, List.length_nil]; omega) de Z Y fun a w4 s4 Z Y _ => wla Z rfl fun a Z => ab <| aS kr ?_
   refine hK7 _ _ ?_
   replace Z := Z.p5 0 1 4 6 5 rfl
   replace Y := Y.k1 2 rfl
   rw [show ((few11 xs k).map fun s => [sv s]) ++ ([[sv ((xs.getD k []).take (min (xs.getD k []).length 40))]]) = ((few11 xs (k + 1)).map fun s => [sv s]) from by rw [oH hkx, nv]; simp] at Y
   refine ao <| wlm Z rfl fun a Z => wlv Z (aV rfl rfl ⟨om, om⟩) fun a Z => wla Z rfl fun a Z => ab ?_
   refine ⟨_, ?_, k + 1, s4, rfl, om, om, Z.pick [0, 1, 4, 5, 6], Y⟩
   omega
  rw [hc2] at Z
  try simp only [qz] at hc2
  have hfe := lm hk om hkm
  refine aJ <| hK3 _ _ <| aa fun K8 hK8 => wlm Z rfl fun a Z => wla Z rfl fun a Z => ab (hK8 _ _ ?_)
  replace Z := Z.p1 4 rfl
  refine ap ?_
  refine al Z results6 (ac rfl ag) ?_
  rw [hfe] at Y
  exact ⟨v, rfl, trivial, Y.ext, St.out (E := [own v 9 1 ((few11 xs mm).map fun s => [sv s])]) (H := []) (Y.select [0] de)⟩
 rw [hb1] at Z
 try simp only [qz] at hb1
 have hfe := lm hk om hkm
 refine wln Z fun a Z => wln Z fun a Z => wln Z fun a Z => wlv Z (ay rfl rfl) fun a Z => ab (hK6 _ _ ?_)
 replace Z := Z.p6 0 1 4 5 6 15 rfl
 refine aL Z rfl ?_
 refine aJ <| hK3 _ _ <| aa fun K9 hK9 => wlm Z rfl fun a Z => wla Z rfl fun a Z => ab (hK9 _ _ ?_)
 replace Z := Z.p1 4 rfl
 refine ap ?_
 refine al Z results6 (ac rfl ag) ?_
 rw [hfe] at Y
 exact ⟨v, rfl, trivial, Y.ext, St.out (E := [own v 9 1 ((few11 xs mm).map fun s => [sv s])]) (H := []) (Y.select [0] de)⟩
theorem kM (w0 : World) :
  Ret Tryz.prog 32 #[] w0 (MemR w0 (fun v : Value => .agg #[iv 4, v]) (fun v => [own v 48 5 (exR.map Rec.cells)]) (fun _ => True)) := by
 refine aD func32 rfl ntmps32 (lb rfl) fun a Z => ?_
 replace Z : Fr 6 [] [] a := Z
 replace Y : St No w0 [] w0 := St.init w0
 refine aa fun K1 hK1 => aU Z Y de (zeroValue25 _) (cs := [iv 0, .slice none 0 0]) rfl ?_
 clear Z Y
 intro a w1 Z Y
 refine ab (hK1 _ _ <| aa fun K2 hK2 => ?_)
 refine wlv Z (bA (v := .agg #[iv 10, iv 1, iv 7, iv (-1), sv ([110, 101, 119, 115])]) rfl kr) fun a Z => wlv Z (bA (v := .agg #[iv 20, iv 2, iv 0, iv 5, sv ([] : By)]) rfl kr) fun a Z => wlv Z (bA (v := .agg #[iv 20, iv 1, iv 8, iv (-1), sv ([] : By)]) rfl kr) fun a Z => aC (E := 48) (sz := 5) rfl [[iv 10, iv 1, iv 7, iv (-1), sv ([110, 101, 119, 115])], [iv 20, iv 2, iv 0, iv 5, sv ([] : By)], [iv 20, iv 1, iv 8, iv (-1), sv ([] : By)]] kr sm rfl de de Z Y ?_
 clear Z Y
 intro a w2 Z Y
 refine wlv Z (bA (v := .agg #[iv 4, (.slice (some ⟨w1.hz, 0, none⟩) 3 3)]) rfl kr) fun a Z => aH 1 Z Y rfl rfl rfl (sizeOf25 _) rfl (lb rfl) (ds := [iv 4, (.slice (some ⟨w1.hz, 0, none⟩) 3 3)]) rfl rfl ?_
 clear Z Y
 intro a w3 Z Y
 refine ab (hK2 _ _ <| ap ?_)
 refine al Z results32 (aM rfl (bU (Y.g 1 rfl) (isAgg25 _) (sizeOf25 _)) ag) ?_
 exact ⟨(.slice (some ⟨w1.hz, 0, none⟩) 3 3), rfl, trivial, Y.ext, St.out (E := [own (.slice (some ⟨w1.hz, 0, none⟩) 3 3) 48 5 (exR.map Rec.cells)]) (H := []) (Y.select [0] de)⟩
theorem oi (o : Int) (lv : Value) (l : List Rec) (w0 : World) (hlv : SlAt w0 lv 5 (l.map Rec.cells)) (hll : l.length ≤ 1000) :
  Ret Tryz.prog 11 #[.agg #[iv o, lv]] w0 fun v w => v = .tuple #[sv (headB o l), iv (headE o l)] ∧ Ext No w0 w := by
 refine aD func11 rfl ntmps11 (lb rfl) fun a Z => ?_
 replace Z := Z.p1 0 rfl
 replace Y : St No w0 [] w0 := St.init w0
 refine aa fun K1 hK1 => bj Z Y de rfl (cs := [iv o, lv]) rfl ?_
 clear Z Y
 intro a w1 Z Y
 refine wla Z rfl fun a Z => wla Z rfl fun a Z => ab (hK1 _ _ <| ae fun K2 hK2 => ?_)
 refine aa fun K3 hK3 => wlv Z (aw (Y.g 0 rfl) rfl (isAgg25 _) (sizeOf25 _)) fun a Z => am Z Y de call42 rfl (ll o lv l _ (Y.arg hlv)) ?_
 clear Z Y
 intro a w2 Z Y
 refine wlv Z (bq rfl) fun a Z => ab (hK3 _ _ ?_)
 refine ax Z rfl (fun hc1 => ?_) (fun hc1 => ?_)
 ·rw [hc1] at Z
  try simp only [qz] at hc1
  have hlo : logOk o l = false := by simpa using hc1
  refine aa fun K4 hK4 => wla Z rfl fun a Z => wla Z rfl fun a Z => ab (hK4 _ _ <| ap ?_)
  refine al Z results11 (ac rfl (ac rfl ag)) ?_
  exact ⟨by simp only [retv]; unfold headB headE; rw [hlo]; rfl, Y.ext⟩
 rw [hc1] at Z
 try simp only [qz] at hc1
 have hlo : logOk o l = true := by simpa using hc1
 refine ar <| hK2 _ _ <| aa fun K5 hK5 => wlv Z (aw (Y.g 0 rfl) rfl (isAgg25 _) (sizeOf25 _)) fun a Z => aK Z Y de call29 rfl (fl o lv l _ (Y.arg hlv) om) ?_
 clear Z Y
 intro a w3 x3 hp Z Y
 revert x3 hp Z Y; rintro v2 hp Z Y
 clear hp
 replace Y : St No w0 [_, _] w3 := Y
 refine am Z Y de call43 rfl (dD _ v2 (codesB (l)) _ rfl (Y.ow 0 rfl) (by rw [db]; omega) (fun s h => Nat.le_trans (eI _ s h) de)) ?_
 clear Z Y
 intro a w4 Z Y
 refine wla Z rfl fun a Z => wla Z rfl fun a Z => ab (hK5 _ _ ?_)
 replace Z := Z.p2 2 3 rfl
 replace Y : St No w0 [] w4 := Y.mask [false, false]
 refine ap ?_
 refine al Z results11 (ac rfl (ac rfl ag)) ?_
 exact ⟨by simp only [retv]; unfold headB headE; rw [if_pos hlo, if_pos hlo, cK (bL hlo)], Y.ext⟩
theorem oh {o : Int} {l : List Rec} {v : Value} {i : Nat} {w0 : World} (hlo : logOk o l = true) (hv : SlAt w0 v 1 ((codesB (l)).map fun s => [sv s])) (hi : i ≤ l.length) (hll : l.length ≤ 1000) : Ret Tryz.prog 54 #[v, iv (i : Int)] w0 (MemR w0 (fun v : Value => .tuple #[v, iv 0]) (fun v => [own v 9 1 ((extH sha (codesR l) i).map fun s => [sv s])]) (fun _ => True)) := by
 rw [cK (bL hlo)] at hv
 exact pf v (codesR l) i w0 hv (by rw [bn]; exact hi) (by rw [bn]; exact hll) (fun s h => Nat.le_trans (bM (bL hlo) s h) de)
theorem kH (o : Int) (lv : Value) (l : List Rec) (i : Nat) (w0 : World) (hlv : SlAt w0 lv 5 (l.map Rec.cells)) (hll : l.length ≤ 1000) (hlo : logOk o l = true) (hi : i ≤ l.length) :
  Ret Tryz.prog 21 #[.agg #[iv o, lv], iv (i : Int)] w0 (MemR w0 (fun v : Value => .tuple #[v, iv 0]) (fun v => [own v 9 1 ((extH sha (codesR l) i).map fun s => [sv s])]) (fun _ => True)) := by
 have hao := bM (bL hlo)
 refine aD func21 rfl ntmps21 (lb rfl) fun a Z => ?_
 replace Z := Z.p2 0 1 rfl
 replace Y : St No w0 [] w0 := St.init w0
 refine aa fun K1 hK1 => bj Z Y de rfl (cs := [iv o, lv]) rfl ?_
 clear Z Y
 intro a w1 Z Y
 refine wla Z rfl fun a Z => wla Z rfl fun a Z => ab (hK1 _ _ <| ae fun K2 hK2 => ?_)
 refine aa fun K3 hK3 => wlv Z (aw (Y.g 0 rfl) rfl (isAgg25 _) (sizeOf25 _)) fun a Z => am Z Y de call42 rfl (ll o lv l _ (Y.arg hlv)) ?_
 clear Z Y
 intro a w2 Z Y
 refine wlv Z (bq rfl) fun a Z => ab (hK3 _ _ ?_)
 refine ax Z rfl (fun hc1 => ?_) (fun hc1 => ?_)
 ·rw [hc1] at Z
  try simp only [qz] at hc1
  exfalso; simp [hlo] at hc1
 rw [hc1] at Z
 try simp only [qz] at hc1
 refine ar <| hK2 _ _ <| aa fun K4 hK4 => wlv Z (aw (Y.g 0 rfl) rfl (isAgg25 _) (sizeOf25 _)) fun a Z => aK Z Y de call29 rfl (fl o lv l _ (Y.arg hlv) om) ?_
 clear Z Y
 intro a w3 x3 hp Z Y
 revert x3 hp Z Y; rintro v2 hp Z Y
 clear hp
 replace Y : St No w0 [_, _] w3 := Y
 refine wlm Z rfl fun a Z => aK Z Y de call54 rfl (oh hlo (Y.ow 0 rfl) hi hll) ?_
 clear Z Y
 intro a w4 x5 hp Z Y
 revert x5 hp Z Y; rintro v4 hp Z Y
 clear hp
 replace Y : St No w0 [_, _, _] w4 := Y
 refine wlm Z rfl fun a Z => wlv Z (ai rfl rfl) fun a Z => wlv Z (ai rfl rfl) fun a Z => wla Z rfl fun a Z => wla Z rfl fun a Z => ab (hK4 _ _ ?_)
 replace Z := Z.p4 4 5 6 7 rfl
 replace Y := Y.k1 1 rfl
 refine ae fun K5 hK5 => aa fun K6 hK6 => wlm Z rfl fun a Z => wlv Z ((v_ne rfl rfl).asb (b' := false) rfl) fun a Z => ab (hK6 _ _ <| aL Z rfl ?_)
 refine ar <| hK5 _ _ <| aa fun K7 hK7 => wlm Z rfl fun a Z => wla Z rfl fun a Z => wla Z rfl fun a Z => ab (hK7 _ _ <| ap ?_)
 refine al Z results21 (ac rfl (ac rfl ag)) ?_
 exact ⟨v4, rfl, trivial, Y.ext, St.out (E := [own v4 9 1 ((extH sha (codesR l) i).map fun s => [sv s])]) (H := []) (Y.select [0] de)⟩
end Go.Proofs.YtddfkkdanpmnaaaGreatDoor
