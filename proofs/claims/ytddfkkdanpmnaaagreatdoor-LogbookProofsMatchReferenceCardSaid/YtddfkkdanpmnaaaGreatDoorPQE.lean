/- Texts joined: WshN, RefI, LgA, LgB, LgC, LgD, LgE, LgF. -/
import Derived.Test.YtddfkkdanpmnaaaGreatDoorPQD
import Derived.Test.YtddfkkdanpmnaaaGreatDoorPQB
import Derived.Test.YtddfkkdanpmnaaaGreatDoorPQA
import Derived.Laws.StructEq
set_option linter.unusedVariables false
set_option linter.unusedSimpArgs false
set_option maxRecDepth 4000
set_option maxHeartbeats 4000000
namespace Go.Proofs.YtddfkkdanpmnaaaGreatDoor
open Go.RowKit Go.PW _root_.Go.Proofs.Tryz
theorem p128 (i : Nat) : (128 : Nat) ^ i = 2 ^ (7 * i) := by rw [Nat.pow_mul]
theorem v_ixz {P : Program} {w : World} {L : List (Nat × Value)} {dst : Option Tmp} {T T' ty : TypeId} {pos : String} {af : Array Edge} {gd : Option (Nat × Bool)} {x y : Operand} {z : Nat} (hz : z < 9223372036854775808)
  (hx : ev L x = some (iv ((z / 2 : Nat) : Int))) (hy : ev L y = some (iv (-((z % 2 : Nat) : Int)))) : OpV P ⟨dst, .binOp .xor T x y T', ty, pos, af, gd⟩ L w (iv (uz z)) := by
 have h := qd (P := P) (w := w) (dst := dst) (T := T) (T' := T') (ty := ty) (pos := pos) (af := af) (gd := gd) (n := ((z / 2 : Nat) : Int)) (decide (z % 2 = 1)) om om hx (hy.trans (by
  congr 2
  by_cases h : z % 2 = 1
  ·rw [decide_eq_true h, h]; rfl
  ·rw [decide_eq_false h, show z % 2 = 0 from by omega]; rfl))
 refine h.as ?_
 congr 1
 unfold uz
 by_cases h : z % 2 = 1
 ·rw [decide_eq_true h, if_pos rfl, if_neg om]
 ·rw [decide_eq_false h, if_neg de, if_pos om]
theorem pH {f i z : Nat} : wI f i z [] = none := by cases f <;> rfl
theorem iO {s : By} {p : Nat} (h : p < s.length) : s.drop p = s.getD p 0 :: s.drop (p + 1) := by
 rw [List.drop_eq_getElem_cons h, List.getD_eq_getElem?_getD, List.getElem?_eq_getElem h]; rfl
theorem oG {s : By} {p i z : Nat} (hi : i < 9) (hp : p + i < s.length) (hb : 128 ≤ (s.getD (p + i) 0).toNat) :
  wI (9 - i) i z (s.drop (p + i)) = wI (9 - (i + 1)) (i + 1) (z + (s.getD (p + i) 0).toNat % 128 * 2 ^ (7 * i)) (s.drop (p + (i + 1))) := by
 rw [iO hp, show 9 - i = (9 - (i + 1)) + 1 from by omega, wI, if_neg om, p128]; rfl
theorem kw {s : By} {p i z : Nat} (hi : i < 9) (hp : p + i < s.length) (hb : (s.getD (p + i) 0).toNat < 128) (h : ((s.getD (p + i) 0).toNat = 0 ∧ 0 < i) ∨ uz (z + (s.getD (p + i) 0).toNat % 128 * 2 ^ (7 * i)) < -4611686018427387903) :
  wI (9 - i) i z (s.drop (p + i)) = none := by
 rw [iO hp, show 9 - i = (9 - (i + 1)) + 1 from by omega, wI, if_pos hb, p128, if_pos]
 exact h.imp_left fun ⟨h1, h2⟩ => ⟨UInt8.toNat_inj.1 (by rw [h1]; rfl), h2⟩
theorem lB {s : By} {p i z : Nat} (hi : i < 9) (hp : p + i < s.length) (hb : (s.getD (p + i) 0).toNat < 128) (h : ¬ ((s.getD (p + i) 0).toNat = 0 ∧ 0 < i)) (h2 : ¬ uz (z + (s.getD (p + i) 0).toNat % 128 * 2 ^ (7 * i)) < -4611686018427387903) :
  wI (9 - i) i z (s.drop (p + i)) = some (uz (z + (s.getD (p + i) 0).toNat % 128 * 2 ^ (7 * i)), i + 1) := by
 rw [iO hp, show 9 - i = (9 - (i + 1)) + 1 from by omega, wI, if_pos hb, p128, if_neg]
 rintro (⟨h3, h4⟩ | h3)
 ·exact h ⟨by rw [h3]; rfl, h4⟩
 ·exact h2 h3
theorem pW {z i b : Nat} (hz : z < 2 ^ (7 * i)) (hb : b < 128) : z + b * 2 ^ (7 * i) < 2 ^ (7 * (i + 1)) := by
 have e : 2 ^ (7 * (i + 1)) = 128 * 2 ^ (7 * i) := by rw [Nat.mul_add, Nat.pow_add, Nat.mul_comm]
 rw [e]
 have : (b + 1) * 2 ^ (7 * i) ≤ 128 * 2 ^ (7 * i) := Nat.mul_le_mul_right _ om
 rw [Nat.add_mul] at this
 omega
theorem z_63 {z i : Nat} (hi : i < 9) (hz : z < 2 ^ (7 * (i + 1))) : z < 9223372036854775808 := by
 have : (2 : Nat) ^ (7 * (i + 1)) ≤ 2 ^ 63 := Nat.pow_le_pow_right de om
 omega
def intV (s : By) (p : Nat) : Value := match rdI (s.drop p) with
 | some (n, r) => .tuple #[iv n, iv ((s.length - r.length : Nat) : Int), iv 0]
 | none => .tuple #[iv 0, iv 0, iv 10]
theorem eo {s : By} {p : Nat} (h : wI 9 0 0 (s.drop p) = none) : intV s p = .tuple #[iv 0, iv 0, iv 10] := by
 rw [nS] at h
 unfold intV
 cases hr : rdI (s.drop p) with
 | none => rfl
 | some x => rw [hr] at h; cases h
theorem kd {s : By} {p k : Nat} {n : Int} (hp : p ≤ s.length) (h : wI 9 0 0 (s.drop p) = some (n, k)) : intV s p = .tuple #[iv n, iv ((p + k : Nat) : Int), iv 0] := by
 rw [nS] at h
 unfold intV
 cases hr : rdI (s.drop p) with
 | none => rw [hr] at h; cases h
 | some x =>
  obtain ⟨n2, r⟩ := x
  rw [hr] at h
  simp only [Option.map_some, Option.some.injEq, Prod.mk.injEq] at h
  obtain ⟨rfl, rfl⟩ := h
  obtain ⟨_, h2⟩ := km hr
  have h3 := congrArg List.length h2
  rw [List.length_drop, List.length_append] at h3
  have h4 := (bA n2).1
  simp only
  rw [List.length_drop, show p + (s.length - p - r.length) = s.length - r.length from by omega]
theorem kb (s : By) (p : Nat) (w0 : World) (hp : p ≤ s.length) (hsl : s.length ≤ 1000000) :
  Ret Tryz.prog 71 #[sv s, iv (p : Int)] w0 fun v w => v = intV s p ∧ Ext No w0 w := by
 refine aC func71 rfl ntmps71 (lb rfl) fun a Z => ?_
 replace Z := Z.p2 0 1 rfl
 replace Y : St No w0 [] w0 := St.init w0
 refine aa fun K1 hK1 => wla Z rfl fun a Z => wla Z rfl fun a Z => wla Z rfl fun a Z => ab (hK1 _ _ <| ah fun K2 hK2 => ?_)
 refine aa fun K3 hK3 => wlm Z rfl fun a Z => wlv Z ((v_lt rfl rfl).asb (b' := false) (by exact decide_eq_false om)) fun a Z => wlm Z rfl fun a Z => wly Z (ae rfl) fun a Z => wly Z (ae rfl) fun a Z => wly Z (aZ rfl rfl (runUnderlying9 _)) fun a Z => wly Z ((v_gt rfl rfl).asb (b' := false) (by exact decide_eq_false om)) fun a Z => wlv Z (au rfl rfl) fun a Z => ab (hK3 _ _ ?_)
 replace Z := Z.p6 0 1 4 5 6 18 rfl
 refine aG Z rfl ?_
 refine ap <| hK2 _ _ <| aa fun K4 hK4 => wla Z rfl fun a Z => ab (hK4 _ _ <| ah fun K5 hK5 => ?_)
 refine aa fun K6 hK6 => wlm Z rfl fun a Z => ab (hK6 _ _ <| aq ?_)
 refine aT (fun m a w => ∃ (i : Nat) (z : Nat), m = 9 - i ∧ (i ≤ 9) ∧ (wI 9 0 0 (s.drop p) = wI (9 - i) i z (s.drop (p + i))) ∧ (z < 2 ^ (7 * i)) ∧ Fr 67 [(0, sv s), (1, iv (p : Int)), (7, .int .u64 (z : Int)), (19, iv (i : Int))] [] a ∧ St No w0 [] w) _ ⟨0, 0, rfl, de, rfl, de, Z.pick [0, 1, 7, 19], Y.select [] de⟩ ?_
 rintro _ a w1 ⟨i, z, rfl, hi, hw, hz, Z, Y⟩
 refine aa fun K7 hK7 => wlv Z (v_lt rfl rfl) fun a Z => ab (hK7 _ _ <| ah fun K8 hK8 => ?_)
 refine ax Z rfl (fun hc1 => ?_) (fun hc1 => ?_)
 ·rw [hc1] at Z
  try simp only [qz] at hc1
  refine ap <| hK8 _ _ <| ah fun K9 hK9 => aq <| aa fun K10 hK10 => wlm Z rfl fun a Z => wla Z rfl fun a Z => ab (hK10 _ _ <| ah fun K11 hK11 => ?_)
  refine aa fun K12 hK12 => wlm Z rfl fun a Z => wlm Z rfl fun a Z => wlv Z (aV rfl rfl ⟨om, om⟩) fun a Z => wlm Z rfl fun a Z => wlv Z (aZ rfl rfl (runUnderlying9 _)) fun a Z => wlv Z (v_ge rfl rfl) fun a Z => ab (hK12 _ _ ?_)
  replace Z := Z.p6 0 1 7 19 8 27 rfl
  refine ax Z rfl (fun hc2 => ?_) (fun hc2 => ?_)
  ·rw [hc2] at Z
   try simp only [qz] at hc2
   have hwn : wI 9 0 0 (s.drop p) = none := by rw [hw, List.drop_eq_nil_of_le om]; exact pH
   refine aM <| hK5 _ _ <| aa fun K13 hK13 => wla Z rfl fun a Z => wla Z rfl fun a Z => wla Z rfl fun a Z => ab (hK13 _ _ ?_)
   replace Z := Z.p3 4 5 6 rfl
   refine ao ?_
   refine al Z results71 (ac rfl (ac rfl (ac rfl ag))) ?_
   exact ⟨(eo hwn).symm, Y.ext⟩
  rw [hc2] at Z
  try simp only [qz] at hc2
  have hpi : p + i < s.length := by omega
  have hm8 : (s.getD (p + i) 0).toNat % 128 < 128 := Nat.mod_lt _ de
  have hzl := pW hz hm8
  have hz6 := z_63 (i := i) om hzl
  refine ap <| hK11 _ _ <| aa fun K14 hK14 => wlm Z rfl fun a Z => wlm Z rfl fun a Z => wlm Z rfl fun a Z => wlv Z (aV rfl rfl ⟨om, om⟩) fun a Z => wlv Z (fG (k := (p + i)) rfl rfl (runUnderlying9 _) om om) fun a Z => wla Z rfl fun a Z => ab (hK14 _ _ ?_)
  replace Z := Z.p6 0 1 7 19 8 9 rfl
  refine aa fun K15 hK15 => wlm Z rfl fun a Z => wlm Z rfl fun a Z => wlv Z (pU (a := s.getD (p + i) 0) (b := (127 : UInt8)) rfl rfl) fun a Z => wlv Z ((ml rfl kr underlying114).asi (m' := (((s.getD (p + i) 0).toNat % 128 : Nat) : Int)) (by rw [y127])) fun a Z => wlm Z rfl fun a Z => wlv Z ((c8 rfl rfl ⟨om, om⟩).asi (m' := ((7 * i : Nat) : Int)) om) fun a Z => wlv Z ((oo (m := (s.getD (p + i) 0).toNat % 128) (n := 7 * i) om rfl rfl).asi (m' := (((s.getD (p + i) 0).toNat % 128 * 2 ^ (7 * i) : Nat) : Int)) (by rw [Nat.mod_eq_of_lt om])) fun a Z => wlv Z (v_uor (m := z) (n := (s.getD (p + i) 0).toNat % 128) (k := 7 * i) hz om rfl rfl) fun a Z => wla Z rfl fun a Z => ab (hK15 _ _ ?_)
  replace Z := Z.p6 0 1 19 8 9 7 rfl
  refine ah fun K16 hK16 => aa fun K17 hK17 => wlm Z rfl fun a Z => wlv Z (v_ge rfl rfl) fun a Z => ab (hK17 _ _ ?_)
  refine ax Z rfl (fun hc3 => ?_) (fun hc3 => ?_)
  ·rw [hc3] at Z
   try simp only [qz] at hc3
   refine aM <| hK9 _ _ <| ar <| wlv Z (aV rfl rfl ⟨om, om⟩) fun a Z => wlm Z rfl fun a Z => ab ?_
   refine ⟨_, ?_, i + 1, (z + (s.getD (p + i) 0).toNat % 128 * 2 ^ (7 * i)), rfl, om, (by rw [hw]; exact oG om hpi om), hzl, Z.pick [0, 1, 7, 19], Y.select [] de⟩
   omega
  rw [hc3] at Z
  try simp only [qz] at hc3
  refine ap <| hK16 _ _ <| aa fun K18 hK18 => wlm Z rfl fun a Z => wlv Z ((nF (m := (z + (s.getD (p + i) 0).toNat % 128 * 2 ^ (7 * i))) (n := 1) de rfl rfl).asi (m' := (((z + (s.getD (p + i) 0).toNat % 128 * 2 ^ (7 * i)) / 2 : Nat) : Int)) rfl) fun a Z => wlv Z (iw (n := (z + (s.getD (p + i) 0).toNat % 128 * 2 ^ (7 * i)) / 2) om rfl kr underlying3) fun a Z => wlm Z rfl fun a Z => wlv Z ((mS (m := (z + (s.getD (p + i) 0).toNat % 128 * 2 ^ (7 * i))) (k := 1) om de rfl rfl).asi (m' := (((z + (s.getD (p + i) 0).toNat % 128 * 2 ^ (7 * i)) % 2 : Nat) : Int)) rfl) fun a Z => wlv Z (iw (n := (z + (s.getD (p + i) 0).toNat % 128 * 2 ^ (7 * i)) % 2) om rfl kr underlying3) fun a Z => wlv Z (j0 rfl om om) fun a Z => wlv Z (v_ixz (z := (z + (s.getD (p + i) 0).toNat % 128 * 2 ^ (7 * i))) om rfl rfl) fun a Z => wla Z rfl fun a Z => ?_
  refine ab (hK18 _ _ ?_)
  replace Z := Z.p7 0 1 19 8 9 7 10 rfl
  refine ah fun K19 hK19 => aa fun K20 hK20 => wlm Z rfl fun a Z => wlv Z (v_eq rfl rfl) fun a Z => wlm Z rfl fun a Z => ?_
  rcases Bool.eq_false_or_eq_true (decide (((s.getD (p + i) 0).toNat : Int) = 0)) with hb4 | hb4
  ·rw [hb4] at Z
   try simp only [qz] at hb4
   refine wly Z (ae rfl) fun a Z => wly Z (v_gt rfl rfl) fun a Z => wlv Z (aA rfl rfl) fun a Z => wlm Z rfl fun a Z => ?_
   rcases Bool.eq_false_or_eq_true (decide (0 < (i : Int))) with hb5 | hb5
   ·rw [hb5] at Z
    try simp only [qz] at hb5
    have hwn : wI 9 0 0 (s.drop p) = none := by rw [hw]; exact kw om hpi om (.inl ⟨om, om⟩)
    refine wln Z fun a Z => wln Z fun a Z => wlv Z (aA rfl rfl) fun a Z => ab (hK20 _ _ ?_)
    replace Z := Z.p7 0 1 19 8 7 10 60 rfl
    refine aD Z rfl ?_
    refine aM <| hK5 _ _ <| aa fun K21 hK21 => wla Z rfl fun a Z => wla Z rfl fun a Z => wla Z rfl fun a Z => ab (hK21 _ _ ?_)
    replace Z := Z.p3 4 5 6 rfl
    refine ao ?_
    refine al Z results71 (ac rfl (ac rfl (ac rfl ag))) ?_
    exact ⟨(eo hwn).symm, Y.ext⟩
   rw [hb5] at Z
   try simp only [qz] at hb5
   have hng : ¬ ((s.getD (p + i) 0).toNat = 0 ∧ 0 < i) := by omega
   refine wly Z (ae rfl) fun a Z => wly Z (v_lt rfl rfl) fun a Z => wlv Z (au rfl rfl) fun a Z => ab (hK20 _ _ ?_)
   replace Z := Z.p7 0 1 19 8 7 10 60 rfl
   refine ax Z rfl (fun hc6 => ?_) (fun hc6 => ?_)
   ·rw [hc6] at Z
    try simp only [qz] at hc6
    have hwn : wI 9 0 0 (s.drop p) = none := by rw [hw]; exact kw om hpi om (.inr hc6)
    refine aM <| hK5 _ _ <| aa fun K22 hK22 => wla Z rfl fun a Z => wla Z rfl fun a Z => wla Z rfl fun a Z => ab (hK22 _ _ ?_)
    replace Z := Z.p3 4 5 6 rfl
    refine ao ?_
    refine al Z results71 (ac rfl (ac rfl (ac rfl ag))) ?_
    exact ⟨(eo hwn).symm, Y.ext⟩
   rw [hc6] at Z
   try simp only [qz] at hc6
   have hwg := hw.trans (lB om hpi om om hc6)
   refine ap <| hK19 _ _ <| aa fun K23 hK23 => wlm Z rfl fun a Z => wlm Z rfl fun a Z => wlm Z rfl fun a Z => wlv Z (aV rfl rfl ⟨om, om⟩) fun a Z => wlv Z (aV rfl rfl ⟨om, om⟩) fun a Z => wla Z rfl fun a Z => wla Z rfl fun a Z => wla Z rfl fun a Z => ab (hK23 _ _ ?_)
   replace Z := Z.p7 0 1 19 7 4 5 6 rfl
   refine ao ?_
   refine al Z results71 (ac rfl (ac rfl (ac rfl ag))) ?_
   exact ⟨((kd hp hwg).trans (by simp only [retv]; congr 3; all_goals omega)).symm, Y.ext⟩
  rw [hb4] at Z
  try simp only [qz] at hb4
  refine wln Z fun a Z => wln Z fun a Z => wlv Z (au rfl rfl) fun a Z => wlm Z rfl fun a Z => wly Z (ae rfl) fun a Z => wly Z (v_lt rfl rfl) fun a Z => wlv Z (au rfl rfl) fun a Z => ab (hK20 _ _ ?_)
  replace Z := Z.p7 0 1 19 8 7 10 60 rfl
  refine ax Z rfl (fun hc7 => ?_) (fun hc7 => ?_)
  ·rw [hc7] at Z
   try simp only [qz] at hc7
   have hwn : wI 9 0 0 (s.drop p) = none := by rw [hw]; exact kw om hpi om (.inr hc7)
   refine aM <| hK5 _ _ <| aa fun K24 hK24 => wla Z rfl fun a Z => wla Z rfl fun a Z => wla Z rfl fun a Z => ab (hK24 _ _ ?_)
   replace Z := Z.p3 4 5 6 rfl
   refine ao ?_
   refine al Z results71 (ac rfl (ac rfl (ac rfl ag))) ?_
   exact ⟨(eo hwn).symm, Y.ext⟩
  rw [hc7] at Z
  try simp only [qz] at hc7
  have hwg := hw.trans (lB om hpi om om hc7)
  refine ap <| hK19 _ _ <| aa fun K25 hK25 => wlm Z rfl fun a Z => wlm Z rfl fun a Z => wlm Z rfl fun a Z => wlv Z (aV rfl rfl ⟨om, om⟩) fun a Z => wlv Z (aV rfl rfl ⟨om, om⟩) fun a Z => wla Z rfl fun a Z => wla Z rfl fun a Z => wla Z rfl fun a Z => ab (hK25 _ _ ?_)
  replace Z := Z.p7 0 1 19 7 4 5 6 rfl
  refine ao ?_
  refine al Z results71 (ac rfl (ac rfl (ac rfl ag))) ?_
  exact ⟨((kd hp hwg).trans (by simp only [retv]; congr 3; all_goals omega)).symm, Y.ext⟩
 rw [hc1] at Z
 try simp only [qz] at hc1
 have hwn : wI 9 0 0 (s.drop p) = none := by rw [hw, show 9 - i = 0 from by omega]; rfl
 refine aM <| hK5 _ _ <| aa fun K26 hK26 => wla Z rfl fun a Z => wla Z rfl fun a Z => wla Z rfl fun a Z => ab (hK26 _ _ <| ao ?_)
 refine al Z results71 (ac rfl (ac rfl (ac rfl ag))) ?_
 exact ⟨(eo hwn).symm, Y.ext⟩
theorem dX {r q : By} {n : Int} (h : rdI r = some (n, q)) : q <:+ r := by
 obtain ⟨_, rfl⟩ := km h; exact List.suffix_append _ _
theorem m8 {r x q : By} (h : rdS r = some (x, q)) : ∃ n r2, rdI r = some (n, r2) ∧ 0 ≤ n ∧ n ≤ 65536 ∧ n ≤ (r2.length : Int) ∧ x = r2.take n.toNat ∧ q = r2.drop n.toNat ∧ q.length = r2.length - n.toNat := by
 unfold rdS at h
 cases hq : rdI r with
 | none => rw [hq] at h; cases h
 | some p =>
  obtain ⟨n, t⟩ := p
  rw [hq] at h
  simp only at h
  split at h
  ·rename_i hc
   cases h
   exact ⟨n, t, rfl, hc.1, hc.2.1, hc.2.2, rfl, rfl, by rw [List.length_drop]⟩
  ·cases h
theorem qa {r : By} (h : rdS r = none) : rdI r = none ∨ ∃ n r2, rdI r = some (n, r2) ∧ (n < 0 ∨ 65536 < n ∨ (r2.length : Int) < n) := by
 unfold rdS at h
 cases hq : rdI r with
 | none => exact .inl rfl
 | some p =>
  obtain ⟨n, t⟩ := p
  rw [hq] at h
  simp only at h
  split at h
  ·cases h
  ·rename_i hc
   exact .inr ⟨n, t, rfl, by omega⟩
theorem oT {r x q : By} (h : rdS r = some (x, q)) : q <:+ r := by
 obtain ⟨n, r2, hi, _, _, _, _, rfl, _⟩ := m8 h
 exact (List.drop_suffix _ _).trans (dX hi)
theorem oZ {s r2 q x : By} {n : Int} (hs : r2 <:+ s) (hx : x = r2.take n.toNat) (h0 : 0 ≤ n) (hn : n ≤ (r2.length : Int)) (hq : q.length = r2.length - n.toNat) : x = (s.drop (s.length - r2.length)).take (s.length - q.length - (s.length - r2.length)) := by
 have := hs.length_le
 rw [← List.suffix_iff_eq_drop.1 hs, hx]
 congr 1
 omega
theorem iQ (s : By) (w0 : World) (hs : s.length ≤ 65536) :
  Ret Tryz.prog 66 #[sv s] w0 fun v w => v = .tuple #[sv (putS s), iv 0] ∧ Ext No w0 w := by
 have hpl := bA (s.length : Int)
 refine aC func66 rfl ntmps66 (lb rfl) fun a Z => ?_
 replace Z := Z.p1 0 rfl
 replace Y : St No w0 [] w0 := St.init w0
 refine aa fun K1 hK1 => wla Z rfl fun a Z => wla Z rfl fun a Z => ab (hK1 _ _ <| ah fun K2 hK2 => ?_)
 refine aa fun K3 hK3 => wlm Z rfl fun a Z => wlv Z (aZ rfl rfl (runUnderlying9 _)) fun a Z => wlv Z ((v_gt rfl rfl).asb (b' := false) (by exact decide_eq_false om)) fun a Z => ab (hK3 _ _ <| aG Z rfl ?_)
 refine ap <| hK2 _ _ <| aa fun K4 hK4 => wlm Z rfl fun a Z => wlv Z (aZ rfl rfl (runUnderlying9 _)) fun a Z => am Z Y de call96 rfl (ip (s.length : Int) _ (by unfold small; omega)) ?_
 clear Z Y
 intro a w1 Z Y
 refine wlm Z rfl fun a Z => wlv Z (ak rfl rfl) fun a Z => wlv Z (ak rfl rfl) fun a Z => wla Z rfl fun a Z => wla Z rfl fun a Z => ab (hK4 _ _ ?_)
 replace Z := Z.p4 0 2 3 4 rfl
 refine aa fun K5 hK5 => wlm Z rfl fun a Z => wlm Z rfl fun a Z => wlv Z (cM rfl rfl (by (try simp only [List.length_append]); omega)) fun a Z => wla Z rfl fun a Z => wla Z rfl fun a Z => ab (hK5 _ _ <| ao ?_)
 refine al Z results66 (ac rfl (ac rfl ag)) ?_
 exact ⟨by rfl, Y.ext⟩
theorem ez {s r r2 : By} {n z : Int} {w0 : World} (hz : z = ((s.length - r.length : Nat) : Int)) (hsf : r <:+ s) (hsl : s.length ≤ 1000000) (hq : rdI r = some (n, r2)) :
  Ret Tryz.prog 71 #[sv s, iv z] w0 fun v w => v = .tuple #[iv n, iv ((s.length - r2.length : Nat) : Int), iv 0] ∧ Ext No w0 w := by
 subst hz
 have := kb s (s.length - r.length) w0 om hsl
 unfold intV at this
 rw [← List.suffix_iff_eq_drop.1 hsf, hq] at this
 exact this
theorem ej {s r : By} {z : Int} {w0 : World} (hz : z = ((s.length - r.length : Nat) : Int)) (hsf : r <:+ s) (hsl : s.length ≤ 1000000) (hq : rdI r = none) :
  Ret Tryz.prog 71 #[sv s, iv z] w0 fun v w => v = .tuple #[iv 0, iv 0, iv 10] ∧ Ext No w0 w := by
 subst hz
 have := kb s (s.length - r.length) w0 om hsl
 unfold intV at this
 rw [← List.suffix_iff_eq_drop.1 hsf, hq] at this
 exact this
theorem mb (s r x q : By) (z : Int) (w0 : World) (hz : z = ((s.length - r.length : Nat) : Int)) (hsf : r <:+ s) (hsl : s.length ≤ 1000000) (hq : rdS r = some (x, q)) :
  Ret Tryz.prog 73 #[sv s, iv z] w0 fun v w => v = .tuple #[sv x, iv ((s.length - q.length : Nat) : Int), iv 0] ∧ Ext No w0 w := by
 obtain ⟨n, r2, hi, h0, h6, hl, hx, -, hql⟩ := m8 hq
 have hsu := hsf.length_le
 have hsf2 := (dX hi).trans hsf
 have hsu2 := hsf2.length_le
 refine aC func73 rfl ntmps73 (lb rfl) fun a Z => ?_
 replace Z := Z.p2 0 1 rfl
 replace Y : St No w0 [] w0 := St.init w0
 refine aa fun K1 hK1 => wla Z rfl fun a Z => wla Z rfl fun a Z => wla Z rfl fun a Z => ab (hK1 _ _ <| aa fun K2 hK2 => ?_)
 refine wlm Z rfl fun a Z => wlm Z rfl fun a Z => am Z Y de call71 rfl (ez hz hsf hsl hi) ?_
 clear Z Y
 intro a w1 Z Y
 refine wlm Z rfl fun a Z => wlv Z (ak rfl rfl) fun a Z => wlv Z (ak rfl rfl) fun a Z => wlv Z (ak rfl rfl) fun a Z => wla Z rfl fun a Z => wla Z rfl fun a Z => wla Z rfl fun a Z => ab (hK2 _ _ ?_)
 replace Z := Z.p7 0 4 5 6 7 8 9 rfl
 refine ah fun K3 hK3 => aa fun K4 hK4 => wlm Z rfl fun a Z => wlv Z ((v_ne rfl rfl).asb (b' := false) rfl) fun a Z => ab (hK4 _ _ <| aG Z rfl ?_)
 refine ap <| hK3 _ _ <| ah fun K5 hK5 => aa fun K6 hK6 => wlm Z rfl fun a Z => wlv Z ((v_lt rfl rfl).asb (b' := false) (by exact decide_eq_false om)) fun a Z => wlm Z rfl fun a Z => wly Z (ae rfl) fun a Z => wly Z ((v_gt rfl rfl).asb (b' := false) (by exact decide_eq_false om)) fun a Z => wlv Z (au rfl rfl) fun a Z => wlm Z rfl fun a Z => wly Z (ae rfl) fun a Z => wly Z (ae rfl) fun a Z => wly Z (aZ rfl rfl (runUnderlying9 _)) fun a Z => wly Z (ae rfl) fun a Z => wly Z (bq rfl rfl ⟨om, om⟩) fun a Z => wly Z ((v_gt rfl rfl).asb (b' := false) (by exact decide_eq_false om)) fun a Z => wlv Z (au rfl rfl) fun a Z => ab (hK6 _ _ ?_)
 replace Z := Z.p7 0 4 5 6 7 8 33 rfl
 refine aG Z rfl ?_
 refine ap <| hK5 _ _ <| aa fun K7 hK7 => wlm Z rfl fun a Z => wlm Z rfl fun a Z => wlm Z rfl fun a Z => wlm Z rfl fun a Z => wlv Z ((aV rfl rfl ⟨om, om⟩).asi (m' := ((s.length - q.length : Nat) : Int)) om) fun a Z => wlv Z ((jo (xs := s) (l := s.length - r2.length) (h := s.length - q.length) rfl rfl rfl underlying9 (.inr ⟨.i64, rfl⟩) (.inr ⟨.i64, rfl⟩) om om).as (v' := sv x) (by rw [← oZ hsf2 hx h0 hl hql])) fun a Z => wlm Z rfl fun a Z => wlm Z rfl fun a Z => wlv Z ((aV rfl rfl ⟨om, om⟩).asi (m' := ((s.length - q.length : Nat) : Int)) om) fun a Z => wla Z rfl fun a Z => wla Z rfl fun a Z => wla Z rfl fun a Z => ab (hK7 _ _ ?_)
 replace Z := Z.p3 4 5 6 rfl
 refine ao ?_
 refine al Z results73 (ac rfl (ac rfl (ac rfl ag))) ?_
 exact ⟨by rfl, Y.ext⟩
theorem j1 (s r r2 : By) (n z : Int) (w0 : World) (hz : z = ((s.length - r.length : Nat) : Int)) (hsf : r <:+ s) (hsl : s.length ≤ 1000000) (hi : rdI r = some (n, r2)) (hb : n < 0 ∨ 65536 < n ∨ (r2.length : Int) < n) :
  Ret Tryz.prog 73 #[sv s, iv z] w0 fun v w => v = .tuple #[sv ([] : By), iv 0, iv 10] ∧ Ext No w0 w := by
 have hsu := hsf.length_le
 have hsf2 := (dX hi).trans hsf
 have hsu2 := hsf2.length_le
 refine aC func73 rfl ntmps73 (lb rfl) fun a Z => ?_
 replace Z := Z.p2 0 1 rfl
 replace Y : St No w0 [] w0 := St.init w0
 refine aa fun K1 hK1 => wla Z rfl fun a Z => wla Z rfl fun a Z => wla Z rfl fun a Z => ab (hK1 _ _ <| aa fun K2 hK2 => ?_)
 refine wlm Z rfl fun a Z => wlm Z rfl fun a Z => am Z Y de call71 rfl (ez hz hsf hsl hi) ?_
 clear Z Y
 intro a w1 Z Y
 refine wlm Z rfl fun a Z => wlv Z (ak rfl rfl) fun a Z => wlv Z (ak rfl rfl) fun a Z => wlv Z (ak rfl rfl) fun a Z => wla Z rfl fun a Z => wla Z rfl fun a Z => wla Z rfl fun a Z => ab (hK2 _ _ ?_)
 replace Z := Z.p7 0 4 5 6 7 8 9 rfl
 refine ah fun K3 hK3 => aa fun K4 hK4 => wlm Z rfl fun a Z => wlv Z ((v_ne rfl rfl).asb (b' := false) rfl) fun a Z => ab (hK4 _ _ <| aG Z rfl ?_)
 refine ap <| hK3 _ _ <| ah fun K5 hK5 => aa fun K6 hK6 => wlm Z rfl fun a Z => wlv Z (v_lt rfl rfl) fun a Z => wlm Z rfl fun a Z => ?_
 rcases Bool.eq_false_or_eq_true (decide (n < 0)) with hb1 | hb1
 ·rw [hb1] at Z
  try simp only [qz] at hb1
  refine wln Z fun a Z => wln Z fun a Z => wlv Z (aA rfl rfl) fun a Z => wlm Z rfl fun a Z => wln Z fun a Z => wln Z fun a Z => wln Z fun a Z => wln Z fun a Z => wln Z fun a Z => wln Z fun a Z => wlv Z (aA rfl rfl) fun a Z => ?_
  refine ab (hK6 _ _ ?_)
  replace Z := Z.p7 0 4 5 6 7 8 33 rfl
  refine aD Z rfl ?_
  refine aa fun K7 hK7 => wla Z rfl fun a Z => wla Z rfl fun a Z => wla Z rfl fun a Z => ab (hK7 _ _ <| ao ?_)
  refine al Z results73 (ac rfl (ac rfl (ac rfl ag))) ?_
  exact ⟨by rfl, Y.ext⟩
 rw [hb1] at Z
 try simp only [qz] at hb1
 refine wly Z (ae rfl) fun a Z => wly Z (v_gt rfl rfl) fun a Z => wlv Z (au rfl rfl) fun a Z => wlm Z rfl fun a Z => ?_
 rcases Bool.eq_false_or_eq_true (decide (65536 < n)) with hb2 | hb2
 ·rw [hb2] at Z
  try simp only [qz] at hb2
  refine wln Z fun a Z => wln Z fun a Z => wln Z fun a Z => wln Z fun a Z => wln Z fun a Z => wln Z fun a Z => wlv Z (aA rfl rfl) fun a Z => ab (hK6 _ _ ?_)
  replace Z := Z.p7 0 4 5 6 7 8 33 rfl
  refine aD Z rfl ?_
  refine aa fun K8 hK8 => wla Z rfl fun a Z => wla Z rfl fun a Z => wla Z rfl fun a Z => ab (hK8 _ _ <| ao ?_)
  refine al Z results73 (ac rfl (ac rfl (ac rfl ag))) ?_
  exact ⟨by rfl, Y.ext⟩
 rw [hb2] at Z
 try simp only [qz] at hb2
 refine wly Z (ae rfl) fun a Z => wly Z (ae rfl) fun a Z => wly Z (aZ rfl rfl (runUnderlying9 _)) fun a Z => wly Z (ae rfl) fun a Z => wly Z (bq rfl rfl ⟨om, om⟩) fun a Z => wly Z (v_gt rfl rfl) fun a Z => wlv Z (au rfl rfl) fun a Z => ab (hK6 _ _ ?_)
 replace Z := Z.p7 0 4 5 6 7 8 33 rfl
 refine ax Z rfl (fun hc3 => ?_) (fun hc3 => ?_)
 ·rw [hc3] at Z
  try simp only [qz] at hc3
  refine aa fun K9 hK9 => wla Z rfl fun a Z => wla Z rfl fun a Z => wla Z rfl fun a Z => ab (hK9 _ _ <| ao ?_)
  refine al Z results73 (ac rfl (ac rfl (ac rfl ag))) ?_
  exact ⟨by rfl, Y.ext⟩
 rw [hc3] at Z
 try simp only [qz] at hc3
 exfalso; omega
theorem jP (s r : By) (z : Int) (w0 : World) (hz : z = ((s.length - r.length : Nat) : Int)) (hsf : r <:+ s) (hsl : s.length ≤ 1000000) (hi : rdI r = none) :
  Ret Tryz.prog 73 #[sv s, iv z] w0 fun v w => v = .tuple #[sv ([] : By), iv 0, iv 10] ∧ Ext No w0 w := by
 refine aC func73 rfl ntmps73 (lb rfl) fun a Z => ?_
 replace Z := Z.p2 0 1 rfl
 replace Y : St No w0 [] w0 := St.init w0
 refine aa fun K1 hK1 => wla Z rfl fun a Z => wla Z rfl fun a Z => wla Z rfl fun a Z => ab (hK1 _ _ <| aa fun K2 hK2 => ?_)
 refine wlm Z rfl fun a Z => wlm Z rfl fun a Z => am Z Y de call71 rfl (ej hz hsf hsl hi) ?_
 clear Z Y
 intro a w1 Z Y
 refine wlm Z rfl fun a Z => wlv Z (ak rfl rfl) fun a Z => wlv Z (ak rfl rfl) fun a Z => wlv Z (ak rfl rfl) fun a Z => wla Z rfl fun a Z => wla Z rfl fun a Z => wla Z rfl fun a Z => ab (hK2 _ _ ?_)
 replace Z := Z.p7 0 4 5 6 7 8 9 rfl
 refine ah fun K3 hK3 => aa fun K4 hK4 => wlm Z rfl fun a Z => wlv Z ((v_ne rfl rfl).asb (b' := true) rfl) fun a Z => ab (hK4 _ _ <| aD Z rfl ?_)
 refine aa fun K5 hK5 => wlm Z rfl fun a Z => wla Z rfl fun a Z => wla Z rfl fun a Z => wla Z rfl fun a Z => ab (hK5 _ _ <| ao ?_)
 refine al Z results73 (ac rfl (ac rfl (ac rfl ag))) ?_
 exact ⟨by rfl, Y.ext⟩
theorem kT {s r : By} {z : Int} {w0 : World} (hz : z = ((s.length - r.length : Nat) : Int)) (hsf : r <:+ s) (hsl : s.length ≤ 1000000) (hq : rdS r = none) :
  Ret Tryz.prog 73 #[sv s, iv z] w0 fun v w => v = .tuple #[sv ([] : By), iv 0, iv 10] ∧ Ext No w0 w := by
 rcases qa hq with hi | ⟨n, r2, hi, hb⟩
 ·exact jP s r z w0 hz hsf hsl hi
 ·exact j1 s r r2 n z w0 hz hsf hsl hi hb
theorem g6 (s : By) (w0 : World) (hs : s.length ≤ 65536) :
  Ret Tryz.prog 94 #[sv s] w0 fun v w => v = .tuple #[sv (putS s), iv 0] ∧ Ext No w0 w := by
 have hpl := bA (s.length : Int)
 refine aC func94 rfl ntmps94 (lb rfl) fun a Z => ?_
 replace Z := Z.p1 0 rfl
 replace Y : St No w0 [] w0 := St.init w0
 refine aa fun K1 hK1 => wla Z rfl fun a Z => wla Z rfl fun a Z => ab (hK1 _ _ <| ah fun K2 hK2 => ?_)
 refine aa fun K3 hK3 => wlm Z rfl fun a Z => wlv Z (aZ rfl rfl (runUnderlying9 _)) fun a Z => wlv Z ((v_gt rfl rfl).asb (b' := false) (by exact decide_eq_false om)) fun a Z => ab (hK3 _ _ <| aG Z rfl ?_)
 refine ap <| hK2 _ _ <| aa fun K4 hK4 => wlm Z rfl fun a Z => wlv Z (aZ rfl rfl (runUnderlying9 _)) fun a Z => am Z Y de call44 rfl (cw (s.length : Int) _ (by unfold small; omega)) ?_
 clear Z Y
 intro a w1 Z Y
 refine wlm Z rfl fun a Z => wlv Z (ak rfl rfl) fun a Z => wlv Z (ak rfl rfl) fun a Z => wla Z rfl fun a Z => wla Z rfl fun a Z => ab (hK4 _ _ ?_)
 replace Z := Z.p4 0 2 3 4 rfl
 refine aa fun K5 hK5 => wlm Z rfl fun a Z => wlm Z rfl fun a Z => wlv Z (cM rfl rfl (by (try simp only [List.length_append]); omega)) fun a Z => wla Z rfl fun a Z => wla Z rfl fun a Z => ab (hK5 _ _ <| ao ?_)
 refine al Z results94 (ac rfl (ac rfl ag)) ?_
 exact ⟨by rfl, Y.ext⟩
def smalls (l : List Int) : Prop := ∀ n ∈ l, small n
def i64 (n : Int) : Prop := -9223372036854775808 ≤ n ∧ n ≤ 9223372036854775807
def Rec.cells (x : Rec) : List Value := [iv x.t, iv x.kind, iv x.a, iv x.b, sv x.text]
theorem eq {l : List (List Value)} (h : ∀ e ∈ l, ∃ p : Rec, e = p.cells) : ∀ e ∈ l, ∀ u ∈ e, u.oneCell' = true := by
 intro e he u hu
 obtain ⟨p, rfl⟩ := h e he
 simp only [Rec.cells, List.mem_cons, List.not_mem_nil, or_false] at hu
 rcases hu with rfl | rfl | rfl | rfl | rfl <;> rfl
def Rin.cells (y : Rin) : List Value := [iv y.x0, iv y.x1, iv y.x2, iv y.x3, iv y.x4]
def Rin.z : Rin := ⟨0, 0, 0, 0, 0⟩
def Rin.wt (y : Rin) : Prop := i64 y.x0 ∧ i64 y.x1 ∧ i64 y.x2 ∧ i64 y.x3 ∧ i64 y.x4
def prevT (l : List Rec) : Nat → Int
 | 0 => 0
 | k + 1 => (l.getD k Rec.z).t
theorem nU {l : List Rec} {k : Nat} (h : 0 < k) : prevT l k = (l.getD (k - 1) Rec.z).t := by
 cases k with
 | zero => exact absurd h (Nat.lt_irrefl 0)
 | succ k => rfl
theorem Rec.t0 {x : Rec} (h : x.ok = true) : 0 ≤ x.t := by
 simp only [Rec.ok, inB, Bool.and_eq_true, decide_eq_true_eq] at h; omega
theorem fm {l : List Rec} {k : Nat} (h : k < l.length) : l.drop k = l.getD k Rec.z :: l.drop (k + 1) := by
 rw [List.drop_eq_getElem_cons h, List.getD_eq_getElem?_getD, List.getElem?_eq_getElem h]; rfl
section
variable {l : List Rec} {k : Nat} {t : Int}
theorem np (hk : k < l.length) (ho : (l.getD k Rec.z).ok = true) (ht : t ≤ (l.getD k Rec.z).t) : bH t (l.drop k) = bH (prevT l (k + 1)) (l.drop (k + 1)) := by
 rw [fm hk, bH, ho, decide_eq_true ht]; rfl
theorem px (hk : k < l.length) (ho : (l.getD k Rec.z).ok = false) : bH t (l.drop k) = false := by rw [fm hk, bH, ho]; rfl
theorem pr (hk : k < l.length) (ht : (l.getD k Rec.z).t < t) : bH t (l.drop k) = false := by rw [fm hk, bH, decide_eq_false om, Bool.and_false]; rfl
end
def eB (x : Rec) : By := if x.ok = true then x.enc else []
def eE (x : Rec) : Int := if x.ok = true then 0 else 110
theorem kW (x : Rec) : (eB x).length ≤ 300 := by
 unfold eB
 split
 ·rename_i h
  have h1 := x.enc_len
  have h2 := Rec.len h
  omega
 ·simp
def decR (acc : List Int) (m : Nat) (r : By) : Option Rec := match intsR m r with
 | none => none
 | some (l, t) => tailR (acc ++ l) t
def decX (s : By) : Rec := (decRec s).getD Rec.z
def decE (s : By) : Int := if (decRec s).isSome = true then 0 else 110
section
variable {acc : List Int} {m : Nat} {r q x s : By} {n : Int}
theorem ny : decRec s = decR [] 4 s := by
 unfold decRec decR
 cases intsR 4 s <;> rfl
theorem fX (h : rdI r = some (n, q)) : decR acc (m + 1) r = decR (acc ++ [n]) m q := by
 unfold decR
 rw [nH h]
 cases intsR m q with
 | none => rfl
 | some p => simp
theorem fb (h : rdI r = none) : decR acc (m + 1) r = none := by unfold decR; rw [lP h]
theorem nq : decR acc 0 r = tailR acc r := by unfold decR; simp [intsR]
theorem mg (h : rdS r = none) : tailR acc r = none := by unfold tailR; rw [h]
theorem nh (h : rdS r = some (x, q)) : tailR acc r = shutR acc x q := by unfold tailR; rw [h]
theorem lU (h1 : q = []) (h2 : (recN acc x).ok = true) : shutR acc x q = some (recN acc x) := if_pos ⟨h1, h2⟩
theorem ma (h : q ≠ []) : shutR acc x q = none := if_neg fun hh => h hh.1
theorem lM (h : (recN acc x).ok = false) : shutR acc x q = none := if_neg fun hh => by rw [h] at hh; cases hh.2
end
def codesB (l : List Rec) : List By := l.map eB
theorem cQ {l : List Rec} (h : ∀ x ∈ l, x.ok = true) : codesB l = codesR l := List.map_congr_left fun x hx => if_pos (h x hx)
theorem eP (l : List Rec) : ∀ s ∈ codesB l, s.length ≤ 300 := by
 intro s hs
 obtain ⟨x, _, rfl⟩ := List.mem_map.1 hs
 exact kW x
theorem cg (l : List Rec) : (codesB l).length = l.length := List.length_map ..
theorem jJ (l : List Rec) (x : Rec) : codesB (l ++ [x]) = codesB l ++ [eB x] := by simp [codesB]
def addOk (o : Int) (l : List Rec) (x : Rec) : Bool := logOk o l && logOk o (l ++ [x])
theorem eh {P : Program} {w : World} {d : Nat} {xs ys : Array Value} {f : Field} {fs : List Field} {a b : Value} {r r' : Bool} (hn : f.name ≠ "_") (h1 : (part f.type xs f.offset).run P w = .ok a w) (h2 : (part f.type ys f.offset).run P w = .ok b w)
  (h3 : (Op.equalIn d f.type a b).run P w = .ok r w) (h4 : (Op.eqFields d xs ys fs).run P w = .ok r' w) : (Op.eqFields d xs ys (f :: fs)).run P w = .ok (r && r') w := by
 simp only [Op.eqFields, hn, ne_eq, not_false_eq_true, if_true, Sem.run_bind, h1, h2, h3, Result.andThen_ok]
 cases r
 ·simp
 ·simpa using h4
theorem oS {P : Program} {w : World} {d : Nat} {xs ys : Array Value} : (Op.eqFields d xs ys []).run P w = .ok true w := by simp [Op.eqFields]
theorem eqI {w : World} (d : Nat) (a b : Int) : (Op.equalIn (d + 1) 3 (iv a) (iv b)).run Tryz.prog w = .ok (decide (a = b)) w := by
 rw [run_equalIn_int w d 3 .i64 .i64 a b underlying3]; congr 1
theorem eqS {w : World} (d : Nat) (a b : By) : (Op.equalIn (d + 1) 9 (sv a) (sv b)).run Tryz.prog w = .ok (decide (a = b)) w := by
 unfold sv
 rw [run_equalIn_string w d 9 _ _ underlying9, ByteArray.toList_mk, ByteArray.toList_mk]; congr 1
 rw [Bool.eq_iff_iff]; simp
theorem eqRec (a0 a1 a2 a3 : Int) (a4 : By) (c0 c1 c2 c3 : Int) (c4 : By) (w : World) : (Op.equal 48 (.agg #[iv a0, iv a1, iv a2, iv a3, sv a4]) (.agg #[iv c0, iv c1, iv c2, iv c3, sv c4])).run Tryz.prog w = .ok (decide (Rec.mk a0 a1 a2 a3 a4 = Rec.mk c0 c1 c2 c3 c4)) w := by
 have e : decide (Rec.mk a0 a1 a2 a3 a4 = Rec.mk c0 c1 c2 c3 c4) = (decide (a0 = c0) && (decide (a1 = c1) && (decide (a2 = c2) && (decide (a3 = c3) && (decide (a4 = c4) && true))))) := by
  rw [Bool.eq_iff_iff]; simp [and_assoc]
 rw [e]
 unfold Op.equal Op.maxDepth
 obtain ⟨dd, hd⟩ : ∃ dd, 10000 = dd + 1 + 1 + 1 := ⟨9997, rfl⟩
 rw [hd, run_equalIn_struct w (dd + 1 + 1) 48 _ _ kr kr]
 simp only [Program.fieldsOf, underlying48]
 refine eh (a := iv a0) (b := iv c0) (r := decide (a0 = c0)) de (by simp [part, isAgg3, sv]) (by simp [part, isAgg3, sv]) (eqI _ _ _) ?_
 refine eh (a := iv a1) (b := iv c1) (r := decide (a1 = c1)) de (by simp [part, isAgg3, sv]) (by simp [part, isAgg3, sv]) (eqI _ _ _) ?_
 refine eh (a := iv a2) (b := iv c2) (r := decide (a2 = c2)) de (by simp [part, isAgg3, sv]) (by simp [part, isAgg3, sv]) (eqI _ _ _) ?_
 refine eh (a := iv a3) (b := iv c3) (r := decide (a3 = c3)) de (by simp [part, isAgg3, sv]) (by simp [part, isAgg3, sv]) (eqI _ _ _) ?_
 refine eh (a := sv a4) (b := sv c4) (r := decide (a4 = c4)) de (by simp [part, isAgg9, sv]) (by simp [part, isAgg9, sv]) (eqS _ _ _) ?_
 exact oS
theorem bT (n m : Int) (w0 : World) (hn : -9223372036854775808 ≤ n ∧ n ≤ 9223372036854775807) (hm : 0 < m ∧ m ≤ 9223372036854775807) :
  Ret Tryz.prog 38 #[iv n, iv m] w0 fun v w => v = iv (pickI n m) ∧ Ext No w0 w := by
 refine aC func38 rfl ntmps38 (lb rfl) fun a Z => ?_
 replace Z := Z.p2 0 1 rfl
 replace Y : St No w0 [] w0 := St.init w0
 refine aa fun K1 hK1 => wla Z rfl fun a Z => ab (hK1 _ _ <| ah fun K2 hK2 => ?_)
 refine aa fun K3 hK3 => wlm Z rfl fun a Z => wlv Z (v_lt rfl rfl) fun a Z => ab (hK3 _ _ ?_)
 refine ax Z rfl (fun hc1 => ?_) (fun hc1 => ?_)
 ·rw [hc1] at Z
  try simp only [qz] at hc1
  refine ar <| wlm Z rfl fun a Z => wlv Z (aV rfl rfl ⟨om, om⟩) fun a Z => wlv Z (j0 rfl om om) fun a Z => wla Z rfl fun a Z => ab <| hK2 _ _ <| aa fun K4 hK4 => wlm Z rfl fun a Z => wlm Z rfl fun a Z => wlv Z (io rfl rfl om om) fun a Z => wla Z rfl fun a Z => ab (hK4 _ _ ?_)
  replace Z := Z.p1 4 rfl
  refine ao ?_
  refine al Z results38 (ac rfl ag) ?_
  exact ⟨by simp only [retv, pickI]; simp [hc1], Y.ext⟩
 rw [hc1] at Z
 try simp only [qz] at hc1
 refine ap <| hK2 _ _ <| aa fun K5 hK5 => wlm Z rfl fun a Z => wlm Z rfl fun a Z => wlv Z (io rfl rfl om om) fun a Z => wla Z rfl fun a Z => ab (hK5 _ _ ?_)
 replace Z := Z.p1 4 rfl
 refine ao ?_
 refine al Z results38 (ac rfl ag) ?_
 exact ⟨by simp only [retv, pickI]; simp [hc1], Y.ext⟩
theorem gP (n m : Int) (w0 : World) (hn : -9223372036854775808 ≤ n ∧ n ≤ 9223372036854775807) (hm : 0 < m ∧ m ≤ 9223372036854775807) :
  Ret Tryz.prog 17 #[iv n, iv m] w0 fun v w => v = iv (pickI n m) ∧ Ext No w0 w := by
 refine aC func17 rfl ntmps17 (lb rfl) fun a Z => ?_
 replace Z := Z.p2 0 1 rfl
 replace Y : St No w0 [] w0 := St.init w0
 refine aa fun K1 hK1 => wla Z rfl fun a Z => ab (hK1 _ _ <| ah fun K2 hK2 => ?_)
 refine aa fun K3 hK3 => wlm Z rfl fun a Z => wlv Z (v_lt rfl rfl) fun a Z => ab (hK3 _ _ ?_)
 refine ax Z rfl (fun hc1 => ?_) (fun hc1 => ?_)
 ·rw [hc1] at Z
  try simp only [qz] at hc1
  refine ar <| wlm Z rfl fun a Z => wlv Z (aV rfl rfl ⟨om, om⟩) fun a Z => wlv Z (j0 rfl om om) fun a Z => wla Z rfl fun a Z => ab <| hK2 _ _ <| aa fun K4 hK4 => wlm Z rfl fun a Z => wlm Z rfl fun a Z => wlv Z (io rfl rfl om om) fun a Z => wla Z rfl fun a Z => ab (hK4 _ _ ?_)
  replace Z := Z.p1 4 rfl
  refine ao ?_
  refine al Z results17 (ac rfl ag) ?_
  exact ⟨by simp only [retv, pickI]; simp [hc1], Y.ext⟩
 rw [hc1] at Z
 try simp only [qz] at hc1
 refine ap <| hK2 _ _ <| aa fun K5 hK5 => wlm Z rfl fun a Z => wlm Z rfl fun a Z => wlv Z (io rfl rfl om om) fun a Z => wla Z rfl fun a Z => ab (hK5 _ _ ?_)
 replace Z := Z.p1 4 rfl
 refine ao ?_
 refine al Z results17 (ac rfl ag) ?_
 exact ⟨by simp only [retv, pickI]; simp [hc1], Y.ext⟩
theorem fp (x : Rec) (w0 : World) :
  Ret Tryz.prog 79 #[.agg #[iv x.t, iv x.kind, iv x.a, iv x.b, sv x.text]] w0 fun v w => v = .bool x.ok ∧ Ext No w0 w := by
 refine aC func79 rfl ntmps79 (lb rfl) fun a Z => ?_
 replace Z := Z.p1 0 rfl
 replace Y : St No w0 [] w0 := St.init w0
 refine aa fun K1 hK1 => bh Z Y de rfl (cs := [iv x.t, iv x.kind, iv x.a, iv x.b, sv x.text]) rfl ?_
 clear Z Y
 intro a w1 Z Y
 refine wla Z rfl fun a Z => ab (hK1 _ _ <| aa fun K2 hK2 => ?_)
 refine wlv Z (ai (v := pt w0.hz) rfl kr) fun a Z => wlv Z (ld Y 0 rfl rfl (isAgg3 _) rfl) fun a Z => wlv Z (v_ge rfl rfl) fun a Z => wlm Z rfl fun a Z => ?_
 refine cZ (N := 47) (df := []) 4 [(10, .bool ((decide (0 ≤ x.t)) && (decide (x.t ≤ 10000000)))), (0, .agg #[iv x.t, iv x.kind, iv x.a, iv x.b, sv x.text]), (1, pt w0.hz), (2, .bool false)] ?_ (fun hj => ?_)
 rotate_left
 ·rcases Bool.eq_false_or_eq_true (decide (0 ≤ x.t)) with hb1 | hb1
  ·rw [hb1] at Z
   have hb1b := hb1
   try simp only [qz, Bool.and_eq_true, Bool.or_eq_true, Bool.and_eq_false_iff, Bool.or_eq_false_iff] at hb1
   refine wly Z (ai (v := pt w0.hz) rfl kr) fun a Z => wly Z (ld Y 0 rfl rfl (isAgg3 _) rfl) fun a Z => wly Z (v_le rfl rfl) fun a Z => wlv Z (aA rfl rfl) fun a Z => ?_
   refine hj _ ?_
   try rw [hb1b]
   exact Z.pick [10, 0, 1, 2]
  rw [hb1] at Z
  have hb1b := hb1
  try simp only [qz, Bool.and_eq_true, Bool.or_eq_true, Bool.and_eq_false_iff, Bool.or_eq_false_iff] at hb1
  refine wln Z fun a Z => wln Z fun a Z => wln Z fun a Z => wlv Z (au rfl rfl) fun a Z => ?_
  refine hj _ ?_
  try rw [hb1b]
  exact Z.pick [10, 0, 1, 2]
 intro a Z
 refine wlm Z rfl fun a Z => ?_
 refine cZ (N := 47) (df := []) 4 [(15, .bool (((decide (0 ≤ x.t)) && (decide (x.t ≤ 10000000))) && (decide (1 ≤ x.kind)))), (0, .agg #[iv x.t, iv x.kind, iv x.a, iv x.b, sv x.text]), (1, pt w0.hz), (2, .bool false)] ?_ (fun hj => ?_)
 rotate_left
 ·rcases Bool.eq_false_or_eq_true ((decide (0 ≤ x.t)) && (decide (x.t ≤ 10000000))) with hb2 | hb2
  ·rw [hb2] at Z
   have hb2b := hb2
   try simp only [qz, Bool.and_eq_true, Bool.or_eq_true, Bool.and_eq_false_iff, Bool.or_eq_false_iff] at hb2
   refine wly Z (ai (v := po w0.hz 1) rfl kr) fun a Z => wly Z (ld Y 0 rfl rfl (isAgg3 _) rfl) fun a Z => wly Z (v_ge rfl rfl) fun a Z => wlv Z (aA rfl rfl) fun a Z => ?_
   refine hj _ ?_
   try rw [hb2b]
   exact Z.pick [15, 0, 1, 2]
  rw [hb2] at Z
  have hb2b := hb2
  try simp only [qz, Bool.and_eq_true, Bool.or_eq_true, Bool.and_eq_false_iff, Bool.or_eq_false_iff] at hb2
  refine wln Z fun a Z => wln Z fun a Z => wln Z fun a Z => wlv Z (au rfl rfl) fun a Z => ?_
  refine hj _ ?_
  try rw [hb2b]
  exact Z.pick [15, 0, 1, 2]
 intro a Z
 refine wlm Z rfl fun a Z => ?_
 refine cZ (N := 47) (df := []) 4 [(20, .bool ((((decide (0 ≤ x.t)) && (decide (x.t ≤ 10000000))) && (decide (1 ≤ x.kind))) && (decide (x.kind ≤ 20)))), (0, .agg #[iv x.t, iv x.kind, iv x.a, iv x.b, sv x.text]), (1, pt w0.hz), (2, .bool false)] ?_ (fun hj => ?_)
 rotate_left
 ·rcases Bool.eq_false_or_eq_true (((decide (0 ≤ x.t)) && (decide (x.t ≤ 10000000))) && (decide (1 ≤ x.kind))) with hb3 | hb3
  ·rw [hb3] at Z
   have hb3b := hb3
   try simp only [qz, Bool.and_eq_true, Bool.or_eq_true, Bool.and_eq_false_iff, Bool.or_eq_false_iff] at hb3
   refine wly Z (ai (v := po w0.hz 1) rfl kr) fun a Z => wly Z (ld Y 0 rfl rfl (isAgg3 _) rfl) fun a Z => wly Z (v_le rfl rfl) fun a Z => wlv Z (aA rfl rfl) fun a Z => ?_
   refine hj _ ?_
   try rw [hb3b]
   exact Z.pick [20, 0, 1, 2]
  rw [hb3] at Z
  have hb3b := hb3
  try simp only [qz, Bool.and_eq_true, Bool.or_eq_true, Bool.and_eq_false_iff, Bool.or_eq_false_iff] at hb3
  refine wln Z fun a Z => wln Z fun a Z => wln Z fun a Z => wlv Z (au rfl rfl) fun a Z => ?_
  refine hj _ ?_
  try rw [hb3b]
  exact Z.pick [20, 0, 1, 2]
 intro a Z
 refine wlm Z rfl fun a Z => ?_
 refine cZ (N := 47) (df := []) 4 [(25, .bool (((((decide (0 ≤ x.t)) && (decide (x.t ≤ 10000000))) && (decide (1 ≤ x.kind))) && (decide (x.kind ≤ 20))) && (decide (-1 ≤ x.a)))), (0, .agg #[iv x.t, iv x.kind, iv x.a, iv x.b, sv x.text]), (1, pt w0.hz), (2, .bool false)] ?_ (fun hj => ?_)
 rotate_left
 ·rcases Bool.eq_false_or_eq_true ((((decide (0 ≤ x.t)) && (decide (x.t ≤ 10000000))) && (decide (1 ≤ x.kind))) && (decide (x.kind ≤ 20))) with hb4 | hb4
  ·rw [hb4] at Z
   have hb4b := hb4
   try simp only [qz, Bool.and_eq_true, Bool.or_eq_true, Bool.and_eq_false_iff, Bool.or_eq_false_iff] at hb4
   refine wly Z (ai (v := po w0.hz 2) rfl kr) fun a Z => wly Z (ld Y 0 rfl rfl (isAgg3 _) rfl) fun a Z => wly Z (v_ge rfl rfl) fun a Z => wlv Z (aA rfl rfl) fun a Z => ?_
   refine hj _ ?_
   try rw [hb4b]
   exact Z.pick [25, 0, 1, 2]
  rw [hb4] at Z
  have hb4b := hb4
  try simp only [qz, Bool.and_eq_true, Bool.or_eq_true, Bool.and_eq_false_iff, Bool.or_eq_false_iff] at hb4
  refine wln Z fun a Z => wln Z fun a Z => wln Z fun a Z => wlv Z (au rfl rfl) fun a Z => ?_
  refine hj _ ?_
  try rw [hb4b]
  exact Z.pick [25, 0, 1, 2]
 intro a Z
 refine wlm Z rfl fun a Z => ?_
 refine cZ (N := 47) (df := []) 4 [(30, .bool ((((((decide (0 ≤ x.t)) && (decide (x.t ≤ 10000000))) && (decide (1 ≤ x.kind))) && (decide (x.kind ≤ 20))) && (decide (-1 ≤ x.a))) && (decide (x.a ≤ 99999999)))), (0, .agg #[iv x.t, iv x.kind, iv x.a, iv x.b, sv x.text]), (1, pt w0.hz), (2, .bool false)] ?_ (fun hj => ?_)
 rotate_left
 ·rcases Bool.eq_false_or_eq_true (((((decide (0 ≤ x.t)) && (decide (x.t ≤ 10000000))) && (decide (1 ≤ x.kind))) && (decide (x.kind ≤ 20))) && (decide (-1 ≤ x.a))) with hb5 | hb5
  ·rw [hb5] at Z
   have hb5b := hb5
   try simp only [qz, Bool.and_eq_true, Bool.or_eq_true, Bool.and_eq_false_iff, Bool.or_eq_false_iff] at hb5
   refine wly Z (ai (v := po w0.hz 2) rfl kr) fun a Z => wly Z (ld Y 0 rfl rfl (isAgg3 _) rfl) fun a Z => wly Z (v_le rfl rfl) fun a Z => wlv Z (aA rfl rfl) fun a Z => ?_
   refine hj _ ?_
   try rw [hb5b]
   exact Z.pick [30, 0, 1, 2]
  rw [hb5] at Z
  have hb5b := hb5
  try simp only [qz, Bool.and_eq_true, Bool.or_eq_true, Bool.and_eq_false_iff, Bool.or_eq_false_iff] at hb5
  refine wln Z fun a Z => wln Z fun a Z => wln Z fun a Z => wlv Z (au rfl rfl) fun a Z => ?_
  refine hj _ ?_
  try rw [hb5b]
  exact Z.pick [30, 0, 1, 2]
 intro a Z
 refine wlm Z rfl fun a Z => ?_
 refine cZ (N := 47) (df := []) 4 [(35, .bool (((((((decide (0 ≤ x.t)) && (decide (x.t ≤ 10000000))) && (decide (1 ≤ x.kind))) && (decide (x.kind ≤ 20))) && (decide (-1 ≤ x.a))) && (decide (x.a ≤ 99999999))) && (decide (-1 ≤ x.b)))), (0, .agg #[iv x.t, iv x.kind, iv x.a, iv x.b, sv x.text]), (1, pt w0.hz), (2, .bool false)] ?_ (fun hj => ?_)
 rotate_left
 ·rcases Bool.eq_false_or_eq_true ((((((decide (0 ≤ x.t)) && (decide (x.t ≤ 10000000))) && (decide (1 ≤ x.kind))) && (decide (x.kind ≤ 20))) && (decide (-1 ≤ x.a))) && (decide (x.a ≤ 99999999))) with hb6 | hb6
  ·rw [hb6] at Z
   have hb6b := hb6
   try simp only [qz, Bool.and_eq_true, Bool.or_eq_true, Bool.and_eq_false_iff, Bool.or_eq_false_iff] at hb6
   refine wly Z (ai (v := po w0.hz 3) rfl kr) fun a Z => wly Z (ld Y 0 rfl rfl (isAgg3 _) rfl) fun a Z => wly Z (v_ge rfl rfl) fun a Z => wlv Z (aA rfl rfl) fun a Z => ?_
   refine hj _ ?_
   try rw [hb6b]
   exact Z.pick [35, 0, 1, 2]
  rw [hb6] at Z
  have hb6b := hb6
  try simp only [qz, Bool.and_eq_true, Bool.or_eq_true, Bool.and_eq_false_iff, Bool.or_eq_false_iff] at hb6
  refine wln Z fun a Z => wln Z fun a Z => wln Z fun a Z => wlv Z (au rfl rfl) fun a Z => ?_
  refine hj _ ?_
  try rw [hb6b]
  exact Z.pick [35, 0, 1, 2]
 intro a Z
 refine wlm Z rfl fun a Z => ?_
 refine cZ (N := 47) (df := []) 4 [(40, .bool ((((((((decide (0 ≤ x.t)) && (decide (x.t ≤ 10000000))) && (decide (1 ≤ x.kind))) && (decide (x.kind ≤ 20))) && (decide (-1 ≤ x.a))) && (decide (x.a ≤ 99999999))) && (decide (-1 ≤ x.b))) && (decide (x.b ≤ 99999999)))), (0, .agg #[iv x.t, iv x.kind, iv x.a, iv x.b, sv x.text]), (1, pt w0.hz), (2, .bool false)] ?_ (fun hj => ?_)
 rotate_left
 ·rcases Bool.eq_false_or_eq_true (((((((decide (0 ≤ x.t)) && (decide (x.t ≤ 10000000))) && (decide (1 ≤ x.kind))) && (decide (x.kind ≤ 20))) && (decide (-1 ≤ x.a))) && (decide (x.a ≤ 99999999))) && (decide (-1 ≤ x.b))) with hb7 | hb7
  ·rw [hb7] at Z
   have hb7b := hb7
   try simp only [qz, Bool.and_eq_true, Bool.or_eq_true, Bool.and_eq_false_iff, Bool.or_eq_false_iff] at hb7
   refine wly Z (ai (v := po w0.hz 3) rfl kr) fun a Z => wly Z (ld Y 0 rfl rfl (isAgg3 _) rfl) fun a Z => wly Z (v_le rfl rfl) fun a Z => wlv Z (aA rfl rfl) fun a Z => ?_
   refine hj _ ?_
   try rw [hb7b]
   exact Z.pick [40, 0, 1, 2]
  rw [hb7] at Z
  have hb7b := hb7
  try simp only [qz, Bool.and_eq_true, Bool.or_eq_true, Bool.and_eq_false_iff, Bool.or_eq_false_iff] at hb7
  refine wln Z fun a Z => wln Z fun a Z => wln Z fun a Z => wlv Z (au rfl rfl) fun a Z => ?_
  refine hj _ ?_
  try rw [hb7b]
  exact Z.pick [40, 0, 1, 2]
 intro a Z
 refine wlm Z rfl fun a Z => ?_
 refine cZ (N := 47) (df := []) 5 [(46, .bool (((((((((decide (0 ≤ x.t)) && (decide (x.t ≤ 10000000))) && (decide (1 ≤ x.kind))) && (decide (x.kind ≤ 20))) && (decide (-1 ≤ x.a))) && (decide (x.a ≤ 99999999))) && (decide (-1 ≤ x.b))) && (decide (x.b ≤ 99999999))) && (decide ((x.text.length : Int) ≤ 200)))), (0, .agg #[iv x.t, iv x.kind, iv x.a, iv x.b, sv x.text]), (1, pt w0.hz), (2, .bool false)] ?_ (fun hj => ?_)
 rotate_left
 ·rcases Bool.eq_false_or_eq_true ((((((((decide (0 ≤ x.t)) && (decide (x.t ≤ 10000000))) && (decide (1 ≤ x.kind))) && (decide (x.kind ≤ 20))) && (decide (-1 ≤ x.a))) && (decide (x.a ≤ 99999999))) && (decide (-1 ≤ x.b))) && (decide (x.b ≤ 99999999))) with hb8 | hb8
  ·rw [hb8] at Z
   have hb8b := hb8
   try simp only [qz, Bool.and_eq_true, Bool.or_eq_true, Bool.and_eq_false_iff, Bool.or_eq_false_iff] at hb8
   refine wly Z (ai (v := po w0.hz 4) rfl kr) fun a Z => wly Z (ld Y 0 rfl rfl (isAgg9 _) rfl) fun a Z => wly Z (aZ rfl rfl (runUnderlying9 _)) fun a Z => wly Z (v_le rfl rfl) fun a Z => wlv Z (aA rfl rfl) fun a Z => ?_
   refine hj _ ?_
   try rw [hb8b]
   exact Z.pick [46, 0, 1, 2]
  rw [hb8] at Z
  have hb8b := hb8
  try simp only [qz, Bool.and_eq_true, Bool.or_eq_true, Bool.and_eq_false_iff, Bool.or_eq_false_iff] at hb8
  refine wln Z fun a Z => wln Z fun a Z => wln Z fun a Z => wln Z fun a Z => wlv Z (au rfl rfl) fun a Z => ?_
  refine hj _ ?_
  try rw [hb8b]
  exact Z.pick [46, 0, 1, 2]
 intro a Z
 refine wla Z rfl fun a Z => ab (hK2 _ _ <| ao ?_)
 refine al Z results79 (ac rfl ag) ?_
 refine ⟨?_, Y.ext⟩
 simp only [retv]
 refine congrArg Value.bool ?_
 rw [Bool.eq_iff_iff]; simp only [Rec.ok, inB, Bool.and_eq_true, decide_eq_true_eq]; omega
theorem fl (o : Int) (lv : Value) (l : List Rec) (w0 : World) (hlv : SlAt w0 lv 5 (l.map Rec.cells)) :
  Ret Tryz.prog 42 #[.agg #[iv o, lv]] w0 fun v w => v = .bool (logOk o l) ∧ Ext No w0 w := by
 have hxb := hlv.2.1
 simp only [List.length_map, big] at hxb
 refine aC func42 rfl ntmps42 (lb rfl) fun a Z => ?_
 replace Z := Z.p1 0 rfl
 replace Y : St No w0 [] w0 := St.init w0
 refine aa fun K1 hK1 => bh Z Y de rfl (cs := [iv o, lv]) rfl ?_
 clear Z Y
 intro a w1 Z Y
 refine wla Z rfl fun a Z => ab (hK1 _ _ <| ah fun K2 hK2 => ?_)
 refine aa fun K3 hK3 => wlv Z (ai (v := pt w0.hz) rfl kr) fun a Z => wlv Z (ld Y 0 rfl rfl (isAgg3 _) rfl) fun a Z => wlv Z (v_lt rfl rfl) fun a Z => wlm Z rfl fun a Z => ?_
 rcases Bool.eq_false_or_eq_true (decide (o < 0)) with hb1 | hb1
 ·rw [hb1] at Z
  try simp only [qz] at hb1
  refine wln Z fun a Z => wln Z fun a Z => wln Z fun a Z => wlv Z (aA rfl rfl) fun a Z => wlm Z rfl fun a Z => wln Z fun a Z => wln Z fun a Z => wln Z fun a Z => wln Z fun a Z => wlv Z (aA rfl rfl) fun a Z => ab (hK3 _ _ ?_)
  replace Z := Z.p3 1 2 17 rfl
  refine aD Z rfl ?_
  refine aa fun K4 hK4 => wla Z rfl fun a Z => ab (hK4 _ _ <| ao ?_)
  refine al Z results42 (ac rfl ag) ?_
  refine ⟨?_, Y.ext⟩
  simp only [retv]
  refine congrArg Value.bool ?_
  exact (by rw [eq_comm, Bool.eq_false_iff]; intro h; simp only [logOk, inB, Bool.and_eq_true, decide_eq_true_eq] at h; omega)
 rw [hb1] at Z
 try simp only [qz] at hb1
 refine wly Z (ai (v := pt w0.hz) rfl kr) fun a Z => wly Z (ld Y 0 rfl rfl (isAgg3 _) rfl) fun a Z => wly Z (v_gt rfl rfl) fun a Z => wlv Z (au rfl rfl) fun a Z => wlm Z rfl fun a Z => ?_
 rcases Bool.eq_false_or_eq_true (decide (99 < o)) with hb2 | hb2
 ·rw [hb2] at Z
  try simp only [qz] at hb2
  refine wln Z fun a Z => wln Z fun a Z => wln Z fun a Z => wln Z fun a Z => wlv Z (aA rfl rfl) fun a Z => ab (hK3 _ _ ?_)
  replace Z := Z.p3 1 2 17 rfl
  refine aD Z rfl ?_
  refine aa fun K5 hK5 => wla Z rfl fun a Z => ab (hK5 _ _ <| ao ?_)
  refine al Z results42 (ac rfl ag) ?_
  refine ⟨?_, Y.ext⟩
  simp only [retv]
  refine congrArg Value.bool ?_
  exact (by rw [eq_comm, Bool.eq_false_iff]; intro h; simp only [logOk, inB, Bool.and_eq_true, decide_eq_true_eq] at h; omega)
 rw [hb2] at Z
 try simp only [qz] at hb2
 refine wly Z (ai (v := po w0.hz 1) rfl kr) fun a Z => wly Z (ld Y 0 rfl rfl (isAgg23 _) rfl) fun a Z => wly Z ((aB (sT := 23) (Y.arg hlv) rfl rfl (runUnderlying23 _)).asi (m' := (l.length : Int)) (by rw [List.length_map])) fun a Z => wly Z (v_gt rfl rfl) fun a Z => wlv Z (au rfl rfl) fun a Z => ab (hK3 _ _ ?_)
 replace Z := Z.p3 1 2 17 rfl
 refine ax Z rfl (fun hc3 => ?_) (fun hc3 => ?_)
 ·rw [hc3] at Z
  try simp only [qz] at hc3
  refine aa fun K6 hK6 => wla Z rfl fun a Z => ab (hK6 _ _ <| ao ?_)
  refine al Z results42 (ac rfl ag) ?_
  refine ⟨?_, Y.ext⟩
  simp only [retv]
  refine congrArg Value.bool ?_
  exact (by rw [eq_comm, Bool.eq_false_iff]; intro h; simp only [logOk, inB, Bool.and_eq_true, decide_eq_true_eq] at h; omega)
 rw [hc3] at Z
 try simp only [qz] at hc3
 refine ap <| hK2 _ _ <| ah fun K7 hK7 => aa fun K8 hK8 => wla Z rfl fun a Z => ab (hK8 _ _ <| aq ?_)
 refine aT (fun m a w => ∃ (k : Nat), m = l.length - k ∧ (k ≤ l.length) ∧ (bH 0 l = bH (prevT l k) (l.drop k)) ∧ Fr 52 [(1, pt w0.hz), (3, iv (k : Int))] [] a ∧ St No w0 [blk w0.hz [iv o, lv] 25] w) _ ⟨0, rfl, Nat.zero_le _, rfl, Z.pick [1, 3], Y.select [0] de⟩ ?_
 rintro _ a w2 ⟨k, rfl, hk, hs, Z, Y⟩
 refine ah fun K9 hK9 => aa fun K10 hK10 => wlm Z rfl fun a Z => wlv Z (ai (v := po w0.hz 1) rfl kr) fun a Z => wlv Z (ld Y 0 rfl rfl (isAgg23 _) rfl) fun a Z => wlv Z ((aB (sT := 23) (Y.arg hlv) rfl rfl (runUnderlying23 _)).asi (m' := (l.length : Int)) (by rw [List.length_map])) fun a Z => wlv Z (v_lt rfl rfl) fun a Z => ab (hK10 _ _ ?_)
 refine ax Z rfl (fun hc4 => ?_) (fun hc4 => ?_)
 ·rw [hc4] at Z
  try simp only [qz] at hc4
  have hkx : k < l.length := by omega
  refine ap <| hK9 _ _ <| ah fun K11 hK11 => aq <| ah fun K12 hK12 => aH kr (aI kr fun w3 hxz => ?_)
  replace Y := Y.grow hxz
  refine aP (k := 0) 3 [1, 2] Z kr kr kr rfx ?_
  replace Z := Z.p7 1 3 18 19 20 21 22 rfl
  refine az [] (fun i => match i with | _ => fun _ _ => False) 3 [[], [0], []] [po w0.hz 1, lv, iv (k : Int)] Z Y kr kr kr ?_ ?_ ?_
  ·intro i hi hiq
   match i, hi, hiq with
   | 0, _, _ => exact fun w Y => OpV.g (ai (v := po w0.hz 1) rfl kr)
   | 1, _, _ => exact fun w Y => OpV.g (ld Y 0 rfl rfl (isAgg23 _) rfl)
   | 2, _, _ => exact fun w Y => OpV.g (ae rfl)
  ·intro i hi
   exact absurd hi sm
  clear Z Y
  intro  a w4 Z Y
  replace Z : Fr 52 [(25, po w0.hz 1), (26, lv), (27, iv (k : Int)), (1, _), (3, _), (18, _), (19, _), (20, _), (21, _), (22, _)] [] a := Z
  refine ab <| aK (k := 3) 11 [10] kr kr kr ?_
  refine wlv Z ((aj (i := (k : Int)) (sT := 23) (Y.arg hlv) rfl rfl (runUnderlying23 _) (sizeOf48 _) om (by rw [List.length_map]; omega)).as (v' := slAddr lv (k * 5)) rfl) fun a Z => wlv Z ((aU (Y.arg hlv) (i := k) (by rw [List.length_map]; omega) rfl (isAgg48 _) (sizeOf48 _)).as (v' := .agg #[iv ((l.getD k Rec.z).t), iv ((l.getD k Rec.z).kind), iv ((l.getD k Rec.z).a), iv ((l.getD k Rec.z).b), sv ((l.getD k Rec.z).text)]) (by rw [bl Rec.z]; rfl)) fun a Z => am Z Y de call79 rfl (fp (l.getD k Rec.z) _) ?_
  clear Z Y
  intro a w5 Z Y
  refine wlv Z (bp rfl) fun a Z => wlm Z rfl fun a Z => ?_
  rcases Bool.eq_false_or_eq_true (!((l.getD k Rec.z).ok)) with hb5 | hb5
  ·rw [hb5] at Z
   try simp only [qz] at hb5
   have hbad : bH 0 l = false := by rw [hs]; exact px hkx (by simpa using hb5)
   refine wln Z fun a Z => wln Z fun a Z => wln Z fun a Z => ab ?_
   replace Z : Fr 52 [(1, pt w0.hz), (3, iv (k : Int)), (18, iv (k : Int)), (19, po w0.hz 1), (20, lv), (21, iv (l.length : Int)), (22, .bool true), (25, po w0.hz 1), (26, lv), (27, iv (k : Int)), (28, slAddr lv (k * 5)), (29, .agg #[iv ((l.getD k Rec.z).t), iv ((l.getD k Rec.z).kind), iv ((l.getD k Rec.z).a), iv ((l.getD k Rec.z).b), sv ((l.getD k Rec.z).text)]), (30, .bool ((l.getD k Rec.z).ok)), (31, .bool true), (32, .bool true), (33, undef), (34, undef), (35, undef)] [] a := Z.pick [1, 3, 18, 19, 20, 21, 22, 25, 26, 27, 28, 29, 30, 31, 32, 33, 34, 35]
   refine iW (k := 11) 24 [16, 23] Z kr kr kr rfx fun a Z => ?_
   replace Z : Fr 52 [(36, undef), (37, undef), (38, undef), (39, undef), (40, undef), (41, undef), (42, undef), (43, undef), (44, undef), (45, undef), (46, undef), (47, undef), (48, undef), (1, pt w0.hz), (3, iv (k : Int)), (18, iv (k : Int)), (19, po w0.hz 1), (20, lv), (21, iv (l.length : Int)), (22, .bool true), (25, po w0.hz 1), (26, lv), (27, iv (k : Int)), (28, slAddr lv (k * 5)), (29, .agg #[iv ((l.getD k Rec.z).t), iv ((l.getD k Rec.z).kind), iv ((l.getD k Rec.z).a), iv ((l.getD k Rec.z).b), sv ((l.getD k Rec.z).text)]), (30, .bool ((l.getD k Rec.z).ok)), (31, .bool true), (32, .bool true), (33, undef), (34, undef), (35, undef)] [] a := Z
   refine aK (k := 24) 27 [26] kr kr kr ?_
   refine wl_vu Z de rfl de rfl fun a Z => wln Z fun a Z => wlv Z (aA rfl rfl) fun a Z => ab <| aW kr ?_
   refine hK12 _ _ ?_
   replace Z := Z.p3 1 3 51 rfl
   refine aD Z rfl ?_
   refine aa fun K13 hK13 => wla Z rfl fun a Z => ab (hK13 _ _ <| ao ?_)
   refine al Z results42 (ac rfl ag) ?_
   refine ⟨?_, Y.ext⟩
   simp only [retv]
   refine congrArg Value.bool ?_
   unfold logOk; rw [hbad]; rfl
  rw [hb5] at Z
  try simp only [qz] at hb5
  have hok : (l.getD k Rec.z).ok = true := by simpa using hb5
  have ht0 := Rec.t0 hok
  refine wly Z (ae rfl) fun a Z => wly Z (v_gt rfl rfl) fun a Z => wly Z (ae rfl) fun a Z => ab ?_
  rcases Bool.eq_false_or_eq_true (decide (0 < (k : Int))) with hb6 | hb6
  ·rw [hb6] at Z
   try simp only [qz] at hb6
   have hpv := nU (l := l) (k := k) om
   refine aP (k := 11) 24 [16, 23] Z kr kr kr rfx ?_
   replace Z := Z.p18 1 3 18 19 20 21 22 25 26 27 28 29 30 31 32 33 34 35 rfl
   refine az [] (fun i => match i with | _ => fun _ _ => False) 13 [[], [0], [], [1, 2], [3], [4], [], [6], [], [8], [7, 9], [10], [11]] [po w0.hz 1, lv, iv (k : Int), slAddr lv (k * 5), slAddr lv (k * 5 + 0), iv ((l.getD k Rec.z).t), po w0.hz 1, lv, iv (k : Int), iv ((k : Int) - 1), slAddr lv ((k - 1) * 5), slAddr lv ((k - 1) * 5 + 0), iv ((l.getD (k - 1) Rec.z).t)] Z Y kr kr kr ?_ ?_ ?_
   ·intro i hi hiq
    match i, hi, hiq with
    | 0, _, _ => exact fun w Y => OpV.g (ai (v := po w0.hz 1) rfl kr)
    | 1, _, _ => exact fun w Y => OpV.g (ld Y 0 rfl rfl (isAgg23 _) rfl)
    | 2, _, _ => exact fun w Y => OpV.g (ae rfl)
    | 3, _, _ => exact fun w Y => OpV.g ((aj (i := (k : Int)) (sT := 23) (Y.arg hlv) rfl rfl (runUnderlying23 _) (sizeOf48 _) om (by rw [List.length_map]; omega)).as (v' := slAddr lv (k * 5)) rfl)
    | 4, _, _ => exact fun w Y => OpV.g (bP (k := k * 5) (j := 0) (Y.arg hlv) (i := k) (by rw [List.length_map]; omega) rfl (fun _ _ => by kernel_rfl))
    | 5, _, _ => exact fun w Y => OpV.g (ay (u := iv ((l.getD k Rec.z).t)) (i := k) (j := 0) (Y.arg hlv) (by rw [List.length_map]; omega) rfl (isAgg3 _) (by rw [bl Rec.z]; rfl))
    | 6, _, _ => exact fun w Y => OpV.g (ai (v := po w0.hz 1) rfl kr)
    | 7, _, _ => exact fun w Y => OpV.g (ld Y 0 rfl rfl (isAgg23 _) rfl)
    | 8, _, _ => exact fun w Y => OpV.g (ae rfl)
    | 9, _, _ => exact fun w Y => OpV.g (bq rfl rfl ⟨om, om⟩)
    | 10, _, _ => exact fun w Y => OpV.g ((aj (i := (k : Int) - 1) (sT := 23) (Y.arg hlv) rfl rfl (runUnderlying23 _) (sizeOf48 _) om (by rw [List.length_map]; omega)).as (v' := slAddr lv ((k - 1) * 5)) (by rw [show ((k : Int) - 1).toNat = (k - 1) from by omega]))
    | 11, _, _ => exact fun w Y => OpV.g (bP (k := (k - 1) * 5) (j := 0) (Y.arg hlv) (i := (k - 1)) (by rw [List.length_map]; omega) rfl (fun _ _ => by kernel_rfl))
    | 12, _, _ => exact fun w Y => OpV.g (ay (u := iv ((l.getD (k - 1) Rec.z).t)) (i := (k - 1)) (j := 0) (Y.arg hlv) (by rw [List.length_map]; omega) rfl (isAgg3 _) (by rw [bl Rec.z]; rfl))
    | i + 13, h, _ => exact absurd h om
   ·intro i hi
    exact absurd hi sm
   clear Z Y
   intro  a w6 Z Y
   replace Z : Fr 52 [(36, po w0.hz 1), (37, lv), (38, iv (k : Int)), (39, slAddr lv (k * 5)), (40, slAddr lv (k * 5 + 0)), (41, iv ((l.getD k Rec.z).t)), (42, po w0.hz 1), (43, lv), (44, iv (k : Int)), (45, iv ((k : Int) - 1)), (46, slAddr lv ((k - 1) * 5)), (47, slAddr lv ((k - 1) * 5 + 0)), (48, iv ((l.getD (k - 1) Rec.z).t)), (1, _), (3, _), (18, _), (19, _), (20, _), (21, _), (22, _), (25, _), (26, _), (27, _), (28, _), (29, _), (30, _), (31, _), (32, _), (33, _), (34, _), (35, _)] [] a := Z
   refine ab <| aK (k := 24) 27 [26] kr kr kr ?_
   refine wly Z (v_lt rfl rfl) fun a Z => wly Z (aA rfl rfl) fun a Z => wlv Z (au rfl rfl) fun a Z => ab <| aW kr ?_
   refine hK12 _ _ ?_
   replace Z := Z.p3 1 3 51 rfl
   refine ax Z rfl (fun hc7 => ?_) (fun hc7 => ?_)
   ·rw [hc7] at Z
    try simp only [qz] at hc7
    have hbad : bH 0 l = false := by rw [hs]; exact pr hkx (by rw [hpv]; exact hc7)
    refine aa fun K14 hK14 => wla Z rfl fun a Z => ab (hK14 _ _ <| ao ?_)
    refine al Z results42 (ac rfl ag) ?_
    refine ⟨?_, Y.ext⟩
    simp only [retv]
    refine congrArg Value.bool ?_
    unfold logOk; rw [hbad]; rfl
   rw [hc7] at Z
   try simp only [qz] at hc7
   have hgo : prevT l k ≤ (l.getD k Rec.z).t := by rw [hpv]; omega
   refine ap <| hK11 _ _ <| ar <| wlm Z rfl fun a Z => wlv Z (aV rfl rfl ⟨om, om⟩) fun a Z => wla Z rfl fun a Z => ab ?_
   refine ⟨_, ?_, k + 1, rfl, om, (by rw [hs]; exact np hkx hok hgo), Z.pick [1, 3], Y.select [0] de⟩
   omega
  rw [hb6] at Z
  try simp only [qz] at hb6
  have hgo : prevT l k ≤ (l.getD k Rec.z).t := by
   have h0 : k = 0 := by omega
   rw [h0] at ht0 ⊢; exact ht0
  replace Z : Fr 52 [(1, pt w0.hz), (3, iv (k : Int)), (18, iv (k : Int)), (19, po w0.hz 1), (20, lv), (21, iv (l.length : Int)), (22, .bool true), (25, po w0.hz 1), (26, lv), (27, iv (k : Int)), (28, slAddr lv (k * 5)), (29, .agg #[iv ((l.getD k Rec.z).t), iv ((l.getD k Rec.z).kind), iv ((l.getD k Rec.z).a), iv ((l.getD k Rec.z).b), sv ((l.getD k Rec.z).text)]), (30, .bool ((l.getD k Rec.z).ok)), (31, .bool false), (32, .bool false), (33, iv (k : Int)), (34, .bool false), (35, .bool false)] [] a := Z.pick [1, 3, 18, 19, 20, 21, 22, 25, 26, 27, 28, 29, 30, 31, 32, 33, 34, 35]
  refine iW (k := 11) 24 [16, 23] Z kr kr kr rfx fun a Z => ?_
  replace Z : Fr 52 [(36, undef), (37, undef), (38, undef), (39, undef), (40, undef), (41, undef), (42, undef), (43, undef), (44, undef), (45, undef), (46, undef), (47, undef), (48, undef), (1, pt w0.hz), (3, iv (k : Int)), (18, iv (k : Int)), (19, po w0.hz 1), (20, lv), (21, iv (l.length : Int)), (22, .bool true), (25, po w0.hz 1), (26, lv), (27, iv (k : Int)), (28, slAddr lv (k * 5)), (29, .agg #[iv ((l.getD k Rec.z).t), iv ((l.getD k Rec.z).kind), iv ((l.getD k Rec.z).a), iv ((l.getD k Rec.z).b), sv ((l.getD k Rec.z).text)]), (30, .bool ((l.getD k Rec.z).ok)), (31, .bool false), (32, .bool false), (33, iv (k : Int)), (34, .bool false), (35, .bool false)] [] a := Z
  refine aK (k := 24) 27 [26] kr kr kr ?_
  refine wln Z fun a Z => wly Z (au rfl rfl) fun a Z => wlv Z (au rfl rfl) fun a Z => ab <| aW kr ?_
  refine hK12 _ _ ?_
  replace Z := Z.p3 1 3 51 rfl
  refine aG Z rfl ?_
  refine ap <| hK11 _ _ <| ar <| wlm Z rfl fun a Z => wlv Z (aV rfl rfl ⟨om, om⟩) fun a Z => wla Z rfl fun a Z => ab ?_
  refine ⟨_, ?_, k + 1, rfl, om, (by rw [hs]; exact np hkx hok hgo), Z.pick [1, 3], Y.select [0] de⟩
  omega
 rw [hc4] at Z
 try simp only [qz] at hc4
 have hall : bH 0 l = true := by rw [hs, show k = l.length by omega, List.drop_length]; rfl
 refine aM <| hK7 _ _ <| aa fun K15 hK15 => wla Z rfl fun a Z => ab (hK15 _ _ ?_)
 replace Z := Z.p1 2 rfl
 replace Y : St No w0 [] w2 := Y.mask [false]
 refine ao ?_
 refine al Z results42 (ac rfl ag) ?_
 refine ⟨?_, Y.ext⟩
 simp only [retv]
 refine congrArg Value.bool ?_
 rw [eq_comm]; simp only [logOk, inB, Bool.and_eq_true, decide_eq_true_eq]; exact ⟨⟨hall, by omega, by omega⟩, by omega⟩
theorem oL (x : Rec) (w0 : World) (hok : x.ok = true) :
  Ret Tryz.prog 58 #[.agg #[iv x.t, iv x.kind, iv x.a, iv x.b, sv x.text]] w0 fun v w => v = .tuple #[sv x.enc, iv 0] ∧ Ext No w0 w := by
 have hsm := Rec.smalls hok
 have hs0 : small x.t := hsm _ sm
 have hs1 : small x.kind := hsm _ sm
 have hs2 : small x.a := hsm _ sm
 have hs3 : small x.b := hsm _ sm
 have hle := Rec.len hok
 have hq0 := bA x.t
 have hq1 := bA x.kind
 have hq2 := bA x.a
 have hq3 := bA x.b
 have hq4 := bA (x.text.length : Int)
 have hq5 : (putS x.text).length ≤ 300 := by unfold putS; rw [List.length_append]; omega
 refine aC func58 rfl ntmps58 (lb rfl) fun a Z => ?_
 replace Z := Z.p1 0 rfl
 replace Y : St No w0 [] w0 := St.init w0
 refine aa fun K1 hK1 => bh Z Y de rfl (cs := [iv x.t, iv x.kind, iv x.a, iv x.b, sv x.text]) rfl ?_
 clear Z Y
 intro a w1 Z Y
 refine wla Z rfl fun a Z => wla Z rfl fun a Z => ab (hK1 _ _ <| ah fun K2 hK2 => ?_)
 refine aa fun K3 hK3 => wlv Z (aw (Y.g 0 rfl) rfl (isAgg48 _) (sizeOf48 _)) fun a Z => am Z Y de call79 rfl (fp x _) ?_
 clear Z Y
 intro a w2 Z Y
 refine wlv Z (bp rfl) fun a Z => ab (hK3 _ _ ?_)
 refine ax Z rfl (fun hc1 => ?_) (fun hc1 => ?_)
 ·rw [hc1] at Z
  try simp only [qz] at hc1
  simp [hok] at hc1
 rw [hc1] at Z
 try simp only [qz] at hc1
 refine ap <| hK2 _ _ <| aa fun K4 hK4 => wla Z rfl fun a Z => ab (hK4 _ _ <| ah fun K5 hK5 => ?_)
 refine aa fun K6 hK6 => wlv Z (ai (v := pt w0.hz) rfl kr) fun a Z => wlv Z (ld Y 0 rfl rfl (isAgg3 _) rfl) fun a Z => wlv Z (ai (v := po w0.hz 1) rfl kr) fun a Z => wlv Z (ld Y 0 rfl rfl (isAgg3 _) rfl) fun a Z => wlv Z (ai (v := po w0.hz 2) rfl kr) fun a Z => wlv Z (ld Y 0 rfl rfl (isAgg3 _) rfl) fun a Z => wlv Z (ai (v := po w0.hz 3) rfl kr) fun a Z => wlv Z (ld Y 0 rfl rfl (isAgg3 _) rfl) fun a Z => aE (E := 3) (sz := 1) rfl [[iv x.t], [iv x.kind], [iv x.a], [iv x.b]] kr sm rfl de de Z Y ?_
 clear Z Y
 intro a w3 Z Y
 refine wlv Z ((aB (sT := 40) (Y.ow 0 rfl) rfl rfl (runUnderlying40 _)).asi (m' := 4) rfx) fun a Z => wlm Z rfl fun a Z => ab (hK6 _ _ ?_)
 replace Z := Z.p7 1 2 3 4 22 23 24 rfl
 refine aq <| di 6 ?_
 refine bF ?_
 refine aa fun K7 hK7 => wlv Z ((v_lt rfl rfl).asb (b' := true) rfl) fun a Z => ab (hK7 _ _ <| ah fun K8 hK8 => ?_)
 refine aD Z rfl ?_
 refine ap <| hK8 _ _ <| ah fun K9 hK9 => aq <| aa fun K10 hK10 => wlv Z ((aj (i := 0) (sT := 40) (Y.ow 0 rfl) rfl rfl (runUnderlying40 _) (sizeOf3 _) om sm).as (v' := slAddr (.slice (some ⟨w2.hz, 0, none⟩) 4 4) (0 * 1)) rfl) fun a Z => wlv Z (ay (u := iv x.t) (i := 0) (j := 0) (Y.ow 0 rfl) sm rfl (isAgg3 _) rfx) fun a Z => wla Z rfl fun a Z => ab (hK10 _ _ <| aa fun K11 hK11 => ?_)
 refine wlm Z rfl fun a Z => am Z Y de call44 rfl (cw x.t _ (by assumption)) ?_
 clear Z Y
 intro a w4 Z Y
 refine wlm Z rfl fun a Z => wlv Z (ak rfl rfl) fun a Z => wlv Z (ak rfl rfl) fun a Z => wla Z rfl fun a Z => wla Z rfl fun a Z => ab (hK11 _ _ ?_)
 replace Z := Z.p8 1 2 3 4 22 23 24 7 rfl
 refine ar <| wlm Z rfl fun a Z => wlm Z rfl fun a Z => wlv Z (cM rfl rfl (by first | omega | (simp only [List.length_append, List.length_nil]; omega))) fun a Z => wla Z rfl fun a Z => ab <| hK9 _ _ <| ar <| wlv Z ((aV rfl rfl de).asi (m' := 1) rfl) fun a Z => wlm Z rfl fun a Z => ab <| bF ?_
 refine aa fun K12 hK12 => wlv Z ((v_lt rfl rfl).asb (b' := true) rfl) fun a Z => ab (hK12 _ _ <| ah fun K13 hK13 => ?_)
 refine aD Z rfl ?_
 refine ap <| hK13 _ _ <| ah fun K14 hK14 => aq <| aa fun K15 hK15 => wlv Z ((aj (i := 1) (sT := 40) (Y.ow 0 rfl) rfl rfl (runUnderlying40 _) (sizeOf3 _) om sm).as (v' := slAddr (.slice (some ⟨w2.hz, 0, none⟩) 4 4) (1 * 1)) rfl) fun a Z => wlv Z (ay (u := iv x.kind) (i := 1) (j := 0) (Y.ow 0 rfl) sm rfl (isAgg3 _) rfx) fun a Z => wla Z rfl fun a Z => ab (hK15 _ _ ?_)
 replace Z := Z.p8 1 2 3 22 23 4 24 6 rfl
 refine aa fun K16 hK16 => wlm Z rfl fun a Z => am Z Y de call44 rfl (cw x.kind _ (by assumption)) ?_
 clear Z Y
 intro a w5 Z Y
 refine wlm Z rfl fun a Z => wlv Z (ak rfl rfl) fun a Z => wlv Z (ak rfl rfl) fun a Z => wla Z rfl fun a Z => wla Z rfl fun a Z => ab (hK16 _ _ ?_)
 replace Z := Z.p8 1 2 3 22 23 4 24 7 rfl
 refine ar <| wlm Z rfl fun a Z => wlm Z rfl fun a Z => wlv Z (cM rfl rfl (by first | omega | (simp only [List.length_append, List.length_nil]; omega))) fun a Z => wla Z rfl fun a Z => ab <| hK14 _ _ <| ar <| wlv Z ((aV rfl rfl de).asi (m' := 2) rfl) fun a Z => wlm Z rfl fun a Z => ab <| bF ?_
 refine aa fun K17 hK17 => wlv Z ((v_lt rfl rfl).asb (b' := true) rfl) fun a Z => ab (hK17 _ _ <| ah fun K18 hK18 => ?_)
 refine aD Z rfl ?_
 refine ap <| hK18 _ _ <| ah fun K19 hK19 => aq <| aa fun K20 hK20 => wlv Z ((aj (i := 2) (sT := 40) (Y.ow 0 rfl) rfl rfl (runUnderlying40 _) (sizeOf3 _) om sm).as (v' := slAddr (.slice (some ⟨w2.hz, 0, none⟩) 4 4) (2 * 1)) rfl) fun a Z => wlv Z (ay (u := iv x.a) (i := 2) (j := 0) (Y.ow 0 rfl) sm rfl (isAgg3 _) rfx) fun a Z => wla Z rfl fun a Z => ab (hK20 _ _ ?_)
 replace Z := Z.p8 1 2 3 22 23 4 24 6 rfl
 refine aa fun K21 hK21 => wlm Z rfl fun a Z => am Z Y de call44 rfl (cw x.a _ (by assumption)) ?_
 clear Z Y
 intro a w6 Z Y
 refine wlm Z rfl fun a Z => wlv Z (ak rfl rfl) fun a Z => wlv Z (ak rfl rfl) fun a Z => wla Z rfl fun a Z => wla Z rfl fun a Z => ab (hK21 _ _ ?_)
 replace Z := Z.p8 1 2 3 22 23 4 24 7 rfl
 refine ar <| wlm Z rfl fun a Z => wlm Z rfl fun a Z => wlv Z (cM rfl rfl (by first | omega | (simp only [List.length_append, List.length_nil]; omega))) fun a Z => wla Z rfl fun a Z => ab <| hK19 _ _ <| ar <| wlv Z ((aV rfl rfl de).asi (m' := 3) rfl) fun a Z => wlm Z rfl fun a Z => ab <| bF ?_
 refine aa fun K22 hK22 => wlv Z ((v_lt rfl rfl).asb (b' := true) rfl) fun a Z => ab (hK22 _ _ <| ah fun K23 hK23 => ?_)
 refine aD Z rfl ?_
 refine ap <| hK23 _ _ <| ah fun K24 hK24 => aq <| aa fun K25 hK25 => wlv Z ((aj (i := 3) (sT := 40) (Y.ow 0 rfl) rfl rfl (runUnderlying40 _) (sizeOf3 _) om sm).as (v' := slAddr (.slice (some ⟨w2.hz, 0, none⟩) 4 4) (3 * 1)) rfl) fun a Z => wlv Z (ay (u := iv x.b) (i := 3) (j := 0) (Y.ow 0 rfl) sm rfl (isAgg3 _) rfx) fun a Z => wla Z rfl fun a Z => ab (hK25 _ _ ?_)
 replace Z := Z.p8 1 2 3 22 23 4 24 6 rfl
 refine aa fun K26 hK26 => wlm Z rfl fun a Z => am Z Y de call44 rfl (cw x.b _ (by assumption)) ?_
 clear Z Y
 intro a w7 Z Y
 refine wlm Z rfl fun a Z => wlv Z (ak rfl rfl) fun a Z => wlv Z (ak rfl rfl) fun a Z => wla Z rfl fun a Z => wla Z rfl fun a Z => ab (hK26 _ _ ?_)
 replace Z := Z.p8 1 2 3 22 23 4 24 7 rfl
 refine ar <| wlm Z rfl fun a Z => wlm Z rfl fun a Z => wlv Z (cM rfl rfl (by first | omega | (simp only [List.length_append, List.length_nil]; omega))) fun a Z => wla Z rfl fun a Z => ab <| hK24 _ _ <| ar <| wlv Z ((aV rfl rfl de).asi (m' := 4) rfl) fun a Z => wlm Z rfl fun a Z => ab <| bF ?_
 refine aa fun K27 hK27 => wlv Z ((v_lt rfl rfl).asb (b' := false) rfl) fun a Z => ab (hK27 _ _ <| ah fun K28 hK28 => ?_)
 refine aG Z rfl ?_
 refine aM <| hK5 _ _ <| aa fun K29 hK29 => wlv Z (ai (v := po w0.hz 4) rfl kr) fun a Z => wlv Z (ld Y 1 rfl rfl (isAgg9 _) rfl) fun a Z => am Z Y de call94 rfl (g6 x.text _ om) ?_
 clear Z Y
 intro a w8 Z Y
 refine wlm Z rfl fun a Z => wlv Z (ak rfl rfl) fun a Z => wlv Z (ak rfl rfl) fun a Z => wla Z rfl fun a Z => wla Z rfl fun a Z => ab (hK29 _ _ ?_)
 replace Z := Z.p4 2 3 4 9 rfl
 replace Y : St No w0 [] w8 := Y.mask [false, false]
 refine aa fun K30 hK30 => wlm Z rfl fun a Z => wlm Z rfl fun a Z => wlv Z (cM rfl rfl (by first | omega | (simp only [List.length_append, List.length_nil]; omega))) fun a Z => wla Z rfl fun a Z => wla Z rfl fun a Z => ab (hK30 _ _ <| ao ?_)
 refine al Z results58 (ac rfl (ac rfl ag)) ?_
 exact ⟨by simp only [retv]; simp [Rec.enc, puts], Y.ext⟩
theorem nB (x : Rec) (w0 : World) (hok : x.ok = false) :
  Ret Tryz.prog 58 #[.agg #[iv x.t, iv x.kind, iv x.a, iv x.b, sv x.text]] w0 fun v w => v = .tuple #[sv ([] : By), iv 110] ∧ Ext No w0 w := by
 refine aC func58 rfl ntmps58 (lb rfl) fun a Z => ?_
 replace Z := Z.p1 0 rfl
 replace Y : St No w0 [] w0 := St.init w0
 refine aa fun K1 hK1 => bh Z Y de rfl (cs := [iv x.t, iv x.kind, iv x.a, iv x.b, sv x.text]) rfl ?_
 clear Z Y
 intro a w1 Z Y
 refine wla Z rfl fun a Z => wla Z rfl fun a Z => ab (hK1 _ _ <| ah fun K2 hK2 => ?_)
 refine aa fun K3 hK3 => wlv Z (aw (Y.g 0 rfl) rfl (isAgg48 _) (sizeOf48 _)) fun a Z => am Z Y de call79 rfl (fp x _) ?_
 clear Z Y
 intro a w2 Z Y
 refine wlv Z (bp rfl) fun a Z => ab (hK3 _ _ ?_)
 refine ax Z rfl (fun hc1 => ?_) (fun hc1 => ?_)
 ·rw [hc1] at Z
  try simp only [qz] at hc1
  refine aa fun K4 hK4 => wla Z rfl fun a Z => wla Z rfl fun a Z => ab (hK4 _ _ <| ao ?_)
  refine al Z results58 (ac rfl (ac rfl ag)) ?_
  exact ⟨by rfl, Y.ext⟩
 rw [hc1] at Z
 try simp only [qz] at hc1
 simp [hok] at hc1
theorem jy (x : Rec) (w0 : World) : Ret Tryz.prog 58 #[.agg #[iv x.t, iv x.kind, iv x.a, iv x.b, sv x.text]] w0 fun v w => v = .tuple #[sv (eB x), iv (eE x)] ∧ Ext No w0 w := by
 unfold eB eE
 cases h : x.ok with
 | true => rw [if_pos rfl, if_pos rfl]; exact oL x w0 h
 | false => rw [if_neg sm, if_neg sm]; exact nB x w0 h
end Go.Proofs.YtddfkkdanpmnaaaGreatDoor
namespace Go.Proofs.YtddfkkdanpmnaaaGreatDoor
open Go.RowKit Go.PW _root_.Go.Proofs.Tryz
theorem iy {o : Int} {l : List Rec} {x : Rec} (h : addOk o l x = true) : logOk o l = true ∧ logOk o (l ++ [x]) = true := by
 unfold addOk at h; simpa using h
theorem dU (o : Int) (lv : Value) (l : List Rec) (w0 : World) (hlv : SlAt w0 lv 5 (l.map Rec.cells)) (hll : l.length ≤ 1000) :
  Ret Tryz.prog 29 #[.agg #[iv o, lv]] w0 (MemR w0 (fun v : Value => v) (fun v => [own v 9 1 ((codesB (l)).map fun s => [sv s])]) (fun _ => True)) := by
 refine aC func29 rfl ntmps29 (lb rfl) fun a Z => ?_
 replace Z := Z.p1 0 rfl
 replace Y : St No w0 [] w0 := St.init w0
 refine aa fun K1 hK1 => bh Z Y de rfl (cs := [iv o, lv]) rfl ?_
 clear Z Y
 intro a w1 Z Y
 refine wla Z rfl fun a Z => ab (hK1 _ _ <| aa fun K2 hK2 => ?_)
 refine wla Z rfl fun a Z => ab (hK2 _ _ <| ah fun K3 hK3 => ?_)
 refine aa fun K4 hK4 => wla Z rfl fun a Z => ab (hK4 _ _ <| aq ?_)
 replace Y : St No w0 [own (.slice none 0 0) 9 1 ((codesB (l.take 0)).map fun s => [sv s]), blk w0.hz [iv o, lv] 25] w1 := Y.nil_own
 refine aT (fun m a w => ∃ (k : Nat) (v : Value), m = l.length - k ∧ (k ≤ l.length) ∧ Fr 28 [(1, pt w0.hz), (2, .slice none 0 0), (3, v), (4, iv (k : Int))] [] a ∧ St No w0 [own v 9 1 ((codesB (l.take k)).map fun s => [sv s]), blk w0.hz [iv o, lv] 25] w) _ ⟨0, .slice none 0 0, rfl, Nat.zero_le _, Z.pick [1, 2, 3, 4], Y⟩ ?_
 rintro _ a w2 ⟨k, v, rfl, hk, Z, Y⟩
 refine ah fun K5 hK5 => aa fun K6 hK6 => wlm Z rfl fun a Z => wlv Z (ai (v := po w0.hz 1) rfl kr) fun a Z => wlv Z (ld Y 1 rfl rfl (isAgg23 _) rfl) fun a Z => wlv Z ((aB (sT := 23) (Y.arg hlv) rfl rfl (runUnderlying23 _)).asi (m' := (l.length : Int)) (by rw [List.length_map])) fun a Z => wlv Z (v_lt rfl rfl) fun a Z => ab (hK6 _ _ ?_)
 refine ax Z rfl (fun hc1 => ?_) (fun hc1 => ?_)
 ·rw [hc1] at Z
  try simp only [qz] at hc1
  have hkx : k < l.length := by omega
  refine ap <| hK5 _ _ <| ah fun K7 hK7 => aq <| aa fun K8 hK8 => wlv Z (ai (v := po w0.hz 1) rfl kr) fun a Z => wlv Z (ld Y 1 rfl rfl (isAgg23 _) rfl) fun a Z => wlm Z rfl fun a Z => wlv Z ((aj (i := (k : Int)) (sT := 23) (Y.arg hlv) rfl rfl (runUnderlying23 _) (sizeOf48 _) om (by rw [List.length_map]; omega)).as (v' := slAddr lv (k * 5)) rfl) fun a Z => wlv Z ((aU (Y.arg hlv) (i := k) (by rw [List.length_map]; omega) rfl (isAgg48 _) (sizeOf48 _)).as (v' := .agg #[iv ((l.getD k Rec.z).t), iv ((l.getD k Rec.z).kind), iv ((l.getD k Rec.z).a), iv ((l.getD k Rec.z).b), sv ((l.getD k Rec.z).text)]) (by rw [bl Rec.z]; rfl)) fun a Z => am Z Y de call58 rfl (jy (l.getD k Rec.z) _) ?_
  clear Z Y
  intro a w3 Z Y
  refine wlm Z rfl fun a Z => wlv Z (ak rfl rfl) fun a Z => wlv Z (ak rfl rfl) fun a Z => wla Z rfl fun a Z => wla Z rfl fun a Z => ab (hK8 _ _ ?_)
  replace Z := Z.p5 1 2 3 4 5 rfl
  refine ar <| wlm Z rfl fun a Z => wlm Z rfl fun a Z => aE (E := 9) (sz := 1) rfl [[sv (eB (l.getD k Rec.z))]] kr sm rfl de de Z Y ?_
  clear Z Y
  intro a w4 Z Y
  refine aX (i := 1) (sT := 26) (inf := Tryz.t9) (z := .string (⟨#[]⟩)) (b := 0) (off := 0) (m := 0) (c := 0) rfl rfl rfl (Y.ow 0 rfl) sm underlying26 rfl rfl rfl rfl de (by simp [Value.oneCell', yv, wv, sv]) (by have hby : Tryz.t9.bytes = 16 := rfl; simp only [big, hby, List.length_append, List.length_map, cg, List.length_take, List.length_cons, List.length_nil]; omega) (by have hby : Tryz.t9.bytes = 16 := rfl; simp only [big, hby, List.length_append, List.length_map, cg, List.length_take, List.length_cons, List.length_nil]; omega) de Z Y fun a w5 s2 Z Y _ => ?_
  rw [show ((codesB (l.take k)).map fun s => [sv s]) ++ ([[sv (eB (l.getD k Rec.z))]]) = ((codesB (l.take (k + 1))).map fun s => [sv s]) from by rw [bU Rec.z hkx, jJ]; simp] at Y
  refine wla Z rfl fun a Z => ab <| hK7 _ _ <| ar <| wlm Z rfl fun a Z => wlv Z (aV rfl rfl ⟨om, om⟩) fun a Z => wla Z rfl fun a Z => ab ?_
  refine ⟨_, ?_, k + 1, s2, rfl, om, Z.pick [1, 2, 3, 4], Y.mask [false, true, true]⟩
  omega
 rw [hc1] at Z
 try simp only [qz] at hc1
 have hke : k = l.length := by omega
 rw [hke, List.take_length] at Y
 refine aM <| hK3 _ _ <| aa fun K9 hK9 => wlm Z rfl fun a Z => wla Z rfl fun a Z => ab (hK9 _ _ ?_)
 replace Z := Z.p1 2 rfl
 replace Y := Y.k1 1 rfl
 refine ao ?_
 refine al Z results29 (ac rfl ag) ?_
 exact ⟨v, rfl, trivial, Y.ext, St.out (E := [own v 9 1 ((codesB (l)).map fun s => [sv s])]) (H := []) (Y.select [0] de)⟩
theorem oB {a b : Int} (ha : i64 a) (hb : 1 ≤ b) : -9223372036854775808 ≤ a.tdiv b ∧ a.tdiv b ≤ 9223372036854775807 := by
 have h : (a.tdiv b).natAbs ≤ a.natAbs := by rw [Int.natAbs_tdiv]; exact Nat.div_le_self _ _
 unfold i64 at ha
 by_cases h0 : 0 ≤ a
 ·have := Int.tdiv_nonneg h0 (by omega : 0 ≤ b); omega
 ·have h1 : a.tdiv b = -((-a).tdiv b) := by rw [Int.neg_tdiv, Int.neg_neg]
  have := Int.tdiv_nonneg (by omega : 0 ≤ -a) (by omega : 0 ≤ b); omega
def timeR : Int → List Rin → Int
 | t, [] => t
 | t, y :: l => timeR (t + pickI y.x0 30) l
theorem gh : ∀ (l : List Rin) (t : Int) (y : Rin), timeR t (l ++ [y]) = timeR t l + pickI y.x0 30
 | [], t, y => rfl
 | x :: l, t, y => gh l _ y
theorem gV : ∀ (l : List Rin) (t : Int) (y : Rin), recsR t (l ++ [y]) = recsR t l ++ [entR (timeR t l + pickI y.x0 30) y.x1 y.x2 y.x3 y.x4]
 | [], t, y => rfl
 | x :: l, t, y => by rw [List.cons_append, recsR, gV l _ y]; rfl
theorem jC : ∀ (l : List Rin) (t : Int), 0 ≤ t → 0 ≤ timeR t l ∧ timeR t l ≤ t + 30 * l.length
 | [], t, h => ⟨h, by simp [timeR]⟩
 | x :: l, t, h => by
  have h1 := bu x.x0 (n := 30) om
  have h2 := jC l (t + pickI x.x0 30) om
  rw [timeR, List.length_cons]; omega
theorem gD {α : Type} {l : List α} {k : Nat} (hk : k ≤ l.length) (h : ¬ (k < l.length ∧ k < 12)) (h12 : k ≤ 12) : l.take k = l.take 12 := by
 by_cases h1 : k = 12
 ·rw [h1]
 ·rw [List.take_of_length_le om, List.take_of_length_le om]
def bentK (l : List Rec) (at_ : Int) : Nat := if l = [] then 0 else (pickI at_ (l.length : Int)).toNat
def aS (l : List Rec) (n : Int) : List Rec := if l = [] then [⟨n, 1, 0, 0, []⟩] else l
def bentR (x : Rec) (how n : Int) : Rec :=
 if pickI how 6 = 0 then x else if pickI how 6 = 1 then { x with t := n } else if pickI how 6 = 2 then { x with kind := n } else if pickI how 6 = 3 then { x with a := n } else if pickI how 6 = 4 then { x with b := n } else { x with text := List.replicate (150 + pickI n 100).toNat 0 }
def bentO (o how n : Int) : Int := if pickI how 6 = 0 then n else o
def bentL (l : List Rec) (how n at_ : Int) : List Rec := (aS l n).set (bentK l at_) (bentR ((aS l n).getD (bentK l at_) Rec.z) how n)
theorem ol (l : List Rec) (n at_ : Int) : bentK l at_ < (aS l n).length := by
 unfold bentK aS
 by_cases h : l = []
 ·rw [if_pos h, if_pos h]; simp
 ·rw [if_neg h, if_neg h]
  have h1 : 0 < l.length := List.length_pos_iff.2 h
  have := bu at_ (n := (l.length : Int)) om
  omega
theorem mc (l : List Rec) (how n at_ : Int) : (bentL l how n at_).length ≤ l.length + 1 := by
 unfold bentL aS
 rw [List.length_set]
 split <;> simp_all
theorem hP {α : Type} {l : List α} {k : Nat} {d : α} (h : k < l.length) : l.set k (l.getD k d) = l := by
 rw [List.getD_eq_getElem?_getD, List.getElem?_eq_getElem h]; simp
theorem eZ {l : List Rec} {k j : Nat} {us : List Value} {y : Rec} (hk : k < l.length) (h : splice (l.getD k Rec.z).cells j us = y.cells) (hk2 : k < (l.map Rec.cells).length) : (l.map Rec.cells).set k (splice (l.map Rec.cells)[k] j us) = (l.set k y).map Rec.cells := by
 rw [List.map_set, ← h]
 congr 2
 rw [List.getElem_map, List.getD_eq_getElem?_getD, List.getElem?_eq_getElem hk]; rfl
def cutRec (x : Rec) : Rec := { x with text := x.text.take 201 }
def cutR (l : List Rec) : List Rec := (l.take 3).map cutRec
theorem n6 (l : List Rec) : (cutR l).length ≤ 3 := by rw [cutR, List.length_map, List.length_take]; omega
theorem m9 {l : List Rec} {k : Nat} (h : k < l.length) : (l.take (k + 1)).map cutRec = (l.take k).map cutRec ++ [cutRec (l.getD k Rec.z)] := by
 rw [bU Rec.z h, List.map_append]; rfl
theorem jZ {s : By} {n : Nat} : s.take (min s.length n) = s.take n := by
 rw [Nat.min_def]; split
 ·rw [List.take_of_length_le (Nat.le_refl _), List.take_of_length_le om]
 ·rfl
def keyR (n : Int) : By := sha (putI (pickI n 1099511627776))
def exR : List Rec := [⟨10, 1, 7, -1, [110, 101, 119, 115]⟩, ⟨20, 2, 0, 5, []⟩, ⟨20, 1, 8, -1, []⟩]
theorem l6 {P : Program} {w : World} {L : List (Nat × Value)} {dst : Option Tmp} {T T' ty : TypeId} {pos : String} {af : Array Edge} {gd : Option (Nat × Bool)} {x : Operand} {n : Int} (hx : ev L x = some (iv n)) (hs : (P.underlying T).isSome = true) (hd : P.underlying T' = some (.int .u8)) : OpV P ⟨dst, .convert T T' x, ty, pos, af, gd⟩ L w (yv (UInt8.ofNat (n % 256).toNat)) :=
 (dF hx hs hd).as (by
  have h1 : 0 ≤ n % 256 := Int.emod_nonneg _ de
  have h2 : n % 256 < 256 := Int.emod_lt_of_pos _ de
  have e : ((UInt8.ofNat (n % 256).toNat).toNat : Int) = n % 256 := by rw [mT om]; omega
  unfold yv
  rw [e]
  simp [IntKind.wrap, IntKind.signed, IntKind.bits])
theorem mq (t x0 x1 x2 x3 : Int) (w0 : World) (ht : i64 t) (h0 : i64 x0) (h1 : i64 x1) (h2 : i64 x2) (h3 : i64 x3) :
  Ret Tryz.prog 39 #[iv t, .agg #[iv x0, iv x1, iv x2, iv x3]] w0 fun v w => v = .agg #[iv ((entR t x0 x1 x2 x3).t), iv ((entR t x0 x1 x2 x3).kind), iv ((entR t x0 x1 x2 x3).a), iv ((entR t x0 x1 x2 x3).b), sv ((entR t x0 x1 x2 x3).text)] ∧ Ext No w0 w := by
 have hp4 := bu x3 (n := 4) de
 have hpa := bu x0 (n := 3) de
 have hpb := bu x1 (n := 200) de
 have hpc := bu x2 (n := 200) de
 refine aC func39 rfl ntmps39 (lb rfl) fun a Z => ?_
 replace Z := Z.p2 0 1 rfl
 replace Y : St No w0 [] w0 := St.init w0
 refine aa fun K1 hK1 => bh Z Y de rfl (cs := [iv x0, iv x1, iv x2, iv x3]) rfl ?_
 clear Z Y
 intro a w1 Z Y
 refine aY Z Y de (zeroValue48 _) (cs := [iv 0, iv 0, iv 0, iv 0, .string (⟨#[]⟩)]) rfl ?_
 clear Z Y
 intro a w2 Z Y
 refine ab (hK1 _ _ <| ah fun K2 hK2 => ?_)
 refine aH kr (aI kr fun w3 hxz => ?_)
 replace Y := Y.grow hxz
 refine aP (k := 0) 16 [14, 15] Z kr kr kr rfx ?_
 replace Z := Z.p4 0 1 3 4 rfl
 refine az [15] (fun i => match i with | 15 => pm (fun b : Nat => pt b) (fun b => [blk b [iv 0, iv 0, iv 0, iv 0, .string (⟨#[]⟩)] 48]) (fun _ => True) | _ => fun _ _ => False) 16 [[], [0], [], [2], [3], [4], [], [6], [7], [8], [], [10], [11], [12], [1, 5, 9, 13], []] [iv t, iv (pickI t 10000001), pt w0.hz, iv x0, iv (pickI x0 3), iv (1 + (pickI x0 3)), po w0.hz 1, iv x1, iv (pickI x1 200), iv ((pickI x1 200) - 1), po w0.hz 2, iv x2, iv (pickI x2 200), iv ((pickI x2 200) - 1), .agg #[iv (pickI t 10000001), iv (1 + (pickI x0 3)), iv ((pickI x1 200) - 1), iv ((pickI x2 200) - 1), .string (⟨#[]⟩)], undef] Z Y kr kr kr ?_ ?_ ?_
 ·intro i hi hiq
  match i, hi, hiq with
  | 0, _, _ => exact fun w Y => OpV.g (ae rfl)
  | 1, _, _ => exact fun w Y => aQ call38 rfl (bT t 10000001 _ (by first | assumption | (unfold i64 at *; omega) | omega) om)
  | 2, _, _ => exact fun w Y => OpV.g (bj (v := pt w0.hz) rfl rfl kr)
  | 3, _, _ => exact fun w Y => OpV.g (ld Y 1 rfl rfl (isAgg3 _) rfl)
  | 4, _, _ => exact fun w Y => aQ call38 rfl (bT x0 3 _ (by first | assumption | (unfold i64 at *; omega) | omega) om)
  | 5, _, _ => exact fun w Y => OpV.g (aV rfl rfl ⟨om, om⟩)
  | 6, _, _ => exact fun w Y => OpV.g (bj (v := po w0.hz 1) rfl rfl kr)
  | 7, _, _ => exact fun w Y => OpV.g (ld Y 1 rfl rfl (isAgg3 _) rfl)
  | 8, _, _ => exact fun w Y => aQ call38 rfl (bT x1 200 _ (by first | assumption | (unfold i64 at *; omega) | omega) om)
  | 9, _, _ => exact fun w Y => OpV.g (bq rfl rfl ⟨om, om⟩)
  | 10, _, _ => exact fun w Y => OpV.g (bj (v := po w0.hz 2) rfl rfl kr)
  | 11, _, _ => exact fun w Y => OpV.g (ld Y 1 rfl rfl (isAgg3 _) rfl)
  | 12, _, _ => exact fun w Y => aQ call38 rfl (bT x2 200 _ (by first | assumption | (unfold i64 at *; omega) | omega) om)
  | 13, _, _ => exact fun w Y => OpV.g (bq rfl rfl ⟨om, om⟩)
  | 14, _, _ => exact fun w Y => OpV.g (bx (v := .agg #[iv (pickI t 10000001), iv (1 + (pickI x0 3)), iv ((pickI x1 200) - 1), iv ((pickI x2 200) - 1), .string (⟨#[]⟩)]) rfl kr)
  | 15, _, h => exact absurd sm h
  | i + 16, h, _ => exact absurd h om
 ·intro i hi
  simp only [List.mem_cons, List.not_mem_nil, or_false] at hi
  subst hi
  ·intro w Y
   exact iZ (zeroValue48 _) (cs := [iv 0, iv 0, iv 0, iv 0, .string (⟨#[]⟩)]) rfl
 clear Z Y
 rintro _ _ ⟨b1, rfl, -, rfl⟩ a w4 Z Y
 replace Z : Fr 43 [(7, iv t), (8, iv (pickI t 10000001)), (9, pt w0.hz), (10, iv x0), (11, iv (pickI x0 3)), (12, iv (1 + (pickI x0 3))), (13, po w0.hz 1), (14, iv x1), (15, iv (pickI x1 200)), (16, iv ((pickI x1 200) - 1)), (17, po w0.hz 2), (18, iv x2), (19, iv (pickI x2 200)), (20, iv ((pickI x2 200) - 1)), (21, .agg #[iv (pickI t 10000001), iv (1 + (pickI x0 3)), iv ((pickI x1 200) - 1), iv ((pickI x2 200) - 1), .string (⟨#[]⟩)]), (5, _), (0, _), (1, _), (3, _), (4, _)] [] a := Z
 replace Y : St No w0 [_, _, _] w4 := Y
 refine ab <| aK (k := 16) 17 [16] kr kr kr ?_
 refine aL 0 Z Y rfl rfl rfl (sizeOf48 _) rfl (lb rfl) (ds := [iv (pickI t 10000001), iv (1 + (pickI x0 3)), iv ((pickI x1 200) - 1), iv ((pickI x2 200) - 1), .string (⟨#[]⟩)]) rfl rfl ?_
 clear Z Y
 intro a w5 Z Y
 refine ab <| aW kr ?_
 refine hK2 _ _ ?_
 replace Z := Z.p3 3 4 5 rfl
 refine ah fun K3 hK3 => aa fun K4 hK4 => wla Z rfl fun a Z => ab (hK4 _ _ <| aq ?_)
 refine aT (fun m a w => ∃ (k : Nat), m = (pickI x3 4).toNat - k ∧ ((k : Int) ≤ pickI x3 4) ∧ Fr 43 [(3, pt w0.hz), (4, pt w1.hz), (5, pt b1), (6, iv (k : Int))] [] a ∧ St No w0 [blk b1 [iv (pickI t 10000001), iv (1 + (pickI x0 3)), iv ((pickI x1 200) - 1), iv ((pickI x2 200) - 1), sv (textR x3 k)] 48, blk w1.hz [iv 0, iv 0, iv 0, iv 0, .string (⟨#[]⟩)] 48, blk w0.hz [iv x0, iv x1, iv x2, iv x3] 67] w) _ ⟨0, rfl, hp4.1, Z.pick [3, 4, 5, 6], Y.select [0, 1, 2] de⟩ ?_
 rintro _ a w6 ⟨k, rfl, hk, Z, Y⟩
 refine ah fun K5 hK5 => aa fun K6 hK6 => wlm Z rfl fun a Z => wlv Z (bj (v := po w0.hz 3) rfl rfl kr) fun a Z => wlv Z (ld Y 2 rfl rfl (isAgg3 _) rfl) fun a Z => am Z Y de call38 rfl (bT x3 4 _ (by first | assumption | (unfold i64 at *; omega) | omega) om) ?_
 clear Z Y
 intro a w7 Z Y
 refine wlv Z (v_lt rfl rfl) fun a Z => ab (hK6 _ _ ?_)
 refine ax Z rfl (fun hc2 => ?_) (fun hc2 => ?_)
 ·rw [hc2] at Z
  try simp only [qz] at hc2
  have hk4 : k < 4 := by omega
  have htl := fx x3 k
  have htl2 := bu (x3.tdiv (4 + (k : Int))) (n := 256) de
  have htd := oB h3 (b := 4 + (k : Int)) om
  refine ap <| hK5 _ _ <| ah fun K7 hK7 => aq <| aH kr (aI kr fun w8 hxz => ?_)
  replace Y := Y.grow hxz
  refine aP (k := 0) 11 [1, 10] Z kr kr kr rfx ?_
  replace Z := Z.p9 3 4 5 6 22 23 24 25 26 rfl
  refine az [9] (fun i => match i with | 9 => pm (fun b : Nat => .slice (some ⟨b, 0, none⟩) 1 1) (fun b => [own (.slice (some ⟨b, 0, none⟩) 1 1) 5 1 [[yv (UInt8.ofNat (pickI (x3.tdiv (4 + (k : Int))) 256).toNat)]]]) (fun _ => True) | _ => fun _ _ => False) 11 [[], [0], [], [2], [], [4], [3, 5], [6], [7], [8], [9]] [po b1 4, sv (textR x3 k), po w0.hz 3, iv x3, iv (k : Int), iv (4 + (k : Int)), iv (x3.tdiv (4 + (k : Int))), iv (pickI (x3.tdiv (4 + (k : Int))) 256), yv (UInt8.ofNat (pickI (x3.tdiv (4 + (k : Int))) 256).toNat), undef, sv ([(UInt8.ofNat (pickI (x3.tdiv (4 + (k : Int))) 256).toNat)])] Z Y kr kr kr ?_ ?_ ?_
  ·intro i hi hiq
   match i, hi, hiq with
   | 0, _, _ => exact fun w Y => OpV.g (ai (v := po b1 4) rfl kr)
   | 1, _, _ => exact fun w Y => OpV.g (ld Y 0 rfl rfl (isAgg9 _) rfl)
   | 2, _, _ => exact fun w Y => OpV.g (bj (v := po w0.hz 3) rfl rfl kr)
   | 3, _, _ => exact fun w Y => OpV.g (ld Y 2 rfl rfl (isAgg3 _) rfl)
   | 4, _, _ => exact fun w Y => OpV.g (ae rfl)
   | 5, _, _ => exact fun w Y => OpV.g (aV rfl rfl ⟨om, om⟩)
   | 6, _, _ => exact fun w Y => OpV.g (pI rfl rfl om h3)
   | 7, _, _ => exact fun w Y => aQ call38 rfl (bT (x3.tdiv (4 + (k : Int))) 256 _ (by first | assumption | (unfold i64 at *; omega) | omega) om)
   | 8, _, _ => exact fun w Y => OpV.g ((l6 (n := pickI (x3.tdiv (4 + (k : Int))) 256) rfl kr underlying5).as (v' := yv (UInt8.ofNat (pickI (x3.tdiv (4 + (k : Int))) 256).toNat)) (by have hp := bu (x3.tdiv (4 + (k : Int))) (n := 256) de; rw [Int.emod_eq_of_lt hp.1 hp.2]))
   | 9, _, h => exact absurd sm h
   | 10, _, _ =>
    rintro _ _ ⟨b3, rfl, -, rfl⟩
    intro w Y
    exact OpV.g (dw (xs := [(UInt8.ofNat (pickI (x3.tdiv (4 + (k : Int))) 256).toNat)]) (Y.ow 0 rfl) rfl underlying68 underlying5 underlying9)
  ·intro i hi
   simp only [List.mem_cons, List.not_mem_nil, or_false] at hi
   subst hi
   ·intro w Y
    exact bn (E := 5) (sz := 1) rfl [[yv (UInt8.ofNat (pickI (x3.tdiv (4 + (k : Int))) 256).toNat)]] (fun _ => by kernel_rfl) sm rfl de
  clear Z Y
  rintro _ _ ⟨b3, rfl, -, rfl⟩ a w9 Z Y
  replace Z : Fr 43 [(29, po b1 4), (30, sv (textR x3 k)), (31, po w0.hz 3), (32, iv x3), (33, iv (k : Int)), (34, iv (4 + (k : Int))), (35, iv (x3.tdiv (4 + (k : Int)))), (36, iv (pickI (x3.tdiv (4 + (k : Int))) 256)), (37, yv (UInt8.ofNat (pickI (x3.tdiv (4 + (k : Int))) 256).toNat)), (38, _), (39, sv ([(UInt8.ofNat (pickI (x3.tdiv (4 + (k : Int))) 256).toNat)])), (3, _), (4, _), (5, _), (6, _), (22, _), (23, _), (24, _), (25, _), (26, _)] [] a := Z
  replace Y : St No w0 [_, _, _, _] w9 := Y
  refine ab <| aK (k := 11) 14 [13] kr kr kr ?_
  refine wlv Z (cM rfl rfl (by simp only [List.length_cons, List.length_nil]; omega)) fun a Z => wlv Z (ai (v := po b1 4) rfl kr) fun a Z => aL 1 Z Y rfl rfl rfl (sizeOf9 _) rfl (lb rfl) (ds := [iv (pickI t 10000001), iv (1 + (pickI x0 3)), iv ((pickI x1 200) - 1), iv ((pickI x2 200) - 1), sv ((textR x3 k) ++ ([(UInt8.ofNat (pickI (x3.tdiv (4 + (k : Int))) 256).toNat)]))]) rfl rfl ?_
  clear Z Y
  intro a w10 Z Y
  refine ab <| aW kr ?_
  refine hK7 _ _ ?_
  replace Z := Z.p4 3 4 5 6 rfl
  replace Y := Y.k3 14 rfl
  refine ar <| wlm Z rfl fun a Z => wlv Z (aV rfl rfl ⟨om, om⟩) fun a Z => wla Z rfl fun a Z => ab ?_
  refine ⟨_, ?_, k + 1, rfl, om, Z.pick [3, 4, 5, 6], Y.select [0, 1, 2] de⟩
  omega
 rw [hc2] at Z
 try simp only [qz] at hc2
 refine aM <| hK3 _ _ <| aa fun K8 hK8 => wlv Z (aw (Y.g 0 rfl) rfl (isAgg48 _) (sizeOf48 _)) fun a Z => aL 1 Z Y rfl rfl rfl (sizeOf48 _) rfl (lb rfl) (ds := [iv (pickI t 10000001), iv (1 + (pickI x0 3)), iv ((pickI x1 200) - 1), iv ((pickI x2 200) - 1), sv (textR x3 k)]) rfl rfl ?_
 clear Z Y
 intro a w11 Z Y
 refine ab (hK8 _ _ ?_)
 replace Z := Z.p1 4 rfl
 replace Y := Y.k1 2 rfl
 refine ao ?_
 refine al Z results39 (aN rfl (bG (Y.g 0 rfl) (isAgg48 _) (sizeOf48 _)) ag) ?_
 have hke : k = (pickI x3 4).toNat := by omega
 exact ⟨by simp only [retv]; unfold entR; rw [← hke], Y.ext⟩
theorem nf (owner : Int) (xv : Value) (ys : List Rin) (w0 : World) (hxv : SlAt w0 xv 5 (ys.map Rin.cells)) (hys : ∀ y ∈ ys, y.wt) (how : i64 owner) :
  Ret Tryz.prog 7 #[iv owner, xv] w0 (MemR w0 (fun v : Value => .agg #[iv (pickI owner 100), v]) (fun v => [own v 48 5 ((madeR ys).map Rec.cells)]) (fun _ => True)) := by
 have hxb := hxv.2.1
 simp only [List.length_map, big] at hxb
 refine aC func7 rfl ntmps7 (lb rfl) fun a Z => ?_
 replace Z := Z.p2 0 1 rfl
 replace Y : St No w0 [] w0 := St.init w0
 refine aa fun K1 hK1 => aY Z Y de (zeroValue25 _) (cs := [iv 0, .slice none 0 0]) rfl ?_
 clear Z Y
 intro a w1 Z Y
 refine ab (hK1 _ _ <| aa fun K2 hK2 => ?_)
 refine wlm Z rfl fun a Z => am Z Y de call38 rfl (bT owner 100 _ (by first | assumption | (unfold i64 at *; omega) | omega) om) ?_
 clear Z Y
 intro a w2 Z Y
 refine wlv Z (bx (v := .agg #[iv (pickI owner 100), .slice none 0 0]) rfl kr) fun a Z => aY Z Y de (zeroValue25 _) (cs := [iv 0, .slice none 0 0]) rfl ?_
 clear Z Y
 intro a w3 Z Y
 refine aL 0 Z Y rfl rfl rfl (sizeOf25 _) rfl (lb rfl) (ds := [iv (pickI owner 100), .slice none 0 0]) rfl rfl ?_
 clear Z Y
 intro a w4 Z Y
 refine ab (hK2 _ _ <| aa fun K3 hK3 => ?_)
 refine wla Z rfl fun a Z => ab (hK3 _ _ <| ah fun K4 hK4 => ?_)
 refine aa fun K5 hK5 => wla Z rfl fun a Z => ab (hK5 _ _ <| aq ?_)
 replace Y : St No w0 [own (.slice none 0 0) 48 5 ((recsR 0 (ys.take 0)).map Rec.cells), blk w2.hz [iv (pickI owner 100), .slice none 0 0] 25, blk w0.hz [iv 0, .slice none 0 0] 25] w4 := Y.nil_own
 refine aT (fun m a w => ∃ (k : Nat) (v : Value), m = 12 - k ∧ (k ≤ ys.length) ∧ (k ≤ 12) ∧ Fr 58 [(1, xv), (4, pt w0.hz), (5, pt w2.hz), (6, iv (timeR 0 (ys.take k))), (7, iv (k : Int))] [] a ∧ St No w0 [blk w2.hz [iv (pickI owner 100), v] 25, blk w0.hz [iv 0, .slice none 0 0] 25, own v 48 5 ((recsR 0 (ys.take k)).map Rec.cells)] w) _ ⟨0, .slice none 0 0, rfl, Nat.zero_le _, de, Z.pick [1, 4, 5, 6, 7], Y.select [1, 2, 0] de⟩ ?_
 rintro _ a w5 ⟨k, v, rfl, hk, hk12, Z, Y⟩
 refine ah fun K6 hK6 => aa fun K7 hK7 => wlm Z rfl fun a Z => wlm Z rfl fun a Z => wlv Z ((aB (sT := 22) (Y.arg hxv) rfl rfl (runUnderlying22 _)).asi (m' := (ys.length : Int)) (by rw [List.length_map])) fun a Z => wlv Z (v_lt rfl rfl) fun a Z => wlm Z rfl fun a Z => ?_
 rcases Bool.eq_false_or_eq_true (decide ((k : Int) < (ys.length : Int))) with hb1 | hb1
 ·rw [hb1] at Z
  try simp only [qz] at hb1
  have hky : k < ys.length := by omega
  refine wly Z (ae rfl) fun a Z => wly Z (v_lt rfl rfl) fun a Z => wlv Z (aA rfl rfl) fun a Z => ab (hK7 _ _ ?_)
  replace Z := Z.p6 1 4 5 6 7 18 rfl
  refine ax Z rfl (fun hc2 => ?_) (fun hc2 => ?_)
  ·rw [hc2] at Z
   try simp only [qz] at hc2
   obtain ⟨y, hy⟩ : ∃ y, ys.getD k Rin.z = y := ⟨_, rfl⟩
   obtain ⟨hy0, hy1, hy2, hy3, hy4⟩ : y.wt := by rw [← hy]; exact hys _ (bD hky)
   have htm := jC (ys.take k) 0 om
   rw [List.length_take] at htm
   have hp30 := bu y.x0 (n := 30) de
   refine ap <| hK6 _ _ <| ah fun K8 hK8 => aq <| aa fun K9 hK9 => wlm Z rfl fun a Z => wlm Z rfl fun a Z => wlm Z rfl fun a Z => wlv Z ((aj (i := (k : Int)) (sT := 22) (Y.arg hxv) rfl rfl (runUnderlying22 _) (sizeOf65 _) om (by rw [List.length_map]; omega)).as (v' := slAddr xv (k * 5)) rfl) fun a Z => wlv Z (ch (k := k * 5) (j := 0) (Y.arg hxv) (i := k) (by rw [List.length_map]; omega) rfl rfl (fun _ _ => by kernel_rfl)) fun a Z => wlv Z (ay (u := iv y.x0) (i := k) (j := 0) (Y.arg hxv) (by rw [List.length_map]; omega) rfl (isAgg3 _) (by rw [bl Rin.z, hy]; rfl)) fun a Z => am Z Y de call38 rfl (bT y.x0 30 _ (by first | assumption | (unfold i64 at *; omega) | omega) om) ?_
   clear Z Y
   intro a w6 Z Y
   refine wlv Z (aV rfl rfl ⟨om, om⟩) fun a Z => wla Z rfl fun a Z => ab (hK9 _ _ ?_)
   replace Z := Z.p5 1 4 5 7 6 rfl
   refine aH kr (aI kr fun w7 hxz => ?_)
   replace Y := Y.grow hxz
   refine aP (k := 0) 26 [1, 25] Z kr kr kr rfx ?_
   replace Z := Z.p5 1 4 5 7 6 rfl
   refine az [25] (fun i => match i with | 25 => pm (fun b : Nat => .slice (some ⟨b, 0, none⟩) 1 1) (fun b => [own (.slice (some ⟨b, 0, none⟩) 1 1) 48 5 [[iv ((entR ((timeR 0 (ys.take k)) + (pickI y.x0 30)) y.x1 y.x2 y.x3 y.x4).t), iv ((entR ((timeR 0 (ys.take k)) + (pickI y.x0 30)) y.x1 y.x2 y.x3 y.x4).kind), iv ((entR ((timeR 0 (ys.take k)) + (pickI y.x0 30)) y.x1 y.x2 y.x3 y.x4).a), iv ((entR ((timeR 0 (ys.take k)) + (pickI y.x0 30)) y.x1 y.x2 y.x3 y.x4).b), sv ((entR ((timeR 0 (ys.take k)) + (pickI y.x0 30)) y.x1 y.x2 y.x3 y.x4).text)]]]) (fun _ => True) | _ => fun _ _ => False) 26 [[], [0], [], [], [], [3, 4], [5], [6], [], [], [8, 9], [10], [11], [], [], [13, 14], [15], [16], [], [], [18, 19], [20], [21], [7, 12, 17, 22], [2, 23], [24]] [po w2.hz 1, v, iv ((timeR 0 (ys.take k)) + (pickI y.x0 30)), xv, iv (k : Int), slAddr xv (k * 5), slAddr xv (k * 5 + 1), iv y.x1, xv, iv (k : Int), slAddr xv (k * 5), slAddr xv (k * 5 + 2), iv y.x2, xv, iv (k : Int), slAddr xv (k * 5), slAddr xv (k * 5 + 3), iv y.x3, xv, iv (k : Int), slAddr xv (k * 5), slAddr xv (k * 5 + 4), iv y.x4, .agg #[iv y.x1, iv y.x2, iv y.x3, iv y.x4], .agg #[iv ((entR ((timeR 0 (ys.take k)) + (pickI y.x0 30)) y.x1 y.x2 y.x3 y.x4).t), iv ((entR ((timeR 0 (ys.take k)) + (pickI y.x0 30)) y.x1 y.x2 y.x3 y.x4).kind), iv ((entR ((timeR 0 (ys.take k)) + (pickI y.x0 30)) y.x1 y.x2 y.x3 y.x4).a), iv ((entR ((timeR 0 (ys.take k)) + (pickI y.x0 30)) y.x1 y.x2 y.x3 y.x4).b), sv ((entR ((timeR 0 (ys.take k)) + (pickI y.x0 30)) y.x1 y.x2 y.x3 y.x4).text)], undef] Z Y kr kr kr ?_ ?_ ?_
   ·intro i hi hiq
    match i, hi, hiq with
    | 0, _, _ => exact fun w Y => OpV.g (ai (v := po w2.hz 1) rfl kr)
    | 1, _, _ => exact fun w Y => OpV.g (ld Y 0 rfl rfl (isAgg23 _) rfl)
    | 2, _, _ => exact fun w Y => OpV.g (ae rfl)
    | 3, _, _ => exact fun w Y => OpV.g (ae rfl)
    | 4, _, _ => exact fun w Y => OpV.g (ae rfl)
    | 5, _, _ => exact fun w Y => OpV.g ((aj (i := (k : Int)) (sT := 22) (Y.arg hxv) rfl rfl (runUnderlying22 _) (sizeOf65 _) om (by rw [List.length_map]; omega)).as (v' := slAddr xv (k * 5)) rfl)
    | 6, _, _ => exact fun w Y => OpV.g (ch (k := k * 5) (j := 1) (Y.arg hxv) (i := k) (by rw [List.length_map]; omega) rfl rfl (fun _ _ => by kernel_rfl))
    | 7, _, _ => exact fun w Y => OpV.g (ay (u := iv y.x1) (i := k) (j := 1) (Y.arg hxv) (by rw [List.length_map]; omega) rfl (isAgg3 _) (by rw [bl Rin.z, hy]; rfl))
    | 8, _, _ => exact fun w Y => OpV.g (ae rfl)
    | 9, _, _ => exact fun w Y => OpV.g (ae rfl)
    | 10, _, _ => exact fun w Y => OpV.g ((aj (i := (k : Int)) (sT := 22) (Y.arg hxv) rfl rfl (runUnderlying22 _) (sizeOf65 _) om (by rw [List.length_map]; omega)).as (v' := slAddr xv (k * 5)) rfl)
    | 11, _, _ => exact fun w Y => OpV.g (ch (k := k * 5) (j := 2) (Y.arg hxv) (i := k) (by rw [List.length_map]; omega) rfl rfl (fun _ _ => by kernel_rfl))
    | 12, _, _ => exact fun w Y => OpV.g (ay (u := iv y.x2) (i := k) (j := 2) (Y.arg hxv) (by rw [List.length_map]; omega) rfl (isAgg3 _) (by rw [bl Rin.z, hy]; rfl))
    | 13, _, _ => exact fun w Y => OpV.g (ae rfl)
    | 14, _, _ => exact fun w Y => OpV.g (ae rfl)
    | 15, _, _ => exact fun w Y => OpV.g ((aj (i := (k : Int)) (sT := 22) (Y.arg hxv) rfl rfl (runUnderlying22 _) (sizeOf65 _) om (by rw [List.length_map]; omega)).as (v' := slAddr xv (k * 5)) rfl)
    | 16, _, _ => exact fun w Y => OpV.g (ch (k := k * 5) (j := 3) (Y.arg hxv) (i := k) (by rw [List.length_map]; omega) rfl rfl (fun _ _ => by kernel_rfl))
    | 17, _, _ => exact fun w Y => OpV.g (ay (u := iv y.x3) (i := k) (j := 3) (Y.arg hxv) (by rw [List.length_map]; omega) rfl (isAgg3 _) (by rw [bl Rin.z, hy]; rfl))
    | 18, _, _ => exact fun w Y => OpV.g (ae rfl)
    | 19, _, _ => exact fun w Y => OpV.g (ae rfl)
    | 20, _, _ => exact fun w Y => OpV.g ((aj (i := (k : Int)) (sT := 22) (Y.arg hxv) rfl rfl (runUnderlying22 _) (sizeOf65 _) om (by rw [List.length_map]; omega)).as (v' := slAddr xv (k * 5)) rfl)
    | 21, _, _ => exact fun w Y => OpV.g (ch (k := k * 5) (j := 4) (Y.arg hxv) (i := k) (by rw [List.length_map]; omega) rfl rfl (fun _ _ => by kernel_rfl))
    | 22, _, _ => exact fun w Y => OpV.g (ay (u := iv y.x4) (i := k) (j := 4) (Y.arg hxv) (by rw [List.length_map]; omega) rfl (isAgg3 _) (by rw [bl Rin.z, hy]; rfl))
    | 23, _, _ => exact fun w Y => OpV.g (bx (v := .agg #[iv y.x1, iv y.x2, iv y.x3, iv y.x4]) rfl kr)
    | 24, _, _ => exact fun w Y => aQ call39 rfl (mq ((timeR 0 (ys.take k)) + (pickI y.x0 30)) y.x1 y.x2 y.x3 y.x4 _ (by unfold i64; omega) (by assumption) (by assumption) (by assumption) (by assumption))
    | 25, _, h => exact absurd sm h
    | i + 26, h, _ => exact absurd h om
   ·intro i hi
    simp only [List.mem_cons, List.not_mem_nil, or_false] at hi
    subst hi
    ·intro w Y
     exact bn (E := 48) (sz := 5) rfl [[iv ((entR ((timeR 0 (ys.take k)) + (pickI y.x0 30)) y.x1 y.x2 y.x3 y.x4).t), iv ((entR ((timeR 0 (ys.take k)) + (pickI y.x0 30)) y.x1 y.x2 y.x3 y.x4).kind), iv ((entR ((timeR 0 (ys.take k)) + (pickI y.x0 30)) y.x1 y.x2 y.x3 y.x4).a), iv ((entR ((timeR 0 (ys.take k)) + (pickI y.x0 30)) y.x1 y.x2 y.x3 y.x4).b), sv ((entR ((timeR 0 (ys.take k)) + (pickI y.x0 30)) y.x1 y.x2 y.x3 y.x4).text)]] (fun _ => by kernel_rfl) sm rfl de
   clear Z Y
   rintro _ _ ⟨b3, rfl, -, rfl⟩ a w8 Z Y
   replace Z : Fr 58 [(29, po w2.hz 1), (30, v), (31, iv ((timeR 0 (ys.take k)) + (pickI y.x0 30))), (32, xv), (33, iv (k : Int)), (34, slAddr xv (k * 5)), (35, slAddr xv (k * 5 + 1)), (36, iv y.x1), (37, xv), (38, iv (k : Int)), (39, slAddr xv (k * 5)), (40, slAddr xv (k * 5 + 2)), (41, iv y.x2), (42, xv), (43, iv (k : Int)), (44, slAddr xv (k * 5)), (45, slAddr xv (k * 5 + 3)), (46, iv y.x3), (47, xv), (48, iv (k : Int)), (49, slAddr xv (k * 5)), (50, slAddr xv (k * 5 + 4)), (51, iv y.x4), (52, .agg #[iv y.x1, iv y.x2, iv y.x3, iv y.x4]), (53, .agg #[iv ((entR ((timeR 0 (ys.take k)) + (pickI y.x0 30)) y.x1 y.x2 y.x3 y.x4).t), iv ((entR ((timeR 0 (ys.take k)) + (pickI y.x0 30)) y.x1 y.x2 y.x3 y.x4).kind), iv ((entR ((timeR 0 (ys.take k)) + (pickI y.x0 30)) y.x1 y.x2 y.x3 y.x4).a), iv ((entR ((timeR 0 (ys.take k)) + (pickI y.x0 30)) y.x1 y.x2 y.x3 y.x4).b), sv ((entR ((timeR 0 (ys.take k)) + (pickI y.x0 30)) y.x1 y.x2 y.x3 y.x4).text)]), (54, _), (1, _), (4, _), (5, _), (7, _), (6, _)] [] a := Z
   replace Y : St No w0 [_, _, _, _] w8 := Y
   refine ab <| aK (k := 26) 29 [28] kr kr kr ?_
   refine aX (i := 3) (sT := 23) (inf := Tryz.t48) (z := .agg #[iv 0, iv 0, iv 0, iv 0, .string (⟨#[]⟩)]) (b := 0) (off := 0) (m := 0) (c := 0) rfl rfl rfl (Y.ow 0 rfl) sm underlying23 rfl rfl rfl rfl de (by simp [Value.oneCell', yv, wv, sv]) (by have hby : Tryz.t48.bytes = 48 := rfl; simp only [big, hby, List.length_append, List.length_map, dj, List.length_take, List.length_cons, List.length_nil]; omega) (by have hby : Tryz.t48.bytes = 48 := rfl; simp only [big, hby, List.length_append, List.length_map, dj, List.length_take, List.length_cons, List.length_nil]; omega) de Z Y fun a w9 s4 Z Y _ => wlv Z (ai (v := po w2.hz 1) rfl kr) fun a Z => cq 1 Z Y (Y.ow 3 rfl) rfl rfl rfl (sizeOf23 _) (lb rfl) (ds := [iv (pickI owner 100), s4]) rfl rfl ?_
   clear Z Y
   intro a w10 Z Y
   refine ab <| aW kr ?_
   refine hK8 _ _ ?_
   replace Z := Z.p5 1 4 5 7 6 rfl
   replace Y := Y.k3 14 rfl
   rw [show ((recsR 0 (ys.take k)).map Rec.cells) ++ ([[iv ((entR ((timeR 0 (ys.take k)) + (pickI y.x0 30)) y.x1 y.x2 y.x3 y.x4).t), iv ((entR ((timeR 0 (ys.take k)) + (pickI y.x0 30)) y.x1 y.x2 y.x3 y.x4).kind), iv ((entR ((timeR 0 (ys.take k)) + (pickI y.x0 30)) y.x1 y.x2 y.x3 y.x4).a), iv ((entR ((timeR 0 (ys.take k)) + (pickI y.x0 30)) y.x1 y.x2 y.x3 y.x4).b), sv ((entR ((timeR 0 (ys.take k)) + (pickI y.x0 30)) y.x1 y.x2 y.x3 y.x4).text)]]) = ((recsR 0 (ys.take (k + 1))).map Rec.cells) from by rw [bU Rin.z hky, gV, hy, List.map_append]; rfl] at Y
   rw [show timeR 0 (ys.take k) + pickI y.x0 30 = timeR 0 (ys.take (k + 1)) from by rw [bU Rin.z hky, gh, hy]] at Z
   refine ar <| wlm Z rfl fun a Z => wlv Z (aV rfl rfl ⟨om, om⟩) fun a Z => wla Z rfl fun a Z => ab ?_
   refine ⟨_, ?_, k + 1, s4, rfl, om, om, Z.pick [1, 4, 5, 6, 7], Y.select [0, 1, 2] de⟩
   omega
  rw [hc2] at Z
  try simp only [qz] at hc2
  have htk := gD hk om hk12
  refine aM <| hK4 _ _ <| aa fun K10 hK10 => wlv Z (aw (Y.g 0 rfl) rfl (isAgg25 _) (sizeOf25 _)) fun a Z => bf (us := [iv (pickI owner 100), v]) 1 Z Y rfl rfl rfl (sizeOf25 _) (by intro z hz; simp only [List.mem_cons, List.not_mem_nil, or_false] at hz; rcases hz with rfl | rfl <;> first | rfl | exact SlAt.one (Y.ow 2 rfl)) (lb rfl) (ds := [iv (pickI owner 100), v]) rfl rfl ?_
  clear Z Y
  intro a w11 Z Y
  refine ab (hK10 _ _ ?_)
  replace Z := Z.p1 4 rfl
  replace Y := Y.k2 6 rfl
  refine ao ?_
  refine al Z results7 (aN rfl (bG (Y.g 0 rfl) (isAgg25 _) (sizeOf25 _)) ag) ?_
  rw [htk] at Y
  exact ⟨v, rfl, trivial, Y.ext, St.out (E := [own v 48 5 ((madeR ys).map Rec.cells)]) (H := []) (Y.select [1] de)⟩
 rw [hb1] at Z
 try simp only [qz] at hb1
 have htk := gD hk om hk12
 refine wln Z fun a Z => wln Z fun a Z => wlv Z (au rfl rfl) fun a Z => ab (hK7 _ _ ?_)
 replace Z := Z.p6 1 4 5 6 7 18 rfl
 refine aG Z rfl ?_
 refine aM <| hK4 _ _ <| aa fun K11 hK11 => wlv Z (aw (Y.g 0 rfl) rfl (isAgg25 _) (sizeOf25 _)) fun a Z => bf (us := [iv (pickI owner 100), v]) 1 Z Y rfl rfl rfl (sizeOf25 _) (by intro z hz; simp only [List.mem_cons, List.not_mem_nil, or_false] at hz; rcases hz with rfl | rfl <;> first | rfl | exact SlAt.one (Y.ow 2 rfl)) (lb rfl) (ds := [iv (pickI owner 100), v]) rfl rfl ?_
 clear Z Y
 intro a w12 Z Y
 refine ab (hK11 _ _ ?_)
 replace Z := Z.p1 4 rfl
 replace Y := Y.k2 6 rfl
 refine ao ?_
 refine al Z results7 (aN rfl (bG (Y.g 0 rfl) (isAgg25 _) (sizeOf25 _)) ag) ?_
 rw [htk] at Y
 exact ⟨v, rfl, trivial, Y.ext, St.out (E := [own v 48 5 ((madeR ys).map Rec.cells)]) (H := []) (Y.select [1] de)⟩
theorem lj (n : Int) (w0 : World) (hn : i64 n) :
  Ret Tryz.prog 12 #[iv n] w0 fun v w => v = sv (keyR n) ∧ Ext No w0 w := by
 have hp := bu n (n := 1099511627776) de
 have hq := bA (pickI n 1099511627776)
 refine aC func12 rfl ntmps12 (lb rfl) fun a Z => ?_
 replace Z := Z.p1 0 rfl
 replace Y : St No w0 [] w0 := St.init w0
 refine aa fun K1 hK1 => wla Z rfl fun a Z => ab (hK1 _ _ <| aa fun K2 hK2 => ?_)
 refine wlm Z rfl fun a Z => am Z Y de call38 rfl (bT n 1099511627776 _ (by first | assumption | (unfold i64 at *; omega) | omega) om) ?_
 clear Z Y
 intro a w1 Z Y
 refine am Z Y de call44 rfl (cw (pickI n 1099511627776) _ (by unfold small; omega)) ?_
 clear Z Y
 intro a w2 Z Y
 refine wlm Z rfl fun a Z => wlv Z (ak rfl rfl) fun a Z => wlv Z (ak rfl rfl) fun a Z => wla Z rfl fun a Z => wla Z rfl fun a Z => ab (hK2 _ _ ?_)
 replace Z := Z.p2 2 3 rfl
 refine aa fun K3 hK3 => wlm Z rfl fun a Z => am Z Y de call45 rfl (fg (putI (pickI n 1099511627776)) _ om) ?_
 clear Z Y
 intro a w3 Z Y
 refine wla Z rfl fun a Z => ab (hK3 _ _ <| ao ?_)
 refine al Z results12 (ac rfl ag) ?_
 exact ⟨by rfl, Y.ext⟩
theorem ot (o : Int) (lv : Value) (l : List Rec) (how n at_ : Int) (w0 : World) (hlv : SlAt w0 lv 5 (l.map Rec.cells)) (hll : l.length ≤ 1000) (hh : i64 how) (hn : i64 n) (ha : i64 at_) :
  Ret Tryz.prog 8 #[.agg #[iv o, lv], iv how, iv n, iv at_] w0 (MemR w0 (fun v : Value => .agg #[iv (bentO o how n), v]) (fun v => [own v 48 5 ((bentL l how n at_).map Rec.cells)]) (fun _ => True)) := by
 have hp6 := bu how (n := 6) de
 have hp100 := bu n (n := 100) de
 have hKlt := ol l n at_
 refine aC func8 rfl ntmps8 (lb rfl) fun a Z => ?_
 replace Z := Z.p4 0 1 2 3 rfl
 replace Y : St No w0 [] w0 := St.init w0
 refine aa fun K1 hK1 => bh Z Y de rfl (cs := [iv o, lv]) rfl ?_
 clear Z Y
 intro a w1 Z Y
 refine aY Z Y de (zeroValue25 _) (cs := [iv 0, .slice none 0 0]) rfl ?_
 clear Z Y
 intro a w2 Z Y
 refine ab (hK1 _ _ <| aa fun K2 hK2 => ?_)
 refine aE (E := 48) (sz := 5) rfl [] kr sm rfl de de Z Y ?_
 clear Z Y
 intro a w3 Z Y
 refine wlv Z (ai (v := po w0.hz 1) rfl kr) fun a Z => wlv Z (ld Y 2 rfl rfl (isAgg23 _) rfl) fun a Z => eJ (i := 0) (sT := 23) (inf := Tryz.t48) (z := .agg #[iv 0, iv 0, iv 0, iv 0, .string (⟨#[]⟩)]) rfl rfl rfl (Y.arg hlv) underlying23 rfl rfl rfl rfl de (by first | (simp [Value.oneCell', yv, wv, sv]; done) | exact eq (by intro e he; obtain ⟨p, _, rfl⟩ := List.mem_map.1 he; exact ⟨p, rfl⟩)) (by have hby : Tryz.t48.bytes = 48 := rfl; simp only [big, hby, List.length_append, List.length_map, dj, List.length_take, List.length_cons, List.length_nil]; omega) (by have hby : Tryz.t48.bytes = 48 := rfl; simp only [big, hby, List.length_append, List.length_map, dj, List.length_take, List.length_cons, List.length_nil]; omega) de Z Y ?_
 clear Z Y
 intro a w4 s1 Z Y
 rw [show ([]) ++ ((l).map Rec.cells) = ((l).map Rec.cells) from List.nil_append _] at Y
 refine wlv Z (ai (v := po w0.hz 1) rfl kr) fun a Z => cq 2 Z Y (Y.ow 0 rfl) rfl rfl rfl (sizeOf23 _) (lb rfl) (ds := [iv o, s1]) rfl rfl ?_
 clear Z Y
 intro a w5 Z Y
 refine ab (hK2 _ _ ?_)
 replace Z := Z.p5 1 2 3 4 8 rfl
 refine aa fun K3 hK3 => wla Z rfl fun a Z => ab (hK3 _ _ <| ah fun K4 hK4 => ?_)
 refine aa fun K5 hK5 => wlv Z (ai (v := po w0.hz 1) rfl kr) fun a Z => wlv Z (ld Y 2 rfl rfl (isAgg23 _) rfl) fun a Z => wlv Z ((aB (sT := 23) (Y.ow 0 rfl) rfl rfl (runUnderlying23 _)).asi (m' := (l.length : Int)) (by rw [List.length_map])) fun a Z => wlv Z (v_gt rfl rfl) fun a Z => ab (hK5 _ _ ?_)
 refine cO (fun a w => ∃ (v : Value), Fr 77 [(1, iv how), (2, iv n), (4, pt w0.hz), (8, pt w1.hz), (9, iv ((bentK l at_) : Int))] [] a ∧ St No w0 [blk w1.hz [iv 0, .slice none 0 0] 25, blk w0.hz [iv o, v] 25, own v 48 5 (((aS l n)).map Rec.cells)] w) ?_ ?_
 ·refine ax Z rfl (fun hc2 => ?_) (fun hc2 => ?_)
  ·rw [hc2] at Z
   try simp only [qz] at hc2
   have hle : ¬ l = [] := fun e => by rw [e] at hc2; simp at hc2
   have hKK : bentK l at_ = (pickI at_ (l.length : Int)).toNat := if_neg hle
   have hBB : aS l n = l := if_neg hle
   have hpl := bu at_ (n := (l.length : Int)) om
   refine ar <| wlm Z rfl fun a Z => wlv Z (ai (v := po w0.hz 1) rfl kr) fun a Z => wlv Z (ld Y 2 rfl rfl (isAgg23 _) rfl) fun a Z => wlv Z ((aB (sT := 23) (Y.ow 0 rfl) rfl rfl (runUnderlying23 _)).asi (m' := (l.length : Int)) (by rw [List.length_map])) fun a Z => am Z Y de call38 rfl (bT at_ (l.length : Int) _ (by first | assumption | (unfold i64 at *; omega) | omega) om) ?_
   clear Z Y
   intro a w6 Z Y
   refine wla Z rfl fun a Z => ab ?_
   rw [show ((l).map Rec.cells) = (((aS l n)).map Rec.cells) from by rw [hBB]] at Y
   rw [show pickI at_ (l.length : Int) = ((bentK l at_) : Int) from by rw [hKK]; omega] at Z
   exact ⟨s1, Z.pick [1, 2, 4, 8, 9], Y.select [1, 2, 0] de⟩
  rw [hc2] at Z
  try simp only [qz] at hc2
  have hle : l = [] := List.eq_nil_of_length_eq_zero om
  have hKK : bentK l at_ = 0 := if_pos hle
  have hBB : aS l n = [⟨n, 1, 0, 0, []⟩] := if_pos hle
  refine ar <| wlm Z rfl fun a Z => wlv Z (bx (v := .agg #[iv n, iv 1, iv 0, iv 0, sv ([] : By)]) rfl kr) fun a Z => aE (E := 48) (sz := 5) rfl [[iv n, iv 1, iv 0, iv 0, sv ([] : By)]] kr sm rfl de de Z Y ?_
  clear Z Y
  intro a w7 Z Y
  refine wlv Z (ai (v := po w0.hz 1) rfl kr) fun a Z => aL 3 Z Y rfl rfl rfl (sizeOf23 _) rfl (lb rfl) (ds := [iv o, (.slice (some ⟨w5.hz, 0, none⟩) 1 1)]) rfl rfl ?_
  clear Z Y
  intro a w8 Z Y
  refine ab ?_
  rw [show [[iv n, iv 1, iv 0, iv 0, sv ([] : By)]] = (((aS l n)).map Rec.cells) from by rw [hBB]; rfl] at Y
  replace Z : Fr 77 [(1, iv how), (2, iv n), (3, iv at_), (4, pt w0.hz), (8, pt w1.hz), (9, iv ((bentK l at_) : Int)), (15, po w0.hz 1), (16, s1), (17, iv (l.length : Int)), (18, .bool false), (24, iv n), (25, .agg #[iv n, iv 1, iv 0, iv 0, sv ([] : By)]), (26, (.slice (some ⟨w5.hz, 0, none⟩) 1 1)), (27, po w0.hz 1)] [] a := by rw [hKK]; exact Z.pick [1, 2, 3, 4, 8, 9, 15, 16, 17, 18, 24, 25, 26, 27]
  exact ⟨(.slice (some ⟨w5.hz, 0, none⟩) 1 1), Z.pick [1, 2, 4, 8, 9], Y.select [2, 3, 0] de⟩
 rintro a w9 ⟨v, Z, Y⟩
 refine hK4 _ _ <| ah fun K6 hK6 => aa fun K7 hK7 => wlm Z rfl fun a Z => am Z Y de call38 rfl (bT how 6 _ (by first | assumption | (unfold i64 at *; omega) | omega) om) ?_
 clear Z Y
 intro a w10 Z Y
 refine ab (hK7 _ _ <| aq ?_)
 refine aa fun K8 hK8 => wlv Z (v_eq rfl rfl) fun a Z => wla Z rfl fun a Z => ab (hK8 _ _ ?_)
 refine ax Z rfl (fun hc3 => ?_) (fun hc3 => ?_)
 ·rw [hc3] at Z
  try simp only [qz] at hc3
  refine ar <| wlm Z rfl fun a Z => wlv Z (ai (v := pt w0.hz) rfl kr) fun a Z => aL 1 Z Y rfl rfl rfl (sizeOf3 _) rfl (lb rfl) (ds := [iv n, v]) rfl rfl ?_
  clear Z Y
  intro a w11 Z Y
  refine ab <| hK6 _ _ ?_
  replace Z := Z.p2 4 8 rfl
  refine aa fun K9 hK9 => wlv Z (aw (Y.g 1 rfl) rfl (isAgg25 _) (sizeOf25 _)) fun a Z => bf (us := [iv n, v]) 0 Z Y rfl rfl rfl (sizeOf25 _) (by intro z hz; simp only [List.mem_cons, List.not_mem_nil, or_false] at hz; rcases hz with rfl | rfl <;> first | rfl | exact SlAt.one (Y.ow 2 rfl)) (lb rfl) (ds := [iv n, v]) rfl rfl ?_
  clear Z Y
  intro a w12 Z Y
  refine ab (hK9 _ _ <| ao ?_)
  refine al Z results8 (aN rfl (bG (Y.g 0 rfl) (isAgg25 _) (sizeOf25 _)) ag) ?_
  have hO : bentO o how n = n := if_pos hc3
  have hL : bentL l how n at_ = ((aS l n)) := by unfold bentL bentR; rw [if_pos hc3]; exact hP hKlt
  rw [hO, hL]
  exact ⟨v, rfl, trivial, Y.ext, St.out (E := [own v 48 5 (((aS l n)).map Rec.cells)]) (H := []) (Y.select [2] de)⟩
 rw [hc3] at Z
 try simp only [qz] at hc3
 refine aa fun K10 hK10 => wlv Z (v_eq rfl rfl) fun a Z => wla Z rfl fun a Z => ab (hK10 _ _ ?_)
 refine ax Z rfl (fun hc4 => ?_) (fun hc4 => ?_)
 ·rw [hc4] at Z
  try simp only [qz] at hc4
  refine ar <| wlv Z (ai (v := po w0.hz 1) rfl kr) fun a Z => wlv Z (ld Y 1 rfl rfl (isAgg23 _) rfl) fun a Z => wlm Z rfl fun a Z => wlm Z rfl fun a Z => wlv Z ((aj (i := ((bentK l at_) : Int)) (sT := 23) (Y.ow 2 rfl) rfl rfl (runUnderlying23 _) (sizeOf48 _) om (by rw [List.length_map]; exact hKlt)).as (v' := slAddr v ((bentK l at_) * 5)) (by rw [show (((bentK l at_) : Int)).toNat = (bentK l at_) from by omega])) fun a Z => wlv Z (bP (k := (bentK l at_) * 5) (j := 0) (Y.ow 2 rfl) (i := (bentK l at_)) (by rw [List.length_map]; exact hKlt) rfl (fun _ _ => by kernel_rfl)) fun a Z => cN (k := (bentK l at_)) (j := 0) 2 Z Y rfl rfl rfl (by rw [List.length_map]; exact hKlt) om (sizeOf3 _) (by simp [Value.oneCell', yv, wv, sv, Value.cells]) (lb rfl) (els' := (((aS l n).set (bentK l at_) { ((aS l n).getD (bentK l at_) Rec.z) with t := n }).map Rec.cells)) (eZ hKlt rfl _) rfl ?_
  clear Z Y
  intro a w13 Z Y
  refine ab <| hK6 _ _ ?_
  replace Z := Z.p2 4 8 rfl
  refine aa fun K11 hK11 => wlv Z (aw (Y.g 1 rfl) rfl (isAgg25 _) (sizeOf25 _)) fun a Z => bf (us := [iv o, v]) 0 Z Y rfl rfl rfl (sizeOf25 _) (by intro z hz; simp only [List.mem_cons, List.not_mem_nil, or_false] at hz; rcases hz with rfl | rfl <;> first | rfl | exact SlAt.one (Y.ow 2 rfl)) (lb rfl) (ds := [iv o, v]) rfl rfl ?_
  clear Z Y
  intro a w14 Z Y
  refine ab (hK11 _ _ <| ao ?_)
  refine al Z results8 (aN rfl (bG (Y.g 0 rfl) (isAgg25 _) (sizeOf25 _)) ag) ?_
  have hO : bentO o how n = o := if_neg hc3
  have hL : bentL l how n at_ = ((aS l n).set (bentK l at_) { ((aS l n).getD (bentK l at_) Rec.z) with t := n }) := by unfold bentL bentR; rw [if_neg hc3, if_pos hc4]
  rw [hO, hL]
  exact ⟨v, rfl, trivial, Y.ext, St.out (E := [own v 48 5 (((aS l n).set (bentK l at_) { ((aS l n).getD (bentK l at_) Rec.z) with t := n }).map Rec.cells)]) (H := []) (Y.select [2] de)⟩
 rw [hc4] at Z
 try simp only [qz] at hc4
 refine aa fun K12 hK12 => wlv Z (v_eq rfl rfl) fun a Z => wla Z rfl fun a Z => ab (hK12 _ _ ?_)
 replace Z := Z.p6 2 4 8 9 29 52 rfl
 refine ax Z rfl (fun hc5 => ?_) (fun hc5 => ?_)
 ·rw [hc5] at Z
  try simp only [qz] at hc5
  refine ar <| wlv Z (ai (v := po w0.hz 1) rfl kr) fun a Z => wlv Z (ld Y 1 rfl rfl (isAgg23 _) rfl) fun a Z => wlm Z rfl fun a Z => wlm Z rfl fun a Z => wlv Z ((aj (i := ((bentK l at_) : Int)) (sT := 23) (Y.ow 2 rfl) rfl rfl (runUnderlying23 _) (sizeOf48 _) om (by rw [List.length_map]; exact hKlt)).as (v' := slAddr v ((bentK l at_) * 5)) (by rw [show (((bentK l at_) : Int)).toNat = (bentK l at_) from by omega])) fun a Z => wlv Z (bP (k := (bentK l at_) * 5) (j := 1) (Y.ow 2 rfl) (i := (bentK l at_)) (by rw [List.length_map]; exact hKlt) rfl (fun _ _ => by kernel_rfl)) fun a Z => cN (k := (bentK l at_)) (j := 1) 2 Z Y rfl rfl rfl (by rw [List.length_map]; exact hKlt) om (sizeOf3 _) (by simp [Value.oneCell', yv, wv, sv, Value.cells]) (lb rfl) (els' := (((aS l n).set (bentK l at_) { ((aS l n).getD (bentK l at_) Rec.z) with kind := n }).map Rec.cells)) (eZ hKlt rfl _) rfl ?_
  clear Z Y
  intro a w15 Z Y
  refine ab <| hK6 _ _ ?_
  replace Z := Z.p2 4 8 rfl
  refine aa fun K13 hK13 => wlv Z (aw (Y.g 1 rfl) rfl (isAgg25 _) (sizeOf25 _)) fun a Z => bf (us := [iv o, v]) 0 Z Y rfl rfl rfl (sizeOf25 _) (by intro z hz; simp only [List.mem_cons, List.not_mem_nil, or_false] at hz; rcases hz with rfl | rfl <;> first | rfl | exact SlAt.one (Y.ow 2 rfl)) (lb rfl) (ds := [iv o, v]) rfl rfl ?_
  clear Z Y
  intro a w16 Z Y
  refine ab (hK13 _ _ <| ao ?_)
  refine al Z results8 (aN rfl (bG (Y.g 0 rfl) (isAgg25 _) (sizeOf25 _)) ag) ?_
  have hO : bentO o how n = o := if_neg hc3
  have hL : bentL l how n at_ = ((aS l n).set (bentK l at_) { ((aS l n).getD (bentK l at_) Rec.z) with kind := n }) := by unfold bentL bentR; rw [if_neg hc3, if_neg hc4, if_pos hc5]
  rw [hO, hL]
  exact ⟨v, rfl, trivial, Y.ext, St.out (E := [own v 48 5 (((aS l n).set (bentK l at_) { ((aS l n).getD (bentK l at_) Rec.z) with kind := n }).map Rec.cells)]) (H := []) (Y.select [2] de)⟩
 rw [hc5] at Z
 try simp only [qz] at hc5
 refine aa fun K14 hK14 => wlv Z (v_eq rfl rfl) fun a Z => wla Z rfl fun a Z => ab (hK14 _ _ ?_)
 refine ax Z rfl (fun hc6 => ?_) (fun hc6 => ?_)
 ·rw [hc6] at Z
  try simp only [qz] at hc6
  refine ar <| wlv Z (ai (v := po w0.hz 1) rfl kr) fun a Z => wlv Z (ld Y 1 rfl rfl (isAgg23 _) rfl) fun a Z => wlm Z rfl fun a Z => wlm Z rfl fun a Z => wlv Z ((aj (i := ((bentK l at_) : Int)) (sT := 23) (Y.ow 2 rfl) rfl rfl (runUnderlying23 _) (sizeOf48 _) om (by rw [List.length_map]; exact hKlt)).as (v' := slAddr v ((bentK l at_) * 5)) (by rw [show (((bentK l at_) : Int)).toNat = (bentK l at_) from by omega])) fun a Z => wlv Z (bP (k := (bentK l at_) * 5) (j := 2) (Y.ow 2 rfl) (i := (bentK l at_)) (by rw [List.length_map]; exact hKlt) rfl (fun _ _ => by kernel_rfl)) fun a Z => cN (k := (bentK l at_)) (j := 2) 2 Z Y rfl rfl rfl (by rw [List.length_map]; exact hKlt) om (sizeOf3 _) (by simp [Value.oneCell', yv, wv, sv, Value.cells]) (lb rfl) (els' := (((aS l n).set (bentK l at_) { ((aS l n).getD (bentK l at_) Rec.z) with a := n }).map Rec.cells)) (eZ hKlt rfl _) rfl ?_
  clear Z Y
  intro a w17 Z Y
  refine ab <| hK6 _ _ ?_
  replace Z := Z.p2 4 8 rfl
  refine aa fun K15 hK15 => wlv Z (aw (Y.g 1 rfl) rfl (isAgg25 _) (sizeOf25 _)) fun a Z => bf (us := [iv o, v]) 0 Z Y rfl rfl rfl (sizeOf25 _) (by intro z hz; simp only [List.mem_cons, List.not_mem_nil, or_false] at hz; rcases hz with rfl | rfl <;> first | rfl | exact SlAt.one (Y.ow 2 rfl)) (lb rfl) (ds := [iv o, v]) rfl rfl ?_
  clear Z Y
  intro a w18 Z Y
  refine ab (hK15 _ _ <| ao ?_)
  refine al Z results8 (aN rfl (bG (Y.g 0 rfl) (isAgg25 _) (sizeOf25 _)) ag) ?_
  have hO : bentO o how n = o := if_neg hc3
  have hL : bentL l how n at_ = ((aS l n).set (bentK l at_) { ((aS l n).getD (bentK l at_) Rec.z) with a := n }) := by unfold bentL bentR; rw [if_neg hc3, if_neg hc4, if_neg hc5, if_pos hc6]
  rw [hO, hL]
  exact ⟨v, rfl, trivial, Y.ext, St.out (E := [own v 48 5 (((aS l n).set (bentK l at_) { ((aS l n).getD (bentK l at_) Rec.z) with a := n }).map Rec.cells)]) (H := []) (Y.select [2] de)⟩
 rw [hc6] at Z
 try simp only [qz] at hc6
 refine aa fun K16 hK16 => wlv Z (v_eq rfl rfl) fun a Z => wla Z rfl fun a Z => ab (hK16 _ _ ?_)
 refine ax Z rfl (fun hc7 => ?_) (fun hc7 => ?_)
 ·rw [hc7] at Z
  try simp only [qz] at hc7
  refine ar <| wlv Z (ai (v := po w0.hz 1) rfl kr) fun a Z => wlv Z (ld Y 1 rfl rfl (isAgg23 _) rfl) fun a Z => wlm Z rfl fun a Z => wlm Z rfl fun a Z => wlv Z ((aj (i := ((bentK l at_) : Int)) (sT := 23) (Y.ow 2 rfl) rfl rfl (runUnderlying23 _) (sizeOf48 _) om (by rw [List.length_map]; exact hKlt)).as (v' := slAddr v ((bentK l at_) * 5)) (by rw [show (((bentK l at_) : Int)).toNat = (bentK l at_) from by omega])) fun a Z => wlv Z (bP (k := (bentK l at_) * 5) (j := 3) (Y.ow 2 rfl) (i := (bentK l at_)) (by rw [List.length_map]; exact hKlt) rfl (fun _ _ => by kernel_rfl)) fun a Z => cN (k := (bentK l at_)) (j := 3) 2 Z Y rfl rfl rfl (by rw [List.length_map]; exact hKlt) om (sizeOf3 _) (by simp [Value.oneCell', yv, wv, sv, Value.cells]) (lb rfl) (els' := (((aS l n).set (bentK l at_) { ((aS l n).getD (bentK l at_) Rec.z) with b := n }).map Rec.cells)) (eZ hKlt rfl _) rfl ?_
  clear Z Y
  intro a w19 Z Y
  refine ab <| hK6 _ _ ?_
  replace Z := Z.p2 4 8 rfl
  refine aa fun K17 hK17 => wlv Z (aw (Y.g 1 rfl) rfl (isAgg25 _) (sizeOf25 _)) fun a Z => bf (us := [iv o, v]) 0 Z Y rfl rfl rfl (sizeOf25 _) (by intro z hz; simp only [List.mem_cons, List.not_mem_nil, or_false] at hz; rcases hz with rfl | rfl <;> first | rfl | exact SlAt.one (Y.ow 2 rfl)) (lb rfl) (ds := [iv o, v]) rfl rfl ?_
  clear Z Y
  intro a w20 Z Y
  refine ab (hK17 _ _ <| ao ?_)
  refine al Z results8 (aN rfl (bG (Y.g 0 rfl) (isAgg25 _) (sizeOf25 _)) ag) ?_
  have hO : bentO o how n = o := if_neg hc3
  have hL : bentL l how n at_ = ((aS l n).set (bentK l at_) { ((aS l n).getD (bentK l at_) Rec.z) with b := n }) := by unfold bentL bentR; rw [if_neg hc3, if_neg hc4, if_neg hc5, if_neg hc6, if_pos hc7]
  rw [hO, hL]
  exact ⟨v, rfl, trivial, Y.ext, St.out (E := [own v 48 5 (((aS l n).set (bentK l at_) { ((aS l n).getD (bentK l at_) Rec.z) with b := n }).map Rec.cells)]) (H := []) (Y.select [2] de)⟩
 rw [hc7] at Z
 try simp only [qz] at hc7
 refine aH kr (aI kr fun w21 hxz => ?_)
 replace Y := Y.grow hxz
 refine aP (k := 0) 8 [1, 2, 7] Z kr kr kr rfx ?_
 replace Z := Z.p10 2 4 8 9 29 52 61 60 69 68 rfl
 refine az [6] (fun i => match i with | 6 => pm (fun b : Nat => .slice (some ⟨b, 0, none⟩) ((150 + pickI n 100).toNat) ((150 + pickI n 100).toNat)) (fun b => [own (.slice (some ⟨b, 0, none⟩) ((150 + pickI n 100).toNat) ((150 + pickI n 100).toNat)) 5 1 ((List.replicate ((150 + pickI n 100).toNat) (0 : UInt8)).map fun b => [yv b])]) (fun _ => True) | _ => fun _ _ => False) 8 [[], [0], [], [], [3], [4], [5], [6]] [po w0.hz 1, v, iv ((bentK l at_) : Int), iv n, iv (pickI n 100), iv ((150 + pickI n 100).toNat : Int), undef, sv (List.replicate ((150 + pickI n 100).toNat) (0 : UInt8))] Z Y kr kr kr ?_ ?_ ?_
 ·intro i hi hiq
  match i, hi, hiq with
  | 0, _, _ => exact fun w Y => OpV.g (ai (v := po w0.hz 1) rfl kr)
  | 1, _, _ => exact fun w Y => OpV.g (ld Y 1 rfl rfl (isAgg23 _) rfl)
  | 2, _, _ => exact fun w Y => OpV.g (ae rfl)
  | 3, _, _ => exact fun w Y => OpV.g (ae rfl)
  | 4, _, _ => exact fun w Y => aQ call38 rfl (bT n 100 _ (by first | assumption | (unfold i64 at *; omega) | omega) om)
  | 5, _, _ => exact fun w Y => OpV.g ((aV rfl rfl ⟨om, om⟩).asi (m' := ((150 + pickI n 100).toNat : Int)) om)
  | 6, _, h => exact absurd sm h
  | 7, _, _ =>
   rintro _ _ ⟨b8, rfl, -, rfl⟩
   intro w Y
   exact OpV.g (dw (Y.ow 0 rfl) rfl underlying68 underlying5 underlying9)
 ·intro i hi
  simp only [List.mem_cons, List.not_mem_nil, or_false] at hi
  subst hi
  ·intro w Y
   exact jU (n := ((150 + pickI n 100).toNat)) (E := 5) (sz := 1) rfl rfl ((List.replicate ((150 + pickI n 100).toNat) (0 : UInt8)).map fun b => [yv b]) (il underlying68 (inf := Tryz.t5) rfl rfl rfl rfl de ((150 + pickI n 100).toNat) (by rw [List.map_replicate]; rfl) om) (by intro e he; obtain ⟨_, _, rfl⟩ := List.mem_map.1 he; rfl) sm (by simp only [big]; omega)
 clear Z Y
 rintro _ _ ⟨b8, rfl, -, rfl⟩ a w22 Z Y
 replace Z : Fr 77 [(30, po w0.hz 1), (31, v), (32, iv ((bentK l at_) : Int)), (33, iv n), (34, iv (pickI n 100)), (35, iv ((150 + pickI n 100).toNat : Int)), (36, _), (37, sv (List.replicate ((150 + pickI n 100).toNat) (0 : UInt8))), (2, _), (4, _), (8, _), (9, _), (29, _), (52, _), (61, _), (60, _), (69, _), (68, _)] [] a := Z
 replace Y : St No w0 [_, _, _, _] w22 := Y
 refine ab <| aK (k := 8) 11 [10] kr kr kr ?_
 refine wlv Z ((aj (i := ((bentK l at_) : Int)) (sT := 23) (Y.ow 3 rfl) rfl rfl (runUnderlying23 _) (sizeOf48 _) om (by rw [List.length_map]; exact hKlt)).as (v' := slAddr v ((bentK l at_) * 5)) (by rw [show (((bentK l at_) : Int)).toNat = (bentK l at_) from by omega])) fun a Z => wlv Z (bP (k := (bentK l at_) * 5) (j := 4) (Y.ow 3 rfl) (i := (bentK l at_)) (by rw [List.length_map]; exact hKlt) rfl (fun _ _ => by kernel_rfl)) fun a Z => cN (k := (bentK l at_)) (j := 4) 3 Z Y rfl rfl rfl (by rw [List.length_map]; exact hKlt) om (sizeOf9 _) (by simp [Value.oneCell', yv, wv, sv, Value.cells]) (lb rfl) (els' := (((aS l n).set (bentK l at_) { ((aS l n).getD (bentK l at_) Rec.z) with text := (List.replicate ((150 + pickI n 100).toNat) (0 : UInt8)) }).map Rec.cells)) (eZ hKlt rfl _) rfl ?_
 clear Z Y
 intro a w23 Z Y
 refine ab <| aW kr ?_
 refine hK6 _ _ ?_
 replace Z := Z.p2 4 8 rfl
 replace Y := Y.k3 14 rfl
 refine aa fun K18 hK18 => wlv Z (aw (Y.g 1 rfl) rfl (isAgg25 _) (sizeOf25 _)) fun a Z => bf (us := [iv o, v]) 0 Z Y rfl rfl rfl (sizeOf25 _) (by intro z hz; simp only [List.mem_cons, List.not_mem_nil, or_false] at hz; rcases hz with rfl | rfl <;> first | rfl | exact SlAt.one (Y.ow 2 rfl)) (lb rfl) (ds := [iv o, v]) rfl rfl ?_
 clear Z Y
 intro a w24 Z Y
 refine ab (hK18 _ _ <| ao ?_)
 refine al Z results8 (aN rfl (bG (Y.g 0 rfl) (isAgg25 _) (sizeOf25 _)) ag) ?_
 have hO : bentO o how n = o := if_neg hc3
 have hL : bentL l how n at_ = ((aS l n).set (bentK l at_) { ((aS l n).getD (bentK l at_) Rec.z) with text := (List.replicate ((150 + pickI n 100).toNat) (0 : UInt8)) }) := by unfold bentL bentR; rw [if_neg hc3, if_neg hc4, if_neg hc5, if_neg hc6, if_neg hc7]
 rw [hO, hL]
 exact ⟨v, rfl, trivial, Y.ext, St.out (E := [own v 48 5 (((aS l n).set (bentK l at_) { ((aS l n).getD (bentK l at_) Rec.z) with text := (List.replicate ((150 + pickI n 100).toNat) (0 : UInt8)) }).map Rec.cells)]) (H := []) (Y.select [2] de)⟩
def headB (o : Int) (l : List Rec) : By := if logOk o l = true then rootH sha (codesR l) else []
def headE (o : Int) (l : List Rec) : Int := if logOk o l = true then 0 else 110
theorem dV {o : Int} {l : List Rec} : headE o l = 0 ↔ logOk o l = true := by
 unfold headE; split <;> simp_all
theorem es {o : Int} {l : List Rec} (h : logOk o l = true) : headB o l = rootH sha (codesR l) := if_pos h
theorem mu (o : Int) (l : List Rec) : (headB o l).length ≤ 32 := by
 unfold headB; split
 ·exact Nat.le_of_eq (ca bE _)
 ·simp
def signOk (key : By) (o : Int) (l : List Rec) : Bool := logOk o l && decide (key.length = 32)
def signB (key : By) (o : Int) (l : List Rec) : By := if signOk key o l = true then tagR sha key o (l.length : Int) (rootH sha (codesR l)) else []
def signE (key : By) (o : Int) (l : List Rec) : Int := if signOk key o l = true then 0 else 110
def inR (o : Int) (l : List Rec) (i : Int) : Bool := logOk o l && decide (0 ≤ i) && decide (i < (l.length : Int))
def proveL (o : Int) (l : List Rec) (i : Int) : List By := if inR o l i = true then proofH sha (codesR l) i.toNat else []
def proveE (o : Int) (l : List Rec) (i : Int) : Int := if inR o l i = true then 0 else 110
def inG (o : Int) (l : List Rec) (i : Int) : Bool := logOk o l && decide (0 ≤ i) && decide (i ≤ (l.length : Int))
def grownL (o : Int) (l : List Rec) (i : Int) : List By := if inG o l i = true then extH sha (codesR l) i.toNat else []
def grownE (o : Int) (l : List Rec) (i : Int) : Int := if inG o l i = true then 0 else 110
def checkB (root : By) (n i : Int) (x : Rec) (p : List By) : Bool := x.ok && ck sha root n i x.enc p
def few11 (xs : List By) (m : Nat) : List By := (xs.take m).map fun s => s.take 40
theorem lS (xs : List By) (m : Nat) : (few11 xs m).length ≤ m := by rw [few11, List.length_map, List.length_take]; omega
theorem nl {xs : List By} {k : Nat} (h : k < xs.length) : few11 xs (k + 1) = few11 xs k ++ [(xs.getD k []).take 40] := by
 rw [few11, bU [] h, List.map_append]; rfl
theorem ln {xs : List By} {k m : Nat} (hk : k ≤ xs.length) (h : ¬ (k < xs.length ∧ k < m)) (hm : k ≤ m) : few11 xs k = few11 xs m := by
 unfold few11
 by_cases h1 : k = m
 ·rw [h1]
 ·rw [List.take_of_length_le om, List.take_of_length_le om]
theorem cr {l : List Rec} (h : ∀ x ∈ l, x.ok = true) : ∀ s ∈ codesR l, s.length ≤ 300 := by rw [← cQ h]; exact eP l
theorem ly {l : List Rec} {k : Nat} (hk : k ≤ l.length) (h : ¬ (k < l.length ∧ k < 3)) (h3 : k ≤ 3) : (l.take k).map cutRec = cutR l := by
 unfold cutR
 by_cases h1 : k = 3
 ·rw [h1]
 ·rw [List.take_of_length_le om, List.take_of_length_le om]
theorem fE (o n : Int) (root : By) : (dc o n root).length ≤ 18 + root.length := by
 have h1 := bA o
 have h2 := bA n
 simp only [dc, puts, List.flatMap_cons, List.flatMap_nil, List.length_append, List.length_nil]; omega
theorem qb (av : Value) (xs : List By) (mm : Nat) (w0 : World) (hav : SlAt w0 av 1 (xs.map fun s => [sv s])) (hm : mm ≤ 1000) :
  Ret Tryz.prog 6 #[av, iv (mm : Int)] w0 (MemR w0 (fun v : Value => v) (fun v => [own v 9 1 ((few11 xs mm).map fun s => [sv s])]) (fun _ => True)) := by
 have hxb := hav.2.1
 simp only [List.length_map, big] at hxb
 refine aC func6 rfl ntmps6 (lb rfl) fun a Z => ?_
 replace Z := Z.p2 0 1 rfl
 replace Y : St No w0 [] w0 := St.init w0
 refine aa fun K1 hK1 => wla Z rfl fun a Z => ab (hK1 _ _ <| aa fun K2 hK2 => ?_)
 refine wla Z rfl fun a Z => ab (hK2 _ _ <| ah fun K3 hK3 => ?_)
 refine aa fun K4 hK4 => wla Z rfl fun a Z => ab (hK4 _ _ <| aq ?_)
 replace Y : St No w0 [own (.slice none 0 0) 9 1 ((few11 xs 0).map fun s => [sv s])] w0 := Y.nil_own
 refine aT (fun m a w => ∃ (k : Nat) (v : Value), m = mm - k ∧ (k ≤ xs.length) ∧ (k ≤ mm) ∧ Fr 33 [(0, av), (1, iv (mm : Int)), (4, .slice none 0 0), (5, v), (6, iv (k : Int))] [] a ∧ St No w0 [own v 9 1 ((few11 xs k).map fun s => [sv s])] w) _ ⟨0, .slice none 0 0, rfl, Nat.zero_le _, Nat.zero_le _, Z.pick [0, 1, 4, 5, 6], Y⟩ ?_
 rintro _ a w1 ⟨k, v, rfl, hk, hkm, Z, Y⟩
 refine ah fun K5 hK5 => aa fun K6 hK6 => wlm Z rfl fun a Z => wlm Z rfl fun a Z => wlv Z ((aB (sT := 26) (Y.arg hav) rfl rfl (runUnderlying26 _)).asi (m' := (xs.length : Int)) sm) fun a Z => wlv Z (v_lt rfl rfl) fun a Z => wlm Z rfl fun a Z => ?_
 rcases Bool.eq_false_or_eq_true (decide ((k : Int) < (xs.length : Int))) with hb1 | hb1
 ·rw [hb1] at Z
  try simp only [qz] at hb1
  have hkx : k < xs.length := by omega
  refine wly Z (ae rfl) fun a Z => wly Z (ae rfl) fun a Z => wly Z (v_lt rfl rfl) fun a Z => wlv Z (aA rfl rfl) fun a Z => ab (hK6 _ _ ?_)
  replace Z := Z.p6 0 1 4 5 6 15 rfl
  refine ax Z rfl (fun hc2 => ?_) (fun hc2 => ?_)
  ·rw [hc2] at Z
   try simp only [qz] at hc2
   refine ap <| hK5 _ _ <| ah fun K7 hK7 => aq <| aH kr (aI kr fun w2 hxz => ?_)
   replace Y := Y.grow hxz
   refine aP (k := 0) 13 [0, 12] Z kr kr kr rfx ?_
   replace Z := Z.p6 0 1 4 5 6 15 rfl
   refine az [12] (fun i => match i with | 12 => pm (fun b : Nat => .slice (some ⟨b, 0, none⟩) 1 1) (fun b => [own (.slice (some ⟨b, 0, none⟩) 1 1) 9 1 [[sv ((xs.getD k []).take (min (xs.getD k []).length 40))]]]) (fun _ => True) | _ => fun _ _ => False) 13 [[], [], [], [1, 2], [3], [], [], [5, 6], [7], [8], [9], [4, 10], [11]] [v, av, iv (k : Int), slAddr av (k * 1), sv (xs.getD k []), av, iv (k : Int), slAddr av (k * 1), sv (xs.getD k []), iv ((xs.getD k []).length : Int), iv (min ((xs.getD k []).length : Int) 40), sv ((xs.getD k []).take (min (xs.getD k []).length 40)), undef] Z Y kr kr kr ?_ ?_ ?_
   ·intro i hi hiq
    match i, hi, hiq with
    | 0, _, _ => exact fun w Y => OpV.g (ae rfl)
    | 1, _, _ => exact fun w Y => OpV.g (ae rfl)
    | 2, _, _ => exact fun w Y => OpV.g (ae rfl)
    | 3, _, _ => exact fun w Y => OpV.g ((aj (i := (k : Int)) (sT := 26) (Y.arg hav) rfl rfl (runUnderlying26 _) (sizeOf9 _) om (by rw [List.length_map]; omega)).as (v' := slAddr av (k * 1)) rfl)
    | 4, _, _ => exact fun w Y => OpV.g (ay (u := sv (xs.getD k [])) (i := k) (j := 0) (Y.arg hav) (by rw [List.length_map]; omega) rfl (isAgg9 _) (by simp [List.getD_eq_getElem?_getD, List.getElem?_eq_getElem (show k < xs.length by omega)]))
    | 5, _, _ => exact fun w Y => OpV.g (ae rfl)
    | 6, _, _ => exact fun w Y => OpV.g (ae rfl)
    | 7, _, _ => exact fun w Y => OpV.g ((aj (i := (k : Int)) (sT := 26) (Y.arg hav) rfl rfl (runUnderlying26 _) (sizeOf9 _) om (by rw [List.length_map]; omega)).as (v' := slAddr av (k * 1)) rfl)
    | 8, _, _ => exact fun w Y => OpV.g (ay (u := sv (xs.getD k [])) (i := k) (j := 0) (Y.arg hav) (by rw [List.length_map]; omega) rfl (isAgg9 _) (by simp [List.getD_eq_getElem?_getD, List.getElem?_eq_getElem (show k < xs.length by omega)]))
    | 9, _, _ => exact fun w Y => OpV.g (aZ rfl rfl (runUnderlying9 _))
    | 10, _, _ => exact fun w Y => OpV.g (iN rfl rfl)
    | 11, _, _ => exact fun w Y => OpV.g ((ei (xs := xs.getD k []) (l := 0) (h := (min (xs.getD k []).length 40)) rfl rfl rfl underlying9 (.inl ⟨rfl, rfl⟩) (.inr (by rw [show (min ((xs.getD k []).length : Int) 40 : Int) = (((min (xs.getD k []).length 40) : Nat) : Int) from by omega] <;> rfl)) om (by first | omega | exact Nat.min_le_left _ _)).as (v' := sv ((xs.getD k []).take (min (xs.getD k []).length 40))) rfl)
    | 12, _, h => exact absurd sm h
    | i + 13, h, _ => exact absurd h om
   ·intro i hi
    simp only [List.mem_cons, List.not_mem_nil, or_false] at hi
    subst hi
    ·intro w Y
     exact bn (E := 9) (sz := 1) rfl [[sv ((xs.getD k []).take (min (xs.getD k []).length 40))]] (fun _ => by kernel_rfl) sm rfl de
   clear Z Y
   rintro _ _ ⟨b3, rfl, -, rfl⟩ a w3 Z Y
   replace Z : Fr 33 [(18, v), (19, av), (20, iv (k : Int)), (21, slAddr av (k * 1)), (22, sv (xs.getD k [])), (23, av), (24, iv (k : Int)), (25, slAddr av (k * 1)), (26, sv (xs.getD k [])), (27, iv ((xs.getD k []).length : Int)), (28, iv (min ((xs.getD k []).length : Int) 40)), (29, sv ((xs.getD k []).take (min (xs.getD k []).length 40))), (30, _), (0, _), (1, _), (4, _), (5, _), (6, _), (15, _)] [] a := Z
   replace Y : St No w0 [_, _] w3 := Y
   refine ab <| aK (k := 13) 15 [14] kr kr kr ?_
   refine aX (i := 1) (sT := 26) (inf := Tryz.t9) (z := .string (⟨#[]⟩)) (b := 0) (off := 0) (m := 0) (c := 0) rfl rfl rfl (Y.ow 0 rfl) sm underlying26 rfl rfl rfl rfl de (by simp [Value.oneCell', yv, wv, sv]) (by have hby : Tryz.t9.bytes = 16 := rfl; simp only [big, hby, few11, List.length_append, List.length_map, List.length_take, List.length_cons, List.length_nil]; omega) (by have hby : Tryz.t9.bytes = 16 := rfl; simp only [big, hby, few11, List.length_append, List.length_map, List.length_take, List.length_cons, List.length_nil]; omega) de Z Y fun a w4 s4 Z Y _ => wla Z rfl fun a Z => ab <| aW kr ?_
   refine hK7 _ _ ?_
   replace Z := Z.p5 0 1 4 6 5 rfl
   replace Y := Y.k1 2 rfl
   rw [show ((few11 xs k).map fun s => [sv s]) ++ ([[sv ((xs.getD k []).take (min (xs.getD k []).length 40))]]) = ((few11 xs (k + 1)).map fun s => [sv s]) from by rw [nl hkx, jZ]; simp] at Y
   refine ar <| wlm Z rfl fun a Z => wlv Z (aV rfl rfl ⟨om, om⟩) fun a Z => wla Z rfl fun a Z => ab ?_
   refine ⟨_, ?_, k + 1, s4, rfl, om, om, Z.pick [0, 1, 4, 5, 6], Y⟩
   omega
  rw [hc2] at Z
  try simp only [qz] at hc2
  have hfe := ln hk om hkm
  refine aM <| hK3 _ _ <| aa fun K8 hK8 => wlm Z rfl fun a Z => wla Z rfl fun a Z => ab (hK8 _ _ ?_)
  replace Z := Z.p1 4 rfl
  refine ao ?_
  refine al Z results6 (ac rfl ag) ?_
  rw [hfe] at Y
  exact ⟨v, rfl, trivial, Y.ext, St.out (E := [own v 9 1 ((few11 xs mm).map fun s => [sv s])]) (H := []) (Y.select [0] de)⟩
 rw [hb1] at Z
 try simp only [qz] at hb1
 have hfe := ln hk om hkm
 refine wln Z fun a Z => wln Z fun a Z => wln Z fun a Z => wlv Z (au rfl rfl) fun a Z => ab (hK6 _ _ ?_)
 replace Z := Z.p6 0 1 4 5 6 15 rfl
 refine aG Z rfl ?_
 refine aM <| hK3 _ _ <| aa fun K9 hK9 => wlm Z rfl fun a Z => wla Z rfl fun a Z => ab (hK9 _ _ ?_)
 replace Z := Z.p1 4 rfl
 refine ao ?_
 refine al Z results6 (ac rfl ag) ?_
 rw [hfe] at Y
 exact ⟨v, rfl, trivial, Y.ext, St.out (E := [own v 9 1 ((few11 xs mm).map fun s => [sv s])]) (H := []) (Y.select [0] de)⟩
theorem pM (o : Int) (lv : Value) (l : List Rec) (w0 : World) (hlv : SlAt w0 lv 5 (l.map Rec.cells)) :
  Ret Tryz.prog 9 #[.agg #[iv o, lv]] w0 (MemR w0 (fun v : Value => .agg #[iv o, v]) (fun v => [own v 48 5 ((cutR l).map Rec.cells)]) (fun _ => True)) := by
 have hxb := hlv.2.1
 simp only [List.length_map, big] at hxb
 refine aC func9 rfl ntmps9 (lb rfl) fun a Z => ?_
 replace Z := Z.p1 0 rfl
 replace Y : St No w0 [] w0 := St.init w0
 refine aa fun K1 hK1 => bh Z Y de rfl (cs := [iv o, lv]) rfl ?_
 clear Z Y
 intro a w1 Z Y
 refine aY Z Y de (zeroValue25 _) (cs := [iv 0, .slice none 0 0]) rfl ?_
 clear Z Y
 intro a w2 Z Y
 refine ab (hK1 _ _ <| aa fun K2 hK2 => ?_)
 refine wlv Z (ai (v := pt w0.hz) rfl kr) fun a Z => wlv Z (ld Y 1 rfl rfl (isAgg3 _) rfl) fun a Z => wlv Z (bx (v := .agg #[iv o, .slice none 0 0]) rfl kr) fun a Z => aY Z Y de (zeroValue25 _) (cs := [iv 0, .slice none 0 0]) rfl ?_
 clear Z Y
 intro a w3 Z Y
 refine aL 0 Z Y rfl rfl rfl (sizeOf25 _) rfl (lb rfl) (ds := [iv o, .slice none 0 0]) rfl rfl ?_
 clear Z Y
 intro a w4 Z Y
 refine ab (hK2 _ _ <| ah fun K3 hK3 => ?_)
 refine aa fun K4 hK4 => wla Z rfl fun a Z => ab (hK4 _ _ <| aq ?_)
 replace Y : St No w0 [own (.slice none 0 0) 48 5 ((((l.take 0).map cutRec)).map Rec.cells), blk w2.hz [iv o, .slice none 0 0] 25, blk w1.hz [iv 0, .slice none 0 0] 25, blk w0.hz [iv o, lv] 25] w4 := Y.nil_own
 refine aT (fun m a w => ∃ (k : Nat) (v : Value), m = 3 - k ∧ (k ≤ l.length) ∧ (k ≤ 3) ∧ Fr 40 [(1, pt w0.hz), (2, pt w1.hz), (3, pt w2.hz), (4, iv (k : Int))] [] a ∧ St No w0 [blk w2.hz [iv o, v] 25, blk w1.hz [iv 0, .slice none 0 0] 25, blk w0.hz [iv o, lv] 25, own v 48 5 ((((l.take k).map cutRec)).map Rec.cells)] w) _ ⟨0, .slice none 0 0, rfl, Nat.zero_le _, de, Z.pick [1, 2, 3, 4], Y.select [1, 2, 3, 0] de⟩ ?_
 rintro _ a w5 ⟨k, v, rfl, hk, hk3, Z, Y⟩
 refine ah fun K5 hK5 => aa fun K6 hK6 => wlm Z rfl fun a Z => wlv Z (ai (v := po w0.hz 1) rfl kr) fun a Z => wlv Z (ld Y 2 rfl rfl (isAgg23 _) rfl) fun a Z => wlv Z ((aB (sT := 23) (Y.arg hlv) rfl rfl (runUnderlying23 _)).asi (m' := (l.length : Int)) (by rw [List.length_map])) fun a Z => wlv Z (v_lt rfl rfl) fun a Z => wlm Z rfl fun a Z => ?_
 rcases Bool.eq_false_or_eq_true (decide ((k : Int) < (l.length : Int))) with hb1 | hb1
 ·rw [hb1] at Z
  try simp only [qz] at hb1
  have hkx : k < l.length := by omega
  refine wly Z (ae rfl) fun a Z => wly Z (v_lt rfl rfl) fun a Z => wlv Z (aA rfl rfl) fun a Z => ab (hK6 _ _ ?_)
  replace Z := Z.p5 1 2 3 4 17 rfl
  refine ax Z rfl (fun hc2 => ?_) (fun hc2 => ?_)
  ·rw [hc2] at Z
   try simp only [qz] at hc2
   refine ap <| hK5 _ _ <| ah fun K7 hK7 => aq <| aa fun K8 hK8 => wlv Z (ai (v := po w0.hz 1) rfl kr) fun a Z => wlv Z (ld Y 2 rfl rfl (isAgg23 _) rfl) fun a Z => wlm Z rfl fun a Z => wlv Z ((aj (i := (k : Int)) (sT := 23) (Y.arg hlv) rfl rfl (runUnderlying23 _) (sizeOf48 _) om (by rw [List.length_map]; omega)).as (v' := slAddr lv (k * 5)) rfl) fun a Z => wlv Z ((aU (Y.arg hlv) (i := k) (by rw [List.length_map]; omega) rfl (isAgg48 _) (sizeOf48 _)).as (v' := .agg #[iv ((l.getD k Rec.z).t), iv ((l.getD k Rec.z).kind), iv ((l.getD k Rec.z).a), iv ((l.getD k Rec.z).b), sv ((l.getD k Rec.z).text)]) (by rw [bl Rec.z]; rfl)) fun a Z => aY Z Y de (zeroValue48 _) (cs := [iv 0, iv 0, iv 0, iv 0, .string (⟨#[]⟩)]) rfl ?_
   clear Z Y
   intro a w6 Z Y
   refine aL 0 Z Y rfl rfl rfl (sizeOf48 _) rfl (lb rfl) (ds := [iv ((l.getD k Rec.z).t), iv ((l.getD k Rec.z).kind), iv ((l.getD k Rec.z).a), iv ((l.getD k Rec.z).b), sv ((l.getD k Rec.z).text)]) rfl rfl ?_
   clear Z Y
   intro a w7 Z Y
   refine ab (hK8 _ _ ?_)
   replace Z := Z.p5 1 2 3 4 5 rfl
   refine aa fun K9 hK9 => wlv Z (ai (v := po w5.hz 4) rfl kr) fun a Z => wlv Z (ld Y 0 rfl rfl (isAgg9 _) rfl) fun a Z => wlv Z (ai (v := po w5.hz 4) rfl kr) fun a Z => wlv Z (ld Y 0 rfl rfl (isAgg9 _) rfl) fun a Z => wlv Z (aZ rfl rfl (runUnderlying9 _)) fun a Z => wlv Z (iN rfl rfl) fun a Z => wlv Z ((ei (xs := (l.getD k Rec.z).text) (l := 0) (h := (min ((l.getD k Rec.z).text).length 201)) rfl rfl rfl underlying9 (.inl ⟨rfl, rfl⟩) (.inr (by rw [show (min (((l.getD k Rec.z).text).length : Int) 201 : Int) = (((min ((l.getD k Rec.z).text).length 201) : Nat) : Int) from by omega] <;> rfl)) om (by first | omega | exact Nat.min_le_left _ _)).as (v' := sv (((l.getD k Rec.z).text).take (min ((l.getD k Rec.z).text).length 201))) rfl) fun a Z => wlv Z (ai (v := po w5.hz 4) rfl kr) fun a Z => aL 0 Z Y rfl rfl rfl (sizeOf9 _) rfl (lb rfl) (ds := [iv ((l.getD k Rec.z).t), iv ((l.getD k Rec.z).kind), iv ((l.getD k Rec.z).a), iv ((l.getD k Rec.z).b), sv (((l.getD k Rec.z).text).take (min ((l.getD k Rec.z).text).length 201))]) rfl rfl ?_
   clear Z Y
   intro a w8 Z Y
   refine ab (hK9 _ _ ?_)
   replace Z := Z.p5 1 2 3 4 5 rfl
   refine ar <| wlv Z (ai (v := po w2.hz 1) rfl kr) fun a Z => wlv Z (ld Y 1 rfl rfl (isAgg23 _) rfl) fun a Z => wlv Z (aw (Y.g 0 rfl) rfl (isAgg48 _) (sizeOf48 _)) fun a Z => aE (E := 48) (sz := 5) rfl [[iv ((l.getD k Rec.z).t), iv ((l.getD k Rec.z).kind), iv ((l.getD k Rec.z).a), iv ((l.getD k Rec.z).b), sv (((l.getD k Rec.z).text).take (min ((l.getD k Rec.z).text).length 201))]] kr sm rfl de de Z Y ?_
   clear Z Y
   intro a w9 Z Y
   refine aX (i := 5) (sT := 23) (inf := Tryz.t48) (z := .agg #[iv 0, iv 0, iv 0, iv 0, .string (⟨#[]⟩)]) (b := 0) (off := 0) (m := 0) (c := 0) rfl rfl rfl (Y.ow 0 rfl) sm underlying23 rfl rfl rfl rfl de (by simp [Value.oneCell', yv, wv, sv]) (by have hby : Tryz.t48.bytes = 48 := rfl; simp only [big, hby, List.length_append, List.length_map, List.length_take, List.length_cons, List.length_nil]; omega) (by have hby : Tryz.t48.bytes = 48 := rfl; simp only [big, hby, List.length_append, List.length_map, List.length_take, List.length_cons, List.length_nil]; omega) de Z Y fun a w10 s3 Z Y _ => ?_
   rw [show ((((l.take k).map cutRec)).map Rec.cells) ++ ([[iv ((l.getD k Rec.z).t), iv ((l.getD k Rec.z).kind), iv ((l.getD k Rec.z).a), iv ((l.getD k Rec.z).b), sv (((l.getD k Rec.z).text).take (min ((l.getD k Rec.z).text).length 201))]]) = ((((l.take (k + 1)).map cutRec)).map Rec.cells) from by rw [m9 hkx, List.map_append, jZ]; rfl] at Y
   refine wlv Z (ai (v := po w2.hz 1) rfl kr) fun a Z => cq 2 Z Y (Y.ow 5 rfl) rfl rfl rfl (sizeOf23 _) (lb rfl) (ds := [iv o, s3]) rfl rfl ?_
   clear Z Y
   intro a w11 Z Y
   refine ab <| hK7 _ _ ?_
   replace Z := Z.p4 1 2 3 4 rfl
   replace Y := Y.k4 60 rfl
   refine ar <| wlm Z rfl fun a Z => wlv Z (aV rfl rfl ⟨om, om⟩) fun a Z => wla Z rfl fun a Z => ab ?_
   refine ⟨_, ?_, k + 1, s3, rfl, om, om, Z.pick [1, 2, 3, 4], Y.select [0, 1, 2, 3] de⟩
   omega
  rw [hc2] at Z
  try simp only [qz] at hc2
  have hce := ly hk om hk3
  refine aM <| hK3 _ _ <| aa fun K10 hK10 => wlv Z (aw (Y.g 0 rfl) rfl (isAgg25 _) (sizeOf25 _)) fun a Z => bf (us := [iv o, v]) 1 Z Y rfl rfl rfl (sizeOf25 _) (by intro z hz; simp only [List.mem_cons, List.not_mem_nil, or_false] at hz; rcases hz with rfl | rfl <;> first | rfl | exact SlAt.one (Y.ow 3 rfl)) (lb rfl) (ds := [iv o, v]) rfl rfl ?_
  clear Z Y
  intro a w12 Z Y
  refine ab (hK10 _ _ <| ao ?_)
  refine al Z results9 (aN rfl (bG (Y.g 1 rfl) (isAgg25 _) (sizeOf25 _)) ag) ?_
  rw [hce] at Y
  exact ⟨v, rfl, trivial, Y.ext, St.out (E := [own v 48 5 ((cutR l).map Rec.cells)]) (H := []) (Y.select [3] de)⟩
 rw [hb1] at Z
 try simp only [qz] at hb1
 have hce := ly hk om hk3
 refine wln Z fun a Z => wln Z fun a Z => wlv Z (au rfl rfl) fun a Z => ab (hK6 _ _ ?_)
 replace Z := Z.p5 1 2 3 4 17 rfl
 refine aG Z rfl ?_
 refine aM <| hK3 _ _ <| aa fun K11 hK11 => wlv Z (aw (Y.g 0 rfl) rfl (isAgg25 _) (sizeOf25 _)) fun a Z => bf (us := [iv o, v]) 1 Z Y rfl rfl rfl (sizeOf25 _) (by intro z hz; simp only [List.mem_cons, List.not_mem_nil, or_false] at hz; rcases hz with rfl | rfl <;> first | rfl | exact SlAt.one (Y.ow 3 rfl)) (lb rfl) (ds := [iv o, v]) rfl rfl ?_
 clear Z Y
 intro a w13 Z Y
 refine ab (hK11 _ _ <| ao ?_)
 refine al Z results9 (aN rfl (bG (Y.g 1 rfl) (isAgg25 _) (sizeOf25 _)) ag) ?_
 rw [hce] at Y
 exact ⟨v, rfl, trivial, Y.ext, St.out (E := [own v 48 5 ((cutR l).map Rec.cells)]) (H := []) (Y.select [3] de)⟩
theorem kR (w0 : World) :
  Ret Tryz.prog 32 #[] w0 (MemR w0 (fun v : Value => .agg #[iv 4, v]) (fun v => [own v 48 5 (exR.map Rec.cells)]) (fun _ => True)) := by
 refine aC func32 rfl ntmps32 (lb rfl) fun a Z => ?_
 replace Z : Fr 6 [] [] a := Z
 replace Y : St No w0 [] w0 := St.init w0
 refine aa fun K1 hK1 => aY Z Y de (zeroValue25 _) (cs := [iv 0, .slice none 0 0]) rfl ?_
 clear Z Y
 intro a w1 Z Y
 refine ab (hK1 _ _ <| aa fun K2 hK2 => ?_)
 refine wlv Z (bx (v := .agg #[iv 10, iv 1, iv 7, iv (-1), sv ([110, 101, 119, 115])]) rfl kr) fun a Z => wlv Z (bx (v := .agg #[iv 20, iv 2, iv 0, iv 5, sv ([] : By)]) rfl kr) fun a Z => wlv Z (bx (v := .agg #[iv 20, iv 1, iv 8, iv (-1), sv ([] : By)]) rfl kr) fun a Z => aE (E := 48) (sz := 5) rfl [[iv 10, iv 1, iv 7, iv (-1), sv ([110, 101, 119, 115])], [iv 20, iv 2, iv 0, iv 5, sv ([] : By)], [iv 20, iv 1, iv 8, iv (-1), sv ([] : By)]] kr sm rfl de de Z Y ?_
 clear Z Y
 intro a w2 Z Y
 refine wlv Z (bx (v := .agg #[iv 4, (.slice (some ⟨w1.hz, 0, none⟩) 3 3)]) rfl kr) fun a Z => aL 1 Z Y rfl rfl rfl (sizeOf25 _) rfl (lb rfl) (ds := [iv 4, (.slice (some ⟨w1.hz, 0, none⟩) 3 3)]) rfl rfl ?_
 clear Z Y
 intro a w3 Z Y
 refine ab (hK2 _ _ <| ao ?_)
 refine al Z results32 (aN rfl (bG (Y.g 1 rfl) (isAgg25 _) (sizeOf25 _)) ag) ?_
 exact ⟨(.slice (some ⟨w1.hz, 0, none⟩) 3 3), rfl, trivial, Y.ext, St.out (E := [own (.slice (some ⟨w1.hz, 0, none⟩) 3 3) 48 5 (exR.map Rec.cells)]) (H := []) (Y.select [0] de)⟩
theorem fK (o n : Int) (root : By) (w0 : World) (ho : small o) (hn : small n) (hr : root.length ≤ 1000) :
  Ret Tryz.prog 48 #[iv o, iv n, sv root] w0 fun v w => v = sv (dc o n root) ∧ Ext No w0 w := by
 have hq0 := bA o
 have hq1 := bA n
 refine aC func48 rfl ntmps48 (lb rfl) fun a Z => ?_
 replace Z := Z.p3 0 1 2 rfl
 replace Y : St No w0 [] w0 := St.init w0
 refine aa fun K1 hK1 => wla Z rfl fun a Z => ab (hK1 _ _ <| aa fun K2 hK2 => ?_)
 refine wlm Z rfl fun a Z => am Z Y de call44 rfl (cw o _ (by assumption)) ?_
 clear Z Y
 intro a w1 Z Y
 refine wlm Z rfl fun a Z => wlv Z (ak rfl rfl) fun a Z => wlv Z (ak rfl rfl) fun a Z => wla Z rfl fun a Z => wla Z rfl fun a Z => ab (hK2 _ _ ?_)
 replace Z := Z.p4 1 2 6 7 rfl
 refine aa fun K3 hK3 => wlm Z rfl fun a Z => am Z Y de call44 rfl (cw n _ (by assumption)) ?_
 clear Z Y
 intro a w2 Z Y
 refine wlm Z rfl fun a Z => wlv Z (ak rfl rfl) fun a Z => wlv Z (ak rfl rfl) fun a Z => wla Z rfl fun a Z => wla Z rfl fun a Z => ab (hK3 _ _ ?_)
 replace Z := Z.p4 2 6 7 9 rfl
 refine aa fun K4 hK4 => wlm Z rfl fun a Z => wlm Z rfl fun a Z => wlv Z (cM rfl rfl (by (try simp only [List.length_append]); omega)) fun a Z => wlm Z rfl fun a Z => wlv Z (cM rfl rfl (by (try simp only [List.length_append]); omega)) fun a Z => wla Z rfl fun a Z => ab (hK4 _ _ ?_)
 replace Z := Z.p1 6 rfl
 refine ao ?_
 refine al Z results48 (ac rfl ag) ?_
 exact ⟨by simp only [retv]; simp [dc, puts], Y.ext⟩
theorem lh (key s : By) (w0 : World) (hk : key.length ≤ 1000) (hs : s.length ≤ 2000) :
  Ret Tryz.prog 47 #[sv key, sv s] w0 fun v w => v = sv (nodeH sha key (leafH sha s)) ∧ Ext No w0 w := by
 refine aC func47 rfl ntmps47 (lb rfl) fun a Z => ?_
 replace Z := Z.p2 0 1 rfl
 replace Y : St No w0 [] w0 := St.init w0
 refine aa fun K1 hK1 => wla Z rfl fun a Z => ab (hK1 _ _ <| aa fun K2 hK2 => ?_)
 refine wlm Z rfl fun a Z => wlm Z rfl fun a Z => am Z Y de call80 rfl (gG s _ om) ?_
 clear Z Y
 intro a w1 Z Y
 refine am Z Y de call62 rfl (dy key (leafH sha s) _ om (by rw [gA bE]; decide)) ?_
 clear Z Y
 intro a w2 Z Y
 refine wla Z rfl fun a Z => ab (hK2 _ _ ?_)
 replace Z := Z.p1 4 rfl
 refine ao ?_
 refine al Z results47 (ac rfl ag) ?_
 exact ⟨by rfl, Y.ext⟩
theorem e7 (o : Int) (lv : Value) (l : List Rec) (w0 : World) (hlv : SlAt w0 lv 5 (l.map Rec.cells)) (hll : l.length ≤ 1000) :
  Ret Tryz.prog 11 #[.agg #[iv o, lv]] w0 fun v w => v = .tuple #[sv (headB o l), iv (headE o l)] ∧ Ext No w0 w := by
 refine aC func11 rfl ntmps11 (lb rfl) fun a Z => ?_
 replace Z := Z.p1 0 rfl
 replace Y : St No w0 [] w0 := St.init w0
 refine aa fun K1 hK1 => bh Z Y de rfl (cs := [iv o, lv]) rfl ?_
 clear Z Y
 intro a w1 Z Y
 refine wla Z rfl fun a Z => wla Z rfl fun a Z => ab (hK1 _ _ <| ah fun K2 hK2 => ?_)
 refine aa fun K3 hK3 => wlv Z (aw (Y.g 0 rfl) rfl (isAgg25 _) (sizeOf25 _)) fun a Z => am Z Y de call42 rfl (fl o lv l _ (Y.arg hlv)) ?_
 clear Z Y
 intro a w2 Z Y
 refine wlv Z (bp rfl) fun a Z => ab (hK3 _ _ ?_)
 refine ax Z rfl (fun hc1 => ?_) (fun hc1 => ?_)
 ·rw [hc1] at Z
  try simp only [qz] at hc1
  have hlo : logOk o l = false := by simpa using hc1
  refine aa fun K4 hK4 => wla Z rfl fun a Z => wla Z rfl fun a Z => ab (hK4 _ _ <| ao ?_)
  refine al Z results11 (ac rfl (ac rfl ag)) ?_
  exact ⟨by simp only [retv]; unfold headB headE; rw [hlo]; rfl, Y.ext⟩
 rw [hc1] at Z
 try simp only [qz] at hc1
 have hlo : logOk o l = true := by simpa using hc1
 refine ap <| hK2 _ _ <| aa fun K5 hK5 => wlv Z (aw (Y.g 0 rfl) rfl (isAgg25 _) (sizeOf25 _)) fun a Z => aR Z Y de call29 rfl (dU o lv l _ (Y.arg hlv) om) ?_
 clear Z Y
 intro a w3 x3 hp Z Y
 revert x3 hp Z Y; rintro v2 hp Z Y
 clear hp
 replace Y : St No w0 [_, _] w3 := Y
 refine am Z Y de call43 rfl (dR _ v2 (codesB (l)) _ rfl (Y.ow 0 rfl) (by rw [cg]; omega) (fun s h => Nat.le_trans (eP _ s h) de)) ?_
 clear Z Y
 intro a w4 Z Y
 refine wla Z rfl fun a Z => wla Z rfl fun a Z => ab (hK5 _ _ ?_)
 replace Z := Z.p2 2 3 rfl
 replace Y : St No w0 [] w4 := Y.mask [false, false]
 refine ao ?_
 refine al Z results11 (ac rfl (ac rfl ag)) ?_
 exact ⟨by simp only [retv]; unfold headB headE; rw [if_pos hlo, if_pos hlo, cQ (bL hlo)], Y.ext⟩
theorem kf (key : By) (o : Int) (lv : Value) (l : List Rec) (w0 : World) (hlv : SlAt w0 lv 5 (l.map Rec.cells)) (hll : l.length ≤ 1000) :
  Ret Tryz.prog 14 #[sv key, .agg #[iv o, lv]] w0 fun v w => v = .tuple #[sv (signB key o l), iv (signE key o l)] ∧ Ext No w0 w := by
 refine aC func14 rfl ntmps14 (lb rfl) fun a Z => ?_
 replace Z := Z.p2 0 1 rfl
 replace Y : St No w0 [] w0 := St.init w0
 refine aa fun K1 hK1 => bh Z Y de rfl (cs := [iv o, lv]) rfl ?_
 clear Z Y
 intro a w1 Z Y
 refine wla Z rfl fun a Z => wla Z rfl fun a Z => ab (hK1 _ _ <| aa fun K2 hK2 => ?_)
 refine wlv Z (aw (Y.g 0 rfl) rfl (isAgg25 _) (sizeOf25 _)) fun a Z => am Z Y de call11 rfl (e7 o lv l _ (Y.arg hlv) om) ?_
 clear Z Y
 intro a w2 Z Y
 refine wlm Z rfl fun a Z => wlv Z (ak rfl rfl) fun a Z => wlv Z (ak rfl rfl) fun a Z => wla Z rfl fun a Z => wla Z rfl fun a Z => ab (hK2 _ _ ?_)
 replace Z := Z.p6 0 3 4 5 6 7 rfl
 refine ah fun K3 hK3 => aa fun K4 hK4 => wlm Z rfl fun a Z => wlv Z (v_ne rfl rfl) fun a Z => wlm Z rfl fun a Z => ?_
 rcases Bool.eq_false_or_eq_true (!decide (headE o l = 0)) with hb1 | hb1
 ·rw [hb1] at Z
  try simp only [qz] at hb1
  have hlo : logOk o l = false := by
   cases h : logOk o l with
   | false => rfl
   | true => exact absurd (dV.2 h) om
  have hsg : signOk key o l = false := by unfold signOk; rw [hlo]; rfl
  refine wln Z fun a Z => wln Z fun a Z => wln Z fun a Z => wlv Z (aA rfl rfl) fun a Z => ab (hK4 _ _ ?_)
  replace Z := Z.p6 0 3 4 5 6 19 rfl
  refine aD Z rfl ?_
  refine aa fun K5 hK5 => wla Z rfl fun a Z => wla Z rfl fun a Z => ab (hK5 _ _ <| ao ?_)
  refine al Z results14 (ac rfl (ac rfl ag)) ?_
  exact ⟨by simp only [retv]; unfold signB signE; rw [hsg]; rfl, Y.ext⟩
 rw [hb1] at Z
 try simp only [qz] at hb1
 have hlo : logOk o l = true := dV.1 om
 have hob := fw hlo
 have hlb := cj hlo
 have hs0 : small o := by unfold small; omega
 have hs1 : small (l.length : Int) := by unfold small; omega
 have hhl := mu o l
 have hcl := fE o (l.length : Int) (headB o l)
 refine wly Z (ae rfl) fun a Z => wly Z (aZ rfl rfl (runUnderlying9 _)) fun a Z => wly Z (v_ne rfl rfl) fun a Z => wlv Z (au rfl rfl) fun a Z => ab (hK4 _ _ ?_)
 replace Z := Z.p6 0 3 4 5 6 19 rfl
 refine ax Z rfl (fun hc2 => ?_) (fun hc2 => ?_)
 ·rw [hc2] at Z
  try simp only [qz] at hc2
  have hsg : signOk key o l = false := by unfold signOk; rw [hlo, decide_eq_false om]; rfl
  refine aa fun K6 hK6 => wla Z rfl fun a Z => wla Z rfl fun a Z => ab (hK6 _ _ <| ao ?_)
  refine al Z results14 (ac rfl (ac rfl ag)) ?_
  exact ⟨by simp only [retv]; unfold signB signE; rw [hsg]; rfl, Y.ext⟩
 rw [hc2] at Z
 try simp only [qz] at hc2
 have hsg : signOk key o l = true := by unfold signOk; rw [hlo, decide_eq_true om]; rfl
 refine ap <| hK3 _ _ <| aa fun K7 hK7 => wlm Z rfl fun a Z => wlv Z (ai (v := pt w0.hz) rfl kr) fun a Z => wlv Z (ld Y 0 rfl rfl (isAgg3 _) rfl) fun a Z => wlv Z (ai (v := po w0.hz 1) rfl kr) fun a Z => wlv Z (ld Y 0 rfl rfl (isAgg23 _) rfl) fun a Z => wlv Z ((aB (sT := 23) (Y.arg hlv) rfl rfl (runUnderlying23 _)).asi (m' := (l.length : Int)) (by rw [List.length_map])) fun a Z => wlm Z rfl fun a Z => am Z Y de call48 rfl (fK o (l.length : Int) (headB o l) _ hs0 hs1 om) ?_
 clear Z Y
 intro a w3 Z Y
 refine am Z Y de call47 rfl (lh key (dc o (l.length : Int) (headB o l)) _ om om) ?_
 clear Z Y
 intro a w4 Z Y
 refine wla Z rfl fun a Z => wla Z rfl fun a Z => ab (hK7 _ _ ?_)
 replace Z := Z.p2 4 5 rfl
 replace Y : St No w0 [] w4 := Y.mask [false]
 refine ao ?_
 refine al Z results14 (ac rfl (ac rfl ag)) ?_
 exact ⟨by simp only [retv]; unfold signB signE; rw [if_pos hsg, if_pos hsg, es hlo]; rfl, Y.ext⟩
theorem dA (key : By) (owner n : Int) (root t : By) (w0 : World) :
  Ret Tryz.prog 16 #[sv key, iv owner, iv n, sv root, sv t] w0 fun v w => v = .bool (genR sha key owner n root t) ∧ Ext No w0 w := by
 refine aC func16 rfl ntmps16 (lb rfl) fun a Z => ?_
 replace Z := Z.p5 0 1 2 3 4 rfl
 replace Y : St No w0 [] w0 := St.init w0
 refine aa fun K1 hK1 => wla Z rfl fun a Z => ab (hK1 _ _ <| ah fun K2 hK2 => ?_)
 refine aa fun K3 hK3 => wlm Z rfl fun a Z => wlv Z (aZ rfl rfl (runUnderlying9 _)) fun a Z => wlv Z (v_ne rfl rfl) fun a Z => wlm Z rfl fun a Z => ?_
 rcases Bool.eq_false_or_eq_true (!decide ((key.length : Int) = 32)) with hb1 | hb1
 ·rw [hb1] at Z
  try simp only [qz] at hb1
  refine wln Z fun a Z => wln Z fun a Z => wlv Z (aA rfl rfl) fun a Z => wlm Z rfl fun a Z => wln Z fun a Z => wln Z fun a Z => wlv Z (aA rfl rfl) fun a Z => wlm Z rfl fun a Z => wln Z fun a Z => wln Z fun a Z => wlv Z (aA rfl rfl) fun a Z => wlm Z rfl fun a Z => wln Z fun a Z => ?_
  refine wln Z fun a Z => wlv Z (aA rfl rfl) fun a Z => wlm Z rfl fun a Z => wln Z fun a Z => wln Z fun a Z => wln Z fun a Z => wlv Z (aA rfl rfl) fun a Z => ab (hK3 _ _ ?_)
  replace Z := Z.p7 0 1 2 3 4 10 34 rfl
  refine aD Z rfl ?_
  refine aa fun K4 hK4 => wla Z rfl fun a Z => ab (hK4 _ _ <| ao ?_)
  refine al Z results16 (ac rfl ag) ?_
  refine ⟨?_, Y.ext⟩
  simp only [retv]
  refine congrArg Value.bool ?_
  rw [eq_comm, Bool.eq_false_iff]; intro h; simp only [genR, inB, Bool.and_eq_true, decide_eq_true_eq] at h; omega
 rw [hb1] at Z
 try simp only [qz] at hb1
 refine wly Z (ae rfl) fun a Z => wly Z (v_lt rfl rfl) fun a Z => wlv Z (au rfl rfl) fun a Z => wlm Z rfl fun a Z => ?_
 rcases Bool.eq_false_or_eq_true (decide (owner < 0)) with hb2 | hb2
 ·rw [hb2] at Z
  try simp only [qz] at hb2
  refine wln Z fun a Z => wln Z fun a Z => wlv Z (aA rfl rfl) fun a Z => wlm Z rfl fun a Z => wln Z fun a Z => wln Z fun a Z => wlv Z (aA rfl rfl) fun a Z => wlm Z rfl fun a Z => wln Z fun a Z => wln Z fun a Z => wlv Z (aA rfl rfl) fun a Z => wlm Z rfl fun a Z => wln Z fun a Z => ?_
  refine wln Z fun a Z => wln Z fun a Z => wlv Z (aA rfl rfl) fun a Z => ab (hK3 _ _ ?_)
  replace Z := Z.p7 0 1 2 3 4 10 34 rfl
  refine aD Z rfl ?_
  refine aa fun K5 hK5 => wla Z rfl fun a Z => ab (hK5 _ _ <| ao ?_)
  refine al Z results16 (ac rfl ag) ?_
  refine ⟨?_, Y.ext⟩
  simp only [retv]
  refine congrArg Value.bool ?_
  rw [eq_comm, Bool.eq_false_iff]; intro h; simp only [genR, inB, Bool.and_eq_true, decide_eq_true_eq] at h; omega
 rw [hb2] at Z
 try simp only [qz] at hb2
 refine wly Z (ae rfl) fun a Z => wly Z (v_gt rfl rfl) fun a Z => wlv Z (au rfl rfl) fun a Z => wlm Z rfl fun a Z => ?_
 rcases Bool.eq_false_or_eq_true (decide (99 < owner)) with hb3 | hb3
 ·rw [hb3] at Z
  try simp only [qz] at hb3
  refine wln Z fun a Z => wln Z fun a Z => wlv Z (aA rfl rfl) fun a Z => wlm Z rfl fun a Z => wln Z fun a Z => wln Z fun a Z => wlv Z (aA rfl rfl) fun a Z => wlm Z rfl fun a Z => wln Z fun a Z => wln Z fun a Z => wln Z fun a Z => wlv Z (aA rfl rfl) fun a Z => ?_
  refine ab (hK3 _ _ ?_)
  replace Z := Z.p7 0 1 2 3 4 10 34 rfl
  refine aD Z rfl ?_
  refine aa fun K6 hK6 => wla Z rfl fun a Z => ab (hK6 _ _ <| ao ?_)
  refine al Z results16 (ac rfl ag) ?_
  refine ⟨?_, Y.ext⟩
  simp only [retv]
  refine congrArg Value.bool ?_
  rw [eq_comm, Bool.eq_false_iff]; intro h; simp only [genR, inB, Bool.and_eq_true, decide_eq_true_eq] at h; omega
 rw [hb3] at Z
 try simp only [qz] at hb3
 refine wly Z (ae rfl) fun a Z => wly Z (v_lt rfl rfl) fun a Z => wlv Z (au rfl rfl) fun a Z => wlm Z rfl fun a Z => ?_
 rcases Bool.eq_false_or_eq_true (decide (n < 0)) with hb4 | hb4
 ·rw [hb4] at Z
  try simp only [qz] at hb4
  refine wln Z fun a Z => wln Z fun a Z => wlv Z (aA rfl rfl) fun a Z => wlm Z rfl fun a Z => wln Z fun a Z => wln Z fun a Z => wln Z fun a Z => wlv Z (aA rfl rfl) fun a Z => ab (hK3 _ _ ?_)
  replace Z := Z.p7 0 1 2 3 4 10 34 rfl
  refine aD Z rfl ?_
  refine aa fun K7 hK7 => wla Z rfl fun a Z => ab (hK7 _ _ <| ao ?_)
  refine al Z results16 (ac rfl ag) ?_
  refine ⟨?_, Y.ext⟩
  simp only [retv]
  refine congrArg Value.bool ?_
  rw [eq_comm, Bool.eq_false_iff]; intro h; simp only [genR, inB, Bool.and_eq_true, decide_eq_true_eq] at h; omega
 rw [hb4] at Z
 try simp only [qz] at hb4
 refine wly Z (ae rfl) fun a Z => wly Z (v_gt rfl rfl) fun a Z => wlv Z (au rfl rfl) fun a Z => wlm Z rfl fun a Z => ?_
 rcases Bool.eq_false_or_eq_true (decide (60 < n)) with hb5 | hb5
 ·rw [hb5] at Z
  try simp only [qz] at hb5
  refine wln Z fun a Z => wln Z fun a Z => wln Z fun a Z => wlv Z (aA rfl rfl) fun a Z => ab (hK3 _ _ ?_)
  replace Z := Z.p7 0 1 2 3 4 10 34 rfl
  refine aD Z rfl ?_
  refine aa fun K8 hK8 => wla Z rfl fun a Z => ab (hK8 _ _ <| ao ?_)
  refine al Z results16 (ac rfl ag) ?_
  refine ⟨?_, Y.ext⟩
  simp only [retv]
  refine congrArg Value.bool ?_
  rw [eq_comm, Bool.eq_false_iff]; intro h; simp only [genR, inB, Bool.and_eq_true, decide_eq_true_eq] at h; omega
 rw [hb5] at Z
 try simp only [qz] at hb5
 refine wly Z (ae rfl) fun a Z => wly Z (aZ rfl rfl (runUnderlying9 _)) fun a Z => wly Z (v_ne rfl rfl) fun a Z => wlv Z (au rfl rfl) fun a Z => ab (hK3 _ _ ?_)
 replace Z := Z.p7 0 1 2 3 4 10 34 rfl
 refine ax Z rfl (fun hc6 => ?_) (fun hc6 => ?_)
 ·rw [hc6] at Z
  try simp only [qz] at hc6
  refine aa fun K9 hK9 => wla Z rfl fun a Z => ab (hK9 _ _ <| ao ?_)
  refine al Z results16 (ac rfl ag) ?_
  refine ⟨?_, Y.ext⟩
  simp only [retv]
  refine congrArg Value.bool ?_
  rw [eq_comm, Bool.eq_false_iff]; intro h; simp only [genR, inB, Bool.and_eq_true, decide_eq_true_eq] at h; omega
 rw [hc6] at Z
 try simp only [qz] at hc6
 refine ap <| hK2 _ _ ?_
 have hs0 : small owner := by unfold small; omega
 have hs1 : small n := by unfold small; omega
 have hcl := fE owner n root
 refine aa fun K10 hK10 => wlm Z rfl fun a Z => wlm Z rfl fun a Z => wlm Z rfl fun a Z => wlm Z rfl fun a Z => wlm Z rfl fun a Z => am Z Y de call48 rfl (fK owner n root _ hs0 hs1 om) ?_
 clear Z Y
 intro a w1 Z Y
 refine am Z Y de call47 rfl (lh key (dc owner n root) _ om om) ?_
 clear Z Y
 intro a w2 Z Y
 refine wlv Z (dt rfl rfl) fun a Z => wla Z rfl fun a Z => ab (hK10 _ _ ?_)
 replace Z := Z.p1 10 rfl
 refine ao ?_
 refine al Z results16 (ac rfl ag) ?_
 refine ⟨?_, Y.ext⟩
 simp only [retv]
 refine congrArg Value.bool ?_
 unfold genR inB; rw [decide_eq_true (by omega : key.length = 32), decide_eq_true (by omega : 0 ≤ owner), decide_eq_true (by omega : owner ≤ 99), decide_eq_true (by omega : 0 ≤ n), decide_eq_true (by omega : n ≤ 60), decide_eq_true (by omega : root.length = 32)]; rfl
theorem bV (root : By) (n i : Int) (x : Rec) (pv_ : Value) (ps : List By) (w0 : World) (hpv : SlAt w0 pv_ 1 (ps.map fun s => [sv s])) (hn : i64 n) :
  Ret Tryz.prog 26 #[sv root, iv n, iv i, .agg #[iv x.t, iv x.kind, iv x.a, iv x.b, sv x.text], pv_] w0 fun v w => v = .bool (checkB root n i x ps) ∧ Ext No w0 w := by
 refine aC func26 rfl ntmps26 (lb rfl) fun a Z => ?_
 replace Z := Z.p5 0 1 2 3 4 rfl
 replace Y : St No w0 [] w0 := St.init w0
 refine aa fun K1 hK1 => bh Z Y de rfl (cs := [iv x.t, iv x.kind, iv x.a, iv x.b, sv x.text]) rfl ?_
 clear Z Y
 intro a w1 Z Y
 refine wla Z rfl fun a Z => ab (hK1 _ _ <| aa fun K2 hK2 => ?_)
 refine wlv Z (aw (Y.g 0 rfl) rfl (isAgg48 _) (sizeOf48 _)) fun a Z => am Z Y de call58 rfl (jy x _) ?_
 clear Z Y
 intro a w2 Z Y
 refine wlm Z rfl fun a Z => wlv Z (ak rfl rfl) fun a Z => wlv Z (ak rfl rfl) fun a Z => wla Z rfl fun a Z => wla Z rfl fun a Z => ab (hK2 _ _ ?_)
 replace Z := Z.p7 0 1 2 4 10 11 12 rfl
 replace Y : St No w0 [] w2 := Y.mask [false]
 refine aa fun K3 hK3 => wlm Z rfl fun a Z => wlv Z (v_eq rfl rfl) fun a Z => wlm Z rfl fun a Z => ?_
 rcases Bool.eq_false_or_eq_true (decide (eE x = 0)) with hb1 | hb1
 ·rw [hb1] at Z
  try simp only [qz] at hb1
  have hxo : x.ok = true := by unfold eE at hb1; cases h : x.ok <;> simp_all
  refine wly Z (ae rfl) fun a Z => wly Z (ae rfl) fun a Z => wly Z (ae rfl) fun a Z => wly Z (ae rfl) fun a Z => wly Z (ae rfl) fun a Z => aO Z Y de rfl de rfl call59 rfl (kE root (eB x) n i pv_ ps _ (Y.arg hpv) (by have := kW x; omega) (by unfold i64 at hn; omega)) ?_
  clear Z Y
  intro a w3 Z Y
  refine wlv Z (aA rfl rfl) fun a Z => wla Z rfl fun a Z => ab (hK3 _ _ ?_)
  replace Z := Z.p1 10 rfl
  refine ao ?_
  refine al Z results26 (ac rfl ag) ?_
  exact ⟨by simp only [retv]; unfold checkB; rw [hxo, show eB x = x.enc from if_pos hxo]; rfl, Y.ext⟩
 rw [hb1] at Z
 try simp only [qz] at hb1
 have hxo : x.ok = false := by unfold eE at hb1; cases h : x.ok <;> simp_all
 refine wln Z fun a Z => wln Z fun a Z => wln Z fun a Z => wln Z fun a Z => wln Z fun a Z => wln Z fun a Z => wlv Z (au rfl rfl) fun a Z => wla Z rfl fun a Z => ab (hK3 _ _ ?_)
 replace Z := Z.p1 10 rfl
 refine ao ?_
 refine al Z results26 (ac rfl ag) ?_
 exact ⟨by simp only [retv]; unfold checkB; rw [hxo]; rfl, Y.ext⟩
theorem bN (old : By) (n : Int) (root : By) (m : Int) (pv_ : Value) (ps : List By) (w0 : World) (hpv : SlAt w0 pv_ 1 (ps.map fun s => [sv s])) (hm : i64 m) :
  Ret Tryz.prog 24 #[sv old, iv n, sv root, iv m, pv_] w0 fun v w => v = .bool (aJ sha old n root m ps) ∧ Ext No w0 w := by
 refine aC func24 rfl ntmps24 (lb rfl) fun a Z => ?_
 replace Z := Z.p5 0 1 2 3 4 rfl
 replace Y : St No w0 [] w0 := St.init w0
 refine aa fun K1 hK1 => wla Z rfl fun a Z => ab (hK1 _ _ <| aa fun K2 hK2 => ?_)
 refine wlm Z rfl fun a Z => wlm Z rfl fun a Z => wlm Z rfl fun a Z => wlm Z rfl fun a Z => wlm Z rfl fun a Z => am Z Y de call56 rfl (j7 old root n m pv_ ps _ (Y.arg hpv) (by unfold i64 at hm; omega)) ?_
 clear Z Y
 intro a w1 Z Y
 refine wla Z rfl fun a Z => ab (hK2 _ _ ?_)
 replace Z := Z.p1 10 rfl
 refine ao ?_
 refine al Z results24 (ac rfl ag) ?_
 exact ⟨by rfl, Y.ext⟩
theorem kn {o : Int} {l : List Rec} {v : Value} {i : Nat} {w0 : World} (hlo : logOk o l = true) (hv : SlAt w0 v 1 ((codesB (l)).map fun s => [sv s])) (hi : i < l.length) (hll : l.length ≤ 1000) : Ret Tryz.prog 52 #[v, iv (i : Int)] w0 (MemR w0 (fun v : Value => .tuple #[v, iv 0]) (fun v => [own v 9 1 ((proofH sha (codesR l) i).map fun s => [sv s])]) (fun _ => True)) := by
 rw [cQ (bL hlo)] at hv
 exact mz _ v (codesR l) i w0 rfl hv (by rw [bO]; exact hi) (by rw [bO]; exact hll) (fun s h => Nat.le_trans (cr (bL hlo) s h) de)
theorem mV {o : Int} {l : List Rec} {v : Value} {i : Nat} {w0 : World} (hlo : logOk o l = true) (hv : SlAt w0 v 1 ((codesB (l)).map fun s => [sv s])) (hi : i ≤ l.length) (hll : l.length ≤ 1000) : Ret Tryz.prog 54 #[v, iv (i : Int)] w0 (MemR w0 (fun v : Value => .tuple #[v, iv 0]) (fun v => [own v 9 1 ((extH sha (codesR l) i).map fun s => [sv s])]) (fun _ => True)) := by
 rw [cQ (bL hlo)] at hv
 exact oN v (codesR l) i w0 hv (by rw [bO]; exact hi) (by rw [bO]; exact hll) (fun s h => Nat.le_trans (cr (bL hlo) s h) de)
theorem kY (o : Int) (lv : Value) (l : List Rec) (i : Nat) (w0 : World) (hlv : SlAt w0 lv 5 (l.map Rec.cells)) (hll : l.length ≤ 1000) (hlo : logOk o l = true) (hi : i < l.length) :
  Ret Tryz.prog 19 #[.agg #[iv o, lv], iv (i : Int)] w0 (MemR w0 (fun v : Value => .tuple #[v, iv 0]) (fun v => [own v 9 1 ((proofH sha (codesR l) i).map fun s => [sv s])]) (fun _ => True)) := by
 have hao := cr (bL hlo)
 refine aC func19 rfl ntmps19 (lb rfl) fun a Z => ?_
 replace Z := Z.p2 0 1 rfl
 replace Y : St No w0 [] w0 := St.init w0
 refine aa fun K1 hK1 => bh Z Y de rfl (cs := [iv o, lv]) rfl ?_
 clear Z Y
 intro a w1 Z Y
 refine wla Z rfl fun a Z => wla Z rfl fun a Z => ab (hK1 _ _ <| ah fun K2 hK2 => ?_)
 refine aa fun K3 hK3 => wlv Z (aw (Y.g 0 rfl) rfl (isAgg25 _) (sizeOf25 _)) fun a Z => am Z Y de call42 rfl (fl o lv l _ (Y.arg hlv)) ?_
 clear Z Y
 intro a w2 Z Y
 refine wlv Z (bp rfl) fun a Z => ab (hK3 _ _ ?_)
 refine ax Z rfl (fun hc1 => ?_) (fun hc1 => ?_)
 ·rw [hc1] at Z
  try simp only [qz] at hc1
  exfalso; simp [hlo] at hc1
 rw [hc1] at Z
 try simp only [qz] at hc1
 refine ap <| hK2 _ _ <| aa fun K4 hK4 => wlv Z (aw (Y.g 0 rfl) rfl (isAgg25 _) (sizeOf25 _)) fun a Z => aR Z Y de call29 rfl (dU o lv l _ (Y.arg hlv) om) ?_
 clear Z Y
 intro a w3 x3 hp Z Y
 revert x3 hp Z Y; rintro v2 hp Z Y
 clear hp
 replace Y : St No w0 [_, _] w3 := Y
 refine wlm Z rfl fun a Z => aR Z Y de call52 rfl (kn hlo (Y.ow 0 rfl) hi hll) ?_
 clear Z Y
 intro a w4 x5 hp Z Y
 revert x5 hp Z Y; rintro v4 hp Z Y
 clear hp
 replace Y : St No w0 [_, _, _] w4 := Y
 refine wlm Z rfl fun a Z => wlv Z (ak rfl rfl) fun a Z => wlv Z (ak rfl rfl) fun a Z => wla Z rfl fun a Z => wla Z rfl fun a Z => ab (hK4 _ _ ?_)
 replace Z := Z.p4 4 5 6 7 rfl
 replace Y := Y.k1 1 rfl
 refine ah fun K5 hK5 => aa fun K6 hK6 => wlm Z rfl fun a Z => wlv Z ((v_ne rfl rfl).asb (b' := false) rfl) fun a Z => ab (hK6 _ _ <| aG Z rfl ?_)
 refine ap <| hK5 _ _ <| aa fun K7 hK7 => wlm Z rfl fun a Z => wla Z rfl fun a Z => wla Z rfl fun a Z => ab (hK7 _ _ <| ao ?_)
 refine al Z results19 (ac rfl (ac rfl ag)) ?_
 exact ⟨v4, rfl, trivial, Y.ext, St.out (E := [own v4 9 1 ((proofH sha (codesR l) i).map fun s => [sv s])]) (H := []) (Y.select [0] de)⟩
theorem lJ (o : Int) (lv : Value) (l : List Rec) (i : Int) (w0 : World) (hlv : SlAt w0 lv 5 (l.map Rec.cells)) (hll : l.length ≤ 1000) (hno : inR o l i = false) :
  Ret Tryz.prog 19 #[.agg #[iv o, lv], iv i] w0 (MemR w0 (fun v : Value => .tuple #[v, iv 110]) (fun v => [own v 9 1 ((([] : List By)).map fun s => [sv s])]) (fun _ => True)) := by
 refine aC func19 rfl ntmps19 (lb rfl) fun a Z => ?_
 replace Z := Z.p2 0 1 rfl
 replace Y : St No w0 [] w0 := St.init w0
 refine aa fun K1 hK1 => bh Z Y de rfl (cs := [iv o, lv]) rfl ?_
 clear Z Y
 intro a w1 Z Y
 refine wla Z rfl fun a Z => wla Z rfl fun a Z => ab (hK1 _ _ <| ah fun K2 hK2 => ?_)
 refine aa fun K3 hK3 => wlv Z (aw (Y.g 0 rfl) rfl (isAgg25 _) (sizeOf25 _)) fun a Z => am Z Y de call42 rfl (fl o lv l _ (Y.arg hlv)) ?_
 clear Z Y
 intro a w2 Z Y
 refine wlv Z (bp rfl) fun a Z => ab (hK3 _ _ ?_)
 refine ax Z rfl (fun hc1 => ?_) (fun hc1 => ?_)
 ·rw [hc1] at Z
  try simp only [qz] at hc1
  refine aa fun K4 hK4 => wla Z rfl fun a Z => wla Z rfl fun a Z => ab (hK4 _ _ <| ao ?_)
  refine al Z results19 (ac rfl (ac rfl ag)) ?_
  replace Y : St No w0 [own (.slice none 0 0) 9 1 (([] : List By).map fun s => [sv s]), blk w0.hz [iv o, lv] 25] w2 := Y.nil_own
  exact ⟨.slice none 0 0, rfl, trivial, Y.ext, St.out (E := [own (.slice none 0 0) 9 1 (([] : List By).map fun s => [sv s])]) (H := []) (Y.select [0] de)⟩
 rw [hc1] at Z
 try simp only [qz] at hc1
 have hlo : logOk o l = true := by simpa using hc1
 have hi : i < 0 ∨ (l.length : Int) ≤ i := by
  unfold inR at hno; rw [hlo] at hno
  simp only [Bool.true_and, Bool.and_eq_false_iff, decide_eq_false_iff_not] at hno; omega
 have hao := cr (bL hlo)
 refine ap <| hK2 _ _ <| aa fun K5 hK5 => wlv Z (aw (Y.g 0 rfl) rfl (isAgg25 _) (sizeOf25 _)) fun a Z => aR Z Y de call29 rfl (dU o lv l _ (Y.arg hlv) om) ?_
 clear Z Y
 intro a w3 x3 hp Z Y
 revert x3 hp Z Y; rintro v2 hp Z Y
 clear hp
 replace Y : St No w0 [_, _] w3 := Y
 refine wlm Z rfl fun a Z => am Z Y de call52 rfl (kZ v2 (codesB (l)) i _ (Y.ow 0 rfl) (by first | omega | (rw [cg]; omega) | (rw [bO]; omega))) ?_
 clear Z Y
 intro a w4 Z Y
 refine wlm Z rfl fun a Z => wlv Z (ak rfl rfl) fun a Z => wlv Z (ak rfl rfl) fun a Z => wla Z rfl fun a Z => wla Z rfl fun a Z => ab (hK5 _ _ ?_)
 replace Z := Z.p4 4 5 6 7 rfl
 replace Y : St No w0 [] w4 := Y.mask [false, false]
 refine ah fun K6 hK6 => aa fun K7 hK7 => wlm Z rfl fun a Z => wlv Z ((v_ne rfl rfl).asb (b' := true) rfl) fun a Z => ab (hK7 _ _ <| aD Z rfl ?_)
 refine aa fun K8 hK8 => wla Z rfl fun a Z => wla Z rfl fun a Z => ab (hK8 _ _ <| ao ?_)
 refine al Z results19 (ac rfl (ac rfl ag)) ?_
 replace Y : St No w0 [own (.slice none 0 0) 9 1 (([] : List By).map fun s => [sv s])] w4 := Y.nil_own
 exact ⟨.slice none 0 0, rfl, trivial, Y.ext, St.out (E := [own (.slice none 0 0) 9 1 (([] : List By).map fun s => [sv s])]) (H := []) (Y.select [0] de)⟩
theorem gn (o : Int) (lv : Value) (l : List Rec) (i : Int) (w0 : World) (hlv : SlAt w0 lv 5 (l.map Rec.cells)) (hll : l.length ≤ 1000) : Ret Tryz.prog 19 #[.agg #[iv o, lv], iv i] w0 (MemR w0 (fun v : Value => .tuple #[v, iv (proveE o l i)]) (fun v => [own v 9 1 ((proveL o l i).map fun s => [sv s])]) (fun _ => True)) := by
 unfold proveL proveE
 cases h : inR o l i with
 | true =>
  have h' := h
  unfold inR at h'
  simp only [Bool.and_eq_true, decide_eq_true_eq] at h'
  obtain ⟨n, rfl⟩ := Int.eq_ofNat_of_zero_le h'.1.2
  rw [if_pos rfl, if_pos rfl, Int.toNat_natCast]; exact kY o lv l n w0 hlv hll h'.1.1 om
 | false => rw [if_neg sm, if_neg sm]; exact lJ o lv l i w0 hlv hll h
theorem kx (o : Int) (lv : Value) (l : List Rec) (i : Nat) (w0 : World) (hlv : SlAt w0 lv 5 (l.map Rec.cells)) (hll : l.length ≤ 1000) (hlo : logOk o l = true) (hi : i ≤ l.length) :
  Ret Tryz.prog 21 #[.agg #[iv o, lv], iv (i : Int)] w0 (MemR w0 (fun v : Value => .tuple #[v, iv 0]) (fun v => [own v 9 1 ((extH sha (codesR l) i).map fun s => [sv s])]) (fun _ => True)) := by
 have hao := cr (bL hlo)
 refine aC func21 rfl ntmps21 (lb rfl) fun a Z => ?_
 replace Z := Z.p2 0 1 rfl
 replace Y : St No w0 [] w0 := St.init w0
 refine aa fun K1 hK1 => bh Z Y de rfl (cs := [iv o, lv]) rfl ?_
 clear Z Y
 intro a w1 Z Y
 refine wla Z rfl fun a Z => wla Z rfl fun a Z => ab (hK1 _ _ <| ah fun K2 hK2 => ?_)
 refine aa fun K3 hK3 => wlv Z (aw (Y.g 0 rfl) rfl (isAgg25 _) (sizeOf25 _)) fun a Z => am Z Y de call42 rfl (fl o lv l _ (Y.arg hlv)) ?_
 clear Z Y
 intro a w2 Z Y
 refine wlv Z (bp rfl) fun a Z => ab (hK3 _ _ ?_)
 refine ax Z rfl (fun hc1 => ?_) (fun hc1 => ?_)
 ·rw [hc1] at Z
  try simp only [qz] at hc1
  exfalso; simp [hlo] at hc1
 rw [hc1] at Z
 try simp only [qz] at hc1
 refine ap <| hK2 _ _ <| aa fun K4 hK4 => wlv Z (aw (Y.g 0 rfl) rfl (isAgg25 _) (sizeOf25 _)) fun a Z => aR Z Y de call29 rfl (dU o lv l _ (Y.arg hlv) om) ?_
 clear Z Y
 intro a w3 x3 hp Z Y
 revert x3 hp Z Y; rintro v2 hp Z Y
 clear hp
 replace Y : St No w0 [_, _] w3 := Y
 refine wlm Z rfl fun a Z => aR Z Y de call54 rfl (mV hlo (Y.ow 0 rfl) hi hll) ?_
 clear Z Y
 intro a w4 x5 hp Z Y
 revert x5 hp Z Y; rintro v4 hp Z Y
 clear hp
 replace Y : St No w0 [_, _, _] w4 := Y
 refine wlm Z rfl fun a Z => wlv Z (ak rfl rfl) fun a Z => wlv Z (ak rfl rfl) fun a Z => wla Z rfl fun a Z => wla Z rfl fun a Z => ab (hK4 _ _ ?_)
 replace Z := Z.p4 4 5 6 7 rfl
 replace Y := Y.k1 1 rfl
 refine ah fun K5 hK5 => aa fun K6 hK6 => wlm Z rfl fun a Z => wlv Z ((v_ne rfl rfl).asb (b' := false) rfl) fun a Z => ab (hK6 _ _ <| aG Z rfl ?_)
 refine ap <| hK5 _ _ <| aa fun K7 hK7 => wlm Z rfl fun a Z => wla Z rfl fun a Z => wla Z rfl fun a Z => ab (hK7 _ _ <| ao ?_)
 refine al Z results21 (ac rfl (ac rfl ag)) ?_
 exact ⟨v4, rfl, trivial, Y.ext, St.out (E := [own v4 9 1 ((extH sha (codesR l) i).map fun s => [sv s])]) (H := []) (Y.select [0] de)⟩
theorem mN (o : Int) (lv : Value) (l : List Rec) (i : Int) (w0 : World) (hlv : SlAt w0 lv 5 (l.map Rec.cells)) (hll : l.length ≤ 1000) (hno : inG o l i = false) :
  Ret Tryz.prog 21 #[.agg #[iv o, lv], iv i] w0 (MemR w0 (fun v : Value => .tuple #[v, iv 110]) (fun v => [own v 9 1 ((([] : List By)).map fun s => [sv s])]) (fun _ => True)) := by
 refine aC func21 rfl ntmps21 (lb rfl) fun a Z => ?_
 replace Z := Z.p2 0 1 rfl
 replace Y : St No w0 [] w0 := St.init w0
 refine aa fun K1 hK1 => bh Z Y de rfl (cs := [iv o, lv]) rfl ?_
 clear Z Y
 intro a w1 Z Y
 refine wla Z rfl fun a Z => wla Z rfl fun a Z => ab (hK1 _ _ <| ah fun K2 hK2 => ?_)
 refine aa fun K3 hK3 => wlv Z (aw (Y.g 0 rfl) rfl (isAgg25 _) (sizeOf25 _)) fun a Z => am Z Y de call42 rfl (fl o lv l _ (Y.arg hlv)) ?_
 clear Z Y
 intro a w2 Z Y
 refine wlv Z (bp rfl) fun a Z => ab (hK3 _ _ ?_)
 refine ax Z rfl (fun hc1 => ?_) (fun hc1 => ?_)
 ·rw [hc1] at Z
  try simp only [qz] at hc1
  refine aa fun K4 hK4 => wla Z rfl fun a Z => wla Z rfl fun a Z => ab (hK4 _ _ <| ao ?_)
  refine al Z results21 (ac rfl (ac rfl ag)) ?_
  replace Y : St No w0 [own (.slice none 0 0) 9 1 (([] : List By).map fun s => [sv s]), blk w0.hz [iv o, lv] 25] w2 := Y.nil_own
  exact ⟨.slice none 0 0, rfl, trivial, Y.ext, St.out (E := [own (.slice none 0 0) 9 1 (([] : List By).map fun s => [sv s])]) (H := []) (Y.select [0] de)⟩
 rw [hc1] at Z
 try simp only [qz] at hc1
 have hlo : logOk o l = true := by simpa using hc1
 have hi : i < 0 ∨ (l.length : Int) < i := by
  unfold inG at hno; rw [hlo] at hno
  simp only [Bool.true_and, Bool.and_eq_false_iff, decide_eq_false_iff_not] at hno; omega
 have hao := cr (bL hlo)
 refine ap <| hK2 _ _ <| aa fun K5 hK5 => wlv Z (aw (Y.g 0 rfl) rfl (isAgg25 _) (sizeOf25 _)) fun a Z => aR Z Y de call29 rfl (dU o lv l _ (Y.arg hlv) om) ?_
 clear Z Y
 intro a w3 x3 hp Z Y
 revert x3 hp Z Y; rintro v2 hp Z Y
 clear hp
 replace Y : St No w0 [_, _] w3 := Y
 refine wlm Z rfl fun a Z => am Z Y de call54 rfl (n5 v2 (codesB (l)) i _ (Y.ow 0 rfl) (by first | omega | (rw [cg]; omega) | (rw [bO]; omega))) ?_
 clear Z Y
 intro a w4 Z Y
 refine wlm Z rfl fun a Z => wlv Z (ak rfl rfl) fun a Z => wlv Z (ak rfl rfl) fun a Z => wla Z rfl fun a Z => wla Z rfl fun a Z => ab (hK5 _ _ ?_)
 replace Z := Z.p4 4 5 6 7 rfl
 replace Y : St No w0 [] w4 := Y.mask [false, false]
 refine ah fun K6 hK6 => aa fun K7 hK7 => wlm Z rfl fun a Z => wlv Z ((v_ne rfl rfl).asb (b' := true) rfl) fun a Z => ab (hK7 _ _ <| aD Z rfl ?_)
 refine aa fun K8 hK8 => wla Z rfl fun a Z => wla Z rfl fun a Z => ab (hK8 _ _ <| ao ?_)
 refine al Z results21 (ac rfl (ac rfl ag)) ?_
 replace Y : St No w0 [own (.slice none 0 0) 9 1 (([] : List By).map fun s => [sv s])] w4 := Y.nil_own
 exact ⟨.slice none 0 0, rfl, trivial, Y.ext, St.out (E := [own (.slice none 0 0) 9 1 (([] : List By).map fun s => [sv s])]) (H := []) (Y.select [0] de)⟩
theorem gb (o : Int) (lv : Value) (l : List Rec) (i : Int) (w0 : World) (hlv : SlAt w0 lv 5 (l.map Rec.cells)) (hll : l.length ≤ 1000) : Ret Tryz.prog 21 #[.agg #[iv o, lv], iv i] w0 (MemR w0 (fun v : Value => .tuple #[v, iv (grownE o l i)]) (fun v => [own v 9 1 ((grownL o l i).map fun s => [sv s])]) (fun _ => True)) := by
 unfold grownL grownE
 cases h : inG o l i with
 | true =>
  have h' := h
  unfold inG at h'
  simp only [Bool.and_eq_true, decide_eq_true_eq] at h'
  obtain ⟨n, rfl⟩ := Int.eq_ofNat_of_zero_le h'.1.2
  rw [if_pos rfl, if_pos rfl, Int.toNat_natCast]; exact kx o lv l n w0 hlv hll h'.1.1 om
 | false => rw [if_neg sm, if_neg sm]; exact mN o lv l i w0 hlv hll h
end Go.Proofs.YtddfkkdanpmnaaaGreatDoor
