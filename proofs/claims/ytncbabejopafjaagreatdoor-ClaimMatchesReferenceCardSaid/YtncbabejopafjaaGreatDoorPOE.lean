/- Texts joined: RefV, ClaimP, ClaimM, ClaimN, ClaimO, ClaimA, ClaimB, ClaimC, ClaimD, ClaimE. -/
import Derived.Test.YtncbabejopafjaaGreatDoorPOD
import GoSem.Core.Value
import Derived.Test.YtncbabejopafjaaGreatDoorRows
import Derived.Test.YtncbabejopafjaaGreatDoorPOA
set_option linter.unusedVariables false
set_option linter.unusedSimpArgs false
set_option maxRecDepth 4000
set_option maxHeartbeats 4000000
namespace Go.Proofs.YtncbabejopafjaaGreatDoor
open Go.RowKit Go.PW _root_.Go.Proofs.Tryz
theorem Pxy.ok_bnd {p : Pxy} (h : p.ok = true) : 0 ≤ p.rt ∧ p.rt ≤ 100000000 := by
 simp only [Pxy.ok, cj, Bool.and_eq_true, decide_eq_true_eq] at h; omega
theorem re {x bw : Wsh} {how n : Int} {w0 : World} (hbw : bentW x how n = bw) (hh : -9223372036854775808 ≤ how ∧ how ≤ 9223372036854775807) (hx : x.rt < 9223372036854775807) (hx2 : -9223372036854775808 ≤ x.rt) :
  Ret Tryz.prog 10 #[.agg #[iv x.signer, iv x.holder, iv x.rf, iv x.rt, iv x.carrier, iv x.serial, iv x.sf, iv x.st, sv x.sig], iv how, iv n] w0 fun v w => v = .tuple #[.agg #[iv bw.signer, iv bw.holder, iv bw.rf, iv bw.rt, iv bw.carrier, iv bw.serial, iv bw.sf, iv bw.st, sv bw.sig], .bool (!(decide (bw = x)))] ∧ Ext No w0 w := by
 subst hbw; exact qw x how n w0 hh hx hx2
def wiB (a b c d e f g h : Int) : Bool := decide (e ≤ a) && decide (b ≤ f) && decide (g ≤ c) && decide (d ≤ h)
theorem pD (a b c d : Int) (q : Pxy) : isInH a b c d q = wiB a b c d q.rf q.rt q.sf q.st := rfl
section
variable {ks : List By} {x : Wsh} {ps : List Pxy} {number t : Int}
theorem pi {i : Nat} (h : ¬ formB ks x ps) (hb : badIdx ps 0 = some i) : whyH ks x ps number t = (1, (i : Int)) := by unfold whyH; rw [if_neg h, hb]
theorem oR (h : ∀ j, j < ks.length → (ks.getD j []).length = 32) : (ks.all fun s => decide (s.length = 32)) = true := by
 refine List.all_eq_true.2 fun s hs => ?_
 obtain ⟨j, hj, rfl⟩ := List.mem_iff_getElem.1 hs
 have := h j hj
 rw [List.getD_eq_getElem?_getD, List.getElem?_eq_getElem hj] at this
 exact decide_eq_true this
theorem fV {k : Nat} (hk : k < ks.length) (h : ¬ (ks.getD k []).length = 32) : (ks.all fun s => decide (s.length = 32)) = false := by
 cases hq : ks.all fun s => decide (s.length = 32) with
 | false => rfl
 | true => exact absurd (of_decide_eq_true (List.all_eq_true.1 hq _ (cn hk))) h
theorem o8 {k : Nat} (hk : k < ps.length) (h : (ps.getD k Pxy.z).ok = true) : badIdx (ps.drop k) k = badIdx (ps.drop (k + 1)) (k + 1) := by
 rw [cx Pxy.z hk, badIdx, if_pos h]
theorem qm {k : Nat} (hk : k < ps.length) (h : (ps.getD k Pxy.z).ok = false) : badIdx (ps.drop k) k = some k := by
 rw [cx Pxy.z hk, badIdx, if_neg (by rw [h]; simp)]
theorem mm {sg who : Int} {k : Nat} (hk : k < ps.length) (h : (ps.getD k Pxy.z).frm = who) : bD sg who (ps.drop k) k = bD sg (ps.getD k Pxy.z).to (ps.drop (k + 1)) (k + 1) := by
 rw [cx Pxy.z hk, bD, if_pos h]
theorem md {sg who : Int} {k : Nat} (hk : k < ps.length) (h : ¬ (ps.getD k Pxy.z).frm = who) : bD sg who (ps.drop k) k = some (k : Int) := by
 rw [cx Pxy.z hk, bD, if_neg h]
theorem kY (h : 0 < ps.length) : bd x none ps 0 = bd x (prevP ps 1) (ps.drop 1) 1 := by
 cases ps with
 | nil => cases h
 | cons p l => rfl
theorem nI (h : ps.length = 0) : bd x none ps 0 = none := by rw [List.length_eq_zero_iff.1 h]; rfl
theorem qc (h : 0 < ps.length) (hs : bd x none ps 0 = if ps.length = 0 ∨ isInH x.rf x.rt x.sf x.st (ps.getD (ps.length - 1) Pxy.z) = true then none else some (-1)) :
  bd x none ps 0 = if (!(wiB x.rf x.rt x.sf x.st (ps.getD (ps.length - 1) Pxy.z).rf (ps.getD (ps.length - 1) Pxy.z).rt (ps.getD (ps.length - 1) Pxy.z).sf (ps.getD (ps.length - 1) Pxy.z).st)) = true then some (-1) else none := by
 have hl : ¬ ps.length = 0 := by omega
 rw [hs, pD]
 generalize wiB x.rf x.rt x.sf x.st (ps.getD (ps.length - 1) Pxy.z).rf (ps.getD (ps.length - 1) Pxy.z).rt (ps.getD (ps.length - 1) Pxy.z).sf (ps.getD (ps.length - 1) Pxy.z).st = c
 cases c <;> simp [hl]
theorem mH {n a b : Int} (h : n < a ∨ b ≤ n) : inB n a (b - 1) = false := by
 unfold inB
 rcases h with h | h
 ·rw [decide_eq_false om]; rfl
 ·rw [decide_eq_false (by omega : ¬ n ≤ b - 1), Bool.and_false]
theorem mI {n a b : Int} (h1 : a ≤ n) (h2 : n < b) : inB n a (b - 1) = true := by unfold inB; rw [decide_eq_true h1, decide_eq_true (by omega : n ≤ b - 1)]; rfl
end
theorem iH (a1 a2 a3 a4 a5 a6 a7 a8 : Int) (w0 : World) :
  Ret Tryz.prog 89 #[.agg #[iv a1, iv a2], .agg #[iv a3, iv a4], .agg #[iv a5, iv a6], .agg #[iv a7, iv a8]] w0 fun v w => v = .bool (wiB a1 a2 a3 a4 a5 a6 a7 a8) ∧ Ext No w0 w := by
 refine aD func89 rfl ntmps89 (lb rfl) fun a Z => ?_
 replace Z := Z.p4 0 1 2 3 rfl
 replace Y : St No w0 [] w0 := St.init w0
 refine aa fun K1 hK1 => aG Z Y de rfl (cs := [iv a1, iv a2]) rfl ?_
 clear Z Y
 intro a w1 Z Y
 refine aG Z Y de rfl (cs := [iv a3, iv a4]) rfl ?_
 clear Z Y
 intro a w2 Z Y
 refine aG Z Y de rfl (cs := [iv a5, iv a6]) rfl ?_
 clear Z Y
 intro a w3 Z Y
 refine aG Z Y de rfl (cs := [iv a7, iv a8]) rfl ?_
 clear Z Y
 intro a w4 Z Y
 refine wla Z rfl fun a Z => ab (hK1 _ _ <| aa fun K2 hK2 => ?_)
 refine wlv Z (ac (v := pt w0.hz) rfl kr) fun a Z => wlv Z (ld Y 3 rfl rfl (isAgg3 _) rfl) fun a Z => wlv Z (ac (v := pt w2.hz) rfl kr) fun a Z => wlv Z (ld Y 1 rfl rfl (isAgg3 _) rfl) fun a Z => wlv Z (v_ge rfl rfl) fun a Z => wlm Z rfl fun a Z => ?_
 refine bO (N := 35) (df := []) 6 [(20, .bool ((decide (a5 ≤ a1)) && (decide (a2 ≤ a6)))), (0, .agg #[iv a1, iv a2]), (1, .agg #[iv a3, iv a4]), (2, .agg #[iv a5, iv a6]), (3, .agg #[iv a7, iv a8]), (4, pt w0.hz), (5, pt w1.hz), (6, pt w2.hz), (7, pt w3.hz), (8, .bool false)] ?_ (fun hj => ?_)
 rotate_left
 ·rcases Bool.eq_false_or_eq_true (decide (a5 ≤ a1)) with hb1 | hb1
  ·rw [hb1] at Z
   have hb1b := hb1
   try simp only [qz, Bool.and_eq_true, Bool.or_eq_true, Bool.and_eq_false_iff, Bool.or_eq_false_iff] at hb1
   refine wly Z (ac (v := po w0.hz 1) rfl kr) fun a Z => wly Z (ld Y 3 rfl rfl (isAgg3 _) rfl) fun a Z => wly Z (ac (v := po w2.hz 1) rfl kr) fun a Z => wly Z (ld Y 1 rfl rfl (isAgg3 _) rfl) fun a Z => wly Z (v_le rfl rfl) fun a Z => wlv Z (au rfl rfl) fun a Z => ?_
   refine hj _ ?_
   try rw [hb1b]
   exact Z.pick [20, 0, 1, 2, 3, 4, 5, 6, 7, 8]
  rw [hb1] at Z
  have hb1b := hb1
  try simp only [qz, Bool.and_eq_true, Bool.or_eq_true, Bool.and_eq_false_iff, Bool.or_eq_false_iff] at hb1
  refine wln Z fun a Z => wln Z fun a Z => wln Z fun a Z => wln Z fun a Z => wln Z fun a Z => wlv Z (aq rfl rfl) fun a Z => ?_
  refine hj _ ?_
  try rw [hb1b]
  exact Z.pick [20, 0, 1, 2, 3, 4, 5, 6, 7, 8]
 intro a Z
 refine wlm Z rfl fun a Z => ?_
 refine bO (N := 35) (df := []) 6 [(27, .bool (((decide (a5 ≤ a1)) && (decide (a2 ≤ a6))) && (decide (a7 ≤ a3)))), (0, .agg #[iv a1, iv a2]), (1, .agg #[iv a3, iv a4]), (2, .agg #[iv a5, iv a6]), (3, .agg #[iv a7, iv a8]), (4, pt w0.hz), (5, pt w1.hz), (6, pt w2.hz), (7, pt w3.hz), (8, .bool false)] ?_ (fun hj => ?_)
 rotate_left
 ·rcases Bool.eq_false_or_eq_true ((decide (a5 ≤ a1)) && (decide (a2 ≤ a6))) with hb2 | hb2
  ·rw [hb2] at Z
   have hb2b := hb2
   try simp only [qz, Bool.and_eq_true, Bool.or_eq_true, Bool.and_eq_false_iff, Bool.or_eq_false_iff] at hb2
   refine wly Z (ac (v := pt w1.hz) rfl kr) fun a Z => wly Z (ld Y 2 rfl rfl (isAgg3 _) rfl) fun a Z => wly Z (ac (v := pt w3.hz) rfl kr) fun a Z => wly Z (ld Y 0 rfl rfl (isAgg3 _) rfl) fun a Z => wly Z (v_ge rfl rfl) fun a Z => wlv Z (au rfl rfl) fun a Z => ?_
   refine hj _ ?_
   try rw [hb2b]
   exact Z.pick [27, 0, 1, 2, 3, 4, 5, 6, 7, 8]
  rw [hb2] at Z
  have hb2b := hb2
  try simp only [qz, Bool.and_eq_true, Bool.or_eq_true, Bool.and_eq_false_iff, Bool.or_eq_false_iff] at hb2
  refine wln Z fun a Z => wln Z fun a Z => wln Z fun a Z => wln Z fun a Z => wln Z fun a Z => wlv Z (aq rfl rfl) fun a Z => ?_
  refine hj _ ?_
  try rw [hb2b]
  exact Z.pick [27, 0, 1, 2, 3, 4, 5, 6, 7, 8]
 intro a Z
 refine wlm Z rfl fun a Z => ?_
 refine bO (N := 35) (df := []) 6 [(34, .bool ((((decide (a5 ≤ a1)) && (decide (a2 ≤ a6))) && (decide (a7 ≤ a3))) && (decide (a4 ≤ a8)))), (0, .agg #[iv a1, iv a2]), (1, .agg #[iv a3, iv a4]), (2, .agg #[iv a5, iv a6]), (3, .agg #[iv a7, iv a8]), (4, pt w0.hz), (5, pt w1.hz), (6, pt w2.hz), (7, pt w3.hz), (8, .bool false)] ?_ (fun hj => ?_)
 rotate_left
 ·rcases Bool.eq_false_or_eq_true (((decide (a5 ≤ a1)) && (decide (a2 ≤ a6))) && (decide (a7 ≤ a3))) with hb3 | hb3
  ·rw [hb3] at Z
   have hb3b := hb3
   try simp only [qz, Bool.and_eq_true, Bool.or_eq_true, Bool.and_eq_false_iff, Bool.or_eq_false_iff] at hb3
   refine wly Z (ac (v := po w1.hz 1) rfl kr) fun a Z => wly Z (ld Y 2 rfl rfl (isAgg3 _) rfl) fun a Z => wly Z (ac (v := po w3.hz 1) rfl kr) fun a Z => wly Z (ld Y 0 rfl rfl (isAgg3 _) rfl) fun a Z => wly Z (v_le rfl rfl) fun a Z => wlv Z (au rfl rfl) fun a Z => ?_
   refine hj _ ?_
   try rw [hb3b]
   exact Z.pick [34, 0, 1, 2, 3, 4, 5, 6, 7, 8]
  rw [hb3] at Z
  have hb3b := hb3
  try simp only [qz, Bool.and_eq_true, Bool.or_eq_true, Bool.and_eq_false_iff, Bool.or_eq_false_iff] at hb3
  refine wln Z fun a Z => wln Z fun a Z => wln Z fun a Z => wln Z fun a Z => wln Z fun a Z => wlv Z (aq rfl rfl) fun a Z => ?_
  refine hj _ ?_
  try rw [hb3b]
  exact Z.pick [34, 0, 1, 2, 3, 4, 5, 6, 7, 8]
 intro a Z
 refine wla Z rfl fun a Z => ab (hK2 _ _ ?_)
 replace Z := Z.p1 8 rfl
 replace Y : St No w0 [] w4 := Y.mask [false, false, false, false]
 refine ap ?_
 refine aj Z results89 (ae rfl ag) ?_
 exact ⟨by rfl, Y.ext⟩
theorem qK (kv lv : Value) (ks : List By) (x : Wsh) (ps : List Pxy) (number t : Int) (w0 : World) (hkv : SlAt w0 kv 1 (ks.map fun s => [sv s])) (hlv : SlAt w0 lv 7 (ps.map Pxy.cells)) :
  Ret Tryz.prog 58 #[kv, .agg #[iv x.signer, iv x.holder, iv x.rf, iv x.rt, iv x.carrier, iv x.serial, iv x.sf, iv x.st, sv x.sig], lv, iv number, iv t] w0 fun v w => v = .tuple #[iv (whyH ks x ps number t).1, iv (whyH ks x ps number t).2] ∧ Ext No w0 w := by
 have hxb := hlv.2.1
 simp only [List.length_map, big] at hxb
 have hyb := hkv.2.1
 simp only [List.length_map, big] at hyb
 refine aD func58 rfl ntmps58 (lb rfl) fun a Z => ?_
 replace Z := Z.p5 0 1 2 3 4 rfl
 replace Y : St No w0 [] w0 := St.init w0
 refine aa fun K1 hK1 => aG Z Y de rfl (cs := [iv x.signer, iv x.holder, iv x.rf, iv x.rt, iv x.carrier, iv x.serial, iv x.sf, iv x.st, sv x.sig]) rfl ?_
 clear Z Y
 intro a w1 Z Y
 refine wla Z rfl fun a Z => wla Z rfl fun a Z => ab (hK1 _ _ <| ah fun K2 hK2 => ?_)
 refine aa fun K3 hK3 => wlm Z rfl fun a Z => wlv Z ((aL (sT := 59) (Y.arg hkv) rfl rfl (runUnderlying59 _)).asi (m' := (ks.length : Int)) (by rw [List.length_map])) fun a Z => wlv Z (v_gt rfl rfl) fun a Z => wlm Z rfl fun a Z => ?_
 rcases Bool.eq_false_or_eq_true (decide (64 < (ks.length : Int))) with hb1 | hb1
 ·rw [hb1] at Z
  try simp only [qz] at hb1
  refine wln Z fun a Z => wln Z fun a Z => wln Z fun a Z => wlv Z (au rfl rfl) fun a Z => wlm Z rfl fun a Z => wln Z fun a Z => wln Z fun a Z => wln Z fun a Z => wlv Z (au rfl rfl) fun a Z => ab (hK3 _ _ ?_)
  replace Z := Z.p8 0 2 3 4 6 10 11 30 rfl
  refine aN Z rfl ?_
  refine aa fun K4 hK4 => wla Z rfl fun a Z => wla Z rfl fun a Z => ab (hK4 _ _ <| ap ?_)
  refine aj Z results58 (ae rfl (ae rfl ag)) ?_
  exact ⟨by rw [dg (by unfold formB; first | exact .inl om | exact .inr (.inr (.inr om)) | exact .inr (.inr (.inl (by simpa using hb1))) | exact .inr (.inl (fV hkx om)))]; rfl, Y.ext⟩
 rw [hb1] at Z
 try simp only [qz] at hb1
 refine wly Z (ai (Y.g 0 rfl) rfl (isAgg41 _) (sizeOf41 _)) fun a Z => aF Z Y de rfl de rfl call55 rfl (kU x _) ?_
 clear Z Y
 intro a w2 Z Y
 refine wly Z (bu rfl) fun a Z => wlv Z (aq rfl rfl) fun a Z => wlm Z rfl fun a Z => ?_
 rcases Bool.eq_false_or_eq_true (!x.ok) with hb2 | hb2
 ·rw [hb2] at Z
  try simp only [qz] at hb2
  refine wln Z fun a Z => wln Z fun a Z => wln Z fun a Z => wlv Z (au rfl rfl) fun a Z => ab (hK3 _ _ ?_)
  replace Z := Z.p8 0 2 3 4 6 10 11 30 rfl
  refine aN Z rfl ?_
  refine aa fun K5 hK5 => wla Z rfl fun a Z => wla Z rfl fun a Z => ab (hK5 _ _ <| ap ?_)
  refine aj Z results58 (ae rfl (ae rfl ag)) ?_
  exact ⟨by rw [dg (by unfold formB; first | exact .inl om | exact .inr (.inr (.inr om)) | exact .inr (.inr (.inl (by simpa using hb2))) | exact .inr (.inl (fV hkx om)))]; rfl, Y.ext⟩
 rw [hb2] at Z
 try simp only [qz] at hb2
 refine wly Z (ak rfl) fun a Z => wly Z ((aL (sT := 49) (Y.arg hlv) rfl rfl (runUnderlying49 _)).asi (m' := (ps.length : Int)) (by rw [List.length_map])) fun a Z => wly Z (v_gt rfl rfl) fun a Z => wlv Z (aq rfl rfl) fun a Z => ab (hK3 _ _ ?_)
 replace Z := Z.p8 0 2 3 4 6 10 11 30 rfl
 refine ax Z rfl (fun hc3 => ?_) (fun hc3 => ?_)
 ·rw [hc3] at Z
  try simp only [qz] at hc3
  refine aa fun K6 hK6 => wla Z rfl fun a Z => wla Z rfl fun a Z => ab (hK6 _ _ <| ap ?_)
  refine aj Z results58 (ae rfl (ae rfl ag)) ?_
  exact ⟨by rw [dg (by unfold formB; first | exact .inl om | exact .inr (.inr (.inr om)) | exact .inr (.inr (.inl (by simpa using hc3))) | exact .inr (.inl (fV hkx om)))]; rfl, Y.ext⟩
 rw [hc3] at Z
 try simp only [qz] at hc3
 refine az <| hK2 _ _ <| ah fun K7 hK7 => aa fun K8 hK8 => wla Z rfl fun a Z => ab (hK8 _ _ <| ay ?_)
 refine bj (fun m a w => ∃ (k : Nat), m = ks.length - k ∧ (k ≤ ks.length) ∧ (∀ j, j < k → (ks.getD j []).length = 32) ∧ Fr 216 [(0, kv), (2, lv), (3, iv number), (4, iv t), (6, pt w0.hz), (12, iv (k : Int))] [] a ∧ St No w0 [blk w0.hz [iv x.signer, iv x.holder, iv x.rf, iv x.rt, iv x.carrier, iv x.serial, iv x.sf, iv x.st, sv x.sig] 41] w) _ ⟨0, rfl, Nat.zero_le _, (fun j h => absurd h (Nat.not_lt_zero _)), Z.pick [0, 2, 3, 4, 6, 12], Y.select [0] de⟩ ?_
 rintro _ a w3 ⟨k, rfl, hk, hks, Z, Y⟩
 refine ah fun K9 hK9 => aa fun K10 hK10 => wlm Z rfl fun a Z => wlm Z rfl fun a Z => wlv Z ((aL (sT := 59) (Y.arg hkv) rfl rfl (runUnderlying59 _)).asi (m' := (ks.length : Int)) (by rw [List.length_map])) fun a Z => wlv Z (v_lt rfl rfl) fun a Z => ab (hK10 _ _ ?_)
 refine ax Z rfl (fun hc4 => ?_) (fun hc4 => ?_)
 ·rw [hc4] at Z
  try simp only [qz] at hc4
  have hkx : k < ks.length := by omega
  refine az <| hK9 _ _ <| ah fun K11 hK11 => ay <| aa fun K12 hK12 => wlm Z rfl fun a Z => wlm Z rfl fun a Z => wlv Z ((ao (i := (k : Int)) (sT := 59) (Y.arg hkv) rfl rfl (runUnderlying59 _) (sizeOf9 _) om (by rw [List.length_map]; omega)).as (v' := slAddr kv (k * 1)) rfl) fun a Z => wlv Z (aE (u := sv (ks.getD k [])) (i := k) (j := 0) (Y.arg hkv) (by rw [List.length_map]; omega) rfl (isAgg9 _) (by rw [bU ([] : By)]; rfl)) fun a Z => wlv Z (cR rfl rfl (runUnderlying9 _)) fun a Z => wlv Z (v_ne rfl rfl) fun a Z => ?_
  refine ab (hK12 _ _ ?_)
  replace Z := Z.p7 0 2 3 4 6 12 42 rfl
  refine ax Z rfl (fun hc5 => ?_) (fun hc5 => ?_)
  ·rw [hc5] at Z
   try simp only [qz] at hc5
   refine aa fun K13 hK13 => wla Z rfl fun a Z => wla Z rfl fun a Z => ab (hK13 _ _ <| ap ?_)
   refine aj Z results58 (ae rfl (ae rfl ag)) ?_
   exact ⟨by rw [dg (by unfold formB; first | exact .inl om | exact .inr (.inr (.inr om)) | exact .inr (.inr (.inl (by simpa using hc5))) | exact .inr (.inl (fV hkx om)))]; rfl, Y.ext⟩
  rw [hc5] at Z
  try simp only [qz] at hc5
  refine az <| hK11 _ _ <| ar <| wlm Z rfl fun a Z => wlv Z (aS rfl rfl ⟨om, om⟩) fun a Z => wla Z rfl fun a Z => ab ?_
  refine ⟨_, ?_, k + 1, rfl, om, (fun j h => by rcases Nat.lt_succ_iff_lt_or_eq.1 h with h | rfl; exact hks j h; omega), Z.pick [0, 2, 3, 4, 6, 12], Y.select [0] de⟩
  omega
 rw [hc4] at Z
 try simp only [qz] at hc4
 have hkall := oR (ks := ks) fun j hj => hks j om
 refine aX <| hK7 _ _ <| ah fun K14 hK14 => ?_
 have hxo : x.ok = true := by simpa using hb2
 have hnf : ¬ formB ks x ps := by
  rintro (h | h | h | h)
  ·omega
  ·rw [hkall] at h; cases h
  ·rw [hxo] at h; cases h
  ·omega
 have hk32 := m8 hnf
 have hxd := Wsh.ok_bnd hxo
 have hxg := Wsh.ok_signer hxo
 refine aa fun K15 hK15 => wla Z rfl fun a Z => ab (hK15 _ _ <| ay ?_)
 refine bj (fun m a w => ∃ (k : Nat), m = ps.length - k ∧ (k ≤ ps.length) ∧ (badIdx ps 0 = badIdx (ps.drop k) k) ∧ Fr 216 [(0, kv), (2, lv), (3, iv number), (4, iv t), (6, pt w0.hz), (13, iv (k : Int))] [] a ∧ St No w0 [blk w0.hz [iv x.signer, iv x.holder, iv x.rf, iv x.rt, iv x.carrier, iv x.serial, iv x.sf, iv x.st, sv x.sig] 41] w) _ ⟨0, rfl, Nat.zero_le _, rfl, Z.pick [0, 2, 3, 4, 6, 13], Y.select [0] de⟩ ?_
 rintro _ a w4 ⟨k, rfl, hk, hbi, Z, Y⟩
 refine ah fun K16 hK16 => aa fun K17 hK17 => wlm Z rfl fun a Z => wlm Z rfl fun a Z => wlv Z ((aL (sT := 49) (Y.arg hlv) rfl rfl (runUnderlying49 _)).asi (m' := (ps.length : Int)) (by rw [List.length_map])) fun a Z => wlv Z (v_lt rfl rfl) fun a Z => ab (hK17 _ _ ?_)
 refine ax Z rfl (fun hc6 => ?_) (fun hc6 => ?_)
 ·rw [hc6] at Z
  try simp only [qz] at hc6
  have hkx : k < ps.length := by omega
  refine az <| hK16 _ _ <| ah fun K18 hK18 => ay <| aa fun K19 hK19 => wlm Z rfl fun a Z => wlm Z rfl fun a Z => wlv Z ((ao (i := (k : Int)) (sT := 49) (Y.arg hlv) rfl rfl (runUnderlying49 _) (sizeOf86 _) om (by rw [List.length_map]; omega)).as (v' := slAddr lv (k * 7)) rfl) fun a Z => wlv Z ((bN (Y.arg hlv) (i := k) (by rw [List.length_map]; omega) rfl (isAgg86 _) (sizeOf86 _)).as (v' := .agg #[iv ((ps.getD k Pxy.z).frm), iv ((ps.getD k Pxy.z).to), iv ((ps.getD k Pxy.z).rf), iv ((ps.getD k Pxy.z).rt), iv ((ps.getD k Pxy.z).sf), iv ((ps.getD k Pxy.z).st), sv ((ps.getD k Pxy.z).sig)]) (by rw [bU Pxy.z]; rfl)) fun a Z => aA Z Y de call52 rfl (jv (ps.getD k Pxy.z) _) ?_
  clear Z Y
  intro a w5 Z Y
  refine wlv Z (bu rfl) fun a Z => ab (hK19 _ _ ?_)
  replace Z := Z.p7 0 2 3 4 6 13 54 rfl
  refine ax Z rfl (fun hc7 => ?_) (fun hc7 => ?_)
  ·rw [hc7] at Z
   try simp only [qz] at hc7
   refine aa fun K20 hK20 => wlm Z rfl fun a Z => wla Z rfl fun a Z => wla Z rfl fun a Z => ab (hK20 _ _ <| ap ?_)
   refine aj Z results58 (ae rfl (ae rfl ag)) ?_
   exact ⟨by rw [pi hnf (by rw [hbi]; exact qm hkx (by simpa using hc7))]; rfl, Y.ext⟩
  rw [hc7] at Z
  try simp only [qz] at hc7
  refine az <| hK18 _ _ <| ar <| wlm Z rfl fun a Z => wlv Z (aS rfl rfl ⟨om, om⟩) fun a Z => wla Z rfl fun a Z => ab ?_
  refine ⟨_, ?_, k + 1, rfl, om, (by rw [hbi]; exact o8 hkx (by simpa using hc7)), Z.pick [0, 2, 3, 4, 6, 13], Y.select [0] de⟩
  omega
 rw [hc6] at Z
 try simp only [qz] at hc6
 have hke : k = ps.length := by omega
 have hbn : badIdx ps 0 = none := by rw [hbi, hke, List.drop_length]; rfl
 refine aX <| hK14 _ _ <| ah fun K21 hK21 => aa fun K22 hK22 => wlm Z rfl fun a Z => wlv Z (ac (v := po w0.hz 6) rfl kr) fun a Z => wlv Z (ac (v := po w0.hz 6) rfl kr) fun a Z => wlv Z (ld Y 0 rfl rfl (isAgg3 _) rfl) fun a Z => wlv Z (v_lt rfl rfl) fun a Z => wlm Z rfl fun a Z => ?_
 rcases Bool.eq_false_or_eq_true (decide (t < x.sf)) with hb8 | hb8
 ·rw [hb8] at Z
  try simp only [qz] at hb8
  refine wln Z fun a Z => wln Z fun a Z => wln Z fun a Z => wln Z fun a Z => wln Z fun a Z => wlv Z (au rfl rfl) fun a Z => ab (hK22 _ _ ?_)
  replace Z := Z.p5 0 2 3 6 67 rfl
  refine aN Z rfl ?_
  refine aa fun K23 hK23 => wla Z rfl fun a Z => wla Z rfl fun a Z => ab (hK23 _ _ <| ap ?_)
  refine aj Z results58 (ae rfl (ae rfl ag)) ?_
  exact ⟨by rw [eS hnf hbn (mH om)]; rfl, Y.ext⟩
 rw [hb8] at Z
 try simp only [qz] at hb8
 refine wly Z (ak rfl) fun a Z => wly Z (ac (v := po w0.hz 6) rfl kr) fun a Z => wly Z (ac (v := po w0.hz 7) rfl kr) fun a Z => wly Z (ld Y 0 rfl rfl (isAgg3 _) rfl) fun a Z => wly Z (v_ge rfl rfl) fun a Z => wlv Z (aq rfl rfl) fun a Z => ab (hK22 _ _ ?_)
 replace Z := Z.p5 0 2 3 6 67 rfl
 refine ax Z rfl (fun hc9 => ?_) (fun hc9 => ?_)
 ·rw [hc9] at Z
  try simp only [qz] at hc9
  refine aa fun K24 hK24 => wla Z rfl fun a Z => wla Z rfl fun a Z => ab (hK24 _ _ <| ap ?_)
  refine aj Z results58 (ae rfl (ae rfl ag)) ?_
  exact ⟨by rw [eS hnf hbn (mH om)]; rfl, Y.ext⟩
 rw [hc9] at Z
 try simp only [qz] at hc9
 refine az <| hK21 _ _ <| ah fun K25 hK25 => aa fun K26 hK26 => wlm Z rfl fun a Z => wlv Z (ac (v := po w0.hz 2) rfl kr) fun a Z => wlv Z (ac (v := po w0.hz 2) rfl kr) fun a Z => wlv Z (ld Y 0 rfl rfl (isAgg3 _) rfl) fun a Z => wlv Z (v_lt rfl rfl) fun a Z => wlm Z rfl fun a Z => ?_
 rcases Bool.eq_false_or_eq_true (decide (number < x.rf)) with hb10 | hb10
 ·rw [hb10] at Z
  try simp only [qz] at hb10
  refine wln Z fun a Z => wln Z fun a Z => wln Z fun a Z => wln Z fun a Z => wln Z fun a Z => wlv Z (au rfl rfl) fun a Z => ab (hK26 _ _ ?_)
  replace Z := Z.p4 0 2 6 79 rfl
  refine aN Z rfl ?_
  refine aa fun K27 hK27 => wla Z rfl fun a Z => wla Z rfl fun a Z => ab (hK27 _ _ <| ap ?_)
  refine aj Z results58 (ae rfl (ae rfl ag)) ?_
  exact ⟨by rw [ga hnf hbn (mI om om) (mH om)]; rfl, Y.ext⟩
 rw [hb10] at Z
 try simp only [qz] at hb10
 refine wly Z (ak rfl) fun a Z => wly Z (ac (v := po w0.hz 2) rfl kr) fun a Z => wly Z (ac (v := po w0.hz 3) rfl kr) fun a Z => wly Z (ld Y 0 rfl rfl (isAgg3 _) rfl) fun a Z => wly Z (v_ge rfl rfl) fun a Z => wlv Z (aq rfl rfl) fun a Z => ab (hK26 _ _ ?_)
 replace Z := Z.p4 0 2 6 79 rfl
 refine ax Z rfl (fun hc11 => ?_) (fun hc11 => ?_)
 ·rw [hc11] at Z
  try simp only [qz] at hc11
  refine aa fun K28 hK28 => wla Z rfl fun a Z => wla Z rfl fun a Z => ab (hK28 _ _ <| ap ?_)
  refine aj Z results58 (ae rfl (ae rfl ag)) ?_
  exact ⟨by rw [ga hnf hbn (mI om om) (mH om)]; rfl, Y.ext⟩
 rw [hc11] at Z
 try simp only [qz] at hc11
 refine az <| hK25 _ _ ?_
 have hwp : whyP ks x ps number t := ⟨hnf, hbn, mI om om, mI om om⟩
 refine aa fun K29 hK29 => wlv Z (ac (v := po w0.hz 1) rfl kr) fun a Z => wlv Z (ld Y 0 rfl rfl (isAgg3 _) rfl) fun a Z => wla Z rfl fun a Z => ab (hK29 _ _ <| ah fun K30 hK30 => ?_)
 refine aa fun K31 hK31 => wla Z rfl fun a Z => ab (hK31 _ _ <| ay ?_)
 refine bj (fun m a w => ∃ (k : Nat) (who : Int), m = ps.length - k ∧ (k ≤ ps.length) ∧ (bD x.signer x.holder ps 0 = bD x.signer who (ps.drop k) k) ∧ Fr 216 [(0, kv), (2, lv), (6, pt w0.hz), (14, iv who), (15, iv (k : Int))] [] a ∧ St No w0 [blk w0.hz [iv x.signer, iv x.holder, iv x.rf, iv x.rt, iv x.carrier, iv x.serial, iv x.sf, iv x.st, sv x.sig] 41] w) _ ⟨0, x.holder, rfl, Nat.zero_le _, rfl, Z.pick [0, 2, 6, 14, 15], Y.select [0] de⟩ ?_
 rintro _ a w6 ⟨k, who, rfl, hk, hcb, Z, Y⟩
 refine ah fun K32 hK32 => aa fun K33 hK33 => wlm Z rfl fun a Z => wlm Z rfl fun a Z => wlv Z ((aL (sT := 49) (Y.arg hlv) rfl rfl (runUnderlying49 _)).asi (m' := (ps.length : Int)) (by rw [List.length_map])) fun a Z => wlv Z (v_lt rfl rfl) fun a Z => ab (hK33 _ _ ?_)
 refine ax Z rfl (fun hc12 => ?_) (fun hc12 => ?_)
 ·rw [hc12] at Z
  try simp only [qz] at hc12
  have hkx : k < ps.length := by omega
  have hpk := cU hbn _ (cn (d := Pxy.z) hkx)
  have hp0 := Pxy.ok_frm hpk
  refine az <| hK32 _ _ <| ah fun K34 hK34 => ay <| ah fun K35 hK35 => aa fun K36 hK36 => wlm Z rfl fun a Z => wlm Z rfl fun a Z => wlv Z ((ao (i := (k : Int)) (sT := 49) (Y.arg hlv) rfl rfl (runUnderlying49 _) (sizeOf86 _) om (by rw [List.length_map]; omega)).as (v' := slAddr lv (k * 7)) rfl) fun a Z => wlv Z (bo (k := k * 7) (j := 0) (Y.arg hlv) (i := k) (by rw [List.length_map]; omega) rfl (fun _ _ => by kernel_rfl)) fun a Z => wlv Z (aE (u := iv ((ps.getD k Pxy.z).frm)) (i := k) (j := 0) (Y.arg hlv) (by rw [List.length_map]; omega) rfl (isAgg3 _) (by rw [bU Pxy.z]; rfl)) fun a Z => wlm Z rfl fun a Z => ?_
  refine wlv Z (v_ne rfl rfl) fun a Z => ab (hK36 _ _ ?_)
  replace Z := Z.p5 0 2 6 15 94 rfl
  refine ax Z rfl (fun hc13 => ?_) (fun hc13 => ?_)
  ·rw [hc13] at Z
   try simp only [qz] at hc13
   refine aa fun K37 hK37 => wlm Z rfl fun a Z => wla Z rfl fun a Z => wla Z rfl fun a Z => ab (hK37 _ _ <| ap ?_)
   refine aj Z results58 (ae rfl (ae rfl ag)) ?_
   exact ⟨by rw [fi hwp (by rw [hcb]; exact md hkx hc13)]; rfl, Y.ext⟩
  rw [hc13] at Z
  try simp only [qz] at hc13
  refine az <| hK35 _ _ <| ar <| wlm Z rfl fun a Z => wlm Z rfl fun a Z => wlv Z ((ao (i := (k : Int)) (sT := 49) (Y.arg hlv) rfl rfl (runUnderlying49 _) (sizeOf86 _) om (by rw [List.length_map]; omega)).as (v' := slAddr lv (k * 7)) rfl) fun a Z => wlv Z (bo (k := k * 7) (j := 1) (Y.arg hlv) (i := k) (by rw [List.length_map]; omega) rfl (fun _ _ => by kernel_rfl)) fun a Z => wlv Z (aE (u := iv ((ps.getD k Pxy.z).to)) (i := k) (j := 1) (Y.arg hlv) (by rw [List.length_map]; omega) rfl (isAgg3 _) (by rw [bU Pxy.z]; rfl)) fun a Z => wla Z rfl fun a Z => ab <| hK34 _ _ ?_
  replace Z := Z.p5 0 2 6 15 14 rfl
  refine ar <| wlm Z rfl fun a Z => wlv Z (aS rfl rfl ⟨om, om⟩) fun a Z => wla Z rfl fun a Z => ab ?_
  refine ⟨_, ?_, k + 1, (ps.getD k Pxy.z).to, rfl, om, (by rw [hcb]; exact mm hkx hc13), Z.pick [0, 2, 6, 14, 15], Y.select [0] de⟩
  omega
 rw [hc12] at Z
 try simp only [qz] at hc12
 have hke : k = ps.length := by omega
 rw [hke, List.drop_length] at hcb
 refine aX <| hK30 _ _ <| ah fun K38 hK38 => aa fun K39 hK39 => wlv Z (ac (v := pt w0.hz) rfl kr) fun a Z => wlv Z (ld Y 0 rfl rfl (isAgg3 _) rfl) fun a Z => wlm Z rfl fun a Z => wlv Z (v_ne rfl rfl) fun a Z => ab (hK39 _ _ ?_)
 replace Z := Z.p4 0 2 6 104 rfl
 refine ax Z rfl (fun hc14 => ?_) (fun hc14 => ?_)
 ·rw [hc14] at Z
  try simp only [qz] at hc14
  refine aa fun K40 hK40 => wla Z rfl fun a Z => wla Z rfl fun a Z => ab (hK40 _ _ <| ap ?_)
  refine aj Z results58 (ae rfl (ae rfl ag)) ?_
  exact ⟨by rw [fi hwp (by rw [hcb, bD, if_neg om])]; rfl, Y.ext⟩
 rw [hc14] at Z
 try simp only [qz] at hc14
 refine az <| hK38 _ _ <| ah fun K41 hK41 => ?_
 have hch : bD x.signer x.holder ps 0 = none := by rw [hcb, bD, if_pos om]
 refine aa fun K42 hK42 => wla Z rfl fun a Z => ab (hK42 _ _ <| ay ?_)
 refine bj (fun m a w => ∃ (k : Nat), m = ps.length - k ∧ (k ≤ ps.length ∨ k = 1) ∧ (1 ≤ k) ∧ (0 < ps.length → bd x none ps 0 = bd x (prevP ps k) (ps.drop k) k) ∧ Fr 216 [(0, kv), (2, lv), (6, pt w0.hz), (16, iv (k : Int))] [] a ∧ St No w0 [blk w0.hz [iv x.signer, iv x.holder, iv x.rf, iv x.rt, iv x.carrier, iv x.serial, iv x.sf, iv x.st, sv x.sig] 41] w) _ ⟨1, rfl, (.inr rfl), Nat.le_refl _, kY, Z.pick [0, 2, 6, 16], Y.select [0] de⟩ ?_
 rintro _ a w7 ⟨k, rfl, hk, hk1, hs, Z, Y⟩
 refine ah fun K43 hK43 => aa fun K44 hK44 => wlm Z rfl fun a Z => wlm Z rfl fun a Z => wlv Z ((aL (sT := 49) (Y.arg hlv) rfl rfl (runUnderlying49 _)).asi (m' := (ps.length : Int)) (by rw [List.length_map])) fun a Z => wlv Z (v_lt rfl rfl) fun a Z => ab (hK44 _ _ ?_)
 refine ax Z rfl (fun hc15 => ?_) (fun hc15 => ?_)
 ·rw [hc15] at Z
  try simp only [qz] at hc15
  have hkx : k < ps.length := by omega
  have hpk := cU hbn _ (cn (d := Pxy.z) hkx)
  have hp0 := Pxy.ok_frm hpk
  refine az <| hK43 _ _ <| ah fun K45 hK45 => ay <| ah fun K46 hK46 => aK kr (aU kr fun w8 hxz => ?_)
  replace Y := Y.grow hxz
  refine aV (k := 0) 22 [4, 9, 15, 21] Z kr kr kr rfx ?_
  replace Z := Z.p8 0 2 6 16 105 106 107 108 rfl
  refine aR [] (fun i => match i with | _ => fun _ _ => False) 22 [[], [], [0, 1], [2], [3], [], [], [5, 6], [7], [8], [], [], [11], [10, 12], [13], [14], [], [], [17], [16, 18], [19], [20]] [lv, iv (k : Int), slAddr lv (k * 7), slAddr lv (k * 7 + 2), .agg #[iv ((ps.getD k Pxy.z).rf), iv ((ps.getD k Pxy.z).rt)], lv, iv (k : Int), slAddr lv (k * 7), slAddr lv (k * 7 + 4), .agg #[iv ((ps.getD k Pxy.z).sf), iv ((ps.getD k Pxy.z).st)], lv, iv (k : Int), iv ((k : Int) - 1), slAddr lv ((k - 1) * 7), slAddr lv ((k - 1) * 7 + 2), .agg #[iv ((ps.getD (k - 1) Pxy.z).rf), iv ((ps.getD (k - 1) Pxy.z).rt)], lv, iv (k : Int), iv ((k : Int) - 1), slAddr lv ((k - 1) * 7), slAddr lv ((k - 1) * 7 + 4), .agg #[iv ((ps.getD (k - 1) Pxy.z).sf), iv ((ps.getD (k - 1) Pxy.z).st)]] Z Y kr kr kr ?_ ?_ ?_
  ·intro i hi hiq
   match i, hi, hiq with
   | 0, _, _ => exact fun w Y => OpV.g (ak rfl)
   | 1, _, _ => exact fun w Y => OpV.g (ak rfl)
   | 2, _, _ => exact fun w Y => OpV.g ((ao (i := (k : Int)) (sT := 49) (Y.arg hlv) rfl rfl (runUnderlying49 _) (sizeOf86 _) om (by rw [List.length_map]; omega)).as (v' := slAddr lv (k * 7)) rfl)
   | 3, _, _ => exact fun w Y => OpV.g (bo (k := k * 7) (j := 2) (Y.arg hlv) (i := k) (by rw [List.length_map]; omega) rfl (fun _ _ => by kernel_rfl))
   | 4, _, _ => exact fun w Y => OpV.g (dx (i := k) (j := 2) (ds := [iv ((ps.getD k Pxy.z).rf), iv ((ps.getD k Pxy.z).rt)]) (Y.arg hlv) (by rw [List.length_map]; omega) rfl (isAgg38 _) (sizeOf38 _) (by rw [bU Pxy.z]; rfl))
   | 5, _, _ => exact fun w Y => OpV.g (ak rfl)
   | 6, _, _ => exact fun w Y => OpV.g (ak rfl)
   | 7, _, _ => exact fun w Y => OpV.g ((ao (i := (k : Int)) (sT := 49) (Y.arg hlv) rfl rfl (runUnderlying49 _) (sizeOf86 _) om (by rw [List.length_map]; omega)).as (v' := slAddr lv (k * 7)) rfl)
   | 8, _, _ => exact fun w Y => OpV.g (bo (k := k * 7) (j := 4) (Y.arg hlv) (i := k) (by rw [List.length_map]; omega) rfl (fun _ _ => by kernel_rfl))
   | 9, _, _ => exact fun w Y => OpV.g (dx (i := k) (j := 4) (ds := [iv ((ps.getD k Pxy.z).sf), iv ((ps.getD k Pxy.z).st)]) (Y.arg hlv) (by rw [List.length_map]; omega) rfl (isAgg39 _) (sizeOf39 _) (by rw [bU Pxy.z]; rfl))
   | 10, _, _ => exact fun w Y => OpV.g (ak rfl)
   | 11, _, _ => exact fun w Y => OpV.g (ak rfl)
   | 12, _, _ => exact fun w Y => OpV.g (ci rfl rfl ⟨om, om⟩)
   | 13, _, _ => exact fun w Y => OpV.g ((ao (i := (k : Int) - 1) (sT := 49) (Y.arg hlv) rfl rfl (runUnderlying49 _) (sizeOf86 _) om (by rw [List.length_map]; omega)).as (v' := slAddr lv ((k - 1) * 7)) (by rw [show ((k : Int) - 1).toNat = (k - 1) from by omega]))
   | 14, _, _ => exact fun w Y => OpV.g (bo (k := (k - 1) * 7) (j := 2) (Y.arg hlv) (i := (k - 1)) (by rw [List.length_map]; omega) rfl (fun _ _ => by kernel_rfl))
   | 15, _, _ => exact fun w Y => OpV.g (dx (i := (k - 1)) (j := 2) (ds := [iv ((ps.getD (k - 1) Pxy.z).rf), iv ((ps.getD (k - 1) Pxy.z).rt)]) (Y.arg hlv) (by rw [List.length_map]; omega) rfl (isAgg38 _) (sizeOf38 _) (by rw [bU Pxy.z]; rfl))
   | 16, _, _ => exact fun w Y => OpV.g (ak rfl)
   | 17, _, _ => exact fun w Y => OpV.g (ak rfl)
   | 18, _, _ => exact fun w Y => OpV.g (ci rfl rfl ⟨om, om⟩)
   | 19, _, _ => exact fun w Y => OpV.g ((ao (i := (k : Int) - 1) (sT := 49) (Y.arg hlv) rfl rfl (runUnderlying49 _) (sizeOf86 _) om (by rw [List.length_map]; omega)).as (v' := slAddr lv ((k - 1) * 7)) (by rw [show ((k : Int) - 1).toNat = (k - 1) from by omega]))
   | 20, _, _ => exact fun w Y => OpV.g (bo (k := (k - 1) * 7) (j := 4) (Y.arg hlv) (i := (k - 1)) (by rw [List.length_map]; omega) rfl (fun _ _ => by kernel_rfl))
   | 21, _, _ => exact fun w Y => OpV.g (dx (i := (k - 1)) (j := 4) (ds := [iv ((ps.getD (k - 1) Pxy.z).sf), iv ((ps.getD (k - 1) Pxy.z).st)]) (Y.arg hlv) (by rw [List.length_map]; omega) rfl (isAgg39 _) (sizeOf39 _) (by rw [bU Pxy.z]; rfl))
   | i + 22, h, _ => exact absurd h om
  ·intro i hi
   exact absurd hi sm
  clear Z Y
  intro  a w9 Z Y
  replace Z : Fr 216 [(111, lv), (112, iv (k : Int)), (113, slAddr lv (k * 7)), (114, slAddr lv (k * 7 + 2)), (115, .agg #[iv ((ps.getD k Pxy.z).rf), iv ((ps.getD k Pxy.z).rt)]), (116, lv), (117, iv (k : Int)), (118, slAddr lv (k * 7)), (119, slAddr lv (k * 7 + 4)), (120, .agg #[iv ((ps.getD k Pxy.z).sf), iv ((ps.getD k Pxy.z).st)]), (121, lv), (122, iv (k : Int)), (123, iv ((k : Int) - 1)), (124, slAddr lv ((k - 1) * 7)), (125, slAddr lv ((k - 1) * 7 + 2)), (126, .agg #[iv ((ps.getD (k - 1) Pxy.z).rf), iv ((ps.getD (k - 1) Pxy.z).rt)]), (127, lv), (128, iv (k : Int)), (129, iv ((k : Int) - 1)), (130, slAddr lv ((k - 1) * 7)), (131, slAddr lv ((k - 1) * 7 + 4)), (132, .agg #[iv ((ps.getD (k - 1) Pxy.z).sf), iv ((ps.getD (k - 1) Pxy.z).st)]), (0, _), (2, _), (6, _), (16, _), (105, _), (106, _), (107, _), (108, _)] [] a := Z
  refine ab <| aP (k := 22) 24 [23] kr kr kr ?_
  refine aA Z Y de call89 rfl (iH ((ps.getD k Pxy.z).rf) ((ps.getD k Pxy.z).rt) ((ps.getD k Pxy.z).sf) ((ps.getD k Pxy.z).st) ((ps.getD (k - 1) Pxy.z).rf) ((ps.getD (k - 1) Pxy.z).rt) ((ps.getD (k - 1) Pxy.z).sf) ((ps.getD (k - 1) Pxy.z).st) _) ?_
  clear Z Y
  intro a w10 Z Y
  refine wlv Z (bu rfl) fun a Z => ab <| bt kr ?_
  refine hK46 _ _ ?_
  replace Z := Z.p5 0 2 6 16 134 rfl
  refine ax Z rfl (fun hc16 => ?_) (fun hc16 => ?_)
  ·rw [hc16] at Z
   try simp only [qz] at hc16
   refine aa fun K47 hK47 => wlm Z rfl fun a Z => wla Z rfl fun a Z => wla Z rfl fun a Z => ab (hK47 _ _ <| ap ?_)
   refine aj Z results58 (ae rfl (ae rfl ag)) ?_
   exact ⟨by rw [fk hwp hch (by rw [hs om]; exact jJ hkx om ((pD _ _ _ _ _).trans (by simpa using hc16)))]; rfl, Y.ext⟩
  rw [hc16] at Z
  try simp only [qz] at hc16
  refine az <| hK45 _ _ <| ar <| wlm Z rfl fun a Z => wlv Z (aS rfl rfl ⟨om, om⟩) fun a Z => wla Z rfl fun a Z => ab ?_
  refine ⟨_, ?_, k + 1, rfl, (.inl om), om, (fun h => by rw [hs h]; exact fE hkx (.inr ((pD _ _ _ _ _).trans (by simpa using hc16)))), Z.pick [0, 2, 6, 16], Y.select [0] de⟩
  omega
 rw [hc15] at Z
 try simp only [qz] at hc15
 have hsc : 0 < ps.length → bd x none ps 0 = if ps.length = 0 ∨ isInH x.rf x.rt x.sf x.st (ps.getD (ps.length - 1) Pxy.z) = true then none else some (-1) := fun h => by rw [hs h, show k = ps.length by omega, jo]
 refine aX <| hK41 _ _ <| ah fun K48 hK48 => ah fun K49 hK49 => ?_
 refine cO (fun a w => ∃ (b : Bool), (bd x none ps 0 = if b = true then some (-1) else none) ∧ Fr 216 [(0, kv), (2, lv), (6, pt w0.hz), (160, .bool b)] [] a ∧ St No w0 [blk w0.hz [iv x.signer, iv x.holder, iv x.rf, iv x.rt, iv x.carrier, iv x.serial, iv x.sf, iv x.st, sv x.sig] 41] w) ?_ ?_
 ·refine aK kr (aU kr fun w11 hxz => ?_)
  replace Y := Y.grow hxz
  refine aP (k := 0) 4 [3] kr kr kr ?_
  refine wlm Z rfl fun a Z => wlv Z ((aL (sT := 49) (Y.arg hlv) rfl rfl (runUnderlying49 _)).asi (m' := (ps.length : Int)) (by rw [List.length_map])) fun a Z => wlv Z (v_gt rfl rfl) fun a Z => wlm Z rfl fun a Z => ab ?_
  rcases Bool.eq_false_or_eq_true (decide (0 < (ps.length : Int))) with hb17 | hb17
  ·rw [hb17] at Z
   try simp only [qz] at hb17
   refine aV (k := 4) 22 [5, 7, 14, 21] Z kr kr kr rfx ?_
   replace Z := Z.p12 0 2 6 16 105 106 107 108 136 137 138 139 rfl
   refine aR [] (fun i => match i with | _ => fun _ _ => False) 18 [[], [0], [], [2], [], [], [5], [6], [4, 7], [8], [9], [], [], [12], [13], [11, 14], [15], [16]] [po w0.hz 2, .agg #[iv x.rf, iv x.rt], po w0.hz 6, .agg #[iv x.sf, iv x.st], lv, lv, iv (ps.length : Int), iv ((ps.length : Int) - 1), slAddr lv ((ps.length - 1) * 7), slAddr lv ((ps.length - 1) * 7 + 2), .agg #[iv ((ps.getD (ps.length - 1) Pxy.z).rf), iv ((ps.getD (ps.length - 1) Pxy.z).rt)], lv, lv, iv (ps.length : Int), iv ((ps.length : Int) - 1), slAddr lv ((ps.length - 1) * 7), slAddr lv ((ps.length - 1) * 7 + 4), .agg #[iv ((ps.getD (ps.length - 1) Pxy.z).sf), iv ((ps.getD (ps.length - 1) Pxy.z).st)]] Z Y kr kr kr ?_ ?_ ?_
   ·intro i hi hiq
    match i, hi, hiq with
    | 0, _, _ => exact fun w Y => OpV.g (ac (v := po w0.hz 2) rfl kr)
    | 1, _, _ => exact fun w Y => OpV.g (bJ (ds := [iv x.rf, iv x.rt]) (Y.g 0 rfl) rfl (isAgg38 _) (sizeOf38 _) rfl)
    | 2, _, _ => exact fun w Y => OpV.g (ac (v := po w0.hz 6) rfl kr)
    | 3, _, _ => exact fun w Y => OpV.g (bJ (ds := [iv x.sf, iv x.st]) (Y.g 0 rfl) rfl (isAgg39 _) (sizeOf39 _) rfl)
    | 4, _, _ => exact fun w Y => OpV.g (ak rfl)
    | 5, _, _ => exact fun w Y => OpV.g (ak rfl)
    | 6, _, _ => exact fun w Y => OpV.g ((aL (sT := 49) (Y.arg hlv) rfl rfl (runUnderlying49 _)).asi (m' := (ps.length : Int)) (by rw [List.length_map]))
    | 7, _, _ => exact fun w Y => OpV.g (ci rfl rfl ⟨om, om⟩)
    | 8, _, _ => exact fun w Y => OpV.g ((ao (i := (ps.length : Int) - 1) (sT := 49) (Y.arg hlv) rfl rfl (runUnderlying49 _) (sizeOf86 _) om (by rw [List.length_map]; omega)).as (v' := slAddr lv ((ps.length - 1) * 7)) (by rw [show ((ps.length : Int) - 1).toNat = (ps.length - 1) from by omega]))
    | 9, _, _ => exact fun w Y => OpV.g (bo (k := (ps.length - 1) * 7) (j := 2) (Y.arg hlv) (i := (ps.length - 1)) (by rw [List.length_map]; omega) rfl (fun _ _ => by kernel_rfl))
    | 10, _, _ => exact fun w Y => OpV.g (dx (i := (ps.length - 1)) (j := 2) (ds := [iv ((ps.getD (ps.length - 1) Pxy.z).rf), iv ((ps.getD (ps.length - 1) Pxy.z).rt)]) (Y.arg hlv) (by rw [List.length_map]; omega) rfl (isAgg38 _) (sizeOf38 _) (by rw [bU Pxy.z]; rfl))
    | 11, _, _ => exact fun w Y => OpV.g (ak rfl)
    | 12, _, _ => exact fun w Y => OpV.g (ak rfl)
    | 13, _, _ => exact fun w Y => OpV.g ((aL (sT := 49) (Y.arg hlv) rfl rfl (runUnderlying49 _)).asi (m' := (ps.length : Int)) (by rw [List.length_map]))
    | 14, _, _ => exact fun w Y => OpV.g (ci rfl rfl ⟨om, om⟩)
    | 15, _, _ => exact fun w Y => OpV.g ((ao (i := (ps.length : Int) - 1) (sT := 49) (Y.arg hlv) rfl rfl (runUnderlying49 _) (sizeOf86 _) om (by rw [List.length_map]; omega)).as (v' := slAddr lv ((ps.length - 1) * 7)) (by rw [show ((ps.length : Int) - 1).toNat = (ps.length - 1) from by omega]))
    | 16, _, _ => exact fun w Y => OpV.g (bo (k := (ps.length - 1) * 7) (j := 4) (Y.arg hlv) (i := (ps.length - 1)) (by rw [List.length_map]; omega) rfl (fun _ _ => by kernel_rfl))
    | 17, _, _ => exact fun w Y => OpV.g (dx (i := (ps.length - 1)) (j := 4) (ds := [iv ((ps.getD (ps.length - 1) Pxy.z).sf), iv ((ps.getD (ps.length - 1) Pxy.z).st)]) (Y.arg hlv) (by rw [List.length_map]; omega) rfl (isAgg39 _) (sizeOf39 _) (by rw [bU Pxy.z]; rfl))
    | i + 18, h, _ => exact absurd h om
   ·intro i hi
    exact absurd hi sm
   clear Z Y
   intro  a w12 Z Y
   replace Z : Fr 216 [(140, po w0.hz 2), (141, .agg #[iv x.rf, iv x.rt]), (142, po w0.hz 6), (143, .agg #[iv x.sf, iv x.st]), (144, lv), (145, lv), (146, iv (ps.length : Int)), (147, iv ((ps.length : Int) - 1)), (148, slAddr lv ((ps.length - 1) * 7)), (149, slAddr lv ((ps.length - 1) * 7 + 2)), (150, .agg #[iv ((ps.getD (ps.length - 1) Pxy.z).rf), iv ((ps.getD (ps.length - 1) Pxy.z).rt)]), (151, lv), (152, lv), (153, iv (ps.length : Int)), (154, iv ((ps.length : Int) - 1)), (155, slAddr lv ((ps.length - 1) * 7)), (156, slAddr lv ((ps.length - 1) * 7 + 4)), (157, .agg #[iv ((ps.getD (ps.length - 1) Pxy.z).sf), iv ((ps.getD (ps.length - 1) Pxy.z).st)]), (0, _), (2, _), (6, _), (16, _), (105, _), (106, _), (107, _), (108, _), (136, _), (137, _), (138, _), (139, _)] [] a := Z
   refine ab <| aP (k := 22) 25 [24] kr kr kr ?_
   refine aF Z Y de rfl de rfl call89 rfl (iH x.rf x.rt x.sf x.st ((ps.getD (ps.length - 1) Pxy.z).rf) ((ps.getD (ps.length - 1) Pxy.z).rt) ((ps.getD (ps.length - 1) Pxy.z).sf) ((ps.getD (ps.length - 1) Pxy.z).st) _) ?_
   clear Z Y
   intro a w13 Z Y
   refine wly Z (bu rfl) fun a Z => wlv Z (au rfl rfl) fun a Z => ab <| bt kr ?_
   exact ⟨!(wiB x.rf x.rt x.sf x.st ((ps.getD (ps.length - 1) Pxy.z).rf) ((ps.getD (ps.length - 1) Pxy.z).rt) ((ps.getD (ps.length - 1) Pxy.z).sf) ((ps.getD (ps.length - 1) Pxy.z).st)), (qc om (hsc om)), Z.pick [0, 2, 6, 160], Y.select [0] de⟩
  rw [hb17] at Z
  try simp only [qz] at hb17
  replace Z : Fr 216 [(0, kv), (2, lv), (6, pt w0.hz), (16, iv (k : Int)), (105, iv (k : Int)), (106, lv), (107, iv (ps.length : Int)), (108, .bool false), (136, lv), (137, iv (ps.length : Int)), (138, .bool false), (139, .bool false)] [] a := Z.pick [0, 2, 6, 16, 105, 106, 107, 108, 136, 137, 138, 139]
  refine eC (k := 4) 22 [5, 7, 14, 21] Z kr kr kr rfx fun a Z => ?_
  replace Z : Fr 216 [(140, undef), (141, undef), (142, undef), (143, undef), (144, undef), (145, undef), (146, undef), (147, undef), (148, undef), (149, undef), (150, undef), (151, undef), (152, undef), (153, undef), (154, undef), (155, undef), (156, undef), (157, undef), (0, kv), (2, lv), (6, pt w0.hz), (16, iv (k : Int)), (105, iv (k : Int)), (106, lv), (107, iv (ps.length : Int)), (108, .bool false), (136, lv), (137, iv (ps.length : Int)), (138, .bool false), (139, .bool false)] [] a := Z
  refine aP (k := 22) 25 [24] kr kr kr ?_
  refine wln Z fun a Z => wln Z fun a Z => wlv Z (aq rfl rfl) fun a Z => ab <| bt kr ?_
  exact ⟨false, (by simpa using nI (ps := ps) (x := x) om), Z.pick [0, 2, 6, 160], Y.select [0] de⟩
 rintro a w14 ⟨b, hbs, Z, Y⟩
 refine hK49 _ _ ?_
 refine ax Z rfl (fun hc18 => ?_) (fun hc18 => ?_)
 ·rw [hc18] at Z
  try simp only [qz] at hc18
  refine aa fun K50 hK50 => wla Z rfl fun a Z => wla Z rfl fun a Z => ab (hK50 _ _ <| ap ?_)
  refine aj Z results58 (ae rfl (ae rfl ag)) ?_
  exact ⟨by rw [fk hwp hch (by rw [hbs, if_pos (by simpa using hc18)])]; rfl, Y.ext⟩
 rw [hc18] at Z
 try simp only [qz] at hc18
 refine az <| hK48 _ _ <| ah fun K51 hK51 => ?_
 have hscn : bd x none ps 0 = none := by rw [hbs, if_neg (by simpa using hc18)]
 refine aa fun K52 hK52 => wla Z rfl fun a Z => ab (hK52 _ _ <| ay ?_)
 refine bj (fun m a w => ∃ (k : Nat), m = ps.length - k ∧ (k ≤ ps.length) ∧ (bP ks x ps 0 = bP ks x (ps.drop k) k) ∧ Fr 216 [(0, kv), (2, lv), (6, pt w0.hz), (17, iv (k : Int))] [] a ∧ St No w0 [blk w0.hz [iv x.signer, iv x.holder, iv x.rf, iv x.rt, iv x.carrier, iv x.serial, iv x.sf, iv x.st, sv x.sig] 41] w) _ ⟨0, rfl, Nat.zero_le _, rfl, Z.pick [0, 2, 6, 17], Y.select [0] de⟩ ?_
 rintro _ a w15 ⟨k, rfl, hk, hsb, Z, Y⟩
 refine ah fun K53 hK53 => aa fun K54 hK54 => wlm Z rfl fun a Z => wlm Z rfl fun a Z => wlv Z ((aL (sT := 49) (Y.arg hlv) rfl rfl (runUnderlying49 _)).asi (m' := (ps.length : Int)) (by rw [List.length_map])) fun a Z => wlv Z (v_lt rfl rfl) fun a Z => ab (hK54 _ _ ?_)
 refine ax Z rfl (fun hc19 => ?_) (fun hc19 => ?_)
 ·rw [hc19] at Z
  try simp only [qz] at hc19
  have hkx : k < ps.length := by omega
  have hpk := cU hbn _ (cn (d := Pxy.z) hkx)
  have hp0 := Pxy.ok_frm hpk
  refine az <| hK53 _ _ <| ah fun K55 hK55 => ay <| ah fun K56 hK56 => aK kr (aU kr fun w16 hxz => ?_)
  replace Y := Y.grow hxz
  refine aV (k := 0) 7 [4, 6] Z kr kr kr rfx ?_
  replace Z := Z.p8 0 2 6 17 161 162 163 164 rfl
  refine aR [] (fun i => match i with | _ => fun _ _ => False) 7 [[], [], [0, 1], [2], [3], [], [5]] [lv, iv (k : Int), slAddr lv (k * 7), slAddr lv (k * 7 + 0), iv ((ps.getD k Pxy.z).frm), kv, iv (ks.length : Int)] Z Y kr kr kr ?_ ?_ ?_
  ·intro i hi hiq
   match i, hi, hiq with
   | 0, _, _ => exact fun w Y => OpV.g (ak rfl)
   | 1, _, _ => exact fun w Y => OpV.g (ak rfl)
   | 2, _, _ => exact fun w Y => OpV.g ((ao (i := (k : Int)) (sT := 49) (Y.arg hlv) rfl rfl (runUnderlying49 _) (sizeOf86 _) om (by rw [List.length_map]; omega)).as (v' := slAddr lv (k * 7)) rfl)
   | 3, _, _ => exact fun w Y => OpV.g (bo (k := k * 7) (j := 0) (Y.arg hlv) (i := k) (by rw [List.length_map]; omega) rfl (fun _ _ => by kernel_rfl))
   | 4, _, _ => exact fun w Y => OpV.g (aE (u := iv ((ps.getD k Pxy.z).frm)) (i := k) (j := 0) (Y.arg hlv) (by rw [List.length_map]; omega) rfl (isAgg3 _) (by rw [bU Pxy.z]; rfl))
   | 5, _, _ => exact fun w Y => OpV.g (ak rfl)
   | 6, _, _ => exact fun w Y => OpV.g ((aL (sT := 59) (Y.arg hkv) rfl rfl (runUnderlying59 _)).asi (m' := (ks.length : Int)) (by rw [List.length_map]))
  ·intro i hi
   exact absurd hi sm
  clear Z Y
  intro  a w17 Z Y
  replace Z : Fr 216 [(167, lv), (168, iv (k : Int)), (169, slAddr lv (k * 7)), (170, slAddr lv (k * 7 + 0)), (171, iv ((ps.getD k Pxy.z).frm)), (172, kv), (173, iv (ks.length : Int)), (0, _), (2, _), (6, _), (17, _), (161, _), (162, _), (163, _), (164, _)] [] a := Z
  refine ab <| aP (k := 7) 9 [8] kr kr kr ?_
  refine wlv Z (v_ge rfl rfl) fun a Z => wlm Z rfl fun a Z => ab ?_
  rcases Bool.eq_false_or_eq_true (decide ((ks.length : Int) ≤ (ps.getD k Pxy.z).frm)) with hb20 | hb20
  ·rw [hb20] at Z
   try simp only [qz] at hb20
   replace Z : Fr 216 [(0, kv), (2, lv), (6, pt w0.hz), (17, iv (k : Int)), (161, iv (k : Int)), (162, lv), (163, iv (ps.length : Int)), (164, .bool true), (167, lv), (168, iv (k : Int)), (169, slAddr lv (k * 7)), (170, slAddr lv (k * 7 + 0)), (171, iv ((ps.getD k Pxy.z).frm)), (172, kv), (173, iv (ks.length : Int)), (174, .bool true), (175, .bool true)] [] a := Z.pick [0, 2, 6, 17, 161, 162, 163, 164, 167, 168, 169, 170, 171, 172, 173, 174, 175]
   refine eC (k := 9) 28 [13, 27] Z kr kr kr rfx fun a Z => ?_
   replace Z : Fr 216 [(176, undef), (177, undef), (178, undef), (179, undef), (180, undef), (181, undef), (182, undef), (183, undef), (184, undef), (185, undef), (186, undef), (187, undef), (188, undef), (189, undef), (190, undef), (191, undef), (192, undef), (193, undef), (194, undef), (0, kv), (2, lv), (6, pt w0.hz), (17, iv (k : Int)), (161, iv (k : Int)), (162, lv), (163, iv (ps.length : Int)), (164, .bool true), (167, lv), (168, iv (k : Int)), (169, slAddr lv (k * 7)), (170, slAddr lv (k * 7 + 0)), (171, iv ((ps.getD k Pxy.z).frm)), (172, kv), (173, iv (ks.length : Int)), (174, .bool true), (175, .bool true)] [] a := Z
   refine aP (k := 28) 30 [29] kr kr kr ?_
   refine wln Z fun a Z => wlv Z (au rfl rfl) fun a Z => ab <| bt kr ?_
   refine hK56 _ _ ?_
   replace Z := Z.p5 0 2 6 17 196 rfl
   refine aN Z rfl ?_
   refine aa fun K57 hK57 => wlm Z rfl fun a Z => wla Z rfl fun a Z => wla Z rfl fun a Z => ab (hK57 _ _ <| ap ?_)
   refine aj Z results58 (ae rfl (ae rfl ag)) ?_
   exact ⟨by rw [dj hwp hch hscn (by rw [hsb]; first | exact gg hkx hp0.1 om | exact fW hkx hp0.1 om (by simpa using hb20))]; rfl, Y.ext⟩
  rw [hb20] at Z
  try simp only [qz] at hb20
  refine aV (k := 9) 28 [13, 27] Z kr kr kr rfx ?_
  replace Z := Z.p17 0 2 6 17 161 162 163 164 167 168 169 170 171 172 173 174 175 rfl
  refine aR [] (fun i => match i with | _ => fun _ _ => False) 19 [[], [], [0, 1], [2], [3], [], [], [], [6, 7], [8], [9], [5, 10], [11], [], [], [13, 14], [15], [16], [12, 17]] [lv, iv (k : Int), slAddr lv (k * 7), slAddr lv (k * 7 + 6), sv ((ps.getD k Pxy.z).sig), kv, lv, iv (k : Int), slAddr lv (k * 7), slAddr lv (k * 7 + 0), iv ((ps.getD k Pxy.z).frm), slAddr kv (((ps.getD k Pxy.z).frm.toNat) * 1), sv (ks.getD ((ps.getD k Pxy.z).frm.toNat) []), lv, iv (k : Int), slAddr lv (k * 7), .agg #[iv ((ps.getD k Pxy.z).frm), iv ((ps.getD k Pxy.z).to), iv ((ps.getD k Pxy.z).rf), iv ((ps.getD k Pxy.z).rt), iv ((ps.getD k Pxy.z).sf), iv ((ps.getD k Pxy.z).st), sv ((ps.getD k Pxy.z).sig)], sv ((ps.getD k Pxy.z).content), sv (sealH (ks.getD ((ps.getD k Pxy.z).frm.toNat) []) ((ps.getD k Pxy.z).content))] Z Y kr kr kr ?_ ?_ ?_
  ·intro i hi hiq
   match i, hi, hiq with
   | 0, _, _ => exact fun w Y => OpV.g (ak rfl)
   | 1, _, _ => exact fun w Y => OpV.g (ak rfl)
   | 2, _, _ => exact fun w Y => OpV.g ((ao (i := (k : Int)) (sT := 49) (Y.arg hlv) rfl rfl (runUnderlying49 _) (sizeOf86 _) om (by rw [List.length_map]; omega)).as (v' := slAddr lv (k * 7)) rfl)
   | 3, _, _ => exact fun w Y => OpV.g (bo (k := k * 7) (j := 6) (Y.arg hlv) (i := k) (by rw [List.length_map]; omega) rfl (fun _ _ => by kernel_rfl))
   | 4, _, _ => exact fun w Y => OpV.g (aE (u := sv ((ps.getD k Pxy.z).sig)) (i := k) (j := 6) (Y.arg hlv) (by rw [List.length_map]; omega) rfl (isAgg9 _) (by rw [bU Pxy.z]; rfl))
   | 5, _, _ => exact fun w Y => OpV.g (ak rfl)
   | 6, _, _ => exact fun w Y => OpV.g (ak rfl)
   | 7, _, _ => exact fun w Y => OpV.g (ak rfl)
   | 8, _, _ => exact fun w Y => OpV.g ((ao (i := (k : Int)) (sT := 49) (Y.arg hlv) rfl rfl (runUnderlying49 _) (sizeOf86 _) om (by rw [List.length_map]; omega)).as (v' := slAddr lv (k * 7)) rfl)
   | 9, _, _ => exact fun w Y => OpV.g (bo (k := k * 7) (j := 0) (Y.arg hlv) (i := k) (by rw [List.length_map]; omega) rfl (fun _ _ => by kernel_rfl))
   | 10, _, _ => exact fun w Y => OpV.g (aE (u := iv ((ps.getD k Pxy.z).frm)) (i := k) (j := 0) (Y.arg hlv) (by rw [List.length_map]; omega) rfl (isAgg3 _) (by rw [bU Pxy.z]; rfl))
   | 11, _, _ => exact fun w Y => OpV.g ((ao (i := (ps.getD k Pxy.z).frm) (sT := 59) (Y.arg hkv) rfl rfl (runUnderlying59 _) (sizeOf9 _) om (by rw [List.length_map]; omega)).as (v' := slAddr kv (((ps.getD k Pxy.z).frm.toNat) * 1)) (by rw [show ((ps.getD k Pxy.z).frm).toNat = (ps.getD k Pxy.z).frm.toNat from by omega]))
   | 12, _, _ => exact fun w Y => OpV.g (aE (u := sv (ks.getD ((ps.getD k Pxy.z).frm.toNat) [])) (i := ((ps.getD k Pxy.z).frm.toNat)) (j := 0) (Y.arg hkv) (by rw [List.length_map]; omega) rfl (isAgg9 _) (by rw [bU ([] : By)]; rfl))
   | 13, _, _ => exact fun w Y => OpV.g (ak rfl)
   | 14, _, _ => exact fun w Y => OpV.g (ak rfl)
   | 15, _, _ => exact fun w Y => OpV.g ((ao (i := (k : Int)) (sT := 49) (Y.arg hlv) rfl rfl (runUnderlying49 _) (sizeOf86 _) om (by rw [List.length_map]; omega)).as (v' := slAddr lv (k * 7)) rfl)
   | 16, _, _ => exact fun w Y => OpV.g ((bN (Y.arg hlv) (i := k) (by rw [List.length_map]; omega) rfl (isAgg86 _) (sizeOf86 _)).as (v' := .agg #[iv ((ps.getD k Pxy.z).frm), iv ((ps.getD k Pxy.z).to), iv ((ps.getD k Pxy.z).rf), iv ((ps.getD k Pxy.z).rt), iv ((ps.getD k Pxy.z).sf), iv ((ps.getD k Pxy.z).st), sv ((ps.getD k Pxy.z).sig)]) (by rw [bU Pxy.z]; rfl))
   | 17, _, _ => exact fun w Y => aT call54 rfl (gi (ps.getD k Pxy.z) _ (Pxy.smalls_of hpk))
   | 18, _, _ => exact fun w Y => aT call53 rfl (fZ (ks.getD ((ps.getD k Pxy.z).frm.toNat) []) ((ps.getD k Pxy.z).content) _ (by have := hk32 _ (cn (d := []) (by omega : ((ps.getD k Pxy.z).frm.toNat) < ks.length)); omega) (Nat.le_trans (pK _) de))
   | i + 19, h, _ => exact absurd h om
  ·intro i hi
   exact absurd hi sm
  clear Z Y
  intro  a w18 Z Y
  replace Z : Fr 216 [(176, lv), (177, iv (k : Int)), (178, slAddr lv (k * 7)), (179, slAddr lv (k * 7 + 6)), (180, sv ((ps.getD k Pxy.z).sig)), (181, kv), (182, lv), (183, iv (k : Int)), (184, slAddr lv (k * 7)), (185, slAddr lv (k * 7 + 0)), (186, iv ((ps.getD k Pxy.z).frm)), (187, slAddr kv (((ps.getD k Pxy.z).frm.toNat) * 1)), (188, sv (ks.getD ((ps.getD k Pxy.z).frm.toNat) [])), (189, lv), (190, iv (k : Int)), (191, slAddr lv (k * 7)), (192, .agg #[iv ((ps.getD k Pxy.z).frm), iv ((ps.getD k Pxy.z).to), iv ((ps.getD k Pxy.z).rf), iv ((ps.getD k Pxy.z).rt), iv ((ps.getD k Pxy.z).sf), iv ((ps.getD k Pxy.z).st), sv ((ps.getD k Pxy.z).sig)]), (193, sv ((ps.getD k Pxy.z).content)), (194, sv (sealH (ks.getD ((ps.getD k Pxy.z).frm.toNat) []) ((ps.getD k Pxy.z).content))), (0, _), (2, _), (6, _), (17, _), (161, _), (162, _), (163, _), (164, _), (167, _), (168, _), (169, _), (170, _), (171, _), (172, _), (173, _), (174, _), (175, _)] [] a := Z
  refine ab <| aP (k := 28) 30 [29] kr kr kr ?_
  refine wly Z (mP rfl rfl) fun a Z => wlv Z (aq rfl rfl) fun a Z => ab <| bt kr ?_
  refine hK56 _ _ ?_
  replace Z := Z.p5 0 2 6 17 196 rfl
  refine ax Z rfl (fun hc21 => ?_) (fun hc21 => ?_)
  ·rw [hc21] at Z
   try simp only [qz] at hc21
   refine aa fun K58 hK58 => wlm Z rfl fun a Z => wla Z rfl fun a Z => wla Z rfl fun a Z => ab (hK58 _ _ <| ap ?_)
   refine aj Z results58 (ae rfl (ae rfl ag)) ?_
   exact ⟨by rw [dj hwp hch hscn (by rw [hsb]; first | exact gg hkx hp0.1 om | exact fW hkx hp0.1 om (by simpa using hc21))]; rfl, Y.ext⟩
  rw [hc21] at Z
  try simp only [qz] at hc21
  refine az <| hK55 _ _ <| ar <| wlm Z rfl fun a Z => wlv Z (aS rfl rfl ⟨om, om⟩) fun a Z => wla Z rfl fun a Z => ab ?_
  refine ⟨_, ?_, k + 1, rfl, om, (by rw [hsb]; exact jA hkx hp0.1 om (by simpa using hc21)), Z.pick [0, 2, 6, 17], Y.select [0] de⟩
  omega
 rw [hc19] at Z
 try simp only [qz] at hc19
 have hke : k = ps.length := by omega
 rw [hke, List.drop_length] at hsb
 refine aX <| hK51 _ _ <| ah fun K59 hK59 => ah fun K60 hK60 => aK kr (aU kr fun w19 hxz => ?_)
 replace Y := Y.grow hxz
 refine aV (k := 0) 4 [1, 3] Z kr kr kr rfx ?_
 replace Z := Z.p8 0 2 6 17 161 162 163 164 rfl
 refine aR [] (fun i => match i with | _ => fun _ _ => False) 4 [[], [0], [], [2]] [pt w0.hz, iv x.signer, kv, iv (ks.length : Int)] Z Y kr kr kr ?_ ?_ ?_
 ·intro i hi hiq
  match i, hi, hiq with
  | 0, _, _ => exact fun w Y => OpV.g (ac (v := pt w0.hz) rfl kr)
  | 1, _, _ => exact fun w Y => OpV.g (ld Y 0 rfl rfl (isAgg3 _) rfl)
  | 2, _, _ => exact fun w Y => OpV.g (ak rfl)
  | 3, _, _ => exact fun w Y => OpV.g ((aL (sT := 59) (Y.arg hkv) rfl rfl (runUnderlying59 _)).asi (m' := (ks.length : Int)) (by rw [List.length_map]))
 ·intro i hi
  exact absurd hi sm
 clear Z Y
 intro  a w20 Z Y
 replace Z : Fr 216 [(198, pt w0.hz), (199, iv x.signer), (200, kv), (201, iv (ks.length : Int)), (0, _), (2, _), (6, _), (17, _), (161, _), (162, _), (163, _), (164, _)] [] a := Z
 refine ab <| aP (k := 4) 6 [5] kr kr kr ?_
 refine wlv Z (v_ge rfl rfl) fun a Z => wlm Z rfl fun a Z => ab ?_
 rcases Bool.eq_false_or_eq_true (decide ((ks.length : Int) ≤ x.signer)) with hb22 | hb22
 ·rw [hb22] at Z
  try simp only [qz] at hb22
  replace Z : Fr 216 [(0, kv), (2, lv), (6, pt w0.hz), (17, iv (k : Int)), (161, iv (k : Int)), (162, lv), (163, iv (ps.length : Int)), (164, .bool false), (198, pt w0.hz), (199, iv x.signer), (200, kv), (201, iv (ks.length : Int)), (202, .bool true), (203, .bool true)] [] a := Z.pick [0, 2, 6, 17, 161, 162, 163, 164, 198, 199, 200, 201, 202, 203]
  refine eC (k := 6) 16 [7, 15] Z kr kr kr rfx fun a Z => ?_
  replace Z : Fr 216 [(204, undef), (205, undef), (206, undef), (207, undef), (208, undef), (209, undef), (210, undef), (211, undef), (212, undef), (213, undef), (0, kv), (2, lv), (6, pt w0.hz), (17, iv (k : Int)), (161, iv (k : Int)), (162, lv), (163, iv (ps.length : Int)), (164, .bool false), (198, pt w0.hz), (199, iv x.signer), (200, kv), (201, iv (ks.length : Int)), (202, .bool true), (203, .bool true)] [] a := Z
  refine aP (k := 16) 18 [17] kr kr kr ?_
  refine wln Z fun a Z => wlv Z (au rfl rfl) fun a Z => ab <| bt kr ?_
  refine hK60 _ _ ?_
  replace Z := Z.p1 215 rfl
  replace Y : St No w0 [] w20 := Y.mask [false]
  refine aN Z rfl ?_
  refine aa fun K61 hK61 => wla Z rfl fun a Z => wla Z rfl fun a Z => ab (hK61 _ _ <| ap ?_)
  refine aj Z results58 (ae rfl (ae rfl ag)) ?_
  exact ⟨by rw [dj hwp hch hscn (by rw [hsb]; first | exact fj (Wsh.ok_signer hxo).1 om | exact fg (Wsh.ok_signer hxo).1 om (by simpa using hb22))]; rfl, Y.ext⟩
 rw [hb22] at Z
 try simp only [qz] at hb22
 refine aV (k := 6) 16 [7, 15] Z kr kr kr rfx ?_
 replace Z := Z.p14 0 2 6 17 161 162 163 164 198 199 200 201 202 203 rfl
 refine aR [] (fun i => match i with | _ => fun _ _ => False) 10 [[], [0], [], [], [3], [2, 4], [5], [], [7], [6, 8]] [po w0.hz 8, sv x.sig, kv, pt w0.hz, iv x.signer, slAddr kv (x.signer.toNat * 1), sv (ks.getD x.signer.toNat []), .agg #[iv x.signer, iv x.holder, iv x.rf, iv x.rt, iv x.carrier, iv x.serial, iv x.sf, iv x.st, sv x.sig], sv x.content, sv (sealH (ks.getD x.signer.toNat []) x.content)] Z Y kr kr kr ?_ ?_ ?_
 ·intro i hi hiq
  match i, hi, hiq with
  | 0, _, _ => exact fun w Y => OpV.g (ac (v := po w0.hz 8) rfl kr)
  | 1, _, _ => exact fun w Y => OpV.g (ld Y 0 rfl rfl (isAgg9 _) rfl)
  | 2, _, _ => exact fun w Y => OpV.g (ak rfl)
  | 3, _, _ => exact fun w Y => OpV.g (ac (v := pt w0.hz) rfl kr)
  | 4, _, _ => exact fun w Y => OpV.g (ld Y 0 rfl rfl (isAgg3 _) rfl)
  | 5, _, _ => exact fun w Y => OpV.g ((ao (i := x.signer) (sT := 59) (Y.arg hkv) rfl rfl (runUnderlying59 _) (sizeOf9 _) om (by rw [List.length_map]; omega)).as (v' := slAddr kv (x.signer.toNat * 1)) (by rw [show (x.signer).toNat = x.signer.toNat from by omega]))
  | 6, _, _ => exact fun w Y => OpV.g (aE (u := sv (ks.getD x.signer.toNat [])) (i := x.signer.toNat) (j := 0) (Y.arg hkv) (by rw [List.length_map]; omega) rfl (isAgg9 _) (by rw [bU ([] : By)]; rfl))
  | 7, _, _ => exact fun w Y => OpV.g (ai (Y.g 0 rfl) rfl (isAgg41 _) (sizeOf41 _))
  | 8, _, _ => exact fun w Y => aT call56 rfl (fX x _ (Wsh.smalls_of hxo))
  | 9, _, _ => exact fun w Y => aT call53 rfl (fZ (ks.getD x.signer.toNat []) x.content _ (by have := hk32 _ (cn (d := []) (by omega : x.signer.toNat < ks.length)); omega) (Nat.le_trans (ou _) de))
 ·intro i hi
  exact absurd hi sm
 clear Z Y
 intro  a w21 Z Y
 replace Z : Fr 216 [(204, po w0.hz 8), (205, sv x.sig), (206, kv), (207, pt w0.hz), (208, iv x.signer), (209, slAddr kv (x.signer.toNat * 1)), (210, sv (ks.getD x.signer.toNat [])), (211, .agg #[iv x.signer, iv x.holder, iv x.rf, iv x.rt, iv x.carrier, iv x.serial, iv x.sf, iv x.st, sv x.sig]), (212, sv x.content), (213, sv (sealH (ks.getD x.signer.toNat []) x.content)), (0, _), (2, _), (6, _), (17, _), (161, _), (162, _), (163, _), (164, _), (198, _), (199, _), (200, _), (201, _), (202, _), (203, _)] [] a := Z
 refine ab <| aP (k := 16) 18 [17] kr kr kr ?_
 refine wly Z (mP rfl rfl) fun a Z => wlv Z (aq rfl rfl) fun a Z => ab <| bt kr ?_
 refine hK60 _ _ ?_
 replace Z := Z.p1 215 rfl
 replace Y : St No w0 [] w21 := Y.mask [false]
 refine ax Z rfl (fun hc23 => ?_) (fun hc23 => ?_)
 ·rw [hc23] at Z
  try simp only [qz] at hc23
  refine aa fun K62 hK62 => wla Z rfl fun a Z => wla Z rfl fun a Z => ab (hK62 _ _ <| ap ?_)
  refine aj Z results58 (ae rfl (ae rfl ag)) ?_
  exact ⟨by rw [dj hwp hch hscn (by rw [hsb]; first | exact fj (Wsh.ok_signer hxo).1 om | exact fg (Wsh.ok_signer hxo).1 om (by simpa using hc23))]; rfl, Y.ext⟩
 rw [hc23] at Z
 try simp only [qz] at hc23
 refine az <| hK59 _ _ <| aa fun K63 hK63 => wla Z rfl fun a Z => wla Z rfl fun a Z => ab (hK63 _ _ <| ap ?_)
 refine aj Z results58 (ae rfl (ae rfl ag)) ?_
 exact ⟨by rw [fO hwp hch hscn (by rw [hsb]; exact jL (Wsh.ok_signer hxo).1 om (by simpa using hc23))]; rfl, Y.ext⟩
theorem rvalid_ok (kv lv : Value) (ks : List By) (x : Wsh) (ps : List Pxy) (number t : Int) (w0 : World) (hkv : SlAt w0 kv 1 (ks.map fun s => [sv s])) (hlv : SlAt w0 lv 7 (ps.map Pxy.cells)) :
  Ret Tryz.prog 41 #[kv, .agg #[iv x.signer, iv x.holder, iv x.rf, iv x.rt, iv x.carrier, iv x.serial, iv x.sf, iv x.st, sv x.sig], lv, iv number, iv t] w0 fun v w => v = .bool (validH ks x ps number t) ∧ Ext No w0 w := by
 refine aD func41 rfl ntmps41 (lb rfl) fun a Z => ?_
 replace Z := Z.p5 0 1 2 3 4 rfl
 replace Y : St No w0 [] w0 := St.init w0
 refine aa fun K1 hK1 => aG Z Y de rfl (cs := [iv x.signer, iv x.holder, iv x.rf, iv x.rt, iv x.carrier, iv x.serial, iv x.sf, iv x.st, sv x.sig]) rfl ?_
 clear Z Y
 intro a w1 Z Y
 refine wla Z rfl fun a Z => ab (hK1 _ _ <| aa fun K2 hK2 => ?_)
 refine wlm Z rfl fun a Z => wlv Z (ai (Y.g 0 rfl) rfl (isAgg41 _) (sizeOf41 _)) fun a Z => wlm Z rfl fun a Z => wlm Z rfl fun a Z => wlm Z rfl fun a Z => aA Z Y de call58 rfl (qK kv lv ks x ps number t _ (Y.arg hkv) (Y.arg hlv)) ?_
 clear Z Y
 intro a w2 Z Y
 refine wlm Z rfl fun a Z => wlv Z (aw rfl rfl) fun a Z => wlv Z (aw rfl rfl) fun a Z => wla Z rfl fun a Z => wla Z rfl fun a Z => ab (hK2 _ _ ?_)
 replace Z := Z.p2 10 11 rfl
 replace Y : St No w0 [] w2 := Y.mask [false]
 refine aa fun K3 hK3 => wlm Z rfl fun a Z => wlv Z (v_eq rfl rfl) fun a Z => wla Z rfl fun a Z => ab (hK3 _ _ <| ap ?_)
 refine aj Z results41 (ae rfl ag) ?_
 exact ⟨by rfl, Y.ext⟩
end Go.Proofs.YtncbabejopafjaaGreatDoor
namespace Go.Proofs.YtncbabejopafjaaGreatDoor.K16
def pick (c n : Int) : Int := (if c < 0 then -(c + 1) else c) % n
def isIn (n lo hi : Int) : Bool := decide (lo ≤ n) && decide (n ≤ hi)
structure Rul where
 answer : Int
 cooling : Int
 settle : Int
 reverse : Int
structure Clm where
 number : Int
 frm : Int
 to : Int
 holder : Int
 asked : Int
 backed : Bool
structure Evt where
 kind : Int
 at_ : Int
 reason : Int
structure Stt where
 state : Int
 since : Int
 next : Int
 deriving DecidableEq
def Rul.cells (r : Rul) : List Value := [.int .i64 r.answer, .int .i64 r.cooling, .int .i64 r.settle, .int .i64 r.reverse]
def Clm.cells (c : Clm) : List Value := [.int .i64 c.number, .int .i64 c.frm, .int .i64 c.to, .int .i64 c.holder, .int .i64 c.asked, .bool c.backed]
def Evt.cells (e : Evt) : List Value := [.int .i64 e.kind, .int .i64 e.at_, .int .i64 e.reason]
def Stt.cells (s : Stt) : List Value := [.int .i64 s.state, .int .i64 s.since, .int .i64 s.next]
def Rul.val (r : Rul) : Value := .agg #[.int .i64 r.answer, .int .i64 r.cooling, .int .i64 r.settle, .int .i64 r.reverse]
def Clm.val (c : Clm) : Value := .agg #[.int .i64 c.number, .int .i64 c.frm, .int .i64 c.to, .int .i64 c.holder, .int .i64 c.asked, .bool c.backed]
def Stt.val (s : Stt) : Value := .agg #[.int .i64 s.state, .int .i64 s.since, .int .i64 s.next]
def aW (r : Rul) : Bool := isIn r.answer 1 1000000 && isIn r.settle 1 1000000 && isIn r.cooling 1 1000000 && isIn r.reverse 1 1000000
def bS (c : Clm) : Bool := isIn c.number 0 99999999 && isIn c.frm 0 7 && isIn c.to 0 7 && !decide (c.frm = c.to) && isIn c.holder 0 63 && isIn c.asked 0 10000000
def badEvt (last : Int) (e : Evt) : Bool :=
 !isIn e.kind 1 6 || !isIn e.at_ last 20000000 || !(if e.kind = 2 ∨ e.kind = 6 then isIn e.reason 1 9 else isIn e.reason 0 0)
def anyBad (last : Int) : List Evt → Bool
 | [] => false
 | e :: l => badEvt last e || anyBad e.at_ l
def valid (r : Rul) (c : Clm) (l : List Evt) : Bool := aW r && bS c && decide (l.length ≤ 20) && !anyBad c.asked l
def ends (r : Rul) (c : Clm) : Int := c.asked + r.answer - 1 + r.settle + r.cooling + r.reverse
def lastAt (asked : Int) (l : List Evt) (k : Nat) : Int :=
 match k with
 | 0 => asked
 | k + 1 => (l.getD k ⟨0, 0, 0⟩).at_
theorem j1 (l : List Evt) : ∀ asked, ((List.range l.length).any fun k => badEvt (lastAt asked l k) (l.getD k ⟨0, 0, 0⟩)) = anyBad asked l := by
 induction l with
 | nil => intro asked; rfl
 | cons e l ih =>
  intro asked
  rw [List.length_cons, List.range_succ_eq_map, List.any_cons, List.any_map, anyBad]
  congr 1
  rw [← ih e.at_]
  congr 1
  funext k
  cases k <;> simp [lastAt]
theorem ck {r : Rul} (h : aW r = true) : (1 ≤ r.answer ∧ r.answer ≤ 1000000) ∧ (1 ≤ r.settle ∧ r.settle ≤ 1000000) ∧ (1 ≤ r.cooling ∧ r.cooling ≤ 1000000) ∧ (1 ≤ r.reverse ∧ r.reverse ≤ 1000000) := by
 simp only [aW, isIn, Bool.and_eq_true, decide_eq_true_eq] at h
 omega
theorem co {c : Clm} (h : bS c = true) : (0 ≤ c.number ∧ c.number ≤ 99999999) ∧ (0 ≤ c.frm ∧ c.frm ≤ 7) ∧ (0 ≤ c.to ∧ c.to ≤ 7) ∧ c.frm ≠ c.to ∧ (0 ≤ c.holder ∧ c.holder ≤ 63) ∧ (0 ≤ c.asked ∧ c.asked ≤ 10000000) := by
 simp only [bS, isIn, Bool.and_eq_true, Bool.not_eq_true', decide_eq_true_eq, decide_eq_false_iff_not] at h
 omega
def dueSec (r : Rul) (s : Int) : Option Int :=
 if s = 1 then some r.answer else if s = 2 then some r.settle else if s = 3 then some r.cooling else if s = 4 then some r.reverse else none
def aQ (s : Int) : Int := if s = 1 then 3 else if s = 2 then 3 else if s = 3 then 4 else 5
def begins (r : Rul) (s since : Int) : Stt := ⟨s, since, match dueSec r s with | some d => since + d | none => -1⟩
def effect (kind s : Int) : Option Int :=
 if kind = 1 ∧ s = 1 then some 3 else if kind = 2 ∧ s = 1 then some 2 else if kind = 3 ∧ s = 2 then some 3 else if kind = 4 ∧ s = 2 then some 6
 else if kind = 5 ∧ s = 1 then some 7 else if kind = 5 ∧ s = 2 then some 7 else if kind = 5 ∧ s = 3 then some 7 else if kind = 6 ∧ s = 4 then some 8 else none
def after (backed : Bool) (s : Int) (e : Evt) : Int × Bool :=
 if e.reason = 1 then (if e.kind = 2 then 6 else (effect e.kind s).getD 0, (effect e.kind s).isSome && !backed) else ((effect e.kind s).getD 0, (effect e.kind s).isSome)
end Go.Proofs.YtncbabejopafjaaGreatDoor.K16
namespace Go.Proofs.YtncbabejopafjaaGreatDoor.K16
def rank (s : Int) : Nat := if s = 1 ∨ s = 2 then 3 else if s = 3 then 2 else if s = 4 then 1 else 0
def aloneF : Nat → Rul → Int → Stt → List Stt
 | 0, _, _, _ => []
 | n + 1, r, u, now => if 0 ≤ now.next ∧ now.next ≤ u then begins r (aQ now.state) now.next :: aloneF n r u (begins r (aQ now.state) now.next) else []
theorem ct {n : Nat} {r : Rul} {u : Int} {now : Stt} (h : 0 ≤ now.next) (h' : now.next ≤ u) : aloneF (n + 1) r u now = begins r (aQ now.state) now.next :: aloneF n r u (begins r (aQ now.state) now.next) := by rw [aloneF, if_pos ⟨h, h'⟩]
theorem ca {n : Nat} {r : Rul} {u : Int} {now : Stt} (h : ¬ (0 ≤ now.next ∧ now.next ≤ u)) : aloneF n r u now = [] := by
 cases n with
 | zero => rfl
 | succ n => rw [aloneF, if_neg h]
def alone (r : Rul) (u : Int) (now : Stt) : List Stt := aloneF 4 r u now
def lastOf (now : Stt) (l : List Stt) : Stt := l.getLast?.getD now
def runE (r : Rul) (backed : Bool) : Nat → Stt → List Evt → List Stt × List Int
 | _, now, [] => (alone r 4611686018427387904 now, [])
 | i, now, x :: l =>
  let al := alone r x.at_ now
  let now1 := lastOf now al
  let a := after backed now1.state x
  if a.2 then
   let n := begins r a.1 x.at_
   let q := runE r backed (i + 1) n l
   (al ++ n :: q.1, q.2)
  else
   let q := runE r backed (i + 1) now1 l
   (al ++ q.1, (i : Int) :: q.2)
def first (r : Rul) (c : Clm) : Stt := begins r 1 c.asked
def bE (r : Rul) (c : Clm) (l : List Evt) : List Stt := first r c :: (runE r c.backed 0 (first r c) l).1
def voids (r : Rul) (c : Clm) (l : List Evt) : List Int := (runE r c.backed 0 (first r c) l).2
def Sound (r : Rul) (now : Stt) : Prop := now = begins r now.state now.since ∧ 0 ≤ now.since ∧ now.since + 1000000 * (rank now.state : Int) ≤ 30000000
theorem cb (now n : Stt) (l : List Stt) : lastOf now (n :: l) = lastOf n l := by
 unfold lastOf
 cases l with
 | nil => rfl
 | cons a l => rw [List.getLast?_cons_cons]; simp [List.getLast?_eq_some_getLast]
theorem cT (now : Stt) (l l' : List Stt) : lastOf now (l ++ l') = lastOf (lastOf now l) l' := by
 induction l generalizing now with
 | nil => rfl
 | cons a l ih => rw [List.cons_append, cb, ih, cb]
theorem Sound.next {r : Rul} {now : Stt} (hr : aW r = true) (h : Sound r now) : (now.next = -1 ∧ rank now.state = 0) ∨ ((now.state = 1 ∨ now.state = 2 ∨ now.state = 3 ∨ now.state = 4) ∧ 1 ≤ rank now.state ∧ now.since < now.next ∧ now.next ≤ now.since + 1000000 ∧ 0 ≤ now.next ∧ now.next ≤ 30000000) := by
 obtain ⟨h1, h2, h3⟩ := h
 have hb := ck hr
 have hn : now.next = (begins r now.state now.since).next := by rw [← h1]
 simp only [begins, dueSec] at hn
 by_cases e1 : now.state = 1
 ·simp [e1, rank] at *; omega
 by_cases e2 : now.state = 2
 ·simp [e2, rank] at *; omega
 by_cases e3 : now.state = 3
 ·simp [e3, rank] at *; omega
 by_cases e4 : now.state = 4
 ·simp [e4, rank] at *; omega
 ·left; simp [e1, e2, e3, e4, rank] at *; exact hn
theorem Sound.step {r : Rul} {now : Stt} (hr : aW r = true) (h : Sound r now) (h0 : 0 ≤ now.next) : Sound r (begins r (aQ now.state) now.next) ∧ rank (aQ now.state) + 1 ≤ rank now.state := by
 rcases h.next hr with ⟨h1, _⟩ | ⟨h1, h2, h3, h4, h5, h6⟩
 ·omega
 ·obtain ⟨g1, g2, g3⟩ := h
  have hk : rank (aQ now.state) + 1 ≤ rank now.state := by rcases h1 with e | e | e | e <;> simp [e, aQ, rank]
  refine ⟨⟨rfl, h5, ?_⟩, hk⟩
  simp only [begins]
  omega
theorem gm (s : Int) : rank s ≤ 3 := by unfold rank; split <;> (try split) <;> (try split) <;> omega
theorem Sound.begins {r : Rul} (s t : Int) (h0 : 0 ≤ t) (h1 : t ≤ 20000000) : Sound r (begins r s t) := by
 refine ⟨rfl, h0, ?_⟩
 have := gm s
 simp only [Go.Proofs.YtncbabejopafjaaGreatDoor.K16.begins]
 omega
theorem cQ {r : Rul} {u : Int} (hr : aW r = true) : ∀ (n : Nat) (now : Stt), Sound r now → Sound r (lastOf now (aloneF n r u now)) := by
 intro n
 induction n with
 | zero => intro now h; exact h
 | succ n ih =>
  intro now h
  unfold aloneF
  split
  ·rename_i hc
   rw [cb]; exact ih _ (h.step hr hc.1).1
  ·exact h
theorem cm (l : List Evt) (k : Nat) (h : k < l.length) : l.drop k = l.getD k ⟨0, 0, 0⟩ :: l.drop (k + 1) := by
 rw [List.drop_eq_getElem_cons h]; simp [List.getD_eq_getElem?_getD, h]
theorem gp {r : Rul} {b : Bool} {k : Nat} {now now1 : Stt} {l : List Evt} {ev : Evt} (hk : k < l.length) (he : l.getD k ⟨0, 0, 0⟩ = ev) (hn : lastOf now (alone r ev.at_ now) = now1) (ha : (after b now1.state ev).2 = false) :
  runE r b k now (l.drop k) = (alone r ev.at_ now ++ (runE r b (k + 1) now1 (l.drop (k + 1))).1, (k : Int) :: (runE r b (k + 1) now1 (l.drop (k + 1))).2) := by
 rw [cm l k hk, he, runE]
 simp only [hn, ha]
 rfl
theorem gY {r : Rul} {b : Bool} {k : Nat} {now now1 : Stt} {l : List Evt} {ev : Evt} (hk : k < l.length) (he : l.getD k ⟨0, 0, 0⟩ = ev) (hn : lastOf now (alone r ev.at_ now) = now1) (ha : (after b now1.state ev).2 = true) :
  runE r b k now (l.drop k) = (alone r ev.at_ now ++ begins r (after b now1.state ev).1 ev.at_ :: (runE r b (k + 1) (begins r (after b now1.state ev).1 ev.at_) (l.drop (k + 1))).1, (runE r b (k + 1) (begins r (after b now1.state ev).1 ev.at_) (l.drop (k + 1))).2) := by
 rw [cm l k hk, he, runE]
 simp only [hn, ha, if_true]
theorem dv : ∀ (l : List Evt) (last : Int), anyBad last l = false → ∀ k, k < l.length → last ≤ (l.getD k ⟨0, 0, 0⟩).at_ ∧ (l.getD k ⟨0, 0, 0⟩).at_ ≤ 20000000
 | [], _, _, k, hk => by simp at hk
 | e :: l, last, h, k, hk => by
  simp only [anyBad, Bool.or_eq_false_iff, badEvt, Bool.not_eq_false', isIn, Bool.and_eq_true, decide_eq_true_eq] at h
  cases k with
  | zero => simpa using h.1.1.2
  | succ k =>
   have := dv l e.at_ h.2 k (by simpa using hk)
   simp only [List.getD_cons_succ]
   omega
theorem cZ {r : Rul} {c : Clm} {l : List Evt} (h : valid r c l = true) : aW r = true ∧ bS c = true ∧ l.length ≤ 20 ∧ anyBad c.asked l = false := by
 simp only [valid, Bool.and_eq_true, Bool.not_eq_true', decide_eq_true_eq] at h
 exact ⟨h.1.1.1, h.1.1.2, h.1.2, h.2⟩
theorem eF (r : Rul) (u : Int) (now : Stt) : (alone r u now).length ≤ 4 := by
 have : ∀ n now, (aloneF n r u now).length ≤ n := by
  intro n
  induction n with
  | zero => intro now; simp [aloneF]
  | succ n ih => intro now; rw [aloneF]; split; simp [ih]; simp
 exact this 4 now
def ce (r : Rul) (c : Clm) (l : List Evt) (t : Int) : Stt := lastOf ⟨0, 0, c.asked⟩ ((bE r c l).takeWhile fun s => decide (s.since ≤ t))
theorem eN {p : Stt → Bool} : ∀ {l : List Stt}, (∀ s ∈ l, p s = true) → l.takeWhile p = l
 | [], _ => rfl
 | a :: l, h => by rw [List.takeWhile_cons, if_pos (h a sm), eN fun s hs => h s (by simp [hs])]
theorem eJ {p : Stt → Bool} {x : Stt} {q : List Stt} : ∀ {l : List Stt}, (∀ s ∈ l, p s = true) → p x = false → (l ++ [x] ++ q).takeWhile p = l
 | [], _, hx => by simp [hx]
 | a :: l, h, hx => by
  rw [List.cons_append, List.cons_append, List.takeWhile_cons, if_pos (h a sm), eJ (fun s hs => h s (by simp [hs])) hx]
theorem jV {r : Rul} {c : Clm} {l : List Evt} {t : Int} (h : ∀ s ∈ bE r c l, s.since ≤ t) : ce r c l t = lastOf ⟨0, 0, c.asked⟩ (bE r c l) := by
 unfold ce; rw [eN fun s hs => decide_eq_true (h s hs)]
theorem kp {r : Rul} {c : Clm} {l : List Evt} {t : Int} {p q : List Stt} {x : Stt} (hs : bE r c l = p ++ [x] ++ q) (h : ∀ s ∈ p, s.since ≤ t) (hx : t < x.since) : ce r c l t = lastOf ⟨0, 0, c.asked⟩ p := by
 unfold ce; rw [hs, eJ (fun s hs => decide_eq_true (h s hs)) (decide_eq_false om)]
def withAt (r : Rul) (c : Clm) (l : List Evt) (t : Int) : Int := if (ce r c l t).state = 4 ∨ (ce r c l t).state = 5 then c.to else c.frm
theorem gE (n s : Stt) (l : List Stt) : lastOf n (l ++ [s]) = s := by simp [lastOf]
def aO (backed : Bool) (s : Int) (e : Evt) : Int :=
 bif (decide (e.kind = 1) && decide (s = 1)) then 3
 else bif (((decide (e.kind = 2) && decide (s = 1)) && decide (e.reason = 1)) && !backed) then 6
 else bif ((decide (e.kind = 2) && decide (s = 1)) && !decide (e.reason = 1)) then 2
 else bif (decide (e.kind = 3) && decide (s = 2)) then 3
 else bif (decide (e.kind = 4) && decide (s = 2)) then 6
 else bif (decide (e.kind = 5) && ((decide (s = 1) || decide (s = 2)) || decide (s = 3))) then 7
 else bif ((decide (e.kind = 6) && decide (s = 4)) && (!decide (e.reason = 1) || !backed)) then 8 else -1
end Go.Proofs.YtncbabejopafjaaGreatDoor.K16
namespace Go.Proofs.YtncbabejopafjaaGreatDoor.K16
def runU (r : Rul) (b : Bool) (u : Int) : Nat → Stt → List Evt → List Stt × List Int
 | _, now, [] => (alone r u now, [])
 | i, now, x :: l =>
  let al := alone r (min x.at_ u) now
  let now1 := lastOf now al
  if u < x.at_ then (al, []) else
  let nx := aO b now1.state x
  if nx < 0 then
   let q := runU r b u (i + 1) now1 l
   (al ++ q.1, (i : Int) :: q.2)
  else
   let n := begins r nx x.at_
   let q := runU r b u (i + 1) n l
   (al ++ n :: q.1, q.2)
def runS (r : Rul) (c : Clm) (l : List Evt) (u : Int) : List Stt := first r c :: (runU r c.backed u 0 (first r c) l).1
def runV (r : Rul) (c : Clm) (l : List Evt) (u : Int) : List Int := (runU r c.backed u 0 (first r c) l).2
theorem fY {r : Rul} {b : Bool} {u : Int} {k : Nat} {now : Stt} {l : List Evt} (hk : l.length ≤ k) : runU r b u k now (l.drop k) = (alone r u now, []) := by
 rw [List.drop_eq_nil_of_le hk, runU]
theorem gj {r : Rul} {b : Bool} {u : Int} {k : Nat} {now : Stt} {l : List Evt} {ev : Evt} (hk : k < l.length) (he : l.getD k ⟨0, 0, 0⟩ = ev) (h : u < ev.at_) : runU r b u k now (l.drop k) = (alone r (min ev.at_ u) now, []) := by
 rw [cm l k hk, he, runU]; simp only [h, if_true]
theorem ff {r : Rul} {b : Bool} {u : Int} {k : Nat} {now now1 : Stt} {l : List Evt} {ev : Evt} (hk : k < l.length) (he : l.getD k ⟨0, 0, 0⟩ = ev) (h : ¬ u < ev.at_) (hn : lastOf now (alone r (min ev.at_ u) now) = now1) (ha : aO b now1.state ev < 0) :
  runU r b u k now (l.drop k) = (alone r (min ev.at_ u) now ++ (runU r b u (k + 1) now1 (l.drop (k + 1))).1, (k : Int) :: (runU r b u (k + 1) now1 (l.drop (k + 1))).2) := by
 rw [cm l k hk, he, runU]; simp only [h, hn, ha, if_true, if_false]
theorem gU {r : Rul} {b : Bool} {u : Int} {k : Nat} {now now1 : Stt} {l : List Evt} {ev : Evt} (hk : k < l.length) (he : l.getD k ⟨0, 0, 0⟩ = ev) (h : ¬ u < ev.at_) (hn : lastOf now (alone r (min ev.at_ u) now) = now1) (ha : ¬ aO b now1.state ev < 0) :
  runU r b u k now (l.drop k) = (alone r (min ev.at_ u) now ++ begins r (aO b now1.state ev) ev.at_ :: (runU r b u (k + 1) (begins r (aO b now1.state ev) ev.at_) (l.drop (k + 1))).1, (runU r b u (k + 1) (begins r (aO b now1.state ev) ev.at_) (l.drop (k + 1))).2) := by
 rw [cm l k hk, he, runU]; simp only [h, hn, ha, if_false]
def outR (r : Rul) (c : Clm) (l : List Evt) (t : Int) : Stt := if t < c.asked then ⟨0, 0, c.asked⟩ else lastOf ⟨0, 0, 0⟩ (runS r c l t)
theorem gt {r : Rul} {u : Int} : ∀ (n : Nat) (now : Stt), now.since ≤ u → (lastOf now (aloneF n r u now)).since ≤ u := by
 intro n
 induction n with
 | zero => intro now h; exact h
 | succ n ih =>
  intro now h
  unfold aloneF
  split
  ·rename_i hc; rw [cb]; exact ih _ (by simp only [begins]; exact hc.2)
  ·exact h
theorem fJ {r : Rul} {b : Bool} {u : Int} (hr : aW r = true) : ∀ (l : List Evt) (i : Nat) (now : Stt) (last : Int), anyBad last l = false → 0 ≤ last → Sound r now → now.since ≤ u → Sound r (lastOf now (runU r b u i now l).1) ∧ (lastOf now (runU r b u i now l).1).since ≤ u
 | [], i, now, last, _, _, hs, hu => by rw [runU]; exact ⟨cQ hr 4 now hs, gt 4 now hu⟩
 | x :: l, i, now, last, hb, h0, hs, hu => by
  have hx := dv (x :: l) last hb 0 sm
  simp only [List.getD_cons_zero] at hx
  simp only [anyBad, Bool.or_eq_false_iff] at hb
  rw [runU]
  have h1 := cQ (u := min x.at_ u) hr 4 now hs
  by_cases hf : u < x.at_
  ·simp only [hf, if_true]
   exact ⟨h1, Int.le_trans (Int.le_trans (gt (u := u) (r := r) 4 now hu |> fun h => by rw [show min x.at_ u = u from by omega]; exact h) (Int.le_refl _)) (Int.le_refl _)⟩
  ·simp only [hf, if_false]
   have h2 : (lastOf now (alone r (min x.at_ u) now)).since ≤ u := by
    by_cases hq : now.since ≤ min x.at_ u
    ·have := gt (u := min x.at_ u) (r := r) 4 now hq
     exact Int.le_trans this om
    ·have : aloneF 4 r (min x.at_ u) now = [] ∨ True := .inr trivial
     unfold alone
     rcases hs.next hr with ⟨hn, _⟩ | ⟨_, _, hlt, _⟩
     ·rw [ca om]; exact hu
     ·rw [ca om]; exact hu
   split
   ·rw [cT]
    exact fJ hr l (i + 1) _ x.at_ hb.2 om h1 h2
   ·rw [cT, cb]
    exact fJ hr l (i + 1) _ x.at_ hb.2 om (Sound.begins _ _ om om) (by simp only [begins]; omega)
theorem jj {r : Rul} {c : Clm} {l : List Evt} {t : Int} (hv : valid r c l = true) (h0 : c.asked ≤ t) : (outR r c l t).next ≤ t + 1000000 ∧ -1 ≤ (outR r c l t).next ∧ Sound r (outR r c l t) := by
 obtain ⟨hr, hc, hlen, hbad⟩ := cZ hv
 have hcl := co hc
 have hf : Sound r (first r c) := Sound.begins 1 c.asked om om
 have := fJ (b := c.backed) (u := t) hr l 0 (first r c) c.asked hbad om hf (by simp only [first, begins]; omega)
 unfold outR runS
 rw [if_neg om, cb]
 refine ⟨?_, ?_, this.1⟩ <;> rcases this.1.next hr with ⟨hn, _⟩ | ⟨_, _, h1, h2, h3, h4⟩ <;> omega
end Go.Proofs.YtncbabejopafjaaGreatDoor.K16
namespace Go.Proofs.YtncbabejopafjaaGreatDoor.K16
structure Tri where
  a : Int
  b : Int
  c : Int
def Tri.cells (z : Tri) : List Value := [.int .i64 z.a, .int .i64 z.b, .int .i64 z.c]
def isI64 (n : Int) : Prop := -9223372036854775808 ≤ n ∧ n ≤ 9223372036854775807
def Tri.fits (z : Tri) : Prop := isI64 z.a ∧ isI64 z.b ∧ isI64 z.c
def mkRule (x : Int) : Int := if pick (x.tdiv 16) 4 = 3 then 1 + pick x 86400 else 1 + pick x 12
def mkRul (x0 x1 x2 x3 : Int) : Rul := ⟨mkRule x0, mkRule x1, mkRule x2, mkRule x3⟩
def mkClm (y0 y1 y2 y3 y4 y5 : Int) : Clm := ⟨pick y0 100000000, pick y1 8, (pick y1 8 + 1 + pick y2 7) % 8, pick y3 64, pick y4 1000, decide (pick y5 2 = 0)⟩
def mkEvt (r : Rul) (c : Clm) (l : List Evt) (last : Int) (z : Tri) : Evt :=
  ⟨1 + pick z.a 6, if 0 < (outR r c l last).next ∧ 0 < pick (z.b.tdiv 4) 3 then max last ((outR r c l last).next - 1 + pick z.b 3) else last + pick z.b 4,
   if 1 + pick z.a 6 = 2 ∨ 1 + pick z.a 6 = 6 then 1 + pick z.c 4 else 0⟩
def mkN (r : Rul) (c : Clm) (xs : List Tri) : Nat → List Evt
  | 0 => []
  | k + 1 => mkN r c xs k ++ [mkEvt r c (mkN r c xs k) (lastAt c.asked (mkN r c xs k) k) (xs.getD k ⟨0, 0, 0⟩)]
def mkL (r : Rul) (c : Clm) (xs : List Tri) : List Evt := mkN r c xs (min xs.length 10)
theorem bF (c n : Int) (h : 0 < n) : 0 ≤ pick c n ∧ pick c n < n := by
  unfold pick
  exact ⟨Int.emod_nonneg _ om, Int.emod_lt_of_pos _ h⟩
theorem ew (x : Int) (n : Int) (hn : 1 ≤ n) (h : isI64 x) : isI64 (x.tdiv n) := by
  unfold isI64 at *
  rcases Int.lt_or_le x 0 with h0 | h0
  · have e : x.tdiv n = -((-x).tdiv n) := by rw [Int.neg_tdiv, Int.neg_neg]
    have h1 : 0 ≤ (-x).tdiv n := Int.tdiv_nonneg om om
    have h2 : (-x).tdiv n ≤ -x := Int.tdiv_le_self _ om
    rw [e]; omega
  · have h1 : 0 ≤ x.tdiv n := Int.tdiv_nonneg h0 om
    have h2 : x.tdiv n ≤ x := Int.tdiv_le_self _ h0
    omega
theorem fh (x : Int) : 1 ≤ mkRule x ∧ mkRule x ≤ 86400 := by
  unfold mkRule
  have h1 := bF x 86400 om
  have h2 := bF x 12 om
  split <;> omega
theorem gN (x0 x1 x2 x3 : Int) : aW (mkRul x0 x1 x2 x3) = true := by
  have h0 := fh x0; have h1 := fh x1; have h2 := fh x2; have h3 := fh x3
  simp only [aW, isIn, Bool.and_eq_true, decide_eq_true_eq]; simp only [mkRul]; omega
theorem dU (y0 y1 y2 y3 y4 y5 : Int) : bS (mkClm y0 y1 y2 y3 y4 y5) = true ∧ (mkClm y0 y1 y2 y3 y4 y5).asked < 1000 := by
  have h0 := bF y0 100000000 om; have h1 := bF y1 8 om; have h2 := bF y2 7 om; have h3 := bF y3 64 om; have h4 := bF y4 1000 om
  simp only [bS, isIn, Bool.and_eq_true, Bool.not_eq_true', decide_eq_true_eq, decide_eq_false_iff_not]
  simp only [mkClm]
  refine ⟨⟨⟨⟨⟨⟨?_, ?_⟩, ?_⟩, ?_⟩, ?_⟩, ?_⟩, ?_⟩ <;> omega
theorem dq (r : Rul) (c : Clm) (xs : List Tri) : ∀ k, (mkN r c xs k).length = k
  | 0 => rfl
  | k + 1 => by simp [mkN, dq r c xs k]
theorem gz (e : Evt) : ∀ (l : List Evt) (last : Int), anyBad last (l ++ [e]) = (anyBad last l || badEvt (lastAt last l l.length) e)
  | [], last => by simp [anyBad, lastAt]
  | x :: l, last => by
    rw [List.cons_append, anyBad, gz e l x.at_, anyBad, Bool.or_assoc]
    congr 3
    cases l with
    | nil => simp [lastAt]
    | cons y l => simp [lastAt]
theorem gw {r : Rul} {c : Clm} (hr : aW r = true) (hc : bS c = true) (ha : c.asked < 1000) (xs : List Tri) : ∀ k, k ≤ 10 → valid r c (mkN r c xs k) = true ∧ c.asked ≤ lastAt c.asked (mkN r c xs k) k ∧ lastAt c.asked (mkN r c xs k) k ≤ 1000 + k * 1000010
  | 0, _ => by
    refine ⟨by simp [valid, hr, hc, mkN, anyBad], by simp [lastAt], by simp [lastAt]; omega⟩
  | k + 1, hk => by
    obtain ⟨hv, h1, h2⟩ := gw hr hc ha xs k om
    have hlen := dq r c xs k
    have hcl := co hc
    obtain ⟨n1, n2, _⟩ := jj hv h1
    obtain ⟨z, hz⟩ : ∃ z, xs.getD k ⟨0, 0, 0⟩ = z := ⟨_, rfl⟩
    obtain ⟨e, he⟩ : ∃ e, mkEvt r c (mkN r c xs k) (lastAt c.asked (mkN r c xs k) k) z = e := ⟨_, rfl⟩
    have hN : mkN r c xs (k + 1) = mkN r c xs k ++ [e] := by rw [mkN, hz, he]
    have hl : lastAt c.asked (mkN r c xs (k + 1)) (k + 1) = e.at_ := by
      rw [hN]; simp [lastAt, List.getD_eq_getElem?_getD, hlen]
    have hat : lastAt c.asked (mkN r c xs k) k ≤ e.at_ ∧ e.at_ ≤ lastAt c.asked (mkN r c xs k) k + 1000010 := by
      rw [← he]; unfold mkEvt
      have p1 := bF z.b 3 om; have p2 := bF z.b 4 om
      simp only
      split <;> omega
    have p1 := bF z.a 6 om; have p2 := bF z.c 4 om
    have hb : badEvt (lastAt c.asked (mkN r c xs k) k) e = false := by
      have hkd : e.kind = 1 + pick z.a 6 := by rw [← he]; rfl
      have hrs : e.reason = if e.kind = 2 ∨ e.kind = 6 then 1 + pick z.c 4 else 0 := by rw [hkd, ← he]; rfl
      simp only [badEvt, isIn, Bool.or_eq_false_iff, Bool.not_eq_false', Bool.and_eq_true, decide_eq_true_eq]
      refine ⟨⟨om, om⟩, ?_⟩
      rw [hrs]
      split <;> simp <;> omega
    obtain ⟨v1, v2, v3, v4⟩ := cZ hv
    refine ⟨?_, by rw [hl]; omega, by rw [hl]; push_cast; omega⟩
    rw [hN]
    have hab : anyBad c.asked (mkN r c xs k ++ [e]) = false := by rw [gz, v4, hlen, hb]; rfl
    simp [valid, v1, v2, hab, hlen]; omega
theorem nb {r : Rul} {c : Clm} (hr : aW r = true) (hc : bS c = true) (ha : c.asked < 1000) (xs : List Tri) : valid r c (mkL r c xs) = true ∧ (mkL r c xs).length ≤ 10 :=
  ⟨(gw hr hc ha xs _ om).1, by rw [mkL, dq]; omega⟩
end Go.Proofs.YtncbabejopafjaaGreatDoor.K16
namespace Go.Proofs.YtncbabejopafjaaGreatDoor.K16
open Go.RowKit Go.PW _root_.Go.Proofs.Tryz
theorem jK (c n : Int) (w0 : World) (hc1 : -9223372036854775808 ≤ c) (hc2 : c ≤ 9223372036854775807) (hn : 0 < n) (hn2 : n ≤ 9223372036854775807) :
  Ret Tryz.prog 7 #[iv c, iv n] w0 fun v w => v = iv (pick c n) ∧ Ext No w0 w := by
 refine aD func7 rfl ntmps7 (lb rfl) fun a Z => ?_
 replace Z := Z.p2 0 1 rfl
 have Y : St No w0 [] w0 := St.init w0
 refine aa fun K1 hK1 => wla Z rfl fun a Z => ab (hK1 _ _ <| ah fun K2 hK2 => ?_)
 refine aa fun K3 hK3 => wlm Z rfl fun a Z => wlv Z (v_lt rfl rfl) fun a Z => ab (hK3 _ _ ?_)
 refine ax Z rfl (fun hc1 => ?_) (fun hc1 => ?_)
 ·rw [hc1] at Z
  try simp only [qz] at hc1
  refine ar <| wlm Z rfl fun a Z => wlv Z (aS rfl rfl ⟨om, om⟩) fun a Z => wlv Z (lj rfl om om) fun a Z => wla Z rfl fun a Z => ab <| hK2 _ _ <| aa fun K4 hK4 => wlm Z rfl fun a Z => wlm Z rfl fun a Z => wlv Z (eY rfl rfl om om) fun a Z => wla Z rfl fun a Z => ab (hK4 _ _ ?_)
  refine ap ?_
  refine aj Z results7 (ae rfl ag) ?_
  exact ⟨by simp only [retv, pick]; congr 2; split <;> simp_all <;> omega, Y.ext⟩
 rw [hc1] at Z
 try simp only [qz] at hc1
 refine az <| hK2 _ _ <| aa fun K5 hK5 => wlm Z rfl fun a Z => wlm Z rfl fun a Z => wlv Z (eY rfl rfl om om) fun a Z => wla Z rfl fun a Z => ab (hK5 _ _ <| ap ?_)
 refine aj Z results7 (ae rfl ag) ?_
 exact ⟨by simp only [retv, pick]; congr 2; split <;> simp_all <;> omega, Y.ext⟩
theorem bA (c n : Int) (w0 : World) (hc1 : -9223372036854775808 ≤ c) (hc2 : c ≤ 9223372036854775807) (hn : 0 < n) (hn2 : n ≤ 9223372036854775807) :
  Ret Tryz.prog 26 #[iv c, iv n] w0 fun v w => v = iv (pick c n) ∧ Ext No w0 w := by
 refine aD func26 rfl ntmps26 (lb rfl) fun a Z => ?_
 replace Z := Z.p2 0 1 rfl
 have Y : St No w0 [] w0 := St.init w0
 refine aa fun K1 hK1 => wla Z rfl fun a Z => ab (hK1 _ _ <| ah fun K2 hK2 => ?_)
 refine aa fun K3 hK3 => wlm Z rfl fun a Z => wlv Z (v_lt rfl rfl) fun a Z => ab (hK3 _ _ ?_)
 refine ax Z rfl (fun hc1 => ?_) (fun hc1 => ?_)
 ·rw [hc1] at Z
  try simp only [qz] at hc1
  refine ar <| wlm Z rfl fun a Z => wlv Z (aS rfl rfl ⟨om, om⟩) fun a Z => wlv Z (lj rfl om om) fun a Z => wla Z rfl fun a Z => ab <| hK2 _ _ <| aa fun K4 hK4 => wlm Z rfl fun a Z => wlm Z rfl fun a Z => wlv Z (eY rfl rfl om om) fun a Z => wla Z rfl fun a Z => ab (hK4 _ _ ?_)
  refine ap ?_
  refine aj Z results26 (ae rfl ag) ?_
  exact ⟨by simp only [retv, pick]; congr 2; split <;> simp_all <;> omega, Y.ext⟩
 rw [hc1] at Z
 try simp only [qz] at hc1
 refine az <| hK2 _ _ <| aa fun K5 hK5 => wlm Z rfl fun a Z => wlm Z rfl fun a Z => wlv Z (eY rfl rfl om om) fun a Z => wla Z rfl fun a Z => ab (hK5 _ _ <| ap ?_)
 refine aj Z results26 (ae rfl ag) ?_
 exact ⟨by simp only [retv, pick]; congr 2; split <;> simp_all <;> omega, Y.ext⟩
theorem cd (n lo hi : Int) (w0 : World) :
  Ret Tryz.prog 46 #[iv n, iv lo, iv hi] w0 fun v w => v = .bool (isIn n lo hi) ∧ Ext No w0 w := by
 refine aD func46 rfl ntmps46 (lb rfl) fun a Z => ?_
 replace Z := Z.p3 0 1 2 rfl
 have Y : St No w0 [] w0 := St.init w0
 refine aa fun K1 hK1 => wla Z rfl fun a Z => ab (hK1 _ _ <| aa fun K2 hK2 => ?_)
 refine wlm Z rfl fun a Z => wlm Z rfl fun a Z => wlv Z (v_le rfl rfl) fun a Z => wlm Z rfl fun a Z => ?_
 rcases Bool.eq_false_or_eq_true (decide (lo ≤ n)) with hb1 | hb1
 ·rw [hb1] at Z
  try simp only [qz] at hb1
  refine wly Z (ak rfl) fun a Z => wly Z (ak rfl) fun a Z => wly Z (v_le rfl rfl) fun a Z => wlv Z (au rfl rfl) fun a Z => wla Z rfl fun a Z => ab (hK2 _ _ ?_)
  replace Z := Z.p4 0 1 2 6 rfl
  refine ap ?_
  refine aj Z results46 (ae rfl ag) ?_
  exact ⟨by simp [retv, isIn, *], Y.ext⟩
 rw [hb1] at Z
 try simp only [qz] at hb1
 refine wln Z fun a Z => wln Z fun a Z => wln Z fun a Z => wlv Z (aq rfl rfl) fun a Z => wla Z rfl fun a Z => ab (hK2 _ _ ?_)
 replace Z := Z.p4 0 1 2 6 rfl
 refine ap ?_
 refine aj Z results46 (ae rfl ag) ?_
 exact ⟨by simp [retv, isIn, *], Y.ext⟩
theorem gI (ra rc rs rr : Int) (w0 : World) :
  Ret Tryz.prog 42 #[.agg #[iv ra, iv rc, iv rs, iv rr]] w0 fun v w => v = .bool (aW ⟨ra, rc, rs, rr⟩) ∧ Ext No w0 w := by
 refine aD func42 rfl ntmps42 (lb rfl) fun a Z => ?_
 replace Z := Z.p1 0 rfl
 have Y : St No w0 [] w0 := St.init w0
 refine aa fun K1 hK1 => aG Z Y de rfl (cs := [iv ra, iv rc, iv rs, iv rr]) rfl fun a w1 Z Y => wla Z rfl fun a Z => ab (hK1 _ _ <| ah fun K2 hK2 => ?_)
 refine aa fun K3 hK3 => wlv Z (ac (v := pt w0.hz) rfl kr) fun a Z => wlv Z (ld Y 0 rfl rfl (isAgg3 _) rfl) fun a Z => wlv Z (ac (v := po w0.hz 2) rfl kr) fun a Z => wlv Z (ld Y 0 rfl rfl (isAgg3 _) rfl) fun a Z => wlv Z (ac (v := po w0.hz 1) rfl kr) fun a Z => wlv Z (ld Y 0 rfl rfl (isAgg3 _) rfl) fun a Z => wlv Z (ac (v := po w0.hz 3) rfl kr) fun a Z => wlv Z (ld Y 0 rfl rfl (isAgg3 _) rfl) fun a Z => aI (E := 3) (sz := 1) rfl [[iv ra], [iv rs], [iv rc], [iv rr]] kr sm rfl de de Z Y fun a w2 Z Y => ?_
 refine wlv Z ((aL (sT := 47) (Y.ow 0 rfl) rfl rfl (runUnderlying47 _)).asi (m' := 4) rfx) fun a Z => wlm Z rfl fun a Z => ab (hK3 _ _ ?_)
 replace Z := Z.p6 0 1 2 13 14 15 rfl
 refine ay <| jm 5 ?_
 refine dz ?_
 refine aa fun K4 hK4 => wlv Z ((v_lt rfl rfl).asb (b' := true) rfl) fun a Z => ab (hK4 _ _ <| ah fun K5 hK5 => ?_)
 refine aN Z rfl ?_
 refine az <| hK5 _ _ <| ah fun K6 hK6 => ay <| aa fun K7 hK7 => wlv Z ((ao (i := 0) (sT := 47) (Y.ow 0 rfl) rfl rfl (runUnderlying47 _) (sizeOf3 _) om sm).as (v' := slAddr (.slice (some ⟨w1.hz, 0, none⟩) 4 4) (0 * 1)) rfl) fun a Z => wlv Z (aE (u := iv ra) (i := 0) (j := 0) (Y.ow 0 rfl) sm rfl (isAgg3 _) rfx) fun a Z => wla Z rfl fun a Z => ab (hK7 _ _ <| aa fun K8 hK8 => ?_)
 refine wlm Z rfl fun a Z => aA Z Y de call46 rfl (cd _ _ _ _) fun a w3 Z Y => wlv Z (bu rfl) fun a Z => ab (hK8 _ _ ?_)
 refine ax Z rfl (fun hc1 => ?_) (fun hc1 => ?_)
 ·rw [hc1] at Z
  try simp only [qz] at hc1
  refine aa fun K9 hK9 => wla Z rfl fun a Z => ab (hK9 _ _ <| ap ?_)
  refine aj Z results42 (ae rfl ag) ?_
  exact ⟨by simp [retv, aW, *], Y.ext⟩
 rw [hc1] at Z
 try simp only [qz] at hc1
 refine az <| hK6 _ _ <| ar <| wlv Z ((aS rfl rfl de).asi (m' := 1) rfl) fun a Z => wlm Z rfl fun a Z => ab <| dz ?_
 refine aa fun K10 hK10 => wlv Z ((v_lt rfl rfl).asb (b' := true) rfl) fun a Z => ab (hK10 _ _ <| ah fun K11 hK11 => ?_)
 refine aN Z rfl ?_
 refine az <| hK11 _ _ <| ah fun K12 hK12 => ay <| aa fun K13 hK13 => wlv Z ((ao (i := 1) (sT := 47) (Y.ow 0 rfl) rfl rfl (runUnderlying47 _) (sizeOf3 _) om sm).as (v' := slAddr (.slice (some ⟨w1.hz, 0, none⟩) 4 4) (1 * 1)) rfl) fun a Z => wlv Z (aE (u := iv rs) (i := 1) (j := 0) (Y.ow 0 rfl) sm rfl (isAgg3 _) rfx) fun a Z => wla Z rfl fun a Z => ab (hK13 _ _ <| aa fun K14 hK14 => ?_)
 refine wlm Z rfl fun a Z => aA Z Y de call46 rfl (cd _ _ _ _) fun a w4 Z Y => wlv Z (bu rfl) fun a Z => ab (hK14 _ _ ?_)
 refine ax Z rfl (fun hc2 => ?_) (fun hc2 => ?_)
 ·rw [hc2] at Z
  try simp only [qz] at hc2
  refine aa fun K15 hK15 => wla Z rfl fun a Z => ab (hK15 _ _ <| ap ?_)
  refine aj Z results42 (ae rfl ag) ?_
  exact ⟨by simp [retv, aW, *], Y.ext⟩
 rw [hc2] at Z
 try simp only [qz] at hc2
 refine az <| hK12 _ _ <| ar <| wlv Z ((aS rfl rfl de).asi (m' := 2) rfl) fun a Z => wlm Z rfl fun a Z => ab <| dz ?_
 refine aa fun K16 hK16 => wlv Z ((v_lt rfl rfl).asb (b' := true) rfl) fun a Z => ab (hK16 _ _ <| ah fun K17 hK17 => ?_)
 refine aN Z rfl ?_
 refine az <| hK17 _ _ <| ah fun K18 hK18 => ay <| aa fun K19 hK19 => wlv Z ((ao (i := 2) (sT := 47) (Y.ow 0 rfl) rfl rfl (runUnderlying47 _) (sizeOf3 _) om sm).as (v' := slAddr (.slice (some ⟨w1.hz, 0, none⟩) 4 4) (2 * 1)) rfl) fun a Z => wlv Z (aE (u := iv rc) (i := 2) (j := 0) (Y.ow 0 rfl) sm rfl (isAgg3 _) rfx) fun a Z => wla Z rfl fun a Z => ab (hK19 _ _ <| aa fun K20 hK20 => ?_)
 refine wlm Z rfl fun a Z => aA Z Y de call46 rfl (cd _ _ _ _) fun a w5 Z Y => wlv Z (bu rfl) fun a Z => ab (hK20 _ _ ?_)
 refine ax Z rfl (fun hc3 => ?_) (fun hc3 => ?_)
 ·rw [hc3] at Z
  try simp only [qz] at hc3
  refine aa fun K21 hK21 => wla Z rfl fun a Z => ab (hK21 _ _ <| ap ?_)
  refine aj Z results42 (ae rfl ag) ?_
  exact ⟨by simp [retv, aW, *], Y.ext⟩
 rw [hc3] at Z
 try simp only [qz] at hc3
 refine az <| hK18 _ _ <| ar <| wlv Z ((aS rfl rfl de).asi (m' := 3) rfl) fun a Z => wlm Z rfl fun a Z => ab <| dz ?_
 refine aa fun K22 hK22 => wlv Z ((v_lt rfl rfl).asb (b' := true) rfl) fun a Z => ab (hK22 _ _ <| ah fun K23 hK23 => ?_)
 refine aN Z rfl ?_
 refine az <| hK23 _ _ <| ah fun K24 hK24 => ay <| aa fun K25 hK25 => wlv Z ((ao (i := 3) (sT := 47) (Y.ow 0 rfl) rfl rfl (runUnderlying47 _) (sizeOf3 _) om sm).as (v' := slAddr (.slice (some ⟨w1.hz, 0, none⟩) 4 4) (3 * 1)) rfl) fun a Z => wlv Z (aE (u := iv rr) (i := 3) (j := 0) (Y.ow 0 rfl) sm rfl (isAgg3 _) rfx) fun a Z => wla Z rfl fun a Z => ab (hK25 _ _ <| aa fun K26 hK26 => ?_)
 refine wlm Z rfl fun a Z => aA Z Y de call46 rfl (cd _ _ _ _) fun a w6 Z Y => wlv Z (bu rfl) fun a Z => ab (hK26 _ _ ?_)
 refine ax Z rfl (fun hc4 => ?_) (fun hc4 => ?_)
 ·rw [hc4] at Z
  try simp only [qz] at hc4
  refine aa fun K27 hK27 => wla Z rfl fun a Z => ab (hK27 _ _ <| ap ?_)
  refine aj Z results42 (ae rfl ag) ?_
  exact ⟨by simp [retv, aW, *], Y.ext⟩
 rw [hc4] at Z
 try simp only [qz] at hc4
 refine az <| hK24 _ _ <| ar <| wlv Z ((aS rfl rfl de).asi (m' := 4) rfl) fun a Z => wlm Z rfl fun a Z => ab <| dz ?_
 refine aa fun K28 hK28 => wlv Z ((v_lt rfl rfl).asb (b' := false) rfl) fun a Z => ab (hK28 _ _ <| ah fun K29 hK29 => ?_)
 refine bC Z rfl ?_
 refine aX <| hK2 _ _ <| aa fun K30 hK30 => wla Z rfl fun a Z => ab (hK30 _ _ <| ap ?_)
 refine aj Z results42 (ae rfl ag) ?_
 exact ⟨by simp [retv, aW, *], Y.ext⟩
theorem fG (cl : Clm) (w0 : World) :
  Ret Tryz.prog 38 #[.agg #[iv cl.number, iv cl.frm, iv cl.to, iv cl.holder, iv cl.asked, .bool cl.backed]] w0 fun v w => v = .bool (bS cl) ∧ Ext No w0 w := by
 refine aD func38 rfl ntmps38 (lb rfl) fun a Z => ?_
 replace Z := Z.p1 0 rfl
 have Y : St No w0 [] w0 := St.init w0
 refine aa fun K1 hK1 => aG Z Y de rfl (cs := [iv cl.number, iv cl.frm, iv cl.to, iv cl.holder, iv cl.asked, .bool cl.backed]) rfl fun a w1 Z Y => wla Z rfl fun a Z => ab (hK1 _ _ <| aa fun K2 hK2 => ?_)
 refine wlv Z (ac (v := pt w0.hz) rfl kr) fun a Z => wlv Z (ld Y 0 rfl rfl (isAgg3 _) rfl) fun a Z => aA Z Y de call46 rfl (cd _ _ _ _) fun a w2 Z Y => wlm Z rfl fun a Z => ?_
 rcases Bool.eq_false_or_eq_true (isIn cl.number 0 99999999) with hb1 | hb1
 ·rw [hb1] at Z
  try simp only [qz] at hb1
  refine wly Z (ac (v := po w0.hz 1) rfl kr) fun a Z => wly Z (ld Y 0 rfl rfl (isAgg3 _) rfl) fun a Z => aF Z Y de rfl de rfl call46 rfl (cd _ _ _ _) fun a w3 Z Y => wlv Z (au rfl rfl) fun a Z => wlm Z rfl fun a Z => ?_
  rcases Bool.eq_false_or_eq_true (isIn cl.frm 0 7) with hb2 | hb2
  ·rw [hb2] at Z
   try simp only [qz] at hb2
   refine wly Z (ac (v := po w0.hz 2) rfl kr) fun a Z => wly Z (ld Y 0 rfl rfl (isAgg3 _) rfl) fun a Z => aF Z Y de rfl de rfl call46 rfl (cd _ _ _ _) fun a w4 Z Y => wlv Z (au rfl rfl) fun a Z => wlm Z rfl fun a Z => ?_
   rcases Bool.eq_false_or_eq_true (isIn cl.to 0 7) with hb3 | hb3
   ·rw [hb3] at Z
    try simp only [qz] at hb3
    refine wly Z (ac (v := po w0.hz 1) rfl kr) fun a Z => wly Z (ld Y 0 rfl rfl (isAgg3 _) rfl) fun a Z => wly Z (ac (v := po w0.hz 2) rfl kr) fun a Z => wly Z (ld Y 0 rfl rfl (isAgg3 _) rfl) fun a Z => wly Z (v_ne rfl rfl) fun a Z => wlv Z (au rfl rfl) fun a Z => wlm Z rfl fun a Z => ?_
    rcases Bool.eq_false_or_eq_true (!decide (cl.frm = cl.to)) with hb4 | hb4
    ·rw [hb4] at Z
     try simp only [qz] at hb4
     refine wly Z (ac (v := po w0.hz 3) rfl kr) fun a Z => wly Z (ld Y 0 rfl rfl (isAgg3 _) rfl) fun a Z => aF Z Y de rfl de rfl call46 rfl (cd _ _ _ _) fun a w5 Z Y => wlv Z (au rfl rfl) fun a Z => wlm Z rfl fun a Z => ?_
     rcases Bool.eq_false_or_eq_true (isIn cl.holder 0 63) with hb5 | hb5
     ·rw [hb5] at Z
      try simp only [qz] at hb5
      refine wly Z (ac (v := po w0.hz 4) rfl kr) fun a Z => wly Z (ld Y 0 rfl rfl (isAgg3 _) rfl) fun a Z => aF Z Y de rfl de rfl call46 rfl (cd _ _ _ _) fun a w6 Z Y => wlv Z (au rfl rfl) fun a Z => wla Z rfl fun a Z => ab (hK2 _ _ ?_)
      replace Z := Z.p3 0 1 2 rfl
      refine ap ?_
      refine aj Z results38 (ae rfl ag) ?_
      exact ⟨by simp [retv, bS, *], Y.ext⟩
     rw [hb5] at Z
     try simp only [qz] at hb5
     refine wln Z fun a Z => wln Z fun a Z => wln Z fun a Z => wlv Z (aq rfl rfl) fun a Z => wla Z rfl fun a Z => ab (hK2 _ _ ?_)
     replace Z := Z.p3 0 1 2 rfl
     refine ap ?_
     refine aj Z results38 (ae rfl ag) ?_
     exact ⟨by simp [retv, bS, *], Y.ext⟩
    rw [hb4] at Z
    try simp only [qz] at hb4
    refine wln Z fun a Z => wln Z fun a Z => wln Z fun a Z => wlv Z (aq rfl rfl) fun a Z => wlm Z rfl fun a Z => wln Z fun a Z => wln Z fun a Z => wln Z fun a Z => wlv Z (aq rfl rfl) fun a Z => wla Z rfl fun a Z => ab (hK2 _ _ ?_)
    replace Z := Z.p3 0 1 2 rfl
    refine ap ?_
    refine aj Z results38 (ae rfl ag) ?_
    exact ⟨by simp [retv, bS, *], Y.ext⟩
   rw [hb3] at Z
   try simp only [qz] at hb3
   refine wln Z fun a Z => wln Z fun a Z => wln Z fun a Z => wln Z fun a Z => wln Z fun a Z => wlv Z (aq rfl rfl) fun a Z => wlm Z rfl fun a Z => wln Z fun a Z => wln Z fun a Z => wln Z fun a Z => wlv Z (aq rfl rfl) fun a Z => wlm Z rfl fun a Z => ?_
   refine wln Z fun a Z => wln Z fun a Z => wln Z fun a Z => wlv Z (aq rfl rfl) fun a Z => wla Z rfl fun a Z => ab (hK2 _ _ ?_)
   replace Z := Z.p3 0 1 2 rfl
   refine ap ?_
   refine aj Z results38 (ae rfl ag) ?_
   exact ⟨by simp [retv, bS, *], Y.ext⟩
  rw [hb2] at Z
  try simp only [qz] at hb2
  refine wln Z fun a Z => wln Z fun a Z => wln Z fun a Z => wlv Z (aq rfl rfl) fun a Z => wlm Z rfl fun a Z => wln Z fun a Z => wln Z fun a Z => wln Z fun a Z => wln Z fun a Z => wln Z fun a Z => wlv Z (aq rfl rfl) fun a Z => wlm Z rfl fun a Z => ?_
  refine wln Z fun a Z => wln Z fun a Z => wln Z fun a Z => wlv Z (aq rfl rfl) fun a Z => wlm Z rfl fun a Z => wln Z fun a Z => wln Z fun a Z => wln Z fun a Z => wlv Z (aq rfl rfl) fun a Z => wla Z rfl fun a Z => ab (hK2 _ _ ?_)
  replace Z := Z.p3 0 1 2 rfl
  refine ap ?_
  refine aj Z results38 (ae rfl ag) ?_
  exact ⟨by simp [retv, bS, *], Y.ext⟩
 rw [hb1] at Z
 try simp only [qz] at hb1
 refine wln Z fun a Z => wln Z fun a Z => wln Z fun a Z => wlv Z (aq rfl rfl) fun a Z => wlm Z rfl fun a Z => wln Z fun a Z => wln Z fun a Z => wln Z fun a Z => wlv Z (aq rfl rfl) fun a Z => wlm Z rfl fun a Z => wln Z fun a Z => wln Z fun a Z => ?_
 refine wln Z fun a Z => wln Z fun a Z => wln Z fun a Z => wlv Z (aq rfl rfl) fun a Z => wlm Z rfl fun a Z => wln Z fun a Z => wln Z fun a Z => wln Z fun a Z => wlv Z (aq rfl rfl) fun a Z => wlm Z rfl fun a Z => wln Z fun a Z => wln Z fun a Z => ?_
 refine wln Z fun a Z => wlv Z (aq rfl rfl) fun a Z => wla Z rfl fun a Z => ab (hK2 _ _ ?_)
 replace Z := Z.p3 0 1 2 rfl
 refine ap ?_
 refine aj Z results38 (ae rfl ag) ?_
 exact ⟨by simp [retv, bS, *], Y.ext⟩
theorem ij (ra rc rs rr : Int) (w0 : World) :
  Ret Tryz.prog 90 #[.agg #[iv ra, iv rc, iv rs, iv rr]] w0 fun v w => v = iv ra ∧ Ext No w0 w := by
 refine aD func90 rfl ntmps90 (lb rfl) fun a Z => ?_
 replace Z := Z.p1 0 rfl
 have Y : St No w0 [] w0 := St.init w0
 refine aa fun K1 hK1 => aG Z Y de rfl (cs := [iv ra, iv rc, iv rs, iv rr]) rfl fun a w1 Z Y => wla Z rfl fun a Z => ab (hK1 _ _ <| aa fun K2 hK2 => ?_)
 refine wlv Z (ac (v := pt w0.hz) rfl kr) fun a Z => wlv Z (ld Y 0 rfl rfl (isAgg3 _) rfl) fun a Z => wla Z rfl fun a Z => ab (hK2 _ _ <| ap ?_)
 refine aj Z results90 (ae rfl ag) ?_
 exact ⟨by rfl, Y.ext⟩
theorem gT (ra rc rs rr : Int) (w0 : World) :
  Ret Tryz.prog 92 #[.agg #[iv ra, iv rc, iv rs, iv rr]] w0 fun v w => v = iv rc ∧ Ext No w0 w := by
 refine aD func92 rfl ntmps92 (lb rfl) fun a Z => ?_
 replace Z := Z.p1 0 rfl
 have Y : St No w0 [] w0 := St.init w0
 refine aa fun K1 hK1 => aG Z Y de rfl (cs := [iv ra, iv rc, iv rs, iv rr]) rfl fun a w1 Z Y => wla Z rfl fun a Z => ab (hK1 _ _ <| aa fun K2 hK2 => ?_)
 refine wlv Z (ac (v := po w0.hz 1) rfl kr) fun a Z => wlv Z (ld Y 0 rfl rfl (isAgg3 _) rfl) fun a Z => wla Z rfl fun a Z => ab (hK2 _ _ <| ap ?_)
 refine aj Z results92 (ae rfl ag) ?_
 exact ⟨by rfl, Y.ext⟩
theorem ir (ra rc rs rr : Int) (w0 : World) :
  Ret Tryz.prog 91 #[.agg #[iv ra, iv rc, iv rs, iv rr]] w0 fun v w => v = iv rs ∧ Ext No w0 w := by
 refine aD func91 rfl ntmps91 (lb rfl) fun a Z => ?_
 replace Z := Z.p1 0 rfl
 have Y : St No w0 [] w0 := St.init w0
 refine aa fun K1 hK1 => aG Z Y de rfl (cs := [iv ra, iv rc, iv rs, iv rr]) rfl fun a w1 Z Y => wla Z rfl fun a Z => ab (hK1 _ _ <| aa fun K2 hK2 => ?_)
 refine wlv Z (ac (v := po w0.hz 2) rfl kr) fun a Z => wlv Z (ld Y 0 rfl rfl (isAgg3 _) rfl) fun a Z => wla Z rfl fun a Z => ab (hK2 _ _ <| ap ?_)
 refine aj Z results91 (ae rfl ag) ?_
 exact ⟨by rfl, Y.ext⟩
theorem gR (ra rc rs rr : Int) (w0 : World) :
  Ret Tryz.prog 93 #[.agg #[iv ra, iv rc, iv rs, iv rr]] w0 fun v w => v = iv rr ∧ Ext No w0 w := by
 refine aD func93 rfl ntmps93 (lb rfl) fun a Z => ?_
 replace Z := Z.p1 0 rfl
 have Y : St No w0 [] w0 := St.init w0
 refine aa fun K1 hK1 => aG Z Y de rfl (cs := [iv ra, iv rc, iv rs, iv rr]) rfl fun a w1 Z Y => wla Z rfl fun a Z => ab (hK1 _ _ <| aa fun K2 hK2 => ?_)
 refine wlv Z (ac (v := po w0.hz 3) rfl kr) fun a Z => wlv Z (ld Y 0 rfl rfl (isAgg3 _) rfl) fun a Z => wla Z rfl fun a Z => ab (hK2 _ _ <| ap ?_)
 refine aj Z results93 (ae rfl ag) ?_
 exact ⟨by rfl, Y.ext⟩
theorem m7 (rl : Rul) (cl : Clm) (w0 : World) :
  Ret Tryz.prog 15 #[.agg #[iv rl.answer, iv rl.cooling, iv rl.settle, iv rl.reverse], .agg #[iv cl.number, iv cl.frm, iv cl.to, iv cl.holder, iv cl.asked, .bool cl.backed]] w0 fun v w => v = (if aW rl && bS cl then .tuple #[iv (ends rl cl), iv 0] else .tuple #[iv 0, iv 160]) ∧ Ext No w0 w := by
 refine aD func15 rfl ntmps15 (lb rfl) fun a Z => ?_
 replace Z := Z.p2 0 1 rfl
 have Y : St No w0 [] w0 := St.init w0
 refine aa fun K1 hK1 => aG Z Y de rfl (cs := [iv rl.answer, iv rl.cooling, iv rl.settle, iv rl.reverse]) rfl fun a w1 Z Y => aG Z Y de rfl (cs := [iv cl.number, iv cl.frm, iv cl.to, iv cl.holder, iv cl.asked, .bool cl.backed]) rfl fun a w2 Z Y => wla Z rfl fun a Z => wla Z rfl fun a Z => ab (hK1 _ _ <| ah fun K2 hK2 => ?_)
 refine aa fun K3 hK3 => wlv Z (ai (Y.g 1 rfl) rfl (isAgg29 _) (sizeOf29 _)) fun a Z => aA Z Y de call42 rfl (gI _ _ _ _ _) fun a w3 Z Y => wlv Z (bu rfl) fun a Z => wlm Z rfl fun a Z => ?_
 rcases Bool.eq_false_or_eq_true (!(aW rl)) with hb1 | hb1
 ·rw [hb1] at Z
  try simp only [qz] at hb1
  refine wln Z fun a Z => wln Z fun a Z => wln Z fun a Z => wlv Z (au rfl rfl) fun a Z => ab (hK3 _ _ ?_)
  replace Z := Z.p7 0 1 2 3 4 5 13 rfl
  refine aN Z rfl ?_
  refine aa fun K4 hK4 => wla Z rfl fun a Z => wla Z rfl fun a Z => ab (hK4 _ _ <| ap ?_)
  refine aj Z results15 (ae rfl (ae rfl ag)) ?_
  exact ⟨by simp_all [retv, ends], Y.ext⟩
 rw [hb1] at Z
 try simp only [qz] at hb1
 have hhb1 := ck hb1
 refine wly Z (ai (Y.g 0 rfl) rfl (isAgg31 _) (sizeOf31 _)) fun a Z => aF Z Y de rfl de rfl call38 rfl (fG cl _) fun a w4 Z Y => wly Z (bu rfl) fun a Z => wlv Z (aq rfl rfl) fun a Z => ab (hK3 _ _ ?_)
 replace Z := Z.p7 0 1 2 3 4 5 13 rfl
 refine ax Z rfl (fun hc2 => ?_) (fun hc2 => ?_)
 ·rw [hc2] at Z
  try simp only [qz] at hc2
  refine aa fun K5 hK5 => wla Z rfl fun a Z => wla Z rfl fun a Z => ab (hK5 _ _ <| ap ?_)
  refine aj Z results15 (ae rfl (ae rfl ag)) ?_
  exact ⟨by simp_all [retv, ends], Y.ext⟩
 rw [hc2] at Z
 try simp only [qz] at hc2
 have hhc2 := co hc2
 refine az <| hK2 _ _ <| aa fun K6 hK6 => wlv Z (ac (v := po w1.hz 4) rfl kr) fun a Z => wlv Z (ld Y 0 rfl rfl (isAgg3 _) rfl) fun a Z => wlv Z (ac (v := pt w0.hz) rfl kr) fun a Z => wlv Z (ld Y 1 rfl rfl (isAgg3 _) rfl) fun a Z => wlv Z (aS rfl rfl ⟨om, om⟩) fun a Z => wlv Z (ci rfl rfl ⟨om, om⟩) fun a Z => wlv Z (ac (v := po w0.hz 2) rfl kr) fun a Z => ?_
 refine wlv Z (ld Y 1 rfl rfl (isAgg3 _) rfl) fun a Z => wlv Z (aS rfl rfl ⟨om, om⟩) fun a Z => wlv Z (ac (v := po w0.hz 1) rfl kr) fun a Z => wlv Z (ld Y 1 rfl rfl (isAgg3 _) rfl) fun a Z => wlv Z (aS rfl rfl ⟨om, om⟩) fun a Z => wlv Z (ac (v := po w0.hz 3) rfl kr) fun a Z => wlv Z (ld Y 1 rfl rfl (isAgg3 _) rfl) fun a Z => wlv Z (aS rfl rfl ⟨om, om⟩) fun a Z => wla Z rfl fun a Z => wla Z rfl fun a Z => ab (hK6 _ _ ?_)
 replace Z := Z.p7 0 1 2 3 13 4 5 rfl
 refine ap ?_
 refine aj Z results15 (ae rfl (ae rfl ag)) ?_
 exact ⟨by simp_all [retv, ends], Y.ext⟩
theorem oc (ev0 : Evt) (bb : Nat) (last : Int) (w0 : World) (hb : (blk bb [iv last] 3).ok w0) :
  Ret Tryz.prog 47 #[.agg #[iv ev0.kind, iv ev0.at_, iv ev0.reason], pt bb] w0 fun v w => v = .bool (badEvt last ev0) ∧ Ext (· = bb) w0 w ∧ (blk bb [iv ev0.at_] 3).ok w := by
 refine aD func47 rfl ntmps47 (lb rfl) fun a Z => ?_
 replace Z := Z.p2 0 1 rfl
 have Y : St (· = bb) w0 [blk bb [iv last] 3] w0 := St.one hb
 refine aa fun K1 hK1 => aG Z Y de rfl (cs := [iv ev0.kind, iv ev0.at_, iv ev0.reason]) rfl fun a w1 Z Y => wla Z rfl fun a Z => ab (hK1 _ _ <| aa fun K2 hK2 => ?_)
 refine wlv Z (ld Y 1 rfl rfl (isAgg3 _) rfl) fun a Z => wla Z rfl fun a Z => ab (hK2 _ _ <| aa fun K3 hK3 => ?_)
 refine wlv Z (ac (v := po w0.hz 1) rfl kr) fun a Z => wlv Z (ld Y 0 rfl rfl (isAgg3 _) rfl) fun a Z => am 1 Z Y rfl rfl rfl (sizeOf3 _) rfl (lb rfl) (ds := [iv ev0.at_]) rfl rfl fun a w2 Z Y => ab (hK3 _ _ <| aa fun K4 hK4 => ?_)
 refine wla Z rfl fun a Z => wla Z rfl fun a Z => ab (hK4 _ _ <| ah fun K5 hK5 => ?_)
 refine aa fun K6 hK6 => wlv Z (ac (v := pt w0.hz) rfl kr) fun a Z => wlv Z (ld Y 0 rfl rfl (isAgg3 _) rfl) fun a Z => wlv Z (v_eq rfl rfl) fun a Z => wlm Z rfl fun a Z => ?_
 rcases Bool.eq_false_or_eq_true (decide (ev0.kind = 2)) with hb1 | hb1
 ·rw [hb1] at Z
  try simp only [qz] at hb1
  refine wln Z fun a Z => wln Z fun a Z => wln Z fun a Z => wlv Z (au rfl rfl) fun a Z => ab (hK6 _ _ ?_)
  replace Z := Z.p11 0 1 2 3 7 4 8 9 5 6 17 rfl
  refine aN Z rfl ?_
  refine ar <| wla Z rfl fun a Z => wla Z rfl fun a Z => ab <| hK5 _ _ <| aa fun K7 hK7 => wlv Z (ac (v := pt w0.hz) rfl kr) fun a Z => wlv Z (ld Y 0 rfl rfl (isAgg3 _) rfl) fun a Z => aA Z Y de call46 rfl (cd _ _ _ _) fun a w3 Z Y => wlv Z (bu rfl) fun a Z => wlm Z rfl fun a Z => ?_
  rcases Bool.eq_false_or_eq_true (!(isIn ev0.kind 1 6)) with hb2 | hb2
  ·rw [hb2] at Z
   try simp only [qz] at hb2
   refine wln Z fun a Z => wln Z fun a Z => wln Z fun a Z => wln Z fun a Z => wln Z fun a Z => wlv Z (au rfl rfl) fun a Z => wlm Z rfl fun a Z => wln Z fun a Z => wln Z fun a Z => wln Z fun a Z => wln Z fun a Z => ?_
   refine wln Z fun a Z => wln Z fun a Z => wlv Z (au rfl rfl) fun a Z => wla Z rfl fun a Z => ab (hK7 _ _ ?_)
   replace Z := Z.p11 0 1 2 7 4 8 9 17 5 6 3 rfl
   refine ap ?_
   refine aj Z results47 (ae rfl ag) ?_
   exact ⟨by simp_all [retv, badEvt], Y.ext, Y.g 1 rfl⟩
  rw [hb2] at Z
  try simp only [qz] at hb2
  refine wly Z (ac (v := po w0.hz 1) rfl kr) fun a Z => wly Z (ld Y 0 rfl rfl (isAgg3 _) rfl) fun a Z => wly Z (ak rfl) fun a Z => aF Z Y de rfl de rfl call46 rfl (cd _ _ _ _) fun a w4 Z Y => wly Z (bu rfl) fun a Z => wlv Z (aq rfl rfl) fun a Z => wlm Z rfl fun a Z => ?_
  rcases Bool.eq_false_or_eq_true (!(isIn ev0.at_ last 20000000)) with hb3 | hb3
  ·rw [hb3] at Z
   try simp only [qz] at hb3
   refine wln Z fun a Z => wln Z fun a Z => wln Z fun a Z => wln Z fun a Z => wln Z fun a Z => wln Z fun a Z => wlv Z (au rfl rfl) fun a Z => wla Z rfl fun a Z => ab (hK7 _ _ ?_)
   replace Z := Z.p11 0 1 2 7 4 8 9 17 5 6 3 rfl
   refine ap ?_
   refine aj Z results47 (ae rfl ag) ?_
   exact ⟨by simp_all [retv, badEvt], Y.ext, Y.g 1 rfl⟩
  rw [hb3] at Z
  try simp only [qz] at hb3
  refine wly Z (ac (v := po w0.hz 2) rfl kr) fun a Z => wly Z (ld Y 0 rfl rfl (isAgg3 _) rfl) fun a Z => wly Z (ak rfl) fun a Z => wly Z (ak rfl) fun a Z => aF Z Y de rfl de rfl call46 rfl (cd _ _ _ _) fun a w5 Z Y => wly Z (bu rfl) fun a Z => wlv Z (aq rfl rfl) fun a Z => wla Z rfl fun a Z => ab (hK7 _ _ ?_)
  replace Z := Z.p11 0 1 2 7 4 8 9 17 5 6 3 rfl
  refine ap ?_
  refine aj Z results47 (ae rfl ag) ?_
  exact ⟨by simp_all [retv, badEvt], Y.ext, Y.g 1 rfl⟩
 rw [hb1] at Z
 try simp only [qz] at hb1
 refine wly Z (ac (v := pt w0.hz) rfl kr) fun a Z => wly Z (ld Y 0 rfl rfl (isAgg3 _) rfl) fun a Z => wly Z (v_eq rfl rfl) fun a Z => wlv Z (aq rfl rfl) fun a Z => ab (hK6 _ _ ?_)
 replace Z := Z.p11 0 1 2 3 7 4 8 9 5 6 17 rfl
 refine ax Z rfl (fun hc4 => ?_) (fun hc4 => ?_)
 ·rw [hc4] at Z
  try simp only [qz] at hc4
  refine ar <| wla Z rfl fun a Z => wla Z rfl fun a Z => ab <| hK5 _ _ <| aa fun K8 hK8 => wlv Z (ac (v := pt w0.hz) rfl kr) fun a Z => wlv Z (ld Y 0 rfl rfl (isAgg3 _) rfl) fun a Z => aA Z Y de call46 rfl (cd _ _ _ _) fun a w6 Z Y => wlv Z (bu rfl) fun a Z => wlm Z rfl fun a Z => ?_
  rcases Bool.eq_false_or_eq_true (!(isIn ev0.kind 1 6)) with hb5 | hb5
  ·rw [hb5] at Z
   try simp only [qz] at hb5
   refine wln Z fun a Z => wln Z fun a Z => wln Z fun a Z => wln Z fun a Z => wln Z fun a Z => wlv Z (au rfl rfl) fun a Z => wlm Z rfl fun a Z => wln Z fun a Z => wln Z fun a Z => wln Z fun a Z => wln Z fun a Z => ?_
   refine wln Z fun a Z => wln Z fun a Z => wlv Z (au rfl rfl) fun a Z => wla Z rfl fun a Z => ab (hK8 _ _ ?_)
   replace Z := Z.p11 0 1 2 7 4 8 9 17 5 6 3 rfl
   refine ap ?_
   refine aj Z results47 (ae rfl ag) ?_
   exact ⟨by simp_all [retv, badEvt], Y.ext, Y.g 1 rfl⟩
  rw [hb5] at Z
  try simp only [qz] at hb5
  refine wly Z (ac (v := po w0.hz 1) rfl kr) fun a Z => wly Z (ld Y 0 rfl rfl (isAgg3 _) rfl) fun a Z => wly Z (ak rfl) fun a Z => aF Z Y de rfl de rfl call46 rfl (cd _ _ _ _) fun a w7 Z Y => wly Z (bu rfl) fun a Z => wlv Z (aq rfl rfl) fun a Z => wlm Z rfl fun a Z => ?_
  rcases Bool.eq_false_or_eq_true (!(isIn ev0.at_ last 20000000)) with hb6 | hb6
  ·rw [hb6] at Z
   try simp only [qz] at hb6
   refine wln Z fun a Z => wln Z fun a Z => wln Z fun a Z => wln Z fun a Z => wln Z fun a Z => wln Z fun a Z => wlv Z (au rfl rfl) fun a Z => wla Z rfl fun a Z => ab (hK8 _ _ ?_)
   replace Z := Z.p11 0 1 2 7 4 8 9 17 5 6 3 rfl
   refine ap ?_
   refine aj Z results47 (ae rfl ag) ?_
   exact ⟨by simp_all [retv, badEvt], Y.ext, Y.g 1 rfl⟩
  rw [hb6] at Z
  try simp only [qz] at hb6
  refine wly Z (ac (v := po w0.hz 2) rfl kr) fun a Z => wly Z (ld Y 0 rfl rfl (isAgg3 _) rfl) fun a Z => wly Z (ak rfl) fun a Z => wly Z (ak rfl) fun a Z => aF Z Y de rfl de rfl call46 rfl (cd _ _ _ _) fun a w8 Z Y => wly Z (bu rfl) fun a Z => wlv Z (aq rfl rfl) fun a Z => wla Z rfl fun a Z => ab (hK8 _ _ ?_)
  replace Z := Z.p11 0 1 2 7 4 8 9 17 5 6 3 rfl
  refine ap ?_
  refine aj Z results47 (ae rfl ag) ?_
  exact ⟨by simp_all [retv, badEvt], Y.ext, Y.g 1 rfl⟩
 rw [hc4] at Z
 try simp only [qz] at hc4
 refine az <| hK5 _ _ <| aa fun K9 hK9 => wlv Z (ac (v := pt w0.hz) rfl kr) fun a Z => wlv Z (ld Y 0 rfl rfl (isAgg3 _) rfl) fun a Z => aA Z Y de call46 rfl (cd _ _ _ _) fun a w9 Z Y => wlv Z (bu rfl) fun a Z => wlm Z rfl fun a Z => ?_
 rcases Bool.eq_false_or_eq_true (!(isIn ev0.kind 1 6)) with hb7 | hb7
 ·rw [hb7] at Z
  try simp only [qz] at hb7
  refine wln Z fun a Z => wln Z fun a Z => wln Z fun a Z => wln Z fun a Z => wln Z fun a Z => wlv Z (au rfl rfl) fun a Z => wlm Z rfl fun a Z => wln Z fun a Z => wln Z fun a Z => wln Z fun a Z => wln Z fun a Z => ?_
  refine wln Z fun a Z => wln Z fun a Z => wlv Z (au rfl rfl) fun a Z => wla Z rfl fun a Z => ab (hK9 _ _ ?_)
  replace Z := Z.p11 0 1 2 7 4 8 9 5 6 17 3 rfl
  refine ap ?_
  refine aj Z results47 (ae rfl ag) ?_
  exact ⟨by simp_all [retv, badEvt], Y.ext, Y.g 1 rfl⟩
 rw [hb7] at Z
 try simp only [qz] at hb7
 refine wly Z (ac (v := po w0.hz 1) rfl kr) fun a Z => wly Z (ld Y 0 rfl rfl (isAgg3 _) rfl) fun a Z => wly Z (ak rfl) fun a Z => aF Z Y de rfl de rfl call46 rfl (cd _ _ _ _) fun a w10 Z Y => wly Z (bu rfl) fun a Z => wlv Z (aq rfl rfl) fun a Z => wlm Z rfl fun a Z => ?_
 rcases Bool.eq_false_or_eq_true (!(isIn ev0.at_ last 20000000)) with hb8 | hb8
 ·rw [hb8] at Z
  try simp only [qz] at hb8
  refine wln Z fun a Z => wln Z fun a Z => wln Z fun a Z => wln Z fun a Z => wln Z fun a Z => wln Z fun a Z => wlv Z (au rfl rfl) fun a Z => wla Z rfl fun a Z => ab (hK9 _ _ ?_)
  replace Z := Z.p11 0 1 2 7 4 8 9 5 6 17 3 rfl
  refine ap ?_
  refine aj Z results47 (ae rfl ag) ?_
  exact ⟨by simp_all [retv, badEvt], Y.ext, Y.g 1 rfl⟩
 rw [hb8] at Z
 try simp only [qz] at hb8
 refine wly Z (ac (v := po w0.hz 2) rfl kr) fun a Z => wly Z (ld Y 0 rfl rfl (isAgg3 _) rfl) fun a Z => wly Z (ak rfl) fun a Z => wly Z (ak rfl) fun a Z => aF Z Y de rfl de rfl call46 rfl (cd _ _ _ _) fun a w11 Z Y => wly Z (bu rfl) fun a Z => wlv Z (aq rfl rfl) fun a Z => wla Z rfl fun a Z => ab (hK9 _ _ ?_)
 replace Z := Z.p11 0 1 2 7 4 8 9 5 6 17 3 rfl
 refine ap ?_
 refine aj Z results47 (ae rfl ag) ?_
 exact ⟨by simp_all [retv, badEvt], Y.ext, Y.g 1 rfl⟩
theorem gP {M : Nat → Prop} {wb : World} {H : List Ent} {sv : Value} {els : List (List Value)} {caps : List Value} {g : FuncId} (p : Nat → Bool) (ev_ : Nat → Value) (J : Nat → Ent → Prop) (e0 : Ent) (w0 : World)
  (hen : ∀ args w, (callFunc g args).run Tryz.prog w = .ok (.enter g args) w) (hs : ∀ e w, St M wb (e :: H) w → SlAt w sv 3 els)
  (hev : ∀ k (h : k < els.length), .agg (els[k]).toArray = ev_ k) (hJ0 : J 0 e0) (Y : St M wb (e0 :: H) w0)
  (hcl : ∀ k e w, k < els.length → J k e → e.ok w → (∀ b, e.foot b → b < w.hz) → Ret Tryz.prog g ([ev_ k] ++ caps).toArray w fun v w' => v = .bool (p k) ∧ ∃ e', Ext e.foot w w' ∧ e'.ok w' ∧ (∀ b, e'.foot b → b < w'.heap.size ∧ (e.foot b ∨ w.hz ≤ b)) ∧ J (k + 1) e') :
  Ret Tryz.prog 66 #[sv, .func (.func g) #[] caps.toArray] w0 fun v w => v = iv (fstIdx p els.length) ∧ ∃ k e', J k e' ∧ St M wb (e' :: H) w := by
 have hsl := (hs _ _ Y).le
 refine aD func66 rfl ntmps66 (lb rfl) fun a Z => ?_
 replace Z := Z.p2 0 1 rfl
 refine aa fun K1 hK1 => wla Z rfl fun a Z => ab (hK1 _ _ <| ah fun K2 hK2 => ?_)
 refine aa fun K3 hK3 => wlm Z rfl fun a Z => wlv Z (aL (sT := 32) (hs _ _ Y) rfl rfl (runUnderlying32 _)) fun a Z => wlm Z rfl fun a Z => ab (hK3 _ _ <| ay ?_)
 refine bj (fun m a w => ∃ (k : Nat) (e : Ent), m = els.length - k ∧ (k ≤ els.length) ∧ (∀ j, j < k → p j = false) ∧ (J k e) ∧ Fr 19 [(0, sv), (1, .func (.func g) #[] caps.toArray), (6, sv), (7, iv els.length), (8, iv (k : Int))] [] a ∧ St M wb (e :: H) w) _ ⟨0, e0, rfl, Nat.zero_le _, (by intro j hj; omega), hJ0, Z.pick [0, 1, 6, 7, 8], Y⟩ ?_
 rintro _ a w1 ⟨k, e, rfl, hk, hp, hJ, Z, Y⟩
 refine aa fun K4 hK4 => wlv Z (v_lt rfl rfl) fun a Z => ab (hK4 _ _ <| ah fun K5 hK5 => ?_)
 refine ax Z rfl (fun hc1 => ?_) (fun hc1 => ?_)
 ·rw [hc1] at Z
  try simp only [qz] at hc1
  refine az <| hK5 _ _ <| ah fun K6 hK6 => ay <| aa fun K7 hK7 => wlm Z rfl fun a Z => wla Z rfl fun a Z => ab (hK7 _ _ <| aa fun K8 hK8 => ?_)
  refine wlm Z rfl fun a Z => wlm Z rfl fun a Z => wlm Z rfl fun a Z => wlv Z ((ao (i := (k : Int)) (sT := 32) (hs _ _ Y) rfl rfl (runUnderlying32 _) (sizeOf64 _) om om).as (v' := slAddr sv (k * 3)) rfl) fun a Z => wlv Z ((bN (hs _ _ Y) (i := k) om rfl (isAgg64 _) (sizeOf64 _)).as (v' := ev_ k) (hev k om)) fun a Z => wl_r (dQ (cap := caps) rfl hen rfl (hcl k _ _ om hJ (Y.g 0 rfl) (fun b hb => Y.lt (k := 0) rfl hb))) rfl rfl Z fun a v w2 hR Z => ?_
  obtain ⟨rfl, e1, hx, hok, hft, hJ1⟩ := hR
  have Y := Y.exchange (k := 0) rfl hx hok hft
  have Y : St M wb (e1 :: H) w2 := Y
  refine ab (hK8 _ _ ?_)
  refine ax Z rfl (fun hc2 => ?_) (fun hc2 => ?_)
  ·rw [hc2] at Z
   try simp only [qz] at hc2
   refine aa fun K9 hK9 => wlm Z rfl fun a Z => wla Z rfl fun a Z => ab (hK9 _ _ <| ap ?_)
   refine aj Z results66 (ae rfl ag) ?_
   exact ⟨by rw [dW (k := k) om hp (by assumption)]; rfl, _, _, hJ1, Y⟩
  rw [hc2] at Z
  try simp only [qz] at hc2
  refine az <| hK6 _ _ <| ar <| wlv Z (aS rfl rfl ⟨om, om⟩) fun a Z => wlm Z rfl fun a Z => ab ?_
  refine ⟨_, ?_, k + 1, e1, rfl, om, (by intro j hj; by_cases h : j = k; (subst h; assumption); exact hp j om), hJ1, Z.pick [0, 1, 6, 7, 8], Y⟩
  omega
 rw [hc1] at Z
 try simp only [qz] at hc1
 refine aX <| hK2 _ _ <| aa fun K10 hK10 => wla Z rfl fun a Z => ab (hK10 _ _ <| ap ?_)
 refine aj Z results66 (ae rfl ag) ?_
 have hkl : k = els.length := by omega
 subst hkl
 exact ⟨by rw [dT hp]; rfl, _, _, hJ, Y⟩
theorem fK {M : Nat → Prop} {wb : World} {H : List Ent} {sv : Value} {els : List (List Value)} {caps : List Value} {g : FuncId} (p : Nat → Bool) (ev_ : Nat → Value) (J : Nat → Ent → Prop) (e0 : Ent) (w0 : World)
  (hen : ∀ args w, (callFunc g args).run Tryz.prog w = .ok (.enter g args) w) (hs : ∀ e w, St M wb (e :: H) w → SlAt w sv 3 els)
  (hev : ∀ k (h : k < els.length), .agg (els[k]).toArray = ev_ k) (hJ0 : J 0 e0) (Y : St M wb (e0 :: H) w0)
  (hcl : ∀ k e w, k < els.length → J k e → e.ok w → (∀ b, e.foot b → b < w.hz) → Ret Tryz.prog g ([ev_ k] ++ caps).toArray w fun v w' => v = .bool (p k) ∧ ∃ e', Ext e.foot w w' ∧ e'.ok w' ∧ (∀ b, e'.foot b → b < w'.heap.size ∧ (e.foot b ∨ w.hz ≤ b)) ∧ J (k + 1) e') :
  Ret Tryz.prog 48 #[sv, .func (.func g) #[] caps.toArray] w0 fun v w => v = .bool ((List.range els.length).any p) ∧ ∃ k e', J k e' ∧ St M wb (e' :: H) w := by
 refine aD func48 rfl ntmps48 (lb rfl) fun a Z => ?_
 replace Z := Z.p2 0 1 rfl
 refine aa fun K1 hK1 => wla Z rfl fun a Z => ab (hK1 _ _ <| aa fun K2 hK2 => ?_)
 refine wlm Z rfl fun a Z => wlm Z rfl fun a Z => wl_r (dF call66 rfl (gP p ev_ J e0 _ hen hs hev hJ0 Y hcl)) rfl rfl Z fun a v w1 hR Z => ?_
 obtain ⟨rfl, kk, e1, hJ1, Y⟩ := hR
 refine wlv Z (v_ge rfl rfl) fun a Z => wla Z rfl fun a Z => ab (hK2 _ _ <| ap ?_)
 refine aj Z results48 (ae rfl ag) ?_
 exact ⟨by rw [iL]; rfl, _, _, hJ1, Y⟩
theorem dL (rl : Rul) (cl : Clm) (sv : Value) (l : List Evt) (w0 : World) (hsv : SlAt w0 sv 3 (l.map Evt.cells)) :
  Ret Tryz.prog 24 #[.agg #[iv rl.answer, iv rl.cooling, iv rl.settle, iv rl.reverse], .agg #[iv cl.number, iv cl.frm, iv cl.to, iv cl.holder, iv cl.asked, .bool cl.backed], sv] w0 fun v w => v = .bool (valid rl cl l) ∧ Ext No w0 w := by
 refine aD func24 rfl ntmps24 (lb rfl) fun a Z => ?_
 replace Z := Z.p3 0 1 2 rfl
 have Y : St No w0 [] w0 := St.init w0
 refine aa fun K1 hK1 => aG Z Y de rfl (cs := [iv rl.answer, iv rl.cooling, iv rl.settle, iv rl.reverse]) rfl fun a w1 Z Y => aG Z Y de rfl (cs := [iv cl.number, iv cl.frm, iv cl.to, iv cl.holder, iv cl.asked, .bool cl.backed]) rfl fun a w2 Z Y => wla Z rfl fun a Z => ab (hK1 _ _ <| ah fun K2 hK2 => ?_)
 refine aa fun K3 hK3 => wlv Z (ai (Y.g 1 rfl) rfl (isAgg29 _) (sizeOf29 _)) fun a Z => aA Z Y de call42 rfl (gI _ _ _ _ _) fun a w3 Z Y => wlv Z (bu rfl) fun a Z => wlm Z rfl fun a Z => ?_
 rcases Bool.eq_false_or_eq_true (!(aW rl)) with hb1 | hb1
 ·rw [hb1] at Z
  try simp only [qz] at hb1
  refine wln Z fun a Z => wln Z fun a Z => wln Z fun a Z => wlv Z (au rfl rfl) fun a Z => wlm Z rfl fun a Z => wln Z fun a Z => wln Z fun a Z => wln Z fun a Z => wlv Z (au rfl rfl) fun a Z => ab (hK3 _ _ ?_)
  replace Z := Z.p7 0 1 2 3 4 6 21 rfl
  refine aN Z rfl ?_
  refine aa fun K4 hK4 => wla Z rfl fun a Z => ab (hK4 _ _ <| ap ?_)
  refine aj Z results24 (ae rfl ag) ?_
  exact ⟨by simp_all [retv, valid] <;> omega, Y.ext⟩
 rw [hb1] at Z
 try simp only [qz] at hb1
 have hhb1 := ck hb1
 refine wly Z (ai (Y.g 0 rfl) rfl (isAgg31 _) (sizeOf31 _)) fun a Z => aF Z Y de rfl de rfl call38 rfl (fG cl _) fun a w4 Z Y => wly Z (bu rfl) fun a Z => wlv Z (aq rfl rfl) fun a Z => wlm Z rfl fun a Z => ?_
 rcases Bool.eq_false_or_eq_true (!(bS cl)) with hb2 | hb2
 ·rw [hb2] at Z
  try simp only [qz] at hb2
  refine wln Z fun a Z => wln Z fun a Z => wln Z fun a Z => wlv Z (au rfl rfl) fun a Z => ab (hK3 _ _ ?_)
  replace Z := Z.p7 0 1 2 3 4 6 21 rfl
  refine aN Z rfl ?_
  refine aa fun K5 hK5 => wla Z rfl fun a Z => ab (hK5 _ _ <| ap ?_)
  refine aj Z results24 (ae rfl ag) ?_
  exact ⟨by simp_all [retv, valid] <;> omega, Y.ext⟩
 rw [hb2] at Z
 try simp only [qz] at hb2
 have hhb2 := co hb2
 refine wly Z (ak rfl) fun a Z => wly Z ((aL (sT := 32) (Y.arg hsv) rfl rfl (runUnderlying32 _)).asi (m' := (l.length : Int)) sm) fun a Z => wly Z (v_gt rfl rfl) fun a Z => wlv Z (aq rfl rfl) fun a Z => ab (hK3 _ _ ?_)
 replace Z := Z.p7 0 1 2 3 4 6 21 rfl
 refine ax Z rfl (fun hc3 => ?_) (fun hc3 => ?_)
 ·rw [hc3] at Z
  try simp only [qz] at hc3
  refine aa fun K6 hK6 => wla Z rfl fun a Z => ab (hK6 _ _ <| ap ?_)
  refine aj Z results24 (ae rfl ag) ?_
  exact ⟨by simp_all [retv, valid] <;> omega, Y.ext⟩
 rw [hc3] at Z
 try simp only [qz] at hc3
 refine az <| hK2 _ _ <| aa fun K7 hK7 => wlv Z (ac (v := po w1.hz 4) rfl kr) fun a Z => wlv Z (ld Y 0 rfl rfl (isAgg3 _) rfl) fun a Z => aH Z Y de (zeroValue3 _) (cs := [iv 0]) rfl fun a w5 Z Y => am 0 Z Y rfl rfl rfl (sizeOf3 _) rfl (lb rfl) (ds := [iv cl.asked]) rfl rfl fun a w6 Z Y => ab (hK7 _ _ <| aa fun K8 hK8 => ?_)
 refine wlv Z (cG rfl rfl) fun a Z => wla Z rfl fun a Z => ab (hK8 _ _ <| aa fun K9 hK9 => ?_)
 refine wlm Z rfl fun a Z => wlm Z rfl fun a Z => ?_
 refine wl_r (dF call48 rfl (fK (M := No) (wb := w0) (H := [blk w1.hz [iv cl.number, iv cl.frm, iv cl.to, iv cl.holder, iv cl.asked, .bool cl.backed] 31, blk w0.hz [iv rl.answer, iv rl.cooling, iv rl.settle, iv rl.reverse] 29]) (els := l.map Evt.cells) (caps := [pt w4.hz]) (g := 47) (fun k => badEvt (lastAt cl.asked l k) (l.getD k ⟨0, 0, 0⟩)) (fun k => .agg (l.getD k ⟨0, 0, 0⟩).cells.toArray) (fun k e => e = blk w4.hz [iv (lastAt cl.asked l k)] 3) _ w6 call47 (fun e w h => h.arg hsv) (fun k hk => by simp at hk; simp [hk]) rfl Y ?_)) rfl rfl Z ?_
 ·rintro k _ w hk rfl hok _
  simp only [List.length_map] at hk
  refine (oc (l.getD k ⟨0, 0, 0⟩) _ (lastAt cl.asked l k) w hok).mono fun v w' ⟨h1, h2, h3⟩ => ⟨h1, _, h2, h3, fun b hb => ?_, rfl⟩
  cases hb; exact ⟨(Array.getElem?_eq_some_iff.1 h3).1, .inl rfl⟩
 rintro a v w7 ⟨rfl, kk, _, rfl, Y⟩ Z
 rw [List.length_map, j1] at Z
 refine wlv Z (bu rfl) fun a Z => wla Z rfl fun a Z => ab (hK9 _ _ <| ap ?_)
 refine aj Z results24 (ae rfl ag) ?_
 exact ⟨by simp_all [retv, valid] <;> omega, Y.ext⟩
def duesKV : List (Value × Value) := [(iv 1, .agg #[.func (.func 90) #[] #[], iv 3]), (iv 2, .agg #[.func (.func 91) #[] #[], iv 3]), (iv 3, .agg #[.func (.func 92) #[] #[], iv 4]), (iv 4, .agg #[.func (.func 93) #[] #[], iv 5])]
theorem qi (w0 : World) :
  Ret Tryz.prog 59 #[] w0 (MemR w0 (fun b : Nat => .map (some b)) (fun b => [mapE b duesKV]) (fun _ => True)) := by
 refine aD func59 rfl ntmps59 (lb rfl) fun a Z => ?_
 have Z : Fr 7 [] [] a := Z
 have Y : St No w0 [] w0 := St.init w0
 refine aa fun K1 hK1 => wla Z rfl fun a Z => ab (hK1 _ _ <| aa fun K2 hK2 => ?_)
 refine mC Z Y de fun a w1 Z Y => wlv Z (aY (v := .agg #[.func (.func 90) #[] #[], iv 3]) rfl kr) fun a Z => fl (Kt := 3) (Et := 127) (es := #[]) (clock := 0) 0 Z Y rfl rfl rfl rfl underlying103 kr kr (H' := [obj w0.hz (.map #[{ key := iv 1, val := .agg #[.func (.func 90) #[] #[], iv 3], born := 0 }] 1)]) rfl fun a w2 Z Y => wlv Z (aY (v := .agg #[.func (.func 91) #[] #[], iv 3]) rfl kr) fun a Z => fl (Kt := 3) (Et := 127) (es := #[{ key := iv 1, val := .agg #[.func (.func 90) #[] #[], iv 3], born := 0 }]) (clock := 1) 0 Z Y rfl rfl rfl rfl underlying103 kr kr (H' := [obj w0.hz (.map #[{ key := iv 1, val := .agg #[.func (.func 90) #[] #[], iv 3], born := 0 }, { key := iv 2, val := .agg #[.func (.func 91) #[] #[], iv 3], born := 1 }] 2)]) rfl fun a w3 Z Y => wlv Z (aY (v := .agg #[.func (.func 92) #[] #[], iv 4]) rfl kr) fun a Z => fl (Kt := 3) (Et := 127) (es := #[{ key := iv 1, val := .agg #[.func (.func 90) #[] #[], iv 3], born := 0 }, { key := iv 2, val := .agg #[.func (.func 91) #[] #[], iv 3], born := 1 }]) (clock := 2) 0 Z Y rfl rfl rfl rfl underlying103 kr kr (H' := [obj w0.hz (.map #[{ key := iv 1, val := .agg #[.func (.func 90) #[] #[], iv 3], born := 0 }, { key := iv 2, val := .agg #[.func (.func 91) #[] #[], iv 3], born := 1 }, { key := iv 3, val := .agg #[.func (.func 92) #[] #[], iv 4], born := 2 }] 3)]) rfl fun a w4 Z Y => wlv Z (aY (v := .agg #[.func (.func 93) #[] #[], iv 5]) rfl kr) fun a Z => fl (Kt := 3) (Et := 127) (es := #[{ key := iv 1, val := .agg #[.func (.func 90) #[] #[], iv 3], born := 0 }, { key := iv 2, val := .agg #[.func (.func 91) #[] #[], iv 3], born := 1 }, { key := iv 3, val := .agg #[.func (.func 92) #[] #[], iv 4], born := 2 }]) (clock := 3) 0 Z Y rfl rfl rfl rfl underlying103 kr kr (H' := [obj w0.hz (.map #[{ key := iv 1, val := .agg #[.func (.func 90) #[] #[], iv 3], born := 0 }, { key := iv 2, val := .agg #[.func (.func 91) #[] #[], iv 3], born := 1 }, { key := iv 3, val := .agg #[.func (.func 92) #[] #[], iv 4], born := 2 }, { key := iv 4, val := .agg #[.func (.func 93) #[] #[], iv 5], born := 3 }] 4)]) rfl fun a w5 Z Y => wlm Z rfl fun a Z => wla Z rfl fun a Z => ?_
 refine ab (hK2 _ _ ?_)
 replace Z := Z.p1 0 rfl
 refine ap ?_
 refine aj Z results59 (ae rfl ag) ?_
 have Y : St No w0 [mapE _ duesKV] w5 := Y.toMap 0 rfl rfl rfl
 exact ⟨_, rfl, trivial, Y.ext, St.out (E := [mapE _ duesKV]) (H := []) Y⟩
def effKV : Nat → Value × Value
 | 2 => (.agg #[iv 1, iv 1], iv 3)
 | 4 => (.agg #[iv 2, iv 1], iv 2)
 | 6 => (.agg #[iv 3, iv 2], iv 3)
 | 8 => (.agg #[iv 4, iv 2], iv 6)
 | 10 => (.agg #[iv 5, iv 1], iv 7)
 | 12 => (.agg #[iv 5, iv 2], iv 7)
 | 14 => (.agg #[iv 5, iv 3], iv 7)
 | 16 => (.agg #[iv 6, iv 4], iv 8)
 | _ => (undef, undef)
def effAll : List (Value × Value) := [2, 4, 6, 8, 10, 12, 14, 16].map effKV
def noEnt : Ent := ⟨fun _ => False, fun _ => True, fun _ _ _ h => h⟩
def effG (D : List Nat) (V : Nat → Value) (e : Ent) : Prop :=
 (∀ i ∈ D, i < 17) ∧ ((0 ∉ D ∧ (∀ i ∈ D, i % 2 = 1) ∧ e = noEnt) ∨ (0 ∈ D ∧ ∃ b, V 0 = .map (some b) ∧ e = mapE b ((D.filter fun i => decide (i % 2 = 0) && decide (i ≠ 0)).map effKV)))
theorem dG (a b c d : Int) (w : World) : (Op.equal 155 (.agg #[iv a, iv b]) (.agg #[iv c, iv d])).run Tryz.prog w = .ok (decide (a = c) && decide (b = d)) w := by
 unfold Op.equal Op.maxDepth
 obtain ⟨dd, hd⟩ : ∃ dd, 10000 = dd + 1 + 1 := ⟨9998, rfl⟩
 rw [hd, run_equalIn_struct w (dd + 1) 155 _ _ kr kr]
 simp only [Program.fieldsOf, underlying155, Op.eqFields]
 simp [part, isAgg3, Op.equalIn, run_underlying underlying3]
 by_cases h1 : a = c <;> by_cases h2 : b = d <;> simp [h1, h2]
theorem db {i : Nat} (h : i < 17) (h2 : i % 2 = 0) (h0 : i ≠ 0) : ∃ x y, (effKV i).1 = .agg #[iv x, iv y] := by
 match i, h with
 | 0, _ => exact absurd rfl h0
 | 1, _ => simp at h2
 | 2, _ => exact ⟨_, _, rfl⟩
 | 3, _ => simp at h2
 | 4, _ => exact ⟨_, _, rfl⟩
 | 5, _ => simp at h2
 | 6, _ => exact ⟨_, _, rfl⟩
 | 7, _ => simp at h2
 | 8, _ => exact ⟨_, _, rfl⟩
 | 9, _ => simp at h2
 | 10, _ => exact ⟨_, _, rfl⟩
 | 11, _ => simp at h2
 | 12, _ => exact ⟨_, _, rfl⟩
 | 13, _ => simp at h2
 | 14, _ => exact ⟨_, _, rfl⟩
 | 15, _ => simp at h2
 | 16, _ => exact ⟨_, _, rfl⟩
 | i + 17, h => exact absurd h om
theorem dD {i j : Nat} (hi : i < 17) (hj : j < 17) (hi2 : i % 2 = 0) (hj2 : j % 2 = 0) (hi0 : i ≠ 0) (hj0 : j ≠ 0) (hne : i ≠ j) (x y : Int) (h : (effKV i).1 = .agg #[iv x, iv y]) : cE x y (effKV j).1 = false := by
 have key : ((List.range 17).all fun i => (List.range 17).all fun j => decide (i % 2 = 1) || decide (j % 2 = 1) || decide (i = 0) || decide (j = 0) || decide (i = j) || !(match (effKV i).1 with | .agg ⟨[.int .i64 x, .int .i64 y]⟩ => cE x y (effKV j).1 | _ => true)) = true := by kernel_rfl
 have h1 := List.all_eq_true.1 (List.all_eq_true.1 key i (List.mem_range.2 hi)) j (List.mem_range.2 hj)
 rw [h] at h1
 simpa [hi0, hj0, hne, hi2, hj2] using h1
theorem mD (w0 : World) :
  Ret Tryz.prog 60 #[] w0 (MemR w0 (fun b : Nat => .map (some b)) (fun b => [mapE b effAll]) (fun _ => True)) := by
 refine aD func60 rfl ntmps60 (lb rfl) fun a Z => ?_
 have Z : Fr 11 [] [] a := Z
 have Y : St No w0 [] w0 := St.init w0
 refine aa fun K1 hK1 => wla Z rfl fun a Z => ab (hK1 _ _ <| ah fun K2 hK2 => ?_)
 refine aK kr ?_
 refine dy (M := No) (w0 := w0) (e0 := noEnt) 17 [[], [], [0, 1], [], [0, 3], [], [0, 5], [], [0, 7], [], [0, 9], [], [0, 11], [], [0, 13], [], [0, 15]] [0, 2, 4, 6, 8, 10, 12, 14, 16] kr kr (fun i => match i with | 0 => fun v E => (∃ b, v = .map (some b)) ∧ E = [] | 1 => pv (.agg #[iv 1, iv 1]) | 2 => pv undef | 3 => pv (.agg #[iv 2, iv 1]) | 4 => pv undef | 5 => pv (.agg #[iv 3, iv 2]) | 6 => pv undef | 7 => pv (.agg #[iv 4, iv 2]) | 8 => pv undef | 9 => pv (.agg #[iv 5, iv 1]) | 10 => pv undef | 11 => pv (.agg #[iv 5, iv 2]) | 12 => pv undef | 13 => pv (.agg #[iv 5, iv 3]) | 14 => pv undef | 15 => pv (.agg #[iv 6, iv 4]) | 16 => pv undef | _ => fun _ _ => False) ?_ effG ?_ ?_ Z (H := []) ?_ ?_ ?_ ?_
 ·intro i v E hd hR
  match i with
  | 0 => exact absurd hd (by simp [opAt])
  | 1 => exact absurd hd (by simp [opAt])
  | 2 => exact hR.1.symm
  | 3 => exact absurd hd (by simp [opAt])
  | 4 => exact hR.1.symm
  | 5 => exact absurd hd (by simp [opAt])
  | 6 => exact hR.1.symm
  | 7 => exact absurd hd (by simp [opAt])
  | 8 => exact hR.1.symm
  | 9 => exact absurd hd (by simp [opAt])
  | 10 => exact hR.1.symm
  | 11 => exact absurd hd (by simp [opAt])
  | 12 => exact hR.1.symm
  | 13 => exact absurd hd (by simp [opAt])
  | 14 => exact hR.1.symm
  | 15 => exact absurd hd (by simp [opAt])
  | 16 => exact hR.1.symm
  | i + 17 => exact hR.elim
 ·exact fun _ => ⟨by simp, .inl ⟨by simp, by simp, rfl⟩⟩
 ·rintro i D V V' e hi hm hV ⟨hlt, hor⟩
  have hodd : i % 2 = 1 := by simp at hm; omega
  refine ⟨by simpa using ⟨hi, hlt⟩, ?_⟩
  rcases hor with ⟨h0, h1, rfl⟩ | ⟨h0, b, h1, rfl⟩
  ·exact .inl ⟨by simp [h0]; omega, by simpa using ⟨hodd, h1⟩, rfl⟩
  ·exact .inr ⟨by simp [h0], b, (hV 0 h0).trans h1, by rw [List.filter_cons_of_neg (by simp; omega)]⟩
 ·exact ⟨Y.ext, by intro e he; rw [List.mem_singleton] at he; subst he; exact ⟨trivial, fun k hk => hk.elim⟩, List.pairwise_singleton _ _⟩
 ·intro i hi hm V E w hR D e hp hG hni Y
  match i, hi with
  | 0, _ => exact absurd sm hm
  | 1, _ => exact OpV.g (aY (v := .agg #[iv 1, iv 1]) rfl kr)
  | 2, _ => exact absurd sm hm
  | 3, _ => exact OpV.g (aY (v := .agg #[iv 2, iv 1]) rfl kr)
  | 4, _ => exact absurd sm hm
  | 5, _ => exact OpV.g (aY (v := .agg #[iv 3, iv 2]) rfl kr)
  | 6, _ => exact absurd sm hm
  | 7, _ => exact OpV.g (aY (v := .agg #[iv 4, iv 2]) rfl kr)
  | 8, _ => exact absurd sm hm
  | 9, _ => exact OpV.g (aY (v := .agg #[iv 5, iv 1]) rfl kr)
  | 10, _ => exact absurd sm hm
  | 11, _ => exact OpV.g (aY (v := .agg #[iv 5, iv 2]) rfl kr)
  | 12, _ => exact absurd sm hm
  | 13, _ => exact OpV.g (aY (v := .agg #[iv 5, iv 3]) rfl kr)
  | 14, _ => exact absurd sm hm
  | 15, _ => exact OpV.g (aY (v := .agg #[iv 6, iv 4]) rfl kr)
  | 16, _ => exact absurd sm hm
  | i + 17, h => exact absurd h om
 ·intro i hi hm V E w hR D e hp hG hni Y
  match i, hi with
  | 0, _ =>
   obtain ⟨hlt, hor⟩ := hG
   rcases hor with ⟨h0, h1, rfl⟩ | ⟨h0, _⟩
   ·refine jQ.mono ?_
    rintro v w' ⟨rfl, rfl⟩
    refine ⟨mapE w.hz [], Ext.alloc _ _ _, oK w, fun b hb => by cases hb; exact ⟨by simp, .inr (Nat.le_refl _)⟩, ⟨⟨_, rfl⟩, rfl⟩, fun V' hV' hv => ⟨by simpa using hlt, .inr ⟨by simp, _, hv, ?_⟩⟩⟩
    rw [List.filter_cons_of_neg sm, List.filter_eq_nil_iff.2 (fun i hi => by have := h1 i hi; simp; omega)]; rfl
   ·exact absurd h0 hni
  | 1, _ => exact absurd hm de
  | 2, _ =>
   obtain ⟨hlt, hor⟩ := hG
   have h0D : 0 ∈ D := hp 0 sm
   rcases hor with ⟨h0, _⟩ | ⟨_, b, hV0, rfl⟩
   ·exact absurd h0D h0
   ·have hk : V 1 = .agg #[iv 1, iv 1] := (hR 1 sm).1.symm
    have hmap := Y.g 0 rfl
    have hmem : ∀ x ∈ (D.filter fun i => decide (i % 2 = 0) && decide (i ≠ 0)).map effKV, ∃ j, j ∈ D ∧ j < 17 ∧ j % 2 = 0 ∧ j ≠ 0 ∧ x = effKV j := by
     intro x hx
     obtain ⟨j, hj, rfl⟩ := List.mem_map.1 hx
     obtain ⟨hj1, hj2⟩ := List.mem_filter.1 hj
     simp at hj2
     exact ⟨j, hj1, hlt j hj1, hj2.1, hj2.2, rfl⟩
    obtain ⟨o, ho1, ho2⟩ := cg (P := Tryz.prog) (w := w) (T := 104) (Kt := 155) (Et := 3) (k := .agg #[iv 1, iv 1]) (v := iv 3) (q := cE 1 1) hmap underlying104
     (fun es i hes => ⟨_, runUnderlying155 w, by cases es with | nil => exact absurd rfl hes | cons e es => rfl⟩) ⟨_, runUnderlying155 w⟩ (fun b => by kernel_rfl)
     (fun x hx => by obtain ⟨j, _, h1, h2, h3, rfl⟩ := hmem x hx; obtain ⟨x1, x2, hx⟩ := db h1 h2 h3; rw [hx, dG]; rfl)
     (List.find?_eq_none.2 fun x hx => by obtain ⟨j, hjD, h1, h2, h3, rfl⟩ := hmem x hx; rw [dD (i := 2) de h1 de h2 de h3 (fun e => hni (e ▸ hjD)) _ _ rfl]; simp)
    have hb := Y.lt (k := 0) (b := b) rfl rfl
    refine (dh (u := .map (some b)) (k := .agg #[iv 1, iv 1]) (v := iv 3) ?_ ?_ rfl ho1).mono ?_
    ·show some (V 0) = _; rw [hV0]
    ·show some (V 1) = _; rw [hk]
    ·rintro v w' ⟨rfl, rfl⟩
     refine ⟨mapE b (effKV 2 :: (D.filter fun i => decide (i % 2 = 0) && decide (i ≠ 0)).map effKV), (Ext.putObj (M := (mapE b _).foot) rfl _ _), ho2, fun b' hb' => by cases hb'; exact ⟨by simpa using hb, .inl rfl⟩, ⟨rfl, rfl⟩, fun V' hV' _ => ⟨by simpa using hlt, .inr ⟨by simp [h0D], b, (hV' 0 h0D).trans hV0, ?_⟩⟩⟩
     rw [List.filter_cons_of_pos de, List.map_cons]
  | 3, _ => exact absurd hm de
  | 4, _ =>
   obtain ⟨hlt, hor⟩ := hG
   have h0D : 0 ∈ D := hp 0 sm
   rcases hor with ⟨h0, _⟩ | ⟨_, b, hV0, rfl⟩
   ·exact absurd h0D h0
   ·have hk : V 3 = .agg #[iv 2, iv 1] := (hR 3 sm).1.symm
    have hmap := Y.g 0 rfl
    have hmem : ∀ x ∈ (D.filter fun i => decide (i % 2 = 0) && decide (i ≠ 0)).map effKV, ∃ j, j ∈ D ∧ j < 17 ∧ j % 2 = 0 ∧ j ≠ 0 ∧ x = effKV j := by
     intro x hx
     obtain ⟨j, hj, rfl⟩ := List.mem_map.1 hx
     obtain ⟨hj1, hj2⟩ := List.mem_filter.1 hj
     simp at hj2
     exact ⟨j, hj1, hlt j hj1, hj2.1, hj2.2, rfl⟩
    obtain ⟨o, ho1, ho2⟩ := cg (P := Tryz.prog) (w := w) (T := 104) (Kt := 155) (Et := 3) (k := .agg #[iv 2, iv 1]) (v := iv 2) (q := cE 2 1) hmap underlying104
     (fun es i hes => ⟨_, runUnderlying155 w, by cases es with | nil => exact absurd rfl hes | cons e es => rfl⟩) ⟨_, runUnderlying155 w⟩ (fun b => by kernel_rfl)
     (fun x hx => by obtain ⟨j, _, h1, h2, h3, rfl⟩ := hmem x hx; obtain ⟨x1, x2, hx⟩ := db h1 h2 h3; rw [hx, dG]; rfl)
     (List.find?_eq_none.2 fun x hx => by obtain ⟨j, hjD, h1, h2, h3, rfl⟩ := hmem x hx; rw [dD (i := 4) de h1 de h2 de h3 (fun e => hni (e ▸ hjD)) _ _ rfl]; simp)
    have hb := Y.lt (k := 0) (b := b) rfl rfl
    refine (dh (u := .map (some b)) (k := .agg #[iv 2, iv 1]) (v := iv 2) ?_ ?_ rfl ho1).mono ?_
    ·show some (V 0) = _; rw [hV0]
    ·show some (V 3) = _; rw [hk]
    ·rintro v w' ⟨rfl, rfl⟩
     refine ⟨mapE b (effKV 4 :: (D.filter fun i => decide (i % 2 = 0) && decide (i ≠ 0)).map effKV), (Ext.putObj (M := (mapE b _).foot) rfl _ _), ho2, fun b' hb' => by cases hb'; exact ⟨by simpa using hb, .inl rfl⟩, ⟨rfl, rfl⟩, fun V' hV' _ => ⟨by simpa using hlt, .inr ⟨by simp [h0D], b, (hV' 0 h0D).trans hV0, ?_⟩⟩⟩
     rw [List.filter_cons_of_pos de, List.map_cons]
  | 5, _ => exact absurd hm de
  | 6, _ =>
   obtain ⟨hlt, hor⟩ := hG
   have h0D : 0 ∈ D := hp 0 sm
   rcases hor with ⟨h0, _⟩ | ⟨_, b, hV0, rfl⟩
   ·exact absurd h0D h0
   ·have hk : V 5 = .agg #[iv 3, iv 2] := (hR 5 sm).1.symm
    have hmap := Y.g 0 rfl
    have hmem : ∀ x ∈ (D.filter fun i => decide (i % 2 = 0) && decide (i ≠ 0)).map effKV, ∃ j, j ∈ D ∧ j < 17 ∧ j % 2 = 0 ∧ j ≠ 0 ∧ x = effKV j := by
     intro x hx
     obtain ⟨j, hj, rfl⟩ := List.mem_map.1 hx
     obtain ⟨hj1, hj2⟩ := List.mem_filter.1 hj
     simp at hj2
     exact ⟨j, hj1, hlt j hj1, hj2.1, hj2.2, rfl⟩
    obtain ⟨o, ho1, ho2⟩ := cg (P := Tryz.prog) (w := w) (T := 104) (Kt := 155) (Et := 3) (k := .agg #[iv 3, iv 2]) (v := iv 3) (q := cE 3 2) hmap underlying104
     (fun es i hes => ⟨_, runUnderlying155 w, by cases es with | nil => exact absurd rfl hes | cons e es => rfl⟩) ⟨_, runUnderlying155 w⟩ (fun b => by kernel_rfl)
     (fun x hx => by obtain ⟨j, _, h1, h2, h3, rfl⟩ := hmem x hx; obtain ⟨x1, x2, hx⟩ := db h1 h2 h3; rw [hx, dG]; rfl)
     (List.find?_eq_none.2 fun x hx => by obtain ⟨j, hjD, h1, h2, h3, rfl⟩ := hmem x hx; rw [dD (i := 6) de h1 de h2 de h3 (fun e => hni (e ▸ hjD)) _ _ rfl]; simp)
    have hb := Y.lt (k := 0) (b := b) rfl rfl
    refine (dh (u := .map (some b)) (k := .agg #[iv 3, iv 2]) (v := iv 3) ?_ ?_ rfl ho1).mono ?_
    ·show some (V 0) = _; rw [hV0]
    ·show some (V 5) = _; rw [hk]
    ·rintro v w' ⟨rfl, rfl⟩
     refine ⟨mapE b (effKV 6 :: (D.filter fun i => decide (i % 2 = 0) && decide (i ≠ 0)).map effKV), (Ext.putObj (M := (mapE b _).foot) rfl _ _), ho2, fun b' hb' => by cases hb'; exact ⟨by simpa using hb, .inl rfl⟩, ⟨rfl, rfl⟩, fun V' hV' _ => ⟨by simpa using hlt, .inr ⟨by simp [h0D], b, (hV' 0 h0D).trans hV0, ?_⟩⟩⟩
     rw [List.filter_cons_of_pos de, List.map_cons]
  | 7, _ => exact absurd hm de
  | 8, _ =>
   obtain ⟨hlt, hor⟩ := hG
   have h0D : 0 ∈ D := hp 0 sm
   rcases hor with ⟨h0, _⟩ | ⟨_, b, hV0, rfl⟩
   ·exact absurd h0D h0
   ·have hk : V 7 = .agg #[iv 4, iv 2] := (hR 7 sm).1.symm
    have hmap := Y.g 0 rfl
    have hmem : ∀ x ∈ (D.filter fun i => decide (i % 2 = 0) && decide (i ≠ 0)).map effKV, ∃ j, j ∈ D ∧ j < 17 ∧ j % 2 = 0 ∧ j ≠ 0 ∧ x = effKV j := by
     intro x hx
     obtain ⟨j, hj, rfl⟩ := List.mem_map.1 hx
     obtain ⟨hj1, hj2⟩ := List.mem_filter.1 hj
     simp at hj2
     exact ⟨j, hj1, hlt j hj1, hj2.1, hj2.2, rfl⟩
    obtain ⟨o, ho1, ho2⟩ := cg (P := Tryz.prog) (w := w) (T := 104) (Kt := 155) (Et := 3) (k := .agg #[iv 4, iv 2]) (v := iv 6) (q := cE 4 2) hmap underlying104
     (fun es i hes => ⟨_, runUnderlying155 w, by cases es with | nil => exact absurd rfl hes | cons e es => rfl⟩) ⟨_, runUnderlying155 w⟩ (fun b => by kernel_rfl)
     (fun x hx => by obtain ⟨j, _, h1, h2, h3, rfl⟩ := hmem x hx; obtain ⟨x1, x2, hx⟩ := db h1 h2 h3; rw [hx, dG]; rfl)
     (List.find?_eq_none.2 fun x hx => by obtain ⟨j, hjD, h1, h2, h3, rfl⟩ := hmem x hx; rw [dD (i := 8) de h1 de h2 de h3 (fun e => hni (e ▸ hjD)) _ _ rfl]; simp)
    have hb := Y.lt (k := 0) (b := b) rfl rfl
    refine (dh (u := .map (some b)) (k := .agg #[iv 4, iv 2]) (v := iv 6) ?_ ?_ rfl ho1).mono ?_
    ·show some (V 0) = _; rw [hV0]
    ·show some (V 7) = _; rw [hk]
    ·rintro v w' ⟨rfl, rfl⟩
     refine ⟨mapE b (effKV 8 :: (D.filter fun i => decide (i % 2 = 0) && decide (i ≠ 0)).map effKV), (Ext.putObj (M := (mapE b _).foot) rfl _ _), ho2, fun b' hb' => by cases hb'; exact ⟨by simpa using hb, .inl rfl⟩, ⟨rfl, rfl⟩, fun V' hV' _ => ⟨by simpa using hlt, .inr ⟨by simp [h0D], b, (hV' 0 h0D).trans hV0, ?_⟩⟩⟩
     rw [List.filter_cons_of_pos de, List.map_cons]
  | 9, _ => exact absurd hm de
  | 10, _ =>
   obtain ⟨hlt, hor⟩ := hG
   have h0D : 0 ∈ D := hp 0 sm
   rcases hor with ⟨h0, _⟩ | ⟨_, b, hV0, rfl⟩
   ·exact absurd h0D h0
   ·have hk : V 9 = .agg #[iv 5, iv 1] := (hR 9 sm).1.symm
    have hmap := Y.g 0 rfl
    have hmem : ∀ x ∈ (D.filter fun i => decide (i % 2 = 0) && decide (i ≠ 0)).map effKV, ∃ j, j ∈ D ∧ j < 17 ∧ j % 2 = 0 ∧ j ≠ 0 ∧ x = effKV j := by
     intro x hx
     obtain ⟨j, hj, rfl⟩ := List.mem_map.1 hx
     obtain ⟨hj1, hj2⟩ := List.mem_filter.1 hj
     simp at hj2
     exact ⟨j, hj1, hlt j hj1, hj2.1, hj2.2, rfl⟩
    obtain ⟨o, ho1, ho2⟩ := cg (P := Tryz.prog) (w := w) (T := 104) (Kt := 155) (Et := 3) (k := .agg #[iv 5, iv 1]) (v := iv 7) (q := cE 5 1) hmap underlying104
     (fun es i hes => ⟨_, runUnderlying155 w, by cases es with | nil => exact absurd rfl hes | cons e es => rfl⟩) ⟨_, runUnderlying155 w⟩ (fun b => by kernel_rfl)
     (fun x hx => by obtain ⟨j, _, h1, h2, h3, rfl⟩ := hmem x hx; obtain ⟨x1, x2, hx⟩ := db h1 h2 h3; rw [hx, dG]; rfl)
     (List.find?_eq_none.2 fun x hx => by obtain ⟨j, hjD, h1, h2, h3, rfl⟩ := hmem x hx; rw [dD (i := 10) de h1 de h2 de h3 (fun e => hni (e ▸ hjD)) _ _ rfl]; simp)
    have hb := Y.lt (k := 0) (b := b) rfl rfl
    refine (dh (u := .map (some b)) (k := .agg #[iv 5, iv 1]) (v := iv 7) ?_ ?_ rfl ho1).mono ?_
    ·show some (V 0) = _; rw [hV0]
    ·show some (V 9) = _; rw [hk]
    ·rintro v w' ⟨rfl, rfl⟩
     refine ⟨mapE b (effKV 10 :: (D.filter fun i => decide (i % 2 = 0) && decide (i ≠ 0)).map effKV), (Ext.putObj (M := (mapE b _).foot) rfl _ _), ho2, fun b' hb' => by cases hb'; exact ⟨by simpa using hb, .inl rfl⟩, ⟨rfl, rfl⟩, fun V' hV' _ => ⟨by simpa using hlt, .inr ⟨by simp [h0D], b, (hV' 0 h0D).trans hV0, ?_⟩⟩⟩
     rw [List.filter_cons_of_pos de, List.map_cons]
  | 11, _ => exact absurd hm de
  | 12, _ =>
   obtain ⟨hlt, hor⟩ := hG
   have h0D : 0 ∈ D := hp 0 sm
   rcases hor with ⟨h0, _⟩ | ⟨_, b, hV0, rfl⟩
   ·exact absurd h0D h0
   ·have hk : V 11 = .agg #[iv 5, iv 2] := (hR 11 sm).1.symm
    have hmap := Y.g 0 rfl
    have hmem : ∀ x ∈ (D.filter fun i => decide (i % 2 = 0) && decide (i ≠ 0)).map effKV, ∃ j, j ∈ D ∧ j < 17 ∧ j % 2 = 0 ∧ j ≠ 0 ∧ x = effKV j := by
     intro x hx
     obtain ⟨j, hj, rfl⟩ := List.mem_map.1 hx
     obtain ⟨hj1, hj2⟩ := List.mem_filter.1 hj
     simp at hj2
     exact ⟨j, hj1, hlt j hj1, hj2.1, hj2.2, rfl⟩
    obtain ⟨o, ho1, ho2⟩ := cg (P := Tryz.prog) (w := w) (T := 104) (Kt := 155) (Et := 3) (k := .agg #[iv 5, iv 2]) (v := iv 7) (q := cE 5 2) hmap underlying104
     (fun es i hes => ⟨_, runUnderlying155 w, by cases es with | nil => exact absurd rfl hes | cons e es => rfl⟩) ⟨_, runUnderlying155 w⟩ (fun b => by kernel_rfl)
     (fun x hx => by obtain ⟨j, _, h1, h2, h3, rfl⟩ := hmem x hx; obtain ⟨x1, x2, hx⟩ := db h1 h2 h3; rw [hx, dG]; rfl)
     (List.find?_eq_none.2 fun x hx => by obtain ⟨j, hjD, h1, h2, h3, rfl⟩ := hmem x hx; rw [dD (i := 12) de h1 de h2 de h3 (fun e => hni (e ▸ hjD)) _ _ rfl]; simp)
    have hb := Y.lt (k := 0) (b := b) rfl rfl
    refine (dh (u := .map (some b)) (k := .agg #[iv 5, iv 2]) (v := iv 7) ?_ ?_ rfl ho1).mono ?_
    ·show some (V 0) = _; rw [hV0]
    ·show some (V 11) = _; rw [hk]
    ·rintro v w' ⟨rfl, rfl⟩
     refine ⟨mapE b (effKV 12 :: (D.filter fun i => decide (i % 2 = 0) && decide (i ≠ 0)).map effKV), (Ext.putObj (M := (mapE b _).foot) rfl _ _), ho2, fun b' hb' => by cases hb'; exact ⟨by simpa using hb, .inl rfl⟩, ⟨rfl, rfl⟩, fun V' hV' _ => ⟨by simpa using hlt, .inr ⟨by simp [h0D], b, (hV' 0 h0D).trans hV0, ?_⟩⟩⟩
     rw [List.filter_cons_of_pos de, List.map_cons]
  | 13, _ => exact absurd hm de
  | 14, _ =>
   obtain ⟨hlt, hor⟩ := hG
   have h0D : 0 ∈ D := hp 0 sm
   rcases hor with ⟨h0, _⟩ | ⟨_, b, hV0, rfl⟩
   ·exact absurd h0D h0
   ·have hk : V 13 = .agg #[iv 5, iv 3] := (hR 13 sm).1.symm
    have hmap := Y.g 0 rfl
    have hmem : ∀ x ∈ (D.filter fun i => decide (i % 2 = 0) && decide (i ≠ 0)).map effKV, ∃ j, j ∈ D ∧ j < 17 ∧ j % 2 = 0 ∧ j ≠ 0 ∧ x = effKV j := by
     intro x hx
     obtain ⟨j, hj, rfl⟩ := List.mem_map.1 hx
     obtain ⟨hj1, hj2⟩ := List.mem_filter.1 hj
     simp at hj2
     exact ⟨j, hj1, hlt j hj1, hj2.1, hj2.2, rfl⟩
    obtain ⟨o, ho1, ho2⟩ := cg (P := Tryz.prog) (w := w) (T := 104) (Kt := 155) (Et := 3) (k := .agg #[iv 5, iv 3]) (v := iv 7) (q := cE 5 3) hmap underlying104
     (fun es i hes => ⟨_, runUnderlying155 w, by cases es with | nil => exact absurd rfl hes | cons e es => rfl⟩) ⟨_, runUnderlying155 w⟩ (fun b => by kernel_rfl)
     (fun x hx => by obtain ⟨j, _, h1, h2, h3, rfl⟩ := hmem x hx; obtain ⟨x1, x2, hx⟩ := db h1 h2 h3; rw [hx, dG]; rfl)
     (List.find?_eq_none.2 fun x hx => by obtain ⟨j, hjD, h1, h2, h3, rfl⟩ := hmem x hx; rw [dD (i := 14) de h1 de h2 de h3 (fun e => hni (e ▸ hjD)) _ _ rfl]; simp)
    have hb := Y.lt (k := 0) (b := b) rfl rfl
    refine (dh (u := .map (some b)) (k := .agg #[iv 5, iv 3]) (v := iv 7) ?_ ?_ rfl ho1).mono ?_
    ·show some (V 0) = _; rw [hV0]
    ·show some (V 13) = _; rw [hk]
    ·rintro v w' ⟨rfl, rfl⟩
     refine ⟨mapE b (effKV 14 :: (D.filter fun i => decide (i % 2 = 0) && decide (i ≠ 0)).map effKV), (Ext.putObj (M := (mapE b _).foot) rfl _ _), ho2, fun b' hb' => by cases hb'; exact ⟨by simpa using hb, .inl rfl⟩, ⟨rfl, rfl⟩, fun V' hV' _ => ⟨by simpa using hlt, .inr ⟨by simp [h0D], b, (hV' 0 h0D).trans hV0, ?_⟩⟩⟩
     rw [List.filter_cons_of_pos de, List.map_cons]
  | 15, _ => exact absurd hm de
  | 16, _ =>
   obtain ⟨hlt, hor⟩ := hG
   have h0D : 0 ∈ D := hp 0 sm
   rcases hor with ⟨h0, _⟩ | ⟨_, b, hV0, rfl⟩
   ·exact absurd h0D h0
   ·have hk : V 15 = .agg #[iv 6, iv 4] := (hR 15 sm).1.symm
    have hmap := Y.g 0 rfl
    have hmem : ∀ x ∈ (D.filter fun i => decide (i % 2 = 0) && decide (i ≠ 0)).map effKV, ∃ j, j ∈ D ∧ j < 17 ∧ j % 2 = 0 ∧ j ≠ 0 ∧ x = effKV j := by
     intro x hx
     obtain ⟨j, hj, rfl⟩ := List.mem_map.1 hx
     obtain ⟨hj1, hj2⟩ := List.mem_filter.1 hj
     simp at hj2
     exact ⟨j, hj1, hlt j hj1, hj2.1, hj2.2, rfl⟩
    obtain ⟨o, ho1, ho2⟩ := cg (P := Tryz.prog) (w := w) (T := 104) (Kt := 155) (Et := 3) (k := .agg #[iv 6, iv 4]) (v := iv 8) (q := cE 6 4) hmap underlying104
     (fun es i hes => ⟨_, runUnderlying155 w, by cases es with | nil => exact absurd rfl hes | cons e es => rfl⟩) ⟨_, runUnderlying155 w⟩ (fun b => by kernel_rfl)
     (fun x hx => by obtain ⟨j, _, h1, h2, h3, rfl⟩ := hmem x hx; obtain ⟨x1, x2, hx⟩ := db h1 h2 h3; rw [hx, dG]; rfl)
     (List.find?_eq_none.2 fun x hx => by obtain ⟨j, hjD, h1, h2, h3, rfl⟩ := hmem x hx; rw [dD (i := 16) de h1 de h2 de h3 (fun e => hni (e ▸ hjD)) _ _ rfl]; simp)
    have hb := Y.lt (k := 0) (b := b) rfl rfl
    refine (dh (u := .map (some b)) (k := .agg #[iv 6, iv 4]) (v := iv 8) ?_ ?_ rfl ho1).mono ?_
    ·show some (V 0) = _; rw [hV0]
    ·show some (V 15) = _; rw [hk]
    ·rintro v w' ⟨rfl, rfl⟩
     refine ⟨mapE b (effKV 16 :: (D.filter fun i => decide (i % 2 = 0) && decide (i ≠ 0)).map effKV), (Ext.putObj (M := (mapE b _).foot) rfl _ _), ho2, fun b' hb' => by cases hb'; exact ⟨by simpa using hb, .inl rfl⟩, ⟨rfl, rfl⟩, fun V' hV' _ => ⟨by simpa using hlt, .inr ⟨by simp [h0D], b, (hV' 0 h0D).trans hV0, ?_⟩⟩⟩
     rw [List.filter_cons_of_pos de, List.map_cons]
  | i + 17, h => exact absurd h om
 rintro D V E e a w1 hD ⟨_, hor⟩ hR Z Y
 rcases hor with ⟨h0, _⟩ | ⟨_, b, hV0, rfl⟩
 ·exact absurd (hD.mem_iff.2 sm) h0
 have hperm : ((D.filter fun i => decide (i % 2 = 0) && decide (i ≠ 0)).map effKV).Perm effAll := by
  have h1 := (hD.filter fun i => decide (i % 2 = 0) && decide (i ≠ 0)).map effKV
  exact h1
 replace Z := Z.p1 1 rfl
 rw [hV0] at Z
 have Y : St No w0 [mapE b _] w1 := Y.mask [true]
 have Y : St No w0 [mapE b effAll] w1 := Y.exchange (k := 0) (e := mapE b _) (e' := mapE b effAll) rfl (Ext.refl _ _) (by obtain ⟨es, cl, h1, h2⟩ := Y.g 0 rfl; exact ⟨es, cl, h1, h2.trans hperm⟩) (fun k hk => ⟨Y.lt (k := 0) rfl hk, .inl hk⟩)
 refine wlm Z rfl fun a Z => wla Z rfl fun a Z => ab <| hK2 _ _ <| ap ?_
 refine aj Z results60 (ae rfl ag) ?_
 exact ⟨_, rfl, trivial, Y.ext, St.out (E := [mapE b effAll]) (H := []) Y⟩
def dueFun (s : Int) : Value := if s = 1 then .func (.func 90) #[] #[] else if s = 2 then .func (.func 91) #[] #[] else if s = 3 then .func (.func 92) #[] #[] else .func (.func 93) #[] #[]
theorem kL {b : Nat} {w : World} (hm : (mapE b duesKV).ok w) : (Instr.lookup 103 (.map (some b)) (iv 1) true).run Tryz.prog w = .ok (.tuple #[.agg #[.func (.func 90) #[] #[], iv 3], .bool true]) w :=
 cz hm underlying103 underlying3 (zeroValue127 _) (by simp [duesKV]) (lb rfl) true
theorem li {b : Nat} {w : World} (hm : (mapE b duesKV).ok w) : (Instr.lookup 103 (.map (some b)) (iv 2) true).run Tryz.prog w = .ok (.tuple #[.agg #[.func (.func 91) #[] #[], iv 3], .bool true]) w :=
 cz hm underlying103 underlying3 (zeroValue127 _) (by simp [duesKV]) (lb rfl) true
theorem lr {b : Nat} {w : World} (hm : (mapE b duesKV).ok w) : (Instr.lookup 103 (.map (some b)) (iv 3) true).run Tryz.prog w = .ok (.tuple #[.agg #[.func (.func 92) #[] #[], iv 4], .bool true]) w :=
 cz hm underlying103 underlying3 (zeroValue127 _) (by simp [duesKV]) (lb rfl) true
theorem kZ {b : Nat} {w : World} (hm : (mapE b duesKV).ok w) : (Instr.lookup 103 (.map (some b)) (iv 4) true).run Tryz.prog w = .ok (.tuple #[.agg #[.func (.func 93) #[] #[], iv 5], .bool true]) w :=
 cz hm underlying103 underlying3 (zeroValue127 _) (by simp [duesKV]) (lb rfl) true
theorem ke {b : Nat} {s : Int} {w : World} (hm : (mapE b duesKV).ok w) (h : dueSec ⟨0, 0, 0, 0⟩ s = none) : (Instr.lookup 103 (.map (some b)) (iv s) true).run Tryz.prog w = .ok (.tuple #[.agg #[.nilFunc, iv 0], .bool false]) w := by
 have hs : s ≠ 1 ∧ s ≠ 2 ∧ s ≠ 3 ∧ s ≠ 4 := by
  refine ⟨?_, ?_, ?_, ?_⟩ <;> rintro rfl <;> simp [dueSec] at h
 have hn : ∀ x ∈ duesKV, isInt .i64 s x.1 = false := by simp [duesKV, isInt, hs]
 refine (cz hm underlying103 underlying3 (zeroValue127 _) (by simp [duesKV]) ?_ true).trans ?_
 ·rw [List.filter_eq_nil_iff.2 (fun x hx => by simp [hn x hx])]; simp
 ·rw [List.find?_eq_none.2 (fun x hx => by simp [hn x hx])]; rfl
theorem lC {b : Nat} {s : Int} {w : World} (hm : (mapE b duesKV).ok w) (h : s = 1 ∨ s = 2 ∨ s = 3 ∨ s = 4) : (Instr.lookup 103 (.map (some b)) (iv s) false).run Tryz.prog w = .ok (.agg #[dueFun s, iv (aQ s)]) w := by
 rcases h with rfl | rfl | rfl | rfl <;> exact cz hm underlying103 underlying3 (zeroValue127 _) (by simp [duesKV]) (lb rfl) false
theorem pf (k s : Int) : (effAll.find? fun x => cE k s x.1).map (·.2) = (effect k s).map fun n => iv n := by
 simp only [effAll, effKV, List.map_cons, List.map_nil, List.find?_cons, cE, effect]
 by_cases h1 : k = 1
 ·subst h1; by_cases h : s = 1 <;> simp [h]
 by_cases h2 : k = 2
 ·subst h2; by_cases h : s = 1 <;> simp [h]
 by_cases h3 : k = 3
 ·subst h3; by_cases h : s = 2 <;> simp [h]
 by_cases h4 : k = 4
 ·subst h4; by_cases h : s = 2 <;> simp [h]
 by_cases h5 : k = 5
 ·subst h5; by_cases h : s = 1 <;> by_cases h' : s = 2 <;> by_cases h'' : s = 3 <;> simp_all
 by_cases h6 : k = 6
 ·subst h6; by_cases h : s = 4 <;> simp [h]
 simp [h1, h2, h3, h4, h5, h6]
theorem qB (k s : Int) : (effAll.filter fun x => cE k s x.1).length ≤ 1 := by
 simp only [effAll, effKV, List.map_cons, List.map_nil, List.filter_cons, cE]
 by_cases h1 : k = 1
 ·subst h1; by_cases h : s = 1 <;> simp [h]
 by_cases h2 : k = 2
 ·subst h2; by_cases h : s = 1 <;> simp [h]
 by_cases h3 : k = 3
 ·subst h3; by_cases h : s = 2 <;> simp [h]
 by_cases h4 : k = 4
 ·subst h4; by_cases h : s = 2 <;> simp [h]
 by_cases h5 : k = 5
 ·subst h5; by_cases h : s = 1 <;> by_cases h' : s = 2 <;> by_cases h'' : s = 3 <;> simp_all
 by_cases h6 : k = 6
 ·subst h6; by_cases h : s = 4 <;> simp [h]
 simp [h1, h2, h3, h4, h5, h6]
theorem oV : ∀ x ∈ effAll, ∃ c d, x.1 = .agg #[iv c, iv d] := by
 intro x hx
 simp only [effAll, effKV, List.map_cons, List.map_nil, List.mem_cons, List.not_mem_nil, or_false] at hx
 rcases hx with rfl | rfl | rfl | rfl | rfl | rfl | rfl | rfl <;> exact ⟨_, _, rfl⟩
theorem pk {b : Nat} {k s : Int} {w : World} (hm : (mapE b effAll).ok w) : (Instr.lookup 104 (.map (some b)) (.agg #[iv k, iv s]) true).run Tryz.prog w = .ok (.tuple #[iv ((effect k s).getD 0), .bool (effect k s).isSome]) w := by
 refine (iJ (Kt := 155) (Et := 3) (q := cE k s) hm underlying104 (zeroValue3 _) (by simp [effAll]) (fun es i hes => ⟨_, runUnderlying155 w, by cases es with | nil => exact absurd rfl hes | cons e es => rfl⟩) (fun b => by kernel_rfl) (fun x hx => by obtain ⟨c, d, h⟩ := oV x hx; rw [h, dG]; rfl) (qB k s) true).trans ?_
 rw [pf, if_pos rfl]
 cases effect k s <;> rfl
structure Mach where
 bm : Nat
 dm : Nat
 em : Nat
def dX (x : Mach) (rl : Rul) (cl : Clm) (v : Value) : Ent := blk x.bm [iv rl.answer, iv rl.cooling, iv rl.settle, iv rl.reverse, iv cl.number, iv cl.frm, iv cl.to, iv cl.holder, iv cl.asked, .bool cl.backed, .map (some x.dm), .map (some x.em), v] 106
def lJ (x : Mach) (rl : Rul) (cl : Clm) (v : Value) : List Ent := [dX x rl cl v, mapE x.dm duesKV, mapE x.em effAll]
theorem gX (rl : Rul) (cl : Clm) (sv : Value) (l : List Evt) (w0 : World) (hsv : SlAt w0 sv 3 (l.map Evt.cells)) (hv : valid rl cl l = true) :
  Ret Tryz.prog 43 #[.agg #[iv rl.answer, iv rl.cooling, iv rl.settle, iv rl.reverse], .agg #[iv cl.number, iv cl.frm, iv cl.to, iv cl.holder, iv cl.asked, .bool cl.backed], sv] w0 (MemR w0 (fun x : Mach => .tuple #[pt x.bm, iv 0]) (fun x => lJ x rl cl (.slice none 0 0)) (fun _ => True)) := by
 refine aD func43 rfl ntmps43 (lb rfl) fun a Z => ?_
 replace Z := Z.p3 0 1 2 rfl
 have Y : St No w0 [] w0 := St.init w0
 refine aa fun K1 hK1 => aG Z Y de rfl (cs := [iv rl.answer, iv rl.cooling, iv rl.settle, iv rl.reverse]) rfl fun a w1 Z Y => aG Z Y de rfl (cs := [iv cl.number, iv cl.frm, iv cl.to, iv cl.holder, iv cl.asked, .bool cl.backed]) rfl fun a w2 Z Y => wla Z rfl fun a Z => wla Z rfl fun a Z => ab (hK1 _ _ <| ah fun K2 hK2 => ?_)
 refine aa fun K3 hK3 => wlv Z (ai (Y.g 1 rfl) rfl (isAgg29 _) (sizeOf29 _)) fun a Z => wlv Z (ai (Y.g 0 rfl) rfl (isAgg31 _) (sizeOf31 _)) fun a Z => wlm Z rfl fun a Z => aA Z Y de call24 rfl ((hv ▸ dL rl cl sv l _ (Y.arg hsv) : Ret Tryz.prog 24 _ _ fun v w => v = .bool true ∧ _)) fun a w3 Z Y => wlv Z ((bu rfl).asb (b' := false) rfl) fun a Z => ab (hK3 _ _ <| bC Z rfl ?_)
 refine az <| hK2 _ _ <| ah fun K4 hK4 => aK kr ?_
 replace Z := Z.p12 0 1 2 3 4 6 7 8 9 10 11 12 rfl
 refine aM 4 [[], [], [], []] (fun i => match i with | 0 => pv (.agg #[iv rl.answer, iv rl.cooling, iv rl.settle, iv rl.reverse]) | 1 => pv (.agg #[iv cl.number, iv cl.frm, iv cl.to, iv cl.holder, iv cl.asked, .bool cl.backed]) | 2 => pm (fun b : Nat => .map (some b)) (fun b => [mapE b duesKV]) (fun _ => True) | 3 => pm (fun b : Nat => .map (some b)) (fun b => [mapE b effAll]) (fun _ => True) | _ => fun _ _ => False) Z Y kr kr ?_ ?_
 ·intro i hi
  match i, hi with
  | 0, _ => exact fun w Y => OpV.g (ai (Y.g 1 rfl) rfl (isAgg29 _) (sizeOf29 _))
  | 1, _ => exact fun w Y => OpV.g (ai (Y.g 0 rfl) rfl (isAgg31 _) (sizeOf31 _))
  | 2, _ => exact fun w Y => hZ call59 rfl (qi _)
  | 3, _ => exact fun w Y => hZ call60 rfl (mD _)
 rintro _ _ ⟨rfl, rfl⟩ _ _ ⟨rfl, rfl⟩ _ _ ⟨b_d, rfl, -, rfl⟩ _ _ ⟨b_e, rfl, -, rfl⟩ a w4 Z Y
 replace Z := Z.p16 13 14 15 16 0 1 2 3 4 6 7 8 9 10 11 12 rfl
 replace Y : St No w0 [_, _, _, _] w4 := Y
 refine wlv Z (aY (v := .agg #[iv rl.answer, iv rl.cooling, iv rl.settle, iv rl.reverse, iv cl.number, iv cl.frm, iv cl.to, iv cl.holder, iv cl.asked, .bool cl.backed, .map (some b_d), .map (some b_e), .slice none 0 0]) rfl kr) fun a Z => aG Z Y de rfl (cs := [iv rl.answer, iv rl.cooling, iv rl.settle, iv rl.reverse, iv cl.number, iv cl.frm, iv cl.to, iv cl.holder, iv cl.asked, .bool cl.backed, .map (some b_d), .map (some b_e), .slice none 0 0]) rfl fun a w5 Z Y => wla Z rfl fun a Z => wla Z rfl fun a Z => ab <| hK4 _ _ ?_
 replace Z := Z.p12 0 1 2 3 4 8 9 10 11 12 6 7 rfl
 refine ap ?_
 refine aj Z results43 (ae rfl (ae rfl ag)) ?_
 exact ⟨⟨w4.hz, b_d, b_e⟩, rfl, trivial, Y.ext, St.out (E := lJ ⟨w4.hz, b_d, b_e⟩ rl cl (.slice none 0 0)) (H := [blk w1.hz [iv cl.number, iv cl.frm, iv cl.to, iv cl.holder, iv cl.asked, .bool cl.backed] 31, blk w0.hz [iv rl.answer, iv rl.cooling, iv rl.settle, iv rl.reverse] 29]) Y⟩
theorem ej {w0 w : World} {H : List Ent} {b : Nat} {kvs : List (Value × Value)} (Y : St No w0 H w) (h : (mapE b kvs).ok w0) : (mapE b kvs).ok w :=
 Y.keep h fun k hk => by obtain ⟨es, cl, h1, _⟩ := h; cases hk; exact (Array.getElem?_eq_some_iff.1 h1).1
theorem pF (rl : Rul) (cl : Clm) (x : Mach) (v : Value) (since : Int) (w0 : World) (hm : (dX x rl cl v).ok w0) (hd : (mapE x.dm duesKV).ok w0) (hr : aW rl = true) (h0 : 0 ≤ since) (h1 : since ≤ 30000000) :
  Ret Tryz.prog 62 #[pt x.bm, iv 1, iv since] w0 fun v w => v = (begins rl 1 since).val ∧ Ext No w0 w := by
 have hr := ck hr
 refine aD func62 rfl ntmps62 (lb rfl) fun a Z => ?_
 replace Z := Z.p3 0 1 2 rfl
 have Y : St No w0 [] w0 := St.init w0
 refine aa fun K1 hK1 => aH Z Y de (zeroValue75 _) (cs := [iv 0, iv 0, iv 0]) rfl fun a w1 Z Y => ab (hK1 _ _ <| aa fun K2 hK2 => ?_)
 refine wlm Z rfl fun a Z => wlm Z rfl fun a Z => wlv Z (aY (v := .agg #[iv 1, iv since, iv (-1)]) rfl kr) fun a Z => aH Z Y de (zeroValue75 _) (cs := [iv 0, iv 0, iv 0]) rfl fun a w2 Z Y => am 0 Z Y rfl rfl rfl (sizeOf75 _) rfl (lb rfl) (ds := [iv 1, iv since, iv (-1)]) rfl rfl fun a w3 Z Y => ab (hK2 _ _ <| ah fun K3 hK3 => ?_)
 refine aa fun K4 hK4 => wlm Z rfl fun a Z => wlv Z (bf rfl) fun a Z => wlv Z (ac (v := po x.bm 10) rfl kr) fun a Z => wlv Z (bM (Y.keepb hm) rfl (isAgg103 _) rfl) fun a Z => wlm Z rfl fun a Z => wlv Z (dO rfl rfl (kL (ej Y hd))) fun a Z => wlm Z rfl fun a Z => wlv Z (aw rfl rfl) fun a Z => wlv Z (aw rfl rfl) fun a Z => aH Z Y de (zeroValue127 _) (cs := [.nilFunc, iv 0]) rfl fun a w4 Z Y => am 0 Z Y rfl rfl rfl (sizeOf127 _) rfl (lb rfl) (ds := [.func (.func 90) #[] #[], iv 3]) rfl rfl fun a w5 Z Y => ?_
 refine wla Z rfl fun a Z => ab (hK4 _ _ ?_)
 replace Z := Z.p10 0 1 2 6 10 11 12 7 8 9 rfl
 refine aa fun K5 hK5 => wlm Z rfl fun a Z => ab (hK5 _ _ <| aN Z rfl ?_)
 refine aK kr ?_
 replace Z := Z.p11 0 1 2 6 10 11 12 7 8 9 22 rfl
 refine aM 9 [[], [], [1], [], [3], [4], [5], [2, 6], [0, 7]] (fun i => match i with | 0 => pv (iv since) | 1 => pv (pt w3.hz) | 2 => pv (.func (.func 90) #[] #[]) | 3 => pv (pt x.bm) | 4 => pv (pt x.bm) | 5 => pv (pt x.bm) | 6 => pv (.agg #[iv rl.answer, iv rl.cooling, iv rl.settle, iv rl.reverse]) | 7 => pv (iv rl.answer) | 8 => pv (iv (since + rl.answer)) | _ => fun _ _ => False) Z Y kr kr ?_ ?_
 ·intro i hi
  match i, hi with
  | 0, _ => exact fun w Y => OpV.g (ak rfl)
  | 1, _ => exact fun w Y => OpV.g (ac (v := pt w3.hz) rfl kr)
  | 2, _ =>
   rintro _ _ ⟨rfl, rfl⟩
   intro w Y
   exact OpV.g (ld Y 0 rfl rfl (isAgg125 _) rfl)
  | 3, _ => exact fun w Y => OpV.g (ak rfl)
  | 4, _ =>
   rintro _ _ ⟨rfl, rfl⟩
   intro w Y
   exact OpV.g (bf rfl)
  | 5, _ =>
   rintro _ _ ⟨rfl, rfl⟩
   intro w Y
   exact OpV.g (ac (v := pt x.bm) rfl kr)
  | 6, _ =>
   rintro _ _ ⟨rfl, rfl⟩
   intro w Y
   exact OpV.g (bJ (ds := [iv rl.answer, iv rl.cooling, iv rl.settle, iv rl.reverse]) (Y.keepb hm) rfl (isAgg96 _) (sizeOf96 _) rfl)
  | 7, _ =>
   rintro _ _ ⟨rfl, rfl⟩ _ _ ⟨rfl, rfl⟩
   intro w Y
   exact gb rfl call90 rfl (ij _ _ _ _ _)
  | 8, _ =>
   rintro _ _ ⟨rfl, rfl⟩ _ _ ⟨rfl, rfl⟩
   intro w Y
   exact OpV.g (aS rfl rfl ⟨om, om⟩)
 rintro _ _ ⟨rfl, rfl⟩ _ _ ⟨rfl, rfl⟩ _ _ ⟨rfl, rfl⟩ _ _ ⟨rfl, rfl⟩ _ _ ⟨rfl, rfl⟩ _ _ ⟨rfl, rfl⟩ _ _ ⟨rfl, rfl⟩ _ _ ⟨rfl, rfl⟩ _ _ ⟨rfl, rfl⟩ a w6 Z Y
 have Z : Fr 34 [(23, _), (24, _), (25, _), (26, _), (27, _), (28, _), (29, _), (30, _), (31, _), (0, _), (1, _), (2, _), (6, _), (10, _), (11, _), (12, _), (7, _), (8, _), (9, _), (22, _)] [] a := Z
 replace Y : St No w0 [_, _, _] w6 := Y
 refine wlv Z (ac (v := po w1.hz 2) rfl kr) fun a Z => am 1 Z Y rfl rfl rfl (sizeOf3 _) rfl (lb rfl) (ds := [iv 1, iv since, iv (since + rl.answer)]) rfl rfl fun a w7 Z Y => ab <| hK3 _ _ ?_
 replace Z := Z.p11 0 1 2 6 10 11 12 7 8 9 22 rfl
 refine aa fun K6 hK6 => wlv Z (ai (Y.g 1 rfl) rfl (isAgg75 _) (sizeOf75 _)) fun a Z => am 2 Z Y rfl rfl rfl (sizeOf75 _) rfl (lb rfl) (ds := [iv 1, iv since, iv (since + rl.answer)]) rfl rfl fun a w8 Z Y => ab (hK6 _ _ <| ap ?_)
 refine aj Z results62 (aB rfl (bB (Y.g 2 rfl) (isAgg75 _) (sizeOf75 _)) ag) ?_
 exact ⟨by rfl, Y.ext⟩
theorem o4 (rl : Rul) (cl : Clm) (x : Mach) (v : Value) (since : Int) (w0 : World) (hm : (dX x rl cl v).ok w0) (hd : (mapE x.dm duesKV).ok w0) (hr : aW rl = true) (h0 : 0 ≤ since) (h1 : since ≤ 30000000) :
  Ret Tryz.prog 62 #[pt x.bm, iv 2, iv since] w0 fun v w => v = (begins rl 2 since).val ∧ Ext No w0 w := by
 have hr := ck hr
 refine aD func62 rfl ntmps62 (lb rfl) fun a Z => ?_
 replace Z := Z.p3 0 1 2 rfl
 have Y : St No w0 [] w0 := St.init w0
 refine aa fun K1 hK1 => aH Z Y de (zeroValue75 _) (cs := [iv 0, iv 0, iv 0]) rfl fun a w1 Z Y => ab (hK1 _ _ <| aa fun K2 hK2 => ?_)
 refine wlm Z rfl fun a Z => wlm Z rfl fun a Z => wlv Z (aY (v := .agg #[iv 2, iv since, iv (-1)]) rfl kr) fun a Z => aH Z Y de (zeroValue75 _) (cs := [iv 0, iv 0, iv 0]) rfl fun a w2 Z Y => am 0 Z Y rfl rfl rfl (sizeOf75 _) rfl (lb rfl) (ds := [iv 2, iv since, iv (-1)]) rfl rfl fun a w3 Z Y => ab (hK2 _ _ <| ah fun K3 hK3 => ?_)
 refine aa fun K4 hK4 => wlm Z rfl fun a Z => wlv Z (bf rfl) fun a Z => wlv Z (ac (v := po x.bm 10) rfl kr) fun a Z => wlv Z (bM (Y.keepb hm) rfl (isAgg103 _) rfl) fun a Z => wlm Z rfl fun a Z => wlv Z (dO rfl rfl (li (ej Y hd))) fun a Z => wlm Z rfl fun a Z => wlv Z (aw rfl rfl) fun a Z => wlv Z (aw rfl rfl) fun a Z => aH Z Y de (zeroValue127 _) (cs := [.nilFunc, iv 0]) rfl fun a w4 Z Y => am 0 Z Y rfl rfl rfl (sizeOf127 _) rfl (lb rfl) (ds := [.func (.func 91) #[] #[], iv 3]) rfl rfl fun a w5 Z Y => ?_
 refine wla Z rfl fun a Z => ab (hK4 _ _ ?_)
 replace Z := Z.p10 0 1 2 6 10 11 12 7 8 9 rfl
 refine aa fun K5 hK5 => wlm Z rfl fun a Z => ab (hK5 _ _ <| aN Z rfl ?_)
 refine aK kr ?_
 replace Z := Z.p11 0 1 2 6 10 11 12 7 8 9 22 rfl
 refine aM 9 [[], [], [1], [], [3], [4], [5], [2, 6], [0, 7]] (fun i => match i with | 0 => pv (iv since) | 1 => pv (pt w3.hz) | 2 => pv (.func (.func 91) #[] #[]) | 3 => pv (pt x.bm) | 4 => pv (pt x.bm) | 5 => pv (pt x.bm) | 6 => pv (.agg #[iv rl.answer, iv rl.cooling, iv rl.settle, iv rl.reverse]) | 7 => pv (iv rl.settle) | 8 => pv (iv (since + rl.settle)) | _ => fun _ _ => False) Z Y kr kr ?_ ?_
 ·intro i hi
  match i, hi with
  | 0, _ => exact fun w Y => OpV.g (ak rfl)
  | 1, _ => exact fun w Y => OpV.g (ac (v := pt w3.hz) rfl kr)
  | 2, _ =>
   rintro _ _ ⟨rfl, rfl⟩
   intro w Y
   exact OpV.g (ld Y 0 rfl rfl (isAgg125 _) rfl)
  | 3, _ => exact fun w Y => OpV.g (ak rfl)
  | 4, _ =>
   rintro _ _ ⟨rfl, rfl⟩
   intro w Y
   exact OpV.g (bf rfl)
  | 5, _ =>
   rintro _ _ ⟨rfl, rfl⟩
   intro w Y
   exact OpV.g (ac (v := pt x.bm) rfl kr)
  | 6, _ =>
   rintro _ _ ⟨rfl, rfl⟩
   intro w Y
   exact OpV.g (bJ (ds := [iv rl.answer, iv rl.cooling, iv rl.settle, iv rl.reverse]) (Y.keepb hm) rfl (isAgg96 _) (sizeOf96 _) rfl)
  | 7, _ =>
   rintro _ _ ⟨rfl, rfl⟩ _ _ ⟨rfl, rfl⟩
   intro w Y
   exact gb rfl call91 rfl (ir _ _ _ _ _)
  | 8, _ =>
   rintro _ _ ⟨rfl, rfl⟩ _ _ ⟨rfl, rfl⟩
   intro w Y
   exact OpV.g (aS rfl rfl ⟨om, om⟩)
 rintro _ _ ⟨rfl, rfl⟩ _ _ ⟨rfl, rfl⟩ _ _ ⟨rfl, rfl⟩ _ _ ⟨rfl, rfl⟩ _ _ ⟨rfl, rfl⟩ _ _ ⟨rfl, rfl⟩ _ _ ⟨rfl, rfl⟩ _ _ ⟨rfl, rfl⟩ _ _ ⟨rfl, rfl⟩ a w6 Z Y
 have Z : Fr 34 [(23, _), (24, _), (25, _), (26, _), (27, _), (28, _), (29, _), (30, _), (31, _), (0, _), (1, _), (2, _), (6, _), (10, _), (11, _), (12, _), (7, _), (8, _), (9, _), (22, _)] [] a := Z
 replace Y : St No w0 [_, _, _] w6 := Y
 refine wlv Z (ac (v := po w1.hz 2) rfl kr) fun a Z => am 1 Z Y rfl rfl rfl (sizeOf3 _) rfl (lb rfl) (ds := [iv 2, iv since, iv (since + rl.settle)]) rfl rfl fun a w7 Z Y => ab <| hK3 _ _ ?_
 replace Z := Z.p11 0 1 2 6 10 11 12 7 8 9 22 rfl
 refine aa fun K6 hK6 => wlv Z (ai (Y.g 1 rfl) rfl (isAgg75 _) (sizeOf75 _)) fun a Z => am 2 Z Y rfl rfl rfl (sizeOf75 _) rfl (lb rfl) (ds := [iv 2, iv since, iv (since + rl.settle)]) rfl rfl fun a w8 Z Y => ab (hK6 _ _ <| ap ?_)
 refine aj Z results62 (aB rfl (bB (Y.g 2 rfl) (isAgg75 _) (sizeOf75 _)) ag) ?_
 exact ⟨by rfl, Y.ext⟩
theorem oh (rl : Rul) (cl : Clm) (x : Mach) (v : Value) (since : Int) (w0 : World) (hm : (dX x rl cl v).ok w0) (hd : (mapE x.dm duesKV).ok w0) (hr : aW rl = true) (h0 : 0 ≤ since) (h1 : since ≤ 30000000) :
  Ret Tryz.prog 62 #[pt x.bm, iv 3, iv since] w0 fun v w => v = (begins rl 3 since).val ∧ Ext No w0 w := by
 have hr := ck hr
 refine aD func62 rfl ntmps62 (lb rfl) fun a Z => ?_
 replace Z := Z.p3 0 1 2 rfl
 have Y : St No w0 [] w0 := St.init w0
 refine aa fun K1 hK1 => aH Z Y de (zeroValue75 _) (cs := [iv 0, iv 0, iv 0]) rfl fun a w1 Z Y => ab (hK1 _ _ <| aa fun K2 hK2 => ?_)
 refine wlm Z rfl fun a Z => wlm Z rfl fun a Z => wlv Z (aY (v := .agg #[iv 3, iv since, iv (-1)]) rfl kr) fun a Z => aH Z Y de (zeroValue75 _) (cs := [iv 0, iv 0, iv 0]) rfl fun a w2 Z Y => am 0 Z Y rfl rfl rfl (sizeOf75 _) rfl (lb rfl) (ds := [iv 3, iv since, iv (-1)]) rfl rfl fun a w3 Z Y => ab (hK2 _ _ <| ah fun K3 hK3 => ?_)
 refine aa fun K4 hK4 => wlm Z rfl fun a Z => wlv Z (bf rfl) fun a Z => wlv Z (ac (v := po x.bm 10) rfl kr) fun a Z => wlv Z (bM (Y.keepb hm) rfl (isAgg103 _) rfl) fun a Z => wlm Z rfl fun a Z => wlv Z (dO rfl rfl (lr (ej Y hd))) fun a Z => wlm Z rfl fun a Z => wlv Z (aw rfl rfl) fun a Z => wlv Z (aw rfl rfl) fun a Z => aH Z Y de (zeroValue127 _) (cs := [.nilFunc, iv 0]) rfl fun a w4 Z Y => am 0 Z Y rfl rfl rfl (sizeOf127 _) rfl (lb rfl) (ds := [.func (.func 92) #[] #[], iv 4]) rfl rfl fun a w5 Z Y => ?_
 refine wla Z rfl fun a Z => ab (hK4 _ _ ?_)
 replace Z := Z.p10 0 1 2 6 10 11 12 7 8 9 rfl
 refine aa fun K5 hK5 => wlm Z rfl fun a Z => ab (hK5 _ _ <| aN Z rfl ?_)
 refine aK kr ?_
 replace Z := Z.p11 0 1 2 6 10 11 12 7 8 9 22 rfl
 refine aM 9 [[], [], [1], [], [3], [4], [5], [2, 6], [0, 7]] (fun i => match i with | 0 => pv (iv since) | 1 => pv (pt w3.hz) | 2 => pv (.func (.func 92) #[] #[]) | 3 => pv (pt x.bm) | 4 => pv (pt x.bm) | 5 => pv (pt x.bm) | 6 => pv (.agg #[iv rl.answer, iv rl.cooling, iv rl.settle, iv rl.reverse]) | 7 => pv (iv rl.cooling) | 8 => pv (iv (since + rl.cooling)) | _ => fun _ _ => False) Z Y kr kr ?_ ?_
 ·intro i hi
  match i, hi with
  | 0, _ => exact fun w Y => OpV.g (ak rfl)
  | 1, _ => exact fun w Y => OpV.g (ac (v := pt w3.hz) rfl kr)
  | 2, _ =>
   rintro _ _ ⟨rfl, rfl⟩
   intro w Y
   exact OpV.g (ld Y 0 rfl rfl (isAgg125 _) rfl)
  | 3, _ => exact fun w Y => OpV.g (ak rfl)
  | 4, _ =>
   rintro _ _ ⟨rfl, rfl⟩
   intro w Y
   exact OpV.g (bf rfl)
  | 5, _ =>
   rintro _ _ ⟨rfl, rfl⟩
   intro w Y
   exact OpV.g (ac (v := pt x.bm) rfl kr)
  | 6, _ =>
   rintro _ _ ⟨rfl, rfl⟩
   intro w Y
   exact OpV.g (bJ (ds := [iv rl.answer, iv rl.cooling, iv rl.settle, iv rl.reverse]) (Y.keepb hm) rfl (isAgg96 _) (sizeOf96 _) rfl)
  | 7, _ =>
   rintro _ _ ⟨rfl, rfl⟩ _ _ ⟨rfl, rfl⟩
   intro w Y
   exact gb rfl call92 rfl (gT _ _ _ _ _)
  | 8, _ =>
   rintro _ _ ⟨rfl, rfl⟩ _ _ ⟨rfl, rfl⟩
   intro w Y
   exact OpV.g (aS rfl rfl ⟨om, om⟩)
 rintro _ _ ⟨rfl, rfl⟩ _ _ ⟨rfl, rfl⟩ _ _ ⟨rfl, rfl⟩ _ _ ⟨rfl, rfl⟩ _ _ ⟨rfl, rfl⟩ _ _ ⟨rfl, rfl⟩ _ _ ⟨rfl, rfl⟩ _ _ ⟨rfl, rfl⟩ _ _ ⟨rfl, rfl⟩ a w6 Z Y
 have Z : Fr 34 [(23, _), (24, _), (25, _), (26, _), (27, _), (28, _), (29, _), (30, _), (31, _), (0, _), (1, _), (2, _), (6, _), (10, _), (11, _), (12, _), (7, _), (8, _), (9, _), (22, _)] [] a := Z
 replace Y : St No w0 [_, _, _] w6 := Y
 refine wlv Z (ac (v := po w1.hz 2) rfl kr) fun a Z => am 1 Z Y rfl rfl rfl (sizeOf3 _) rfl (lb rfl) (ds := [iv 3, iv since, iv (since + rl.cooling)]) rfl rfl fun a w7 Z Y => ab <| hK3 _ _ ?_
 replace Z := Z.p11 0 1 2 6 10 11 12 7 8 9 22 rfl
 refine aa fun K6 hK6 => wlv Z (ai (Y.g 1 rfl) rfl (isAgg75 _) (sizeOf75 _)) fun a Z => am 2 Z Y rfl rfl rfl (sizeOf75 _) rfl (lb rfl) (ds := [iv 3, iv since, iv (since + rl.cooling)]) rfl rfl fun a w8 Z Y => ab (hK6 _ _ <| ap ?_)
 refine aj Z results62 (aB rfl (bB (Y.g 2 rfl) (isAgg75 _) (sizeOf75 _)) ag) ?_
 exact ⟨by rfl, Y.ext⟩
theorem ot (rl : Rul) (cl : Clm) (x : Mach) (v : Value) (since : Int) (w0 : World) (hm : (dX x rl cl v).ok w0) (hd : (mapE x.dm duesKV).ok w0) (hr : aW rl = true) (h0 : 0 ≤ since) (h1 : since ≤ 30000000) :
  Ret Tryz.prog 62 #[pt x.bm, iv 4, iv since] w0 fun v w => v = (begins rl 4 since).val ∧ Ext No w0 w := by
 have hr := ck hr
 refine aD func62 rfl ntmps62 (lb rfl) fun a Z => ?_
 replace Z := Z.p3 0 1 2 rfl
 have Y : St No w0 [] w0 := St.init w0
 refine aa fun K1 hK1 => aH Z Y de (zeroValue75 _) (cs := [iv 0, iv 0, iv 0]) rfl fun a w1 Z Y => ab (hK1 _ _ <| aa fun K2 hK2 => ?_)
 refine wlm Z rfl fun a Z => wlm Z rfl fun a Z => wlv Z (aY (v := .agg #[iv 4, iv since, iv (-1)]) rfl kr) fun a Z => aH Z Y de (zeroValue75 _) (cs := [iv 0, iv 0, iv 0]) rfl fun a w2 Z Y => am 0 Z Y rfl rfl rfl (sizeOf75 _) rfl (lb rfl) (ds := [iv 4, iv since, iv (-1)]) rfl rfl fun a w3 Z Y => ab (hK2 _ _ <| ah fun K3 hK3 => ?_)
 refine aa fun K4 hK4 => wlm Z rfl fun a Z => wlv Z (bf rfl) fun a Z => wlv Z (ac (v := po x.bm 10) rfl kr) fun a Z => wlv Z (bM (Y.keepb hm) rfl (isAgg103 _) rfl) fun a Z => wlm Z rfl fun a Z => wlv Z (dO rfl rfl (kZ (ej Y hd))) fun a Z => wlm Z rfl fun a Z => wlv Z (aw rfl rfl) fun a Z => wlv Z (aw rfl rfl) fun a Z => aH Z Y de (zeroValue127 _) (cs := [.nilFunc, iv 0]) rfl fun a w4 Z Y => am 0 Z Y rfl rfl rfl (sizeOf127 _) rfl (lb rfl) (ds := [.func (.func 93) #[] #[], iv 5]) rfl rfl fun a w5 Z Y => ?_
 refine wla Z rfl fun a Z => ab (hK4 _ _ ?_)
 replace Z := Z.p10 0 1 2 6 10 11 12 7 8 9 rfl
 refine aa fun K5 hK5 => wlm Z rfl fun a Z => ab (hK5 _ _ <| aN Z rfl ?_)
 refine aK kr ?_
 replace Z := Z.p11 0 1 2 6 10 11 12 7 8 9 22 rfl
 refine aM 9 [[], [], [1], [], [3], [4], [5], [2, 6], [0, 7]] (fun i => match i with | 0 => pv (iv since) | 1 => pv (pt w3.hz) | 2 => pv (.func (.func 93) #[] #[]) | 3 => pv (pt x.bm) | 4 => pv (pt x.bm) | 5 => pv (pt x.bm) | 6 => pv (.agg #[iv rl.answer, iv rl.cooling, iv rl.settle, iv rl.reverse]) | 7 => pv (iv rl.reverse) | 8 => pv (iv (since + rl.reverse)) | _ => fun _ _ => False) Z Y kr kr ?_ ?_
 ·intro i hi
  match i, hi with
  | 0, _ => exact fun w Y => OpV.g (ak rfl)
  | 1, _ => exact fun w Y => OpV.g (ac (v := pt w3.hz) rfl kr)
  | 2, _ =>
   rintro _ _ ⟨rfl, rfl⟩
   intro w Y
   exact OpV.g (ld Y 0 rfl rfl (isAgg125 _) rfl)
  | 3, _ => exact fun w Y => OpV.g (ak rfl)
  | 4, _ =>
   rintro _ _ ⟨rfl, rfl⟩
   intro w Y
   exact OpV.g (bf rfl)
  | 5, _ =>
   rintro _ _ ⟨rfl, rfl⟩
   intro w Y
   exact OpV.g (ac (v := pt x.bm) rfl kr)
  | 6, _ =>
   rintro _ _ ⟨rfl, rfl⟩
   intro w Y
   exact OpV.g (bJ (ds := [iv rl.answer, iv rl.cooling, iv rl.settle, iv rl.reverse]) (Y.keepb hm) rfl (isAgg96 _) (sizeOf96 _) rfl)
  | 7, _ =>
   rintro _ _ ⟨rfl, rfl⟩ _ _ ⟨rfl, rfl⟩
   intro w Y
   exact gb rfl call93 rfl (gR _ _ _ _ _)
  | 8, _ =>
   rintro _ _ ⟨rfl, rfl⟩ _ _ ⟨rfl, rfl⟩
   intro w Y
   exact OpV.g (aS rfl rfl ⟨om, om⟩)
 rintro _ _ ⟨rfl, rfl⟩ _ _ ⟨rfl, rfl⟩ _ _ ⟨rfl, rfl⟩ _ _ ⟨rfl, rfl⟩ _ _ ⟨rfl, rfl⟩ _ _ ⟨rfl, rfl⟩ _ _ ⟨rfl, rfl⟩ _ _ ⟨rfl, rfl⟩ _ _ ⟨rfl, rfl⟩ a w6 Z Y
 have Z : Fr 34 [(23, _), (24, _), (25, _), (26, _), (27, _), (28, _), (29, _), (30, _), (31, _), (0, _), (1, _), (2, _), (6, _), (10, _), (11, _), (12, _), (7, _), (8, _), (9, _), (22, _)] [] a := Z
 replace Y : St No w0 [_, _, _] w6 := Y
 refine wlv Z (ac (v := po w1.hz 2) rfl kr) fun a Z => am 1 Z Y rfl rfl rfl (sizeOf3 _) rfl (lb rfl) (ds := [iv 4, iv since, iv (since + rl.reverse)]) rfl rfl fun a w7 Z Y => ab <| hK3 _ _ ?_
 replace Z := Z.p11 0 1 2 6 10 11 12 7 8 9 22 rfl
 refine aa fun K6 hK6 => wlv Z (ai (Y.g 1 rfl) rfl (isAgg75 _) (sizeOf75 _)) fun a Z => am 2 Z Y rfl rfl rfl (sizeOf75 _) rfl (lb rfl) (ds := [iv 4, iv since, iv (since + rl.reverse)]) rfl rfl fun a w8 Z Y => ab (hK6 _ _ <| ap ?_)
 refine aj Z results62 (aB rfl (bB (Y.g 2 rfl) (isAgg75 _) (sizeOf75 _)) ag) ?_
 exact ⟨by rfl, Y.ext⟩
theorem nf (s : Int) (hn : dueSec ⟨0, 0, 0, 0⟩ s = none) (rl : Rul) (cl : Clm) (x : Mach) (v : Value) (since : Int) (w0 : World) (hm : (dX x rl cl v).ok w0) (hd : (mapE x.dm duesKV).ok w0) (hr : aW rl = true) (h0 : 0 ≤ since) (h1 : since ≤ 30000000) :
  Ret Tryz.prog 62 #[pt x.bm, iv s, iv since] w0 fun v w => v = .agg #[iv s, iv since, iv (-1)] ∧ Ext No w0 w := by
 refine aD func62 rfl ntmps62 (lb rfl) fun a Z => ?_
 replace Z := Z.p3 0 1 2 rfl
 have Y : St No w0 [] w0 := St.init w0
 refine aa fun K1 hK1 => aH Z Y de (zeroValue75 _) (cs := [iv 0, iv 0, iv 0]) rfl fun a w1 Z Y => ab (hK1 _ _ <| aa fun K2 hK2 => ?_)
 refine wlm Z rfl fun a Z => wlm Z rfl fun a Z => wlv Z (aY (v := .agg #[iv s, iv since, iv (-1)]) rfl kr) fun a Z => aH Z Y de (zeroValue75 _) (cs := [iv 0, iv 0, iv 0]) rfl fun a w2 Z Y => am 0 Z Y rfl rfl rfl (sizeOf75 _) rfl (lb rfl) (ds := [iv s, iv since, iv (-1)]) rfl rfl fun a w3 Z Y => ab (hK2 _ _ <| ah fun K3 hK3 => ?_)
 refine aa fun K4 hK4 => wlm Z rfl fun a Z => wlv Z (bf rfl) fun a Z => wlv Z (ac (v := po x.bm 10) rfl kr) fun a Z => wlv Z (bM (Y.keepb hm) rfl (isAgg103 _) rfl) fun a Z => wlm Z rfl fun a Z => wlv Z (dO rfl rfl (ke (ej Y hd) hn)) fun a Z => wlm Z rfl fun a Z => wlv Z (aw rfl rfl) fun a Z => wlv Z (aw rfl rfl) fun a Z => aH Z Y de (zeroValue127 _) (cs := [.nilFunc, iv 0]) rfl fun a w4 Z Y => am 0 Z Y rfl rfl rfl (sizeOf127 _) rfl (lb rfl) (ds := [.nilFunc, iv 0]) rfl rfl fun a w5 Z Y => ?_
 refine wla Z rfl fun a Z => ab (hK4 _ _ ?_)
 replace Z := Z.p10 0 1 2 6 10 11 12 7 8 9 rfl
 refine aa fun K5 hK5 => wlm Z rfl fun a Z => ab (hK5 _ _ <| bC Z rfl ?_)
 refine az <| hK3 _ _ <| aa fun K6 hK6 => wlv Z (ai (Y.g 1 rfl) rfl (isAgg75 _) (sizeOf75 _)) fun a Z => am 2 Z Y rfl rfl rfl (sizeOf75 _) rfl (lb rfl) (ds := [iv s, iv since, iv (-1)]) rfl rfl fun a w6 Z Y => ab (hK6 _ _ <| ap ?_)
 refine aj Z results62 (aB rfl (bB (Y.g 2 rfl) (isAgg75 _) (sizeOf75 _)) ag) ?_
 exact ⟨by rfl, Y.ext⟩
theorem gv (s : Int) (rl : Rul) (cl : Clm) (x : Mach) (v : Value) (since : Int) (w0 : World) (hm : (dX x rl cl v).ok w0) (hd : (mapE x.dm duesKV).ok w0) (hr : aW rl = true) (h0 : 0 ≤ since) (h1 : since ≤ 30000000) : Ret Tryz.prog 62 #[pt x.bm, iv s, iv since] w0 fun v w => v = (begins rl s since).val ∧ Ext No w0 w := by
 by_cases h : s = 1
 ·subst h; exact pF rl cl x v since w0 hm hd hr h0 h1
 by_cases h : s = 2
 ·subst h; exact o4 rl cl x v since w0 hm hd hr h0 h1
 by_cases h : s = 3
 ·subst h; exact oh rl cl x v since w0 hm hd hr h0 h1
 by_cases h : s = 4
 ·subst h; exact ot rl cl x v since w0 hm hd hr h0 h1
 have hv : (begins rl s since).val = .agg #[iv s, iv since, iv (-1)] := by simp [begins, dueSec, Stt.val, *]
 rw [hv]
 exact nf s (by simp [dueSec, *]) rl cl x v since w0 hm hd hr h0 h1
theorem oq (s : Int) (ev : Evt) (rl : Rul) (cl : Clm) (x : Mach) (v : Value) (w0 : World) (hm : (dX x rl cl v).ok w0) (he : (mapE x.em effAll).ok w0) :
  Ret Tryz.prog 64 #[pt x.bm, iv s, .agg #[iv ev.kind, iv ev.at_, iv ev.reason]] w0 fun v w => v = .tuple #[iv (after cl.backed s ev).1, .bool (after cl.backed s ev).2] ∧ Ext No w0 w := by
 refine aD func64 rfl ntmps64 (lb rfl) fun a Z => ?_
 replace Z := Z.p3 0 1 2 rfl
 have Y : St No w0 [] w0 := St.init w0
 refine aa fun K1 hK1 => aG Z Y de rfl (cs := [iv ev.kind, iv ev.at_, iv ev.reason]) rfl fun a w1 Z Y => wla Z rfl fun a Z => wla Z rfl fun a Z => ab (hK1 _ _ <| ah fun K2 hK2 => ?_)
 refine aK kr ?_
 replace Z := Z.p6 0 1 2 5 6 7 rfl
 refine aM 13 [[], [0], [1], [2], [], [4], [], [5, 6], [3, 7], [8], [9], [9], [10]] (fun i => match i with | 0 => pv (pt x.bm) | 1 => pv (pt x.bm) | 2 => pv (po x.bm 11) | 3 => pv (.map (some x.em)) | 4 => pv (pt w0.hz) | 5 => pv (iv ev.kind) | 6 => pv (iv s) | 7 => pv (.agg #[iv ev.kind, iv s]) | 8 => pv (.tuple #[iv ((effect ev.kind s).getD 0), .bool ((effect ev.kind s).isSome)]) | 9 => pv (.tuple #[iv ((effect ev.kind s).getD 0), .bool ((effect ev.kind s).isSome)]) | 10 => pv (iv ((effect ev.kind s).getD 0)) | 11 => pv (.bool ((effect ev.kind s).isSome)) | 12 => pv (iv ((effect ev.kind s).getD 0)) | _ => fun _ _ => False) Z Y kr kr ?_ ?_
 ·intro i hi
  match i, hi with
  | 0, _ => exact fun w Y => OpV.g (ak rfl)
  | 1, _ =>
   rintro _ _ ⟨rfl, rfl⟩
   intro w Y
   exact OpV.g (bf rfl)
  | 2, _ =>
   rintro _ _ ⟨rfl, rfl⟩
   intro w Y
   exact OpV.g (ac (v := po x.bm 11) rfl kr)
  | 3, _ =>
   rintro _ _ ⟨rfl, rfl⟩
   intro w Y
   exact OpV.g (bM (Y.keepb hm) rfl (isAgg104 _) rfl)
  | 4, _ => exact fun w Y => OpV.g (ac (v := pt w0.hz) rfl kr)
  | 5, _ =>
   rintro _ _ ⟨rfl, rfl⟩
   intro w Y
   exact OpV.g (ld Y 0 rfl rfl (isAgg3 _) rfl)
  | 6, _ => exact fun w Y => OpV.g (ak rfl)
  | 7, _ =>
   rintro _ _ ⟨rfl, rfl⟩ _ _ ⟨rfl, rfl⟩
   intro w Y
   exact OpV.g (aY (v := .agg #[iv ev.kind, iv s]) rfl kr)
  | 8, _ =>
   rintro _ _ ⟨rfl, rfl⟩ _ _ ⟨rfl, rfl⟩
   intro w Y
   exact OpV.g (dO rfl rfl (pk (ej Y he)))
  | 9, _ =>
   rintro _ _ ⟨rfl, rfl⟩
   intro w Y
   exact OpV.g (ak rfl)
  | 10, _ =>
   rintro _ _ ⟨rfl, rfl⟩
   intro w Y
   exact OpV.g (aw rfl rfl)
  | 11, _ =>
   rintro _ _ ⟨rfl, rfl⟩
   intro w Y
   exact OpV.g (aw rfl rfl)
  | 12, _ =>
   rintro _ _ ⟨rfl, rfl⟩
   intro w Y
   exact OpV.g (cH rfl)
  | i + 13, h => exact absurd h om
 rintro _ _ ⟨rfl, rfl⟩ _ _ ⟨rfl, rfl⟩ _ _ ⟨rfl, rfl⟩ _ _ ⟨rfl, rfl⟩ _ _ ⟨rfl, rfl⟩ _ _ ⟨rfl, rfl⟩ _ _ ⟨rfl, rfl⟩ _ _ ⟨rfl, rfl⟩ _ _ ⟨rfl, rfl⟩ _ _ ⟨rfl, rfl⟩ _ _ ⟨rfl, rfl⟩ _ _ ⟨rfl, rfl⟩ _ _ ⟨rfl, rfl⟩ a w2 Z Y
 have Z : Fr 39 [(11, _), (12, _), (13, _), (14, _), (15, _), (16, _), (17, _), (18, _), (19, _), (10, _), (20, _), (21, _), (8, _), (0, _), (1, _), (2, _), (5, _), (6, _), (7, _)] [] a := Z
 replace Y : St No w0 [_] w2 := Y
 refine wla Z rfl fun a Z => ab <| hK2 _ _ ?_
 replace Z := Z.p8 0 1 2 5 6 7 8 9 rfl
 refine ah fun K3 hK3 => aa fun K4 hK4 => wlv Z (ac (v := po w0.hz 2) rfl kr) fun a Z => wlv Z (ld Y 0 rfl rfl (isAgg3 _) rfl) fun a Z => wlv Z (v_eq rfl rfl) fun a Z => ab (hK4 _ _ ?_)
 refine ax Z rfl (fun hc1 => ?_) (fun hc1 => ?_)
 ·rw [hc1] at Z
  try simp only [qz] at hc1
  refine ah fun K5 hK5 => aa fun K6 hK6 => wlv Z (ac (v := pt w0.hz) rfl kr) fun a Z => wlv Z (ld Y 0 rfl rfl (isAgg3 _) rfl) fun a Z => wlv Z (v_eq rfl rfl) fun a Z => ab (hK6 _ _ ?_)
  refine ax Z rfl (fun hc2 => ?_) (fun hc2 => ?_)
  ·rw [hc2] at Z
   try simp only [qz] at hc2
   refine ar <| wla Z rfl fun a Z => ab <| hK5 _ _ <| ar <| wlm Z rfl fun a Z => wlm Z rfl fun a Z => ?_
   rcases Bool.eq_false_or_eq_true ((effect ev.kind s).isSome) with hb3 | hb3
   ·rw [hb3] at Z
    try simp only [qz] at hb3
    refine wly Z (ak rfl) fun a Z => wly Z (bf rfl) fun a Z => wly Z (ac (v := po x.bm 4) rfl kr) fun a Z => wly Z (ac (v := po x.bm 9) rfl kr) fun a Z => wly Z (bM (Y.keepb hm) rfl (isAgg4 _) rfl) fun a Z => wly Z (bu rfl) fun a Z => wlv Z (au rfl rfl) fun a Z => wla Z rfl fun a Z => ab <| hK3 _ _ ?_
    replace Z := Z.p14 0 1 2 5 6 7 22 23 24 25 26 27 8 9 rfl
    refine aa fun K7 hK7 => wlm Z rfl fun a Z => wlm Z rfl fun a Z => wla Z rfl fun a Z => wla Z rfl fun a Z => ab (hK7 _ _ <| ap ?_)
    refine aj Z results64 (ae rfl (ae rfl ag)) ?_
    exact ⟨by simp_all [retv, after], Y.ext⟩
   rw [hb3] at Z
   try simp only [qz] at hb3
   refine wln Z fun a Z => wln Z fun a Z => wln Z fun a Z => wln Z fun a Z => wln Z fun a Z => wln Z fun a Z => wlv Z (aq rfl rfl) fun a Z => wla Z rfl fun a Z => ab <| hK3 _ _ ?_
   replace Z := Z.p14 0 1 2 5 6 7 22 23 24 25 26 27 8 9 rfl
   refine aa fun K8 hK8 => wlm Z rfl fun a Z => wlm Z rfl fun a Z => wla Z rfl fun a Z => wla Z rfl fun a Z => ab (hK8 _ _ <| ap ?_)
   refine aj Z results64 (ae rfl (ae rfl ag)) ?_
   exact ⟨by simp_all [retv, after], Y.ext⟩
  rw [hc2] at Z
  try simp only [qz] at hc2
  refine az <| hK5 _ _ <| ar <| wlm Z rfl fun a Z => wlm Z rfl fun a Z => ?_
  rcases Bool.eq_false_or_eq_true ((effect ev.kind s).isSome) with hb4 | hb4
  ·rw [hb4] at Z
   try simp only [qz] at hb4
   refine wly Z (ak rfl) fun a Z => wly Z (bf rfl) fun a Z => wly Z (ac (v := po x.bm 4) rfl kr) fun a Z => wly Z (ac (v := po x.bm 9) rfl kr) fun a Z => wly Z (bM (Y.keepb hm) rfl (isAgg4 _) rfl) fun a Z => wly Z (bu rfl) fun a Z => wlv Z (au rfl rfl) fun a Z => wla Z rfl fun a Z => ab <| hK3 _ _ ?_
   replace Z := Z.p14 0 1 2 5 6 7 8 22 23 24 25 26 27 9 rfl
   refine aa fun K9 hK9 => wlm Z rfl fun a Z => wlm Z rfl fun a Z => wla Z rfl fun a Z => wla Z rfl fun a Z => ab (hK9 _ _ <| ap ?_)
   refine aj Z results64 (ae rfl (ae rfl ag)) ?_
   exact ⟨by simp_all [retv, after], Y.ext⟩
  rw [hb4] at Z
  try simp only [qz] at hb4
  refine wln Z fun a Z => wln Z fun a Z => wln Z fun a Z => wln Z fun a Z => wln Z fun a Z => wln Z fun a Z => wlv Z (aq rfl rfl) fun a Z => wla Z rfl fun a Z => ab <| hK3 _ _ ?_
  replace Z := Z.p14 0 1 2 5 6 7 8 22 23 24 25 26 27 9 rfl
  refine aa fun K10 hK10 => wlm Z rfl fun a Z => wlm Z rfl fun a Z => wla Z rfl fun a Z => wla Z rfl fun a Z => ab (hK10 _ _ <| ap ?_)
  refine aj Z results64 (ae rfl (ae rfl ag)) ?_
  exact ⟨by simp_all [retv, after], Y.ext⟩
 rw [hc1] at Z
 try simp only [qz] at hc1
 refine az <| hK3 _ _ <| aa fun K11 hK11 => wlm Z rfl fun a Z => wlm Z rfl fun a Z => wla Z rfl fun a Z => wla Z rfl fun a Z => ab (hK11 _ _ <| ap ?_)
 refine aj Z results64 (ae rfl (ae rfl ag)) ?_
 exact ⟨by simp_all [retv, after], Y.ext⟩
def encS (s : Stt) : List Value := [s.val]
def NxS (pre : List Stt) (x : Stt) : Prop := pre.length < 200
theorem lP {M : Nat → Prop} {w0 : World} {er : Ent} (rl : Rul) (cl : Clm) (x : Mach) (vd : Value) (lp bn by_ bp : Nat) (J Jx : List Stt → Ent → Prop) (hY : Rounds Tryz.prog M w0 lp encS NxS J Jx) (u : Int) (now0 : Stt) (pre : List Stt) (e0 : Ent) (ws : World)
  (hr : aW rl = true) (hso : Sound rl now0) (hJ : J pre e0) (hpl : pre.length + 4 < 200) (Y : St M w0 [e0, blk bn [iv now0.state, iv now0.since, iv now0.next] 75, blk by_ [.func (.yield lp) #[] #[]] 123, blk bp [pt x.bm] 97, blk x.bm [iv rl.answer, iv rl.cooling, iv rl.settle, iv rl.reverse, iv cl.number, iv cl.frm, iv cl.to, iv cl.holder, iv cl.asked, .bool cl.backed, .map (some x.dm), .map (some x.em), vd] 106, mapE x.dm duesKV, er] ws) :
  Ret Tryz.prog 63 #[iv u, pt bn, pt bp, pt by_] ws fun v w => ∃ y e1, v = .bool y ∧ (y = true → J (pre ++ alone rl u now0) e1 ∧ St M w0 [e1, blk bn [iv ((lastOf now0 (alone rl u now0)).state), iv ((lastOf now0 (alone rl u now0)).since), iv ((lastOf now0 (alone rl u now0)).next)] 75, blk by_ [.func (.yield lp) #[] #[]] 123, blk bp [pt x.bm] 97, blk x.bm [iv rl.answer, iv rl.cooling, iv rl.settle, iv rl.reverse, iv cl.number, iv cl.frm, iv cl.to, iv cl.holder, iv cl.asked, .bool cl.backed, .map (some x.dm), .map (some x.em), vd] 106, mapE x.dm duesKV, er] w) ∧ (y = false → ∃ (p1 p2 : List Stt) (now1 : Stt), alone rl u now0 = p1 ++ p2 ∧ Jx (pre ++ p1) e1 ∧ St M w0 [e1, blk bn [iv now1.state, iv now1.since, iv now1.next] 75, blk by_ [.func (.yield lp) #[] #[]] 123, blk bp [pt x.bm] 97, blk x.bm [iv rl.answer, iv rl.cooling, iv rl.settle, iv rl.reverse, iv cl.number, iv cl.frm, iv cl.to, iv cl.holder, iv cl.asked, .bool cl.backed, .map (some x.dm), .map (some x.em), vd] 106, mapE x.dm duesKV, er] w) := by
 refine aD func63 rfl ntmps63 (lb rfl) fun a Z => ?_
 replace Z := Z.p4 0 1 2 3 rfl
 skip
 refine aa fun K1 hK1 => wla Z rfl fun a Z => ab (hK1 _ _ <| ah fun K2 hK2 => ?_)
 refine ay <| bj (fun m a w => ∃ (n : Nat) (nw : Stt) (e : Ent) (dn : List Stt), m = 0 + n ∧ (alone rl u now0 = dn ++ aloneF n rl u nw) ∧ (lastOf now0 dn = nw) ∧ (Sound rl nw) ∧ (rank nw.state ≤ n) ∧ (dn.length + n ≤ 4) ∧ (J (pre ++ dn) e) ∧ Fr 31 [(0, iv u), (1, pt bn), (2, pt bp), (3, pt by_)] [] a ∧ St M w0 [e, blk bn [iv nw.state, iv nw.since, iv nw.next] 75, blk by_ [.func (.yield lp) #[] #[]] 123, blk bp [pt x.bm] 97, blk x.bm [iv rl.answer, iv rl.cooling, iv rl.settle, iv rl.reverse, iv cl.number, iv cl.frm, iv cl.to, iv cl.holder, iv cl.asked, .bool cl.backed, .map (some x.dm), .map (some x.em), vd] 106, mapE x.dm duesKV, er] w) _ ⟨4, now0, e0, [], rfl, rfl, rfl, hso, (Nat.le_trans (gm _) de), sm, (by simpa using hJ), Z.pick [0, 1, 2, 3], Y⟩ ?_
 rintro _ a w1 ⟨n, nw, e, dn, rfl, hal, hla, hso, hrk, hln, hJ, Z, Y⟩
 refine ah fun K3 hK3 => aa fun K4 hK4 => wlv Z (ac (v := po bn 2) rfl kr) fun a Z => wlv Z (ld Y 1 rfl rfl (isAgg3 _) rfl) fun a Z => wlv Z (v_ge rfl rfl) fun a Z => wlm Z rfl fun a Z => ?_
 rcases Bool.eq_false_or_eq_true (decide (0 ≤ nw.next)) with hb1 | hb1
 ·rw [hb1] at Z
  try simp only [qz] at hb1
  have hstep := hso.step hr hb1
  obtain ⟨hs1, hs2, hs3, hs4, hs5, hs6⟩ := (hso.next hr).resolve_left om
  obtain ⟨n, rfl⟩ : ∃ n1, n = n1 + 1 := ⟨n - 1, by omega⟩
  refine wly Z (ac (v := po bn 2) rfl kr) fun a Z => wly Z (ld Y 1 rfl rfl (isAgg3 _) rfl) fun a Z => wly Z (ak rfl) fun a Z => wly Z (v_le rfl rfl) fun a Z => wlv Z (au rfl rfl) fun a Z => ab (hK4 _ _ ?_)
  replace Z := Z.p5 0 1 2 3 14 rfl
  refine ax Z rfl (fun hc2 => ?_) (fun hc2 => ?_)
  ·rw [hc2] at Z
   try simp only [qz] at hc2
   refine az <| hK3 _ _ <| ay <| ah fun K5 hK5 => aK kr ?_
   replace Z := Z.p5 0 1 2 3 14 rfl
   refine aM 12 [[], [], [1], [2], [3], [], [5], [4, 6], [7], [], [9], [0, 8, 10]] (fun i => match i with | 0 => pv (pt x.bm) | 1 => pv (pt x.bm) | 2 => pv (pt x.bm) | 3 => pv (po x.bm 10) | 4 => pv (.map (some x.dm)) | 5 => pv (pt bn) | 6 => pv (iv nw.state) | 7 => pv (.agg #[dueFun nw.state, iv (aQ nw.state)]) | 8 => pv (iv (aQ nw.state)) | 9 => pv (po bn 2) | 10 => pv (iv nw.next) | 11 => pv (.agg #[iv ((begins rl (aQ nw.state) nw.next).state), iv ((begins rl (aQ nw.state) nw.next).since), iv ((begins rl (aQ nw.state) nw.next).next)]) | _ => fun _ _ => False) Z Y kr kr ?_ ?_
   ·intro i hi
    match i, hi with
    | 0, _ => exact fun w Y => OpV.g (ld Y 3 rfl rfl (isAgg97 _) rfl)
    | 1, _ => exact fun w Y => OpV.g (ld Y 3 rfl rfl (isAgg97 _) rfl)
    | 2, _ =>
     rintro _ _ ⟨rfl, rfl⟩
     intro w Y
     exact OpV.g (bf rfl)
    | 3, _ =>
     rintro _ _ ⟨rfl, rfl⟩
     intro w Y
     exact OpV.g (ac (v := po x.bm 10) rfl kr)
    | 4, _ =>
     rintro _ _ ⟨rfl, rfl⟩
     intro w Y
     exact OpV.g (ld Y 4 rfl rfl (isAgg103 _) rfl)
    | 5, _ => exact fun w Y => OpV.g (ac (v := pt bn) rfl kr)
    | 6, _ =>
     rintro _ _ ⟨rfl, rfl⟩
     intro w Y
     exact OpV.g (ld Y 1 rfl rfl (isAgg3 _) rfl)
    | 7, _ =>
     rintro _ _ ⟨rfl, rfl⟩ _ _ ⟨rfl, rfl⟩
     intro w Y
     exact OpV.g (dO rfl rfl (lC (Y.g 5 rfl) hs1))
    | 8, _ =>
     rintro _ _ ⟨rfl, rfl⟩
     intro w Y
     exact OpV.g (qD (v := iv (aQ nw.state)) rfl kr)
    | 9, _ => exact fun w Y => OpV.g (ac (v := po bn 2) rfl kr)
    | 10, _ =>
     rintro _ _ ⟨rfl, rfl⟩
     intro w Y
     exact OpV.g (ld Y 1 rfl rfl (isAgg3 _) rfl)
    | 11, _ =>
     rintro _ _ ⟨rfl, rfl⟩ _ _ ⟨rfl, rfl⟩ _ _ ⟨rfl, rfl⟩
     intro w Y
     exact aT call62 rfl (gv (aQ nw.state) rl cl x vd nw.next _ (Y.g 4 rfl) (Y.g 5 rfl) hr om om)
    | i + 12, h => exact absurd h om
   rintro _ _ ⟨rfl, rfl⟩ _ _ ⟨rfl, rfl⟩ _ _ ⟨rfl, rfl⟩ _ _ ⟨rfl, rfl⟩ _ _ ⟨rfl, rfl⟩ _ _ ⟨rfl, rfl⟩ _ _ ⟨rfl, rfl⟩ _ _ ⟨rfl, rfl⟩ _ _ ⟨rfl, rfl⟩ _ _ ⟨rfl, rfl⟩ _ _ ⟨rfl, rfl⟩ _ _ ⟨rfl, rfl⟩ a w2 Z Y
   replace Z := Z.p17 15 16 17 18 19 20 21 22 23 24 25 26 0 1 2 3 14 rfl
   replace Y : St M w0 [_, _, _, _, _, _, _] w2 := Y
   refine am 1 Z Y rfl rfl rfl (sizeOf75 _) rfl (lb rfl) (ds := [iv ((begins rl (aQ nw.state) nw.next).state), iv ((begins rl (aQ nw.state) nw.next).since), iv ((begins rl (aQ nw.state) nw.next).next)]) rfl rfl fun a w3 Z Y => ab <| hK5 _ _ ?_
   replace Z := Z.p5 0 1 2 3 14 rfl
   refine aa fun K6 hK6 => wlv Z (ld Y 2 rfl rfl (isAgg123 _) rfl) fun a Z => wlv Z (ai (Y.g 1 rfl) rfl (isAgg75 _) (sizeOf75 _)) fun a Z => wl_r (eB rfl rfl (hY.yield (pre := pre ++ dn) (x := begins rl (aQ nw.state) nw.next) (by simp only [NxS, List.length_append]; omega) hJ (Y.only (i := 0) rfl))) rfl rfl Z fun a v w4 hR Z => ?_
   obtain ⟨y3, e4, rfl, hx, hok, hft, hJt, hJf⟩ := hR
   have Y := Y.exchange (k := 0) rfl hx hok hft
   replace Y : St M w0 [_, _, _, _, _, _, _] w4 := Y
   clear hx hok hft
   refine wlv Z (bu rfl) fun a Z => ab (hK6 _ _ ?_)
   refine ax Z rfl (fun hc5 => ?_) (fun hc5 => ?_)
   ·rw [hc5] at Z
    try simp only [qz] at hc5
    refine aa fun K7 hK7 => wla Z rfl fun a Z => ab (hK7 _ _ <| ap ?_)
    refine aj Z results63 (ae rfl ag) ?_
    refine ⟨false, _, rfl, fun h => (by cases h), fun _ => ⟨dn ++ [begins rl (aQ nw.state) nw.next], aloneF n rl u (begins rl (aQ nw.state) nw.next), _, ?_, ?_, Y⟩⟩
    ·rw [hal, ct (by assumption) (by assumption)]; simp
    ·rw [← List.append_assoc]; exact hJf (by assumption)
   rw [hc5] at Z
   try simp only [qz] at hc5
   have hJ := hJt hc5
   refine az ?_
   refine ⟨_, ?_, n, begins rl (aQ nw.state) nw.next, e4, dn ++ [begins rl (aQ nw.state) nw.next], rfl, (by rw [hal, ct (by assumption) (by assumption)]; simp), (by rw [cT, cb]; rfl), hstep.1, (by simp only [begins]; omega), (by simp; omega), (by rw [← List.append_assoc]; exact hJ), Z.pick [0, 1, 2, 3], Y⟩
   omega
  rw [hc2] at Z
  try simp only [qz] at hc2
  refine aX <| hK2 _ _ <| aa fun K8 hK8 => wla Z rfl fun a Z => ab (hK8 _ _ <| ap ?_)
  refine aj Z results63 (ae rfl ag) ?_
  rw [ca (now := nw) (u := u) (r := rl) om, List.append_nil] at hal
  exact ⟨true, _, rfl, fun _ => ⟨by rw [hal]; exact hJ, by rw [hal, hla]; exact Y⟩, fun h => by cases h⟩
 rw [hb1] at Z
 try simp only [qz] at hb1
 refine wln Z fun a Z => wln Z fun a Z => wln Z fun a Z => wln Z fun a Z => wlv Z (aq rfl rfl) fun a Z => ab (hK4 _ _ ?_)
 replace Z := Z.p5 0 1 2 3 14 rfl
 refine bC Z rfl ?_
 refine aX <| hK2 _ _ <| aa fun K9 hK9 => wla Z rfl fun a Z => ab (hK9 _ _ <| ap ?_)
 refine aj Z results63 (ae rfl ag) ?_
 rw [ca (now := nw) (u := u) (r := rl) om, List.append_nil] at hal
 exact ⟨true, _, rfl, fun _ => ⟨by rw [hal]; exact hJ, by rw [hal, hla]; exact Y⟩, fun h => by cases h⟩
end Go.Proofs.YtncbabejopafjaaGreatDoor.K16
