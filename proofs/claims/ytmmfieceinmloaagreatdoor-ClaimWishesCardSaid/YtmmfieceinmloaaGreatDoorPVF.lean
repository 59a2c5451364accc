/- Texts joined: ClaimR, ClaimS, ClaimT, ClaimU, ClaimV, ClaimQ, ClaimW, ClaimY, ClaimJ, ClaimZ, ClaimBk, ClaimLw, ClaimOp. -/
import Derived.Test.YtmmfieceinmloaaGreatDoorPVE
import Derived.Test.YtmmfieceinmloaaGreatDoorPVA
import Derived.Test.YtmmfieceinmloaaGreatDoorPVB
import Derived.Test.YtmmfieceinmloaaGreatDoorPVD
namespace Go.Proofs.YtmmfieceinmloaaGreatDoor.K16
open Go.RowKit Go.PW
set_option linter.unusedVariables false
set_option linter.unusedSimpArgs false
set_option maxRecDepth 4000
theorem eqStt (a0 a1 a2 c0 c1 c2 : Int) (w : World) : (Op.equal 98 (.agg #[iv a0, iv a1, iv a2]) (.agg #[iv c0, iv c1, iv c2])).run Tryz.prog w = .ok (decide (a0 = c0) && decide (a1 = c1) && decide (a2 = c2)) w := by
 unfold Op.equal Op.maxDepth
 obtain ⟨dd, hd⟩ : ∃ dd, 10000 = dd + 1 + 1 := ⟨9998, rfl⟩
 rw [hd, run_equalIn_struct w (dd + 1) 98 _ _ (by kernel_rfl) (by kernel_rfl)]
 simp only [Program.fieldsOf, Tryz.underlying98, Op.eqFields]
 simp [part, Tryz.isAgg3, Op.equalIn, run_underlying Tryz.underlying3]
 by_cases h0 : a0 = c0 <;> by_cases h1 : a1 = c1 <;> by_cases h2 : a2 = c2 <;> simp [h0, h1, h2]
theorem jj {α : Type} {d : α} {xs ys : List α} {k : Nat} (hl : xs.length = ys.length) (hk : xs.length ≤ k) (h : ∀ j, j < k → xs.getD j d = ys.getD j d) : xs = ys := by
 refine List.ext_getElem hl fun j h1 h2 => ?_
 have := h j (by omega)
 simpa [List.getD_eq_getElem?_getD, h1, h2] using this
theorem lc {α : Type} {d : α} {xs ys : List α} {k : Nat} (h : xs.getD k d ≠ ys.getD k d) : xs ≠ ys := fun e => h (by rw [e])
theorem iK (xs ys : List Int) (av bv : Value) (w0 : World) (hav : SlAt w0 av 1 (xs.map (fun i => [iv i]))) (hbv : SlAt w0 bv 1 (ys.map (fun i => [iv i]))) :
  Ret Tryz.prog 49 #[av, bv] w0 fun v w => v = .bool (decide (xs = ys)) ∧ Ext No w0 w := by
 have hxb := hav.2.1
 simp only [List.length_map, big] at hxb
 refine aD Tryz.func49 rfl Tryz.ntmps49 (lb rfl) fun a Z => ?_
 have Z : Fr 26 [(0, _), (1, _)] [] a := Z
 have Y : St No w0 [] w0 := St.init w0
 refine aa fun K1 hK1 => wla Z rfl fun a Z => ab (hK1 _ _ <| ai fun K2 hK2 => ?_)
 refine aa fun K3 hK3 => wlm Z rfl fun a Z => wlv Z ((aY (sT := 88) (Y.arg hav) rfl rfl (Tryz.runUnderlying88 _)).asi (m' := (xs.length : Int)) (by simp)) fun a Z => wlm Z rfl fun a Z => wlv Z ((aY (sT := 88) (Y.arg hbv) rfl rfl (Tryz.runUnderlying88 _)).asi (m' := (ys.length : Int)) (by simp)) fun a Z => wlv Z (v_ne rfl rfl) fun a Z => ab (hK3 _ _ ?_)
 refine aB Z rfl (fun hc1 => ?_) (fun hc1 => ?_)
 ·rw [hc1] at Z
  try simp only [qz] at hc1
  refine aa fun K4 hK4 => wla Z rfl fun a Z => ab (hK4 _ _ <| aq ?_)
  refine ak Z Tryz.results49 (ah rfl ag) ?_
  exact ⟨by simp only [retv]; congr 1; exact (decide_eq_false (fun h => by subst h; simp_all)).symm, Y.ext⟩
 rw [hc1] at Z
 try simp only [qz] at hc1
 refine ay <| hK2 _ _ <| ai fun K5 hK5 => aa fun K6 hK6 => wla Z rfl fun a Z => ab (hK6 _ _ <| ax ?_)
 refine bf (fun m a w => ∃ (k : Nat), m = xs.length - k ∧ (k ≤ xs.length) ∧ (xs.length = ys.length) ∧ (∀ j, j < k → xs.getD j 0 = ys.getD j 0) ∧ Fr 26 [(0, av), (1, bv), (6, av), (7, iv (xs.length : Int)), (8, bv), (9, iv (ys.length : Int)), (10, .bool false), (5, iv (k : Int))] [] a ∧ St No w0 [] w) _ ⟨0, rfl, Nat.zero_le _, (by omega), (by intro j hj; omega), Z.pick [0, 1, 6, 7, 8, 9, 10, 5], Y⟩ ?_
 rintro _ a w1 ⟨k, rfl, hk, hlen, hsame, Z, Y⟩
 refine ai fun K7 hK7 => aa fun K8 hK8 => wlm Z rfl fun a Z => wlm Z rfl fun a Z => wlv Z ((aY (sT := 88) (Y.arg hav) rfl rfl (Tryz.runUnderlying88 _)).asi (m' := (xs.length : Int)) (by simp)) fun a Z => wlv Z (v_lt rfl rfl) fun a Z => ab (hK8 _ _ ?_)
 refine aB Z rfl (fun hc2 => ?_) (fun hc2 => ?_)
 ·rw [hc2] at Z
  try simp only [qz] at hc2
  have hkx : k < xs.length := by omega
  have hky : k < ys.length := by omega
  obtain ⟨p, hp⟩ : ∃ p, xs.getD k 0 = p := ⟨_, rfl⟩
  obtain ⟨q, hq⟩ : ∃ q, ys.getD k 0 = q := ⟨_, rfl⟩
  refine ay <| hK7 _ _ <| ai fun K9 hK9 => ax <| ai fun K10 hK10 => aK (by kernel_rfl) ?_
  have Z : Fr 26 [(0, _), (1, _), (6, _), (7, _), (8, _), (9, _), (10, _), (5, _), (11, _), (12, _), (13, _), (14, _)] [] a := Z.pick [0, 1, 6, 7, 8, 9, 10, 5, 11, 12, 13, 14]
  refine aZ 9 [[], [], [0, 1], [2], [], [], [4, 5], [6], [3, 7]] (fun i => match i with | 0 => pv (av) | 1 => pv (iv (k : Int)) | 2 => pv (slAddr av (k * 1)) | 3 => pv (iv p) | 4 => pv (bv) | 5 => pv (iv (k : Int)) | 6 => pv (slAddr bv (k * 1)) | 7 => pv (iv q) | 8 => pv (.bool (!decide (p = q))) | _ => fun _ _ => False) Z Y (by kernel_rfl) (by kernel_rfl) ?_ ?_
  ·intro i hi
   match i, hi with
   | 0, _ =>
    intro w Y
    exact OpV.g (aj rfl)
   | 1, _ =>
    intro w Y
    exact OpV.g (aj rfl)
   | 2, _ =>
    rintro _ _ ⟨rfl, rfl⟩ _ _ ⟨rfl, rfl⟩
    intro w Y
    exact OpV.g ((am (i := (k : Int)) (sT := 88) (Y.arg hav) rfl rfl (Tryz.runUnderlying88 _) (Tryz.sizeOf3 _) (by omega) (by simpa using hkx)).as (v' := slAddr av (k * 1)) rfl)
   | 3, _ =>
    rintro _ _ ⟨rfl, rfl⟩
    intro w Y
    exact OpV.g (aC (u := iv p) (i := k) (j := 0) (Y.arg hav) (by simpa using hkx) rfl (Tryz.isAgg3 _) (by rw [← hp]; simp [hkx]))
   | 4, _ =>
    intro w Y
    exact OpV.g (aj rfl)
   | 5, _ =>
    intro w Y
    exact OpV.g (aj rfl)
   | 6, _ =>
    rintro _ _ ⟨rfl, rfl⟩ _ _ ⟨rfl, rfl⟩
    intro w Y
    exact OpV.g ((am (i := (k : Int)) (sT := 88) (Y.arg hbv) rfl rfl (Tryz.runUnderlying88 _) (Tryz.sizeOf3 _) (by omega) (by simpa using hky)).as (v' := slAddr bv (k * 1)) rfl)
   | 7, _ =>
    rintro _ _ ⟨rfl, rfl⟩
    intro w Y
    exact OpV.g (aC (u := iv q) (i := k) (j := 0) (Y.arg hbv) (by simpa using hky) rfl (Tryz.isAgg3 _) (by rw [← hq]; simp [hky]))
   | 8, _ =>
    rintro _ _ ⟨rfl, rfl⟩ _ _ ⟨rfl, rfl⟩
    intro w Y
    exact OpV.g (v_ne rfl rfl)
  rintro _ _ ⟨rfl, rfl⟩ _ _ ⟨rfl, rfl⟩ _ _ ⟨rfl, rfl⟩ _ _ ⟨rfl, rfl⟩ _ _ ⟨rfl, rfl⟩ _ _ ⟨rfl, rfl⟩ _ _ ⟨rfl, rfl⟩ _ _ ⟨rfl, rfl⟩ _ _ ⟨rfl, rfl⟩ a w2 Z Y
  have Z : Fr 26 [(17, _), (18, _), (19, _), (20, _), (21, _), (22, _), (23, _), (24, _), (25, _), (0, _), (1, _), (6, _), (7, _), (8, _), (9, _), (10, _), (5, _), (11, _), (12, _), (13, _), (14, _)] [] a := Z
  have Y : St No w0 [] w2 := Y
  refine ab <| hK10 _ _ ?_
  have Z : Fr 26 [(0, _), (1, _), (6, _), (7, _), (8, _), (9, _), (10, _), (5, _), (11, _), (12, _), (13, _), (14, _), (25, _)] [] a := Z.pick [0, 1, 6, 7, 8, 9, 10, 5, 11, 12, 13, 14, 25]
  refine aB Z rfl (fun hc3 => ?_) (fun hc3 => ?_)
  ·rw [hc3] at Z
   try simp only [qz] at hc3
   refine aa fun K11 hK11 => wla Z rfl fun a Z => ab (hK11 _ _ <| aq ?_)
   refine ak Z Tryz.results49 (ah rfl ag) ?_
   exact ⟨by simp only [retv]; congr 1; exact (decide_eq_false (lc (d := 0) (k := k) (by rw [hp, hq]; intro h; subst h; simp_all))).symm, Y.ext⟩
  rw [hc3] at Z
  try simp only [qz] at hc3
  refine ay <| hK9 _ _ <| ar <| wlm Z rfl fun a Z => wlv Z (aM rfl rfl ⟨by omega, by omega⟩) fun a Z => wla Z rfl fun a Z => ab ?_
  refine ⟨_, ?_, k + 1, rfl, (by omega), hlen, (by intro j hj; by_cases h : j = k; (subst h; rw [hp, hq]; simp_all); exact hsame j (by omega)), Z.pick [0, 1, 6, 7, 8, 9, 10, 5], Y⟩
  omega
 rw [hc2] at Z
 try simp only [qz] at hc2
 refine aS <| hK5 _ _ <| aa fun K12 hK12 => wla Z rfl fun a Z => ab (hK12 _ _ <| aq ?_)
 refine ak Z Tryz.results49 (ah rfl ag) ?_
 exact ⟨by simp only [retv]; congr 1; exact (decide_eq_true (jj hlen (by omega) hsame)).symm, Y.ext⟩
theorem fY (xs ys : List Stt) (av bv : Value) (w0 : World) (hav : SlAt w0 av 3 (xs.map Stt.cells)) (hbv : SlAt w0 bv 3 (ys.map Stt.cells)) :
  Ret Tryz.prog 99 #[av, bv] w0 fun v w => v = .bool (decide (xs = ys)) ∧ Ext No w0 w := by
 have hxb := hav.2.1
 simp only [List.length_map, big] at hxb
 refine aD Tryz.func99 rfl Tryz.ntmps99 (lb rfl) fun a Z => ?_
 have Z : Fr 26 [(0, _), (1, _)] [] a := Z
 have Y : St No w0 [] w0 := St.init w0
 refine aa fun K1 hK1 => wla Z rfl fun a Z => ab (hK1 _ _ <| ai fun K2 hK2 => ?_)
 refine aa fun K3 hK3 => wlm Z rfl fun a Z => wlv Z ((aY (sT := 161) (Y.arg hav) rfl rfl (Tryz.runUnderlying161 _)).asi (m' := (xs.length : Int)) (by simp)) fun a Z => wlm Z rfl fun a Z => wlv Z ((aY (sT := 161) (Y.arg hbv) rfl rfl (Tryz.runUnderlying161 _)).asi (m' := (ys.length : Int)) (by simp)) fun a Z => wlv Z (v_ne rfl rfl) fun a Z => ab (hK3 _ _ ?_)
 refine aB Z rfl (fun hc1 => ?_) (fun hc1 => ?_)
 ·rw [hc1] at Z
  try simp only [qz] at hc1
  refine aa fun K4 hK4 => wla Z rfl fun a Z => ab (hK4 _ _ <| aq ?_)
  refine ak Z Tryz.results99 (ah rfl ag) ?_
  exact ⟨by simp only [retv]; congr 1; exact (decide_eq_false (fun h => by subst h; simp_all)).symm, Y.ext⟩
 rw [hc1] at Z
 try simp only [qz] at hc1
 refine ay <| hK2 _ _ <| ai fun K5 hK5 => aa fun K6 hK6 => wla Z rfl fun a Z => ab (hK6 _ _ <| ax ?_)
 refine bf (fun m a w => ∃ (k : Nat), m = xs.length - k ∧ (k ≤ xs.length) ∧ (xs.length = ys.length) ∧ (∀ j, j < k → xs.getD j ⟨0, 0, 0⟩ = ys.getD j ⟨0, 0, 0⟩) ∧ Fr 26 [(0, av), (1, bv), (6, av), (7, iv (xs.length : Int)), (8, bv), (9, iv (ys.length : Int)), (10, .bool false), (5, iv (k : Int))] [] a ∧ St No w0 [] w) _ ⟨0, rfl, Nat.zero_le _, (by omega), (by intro j hj; omega), Z.pick [0, 1, 6, 7, 8, 9, 10, 5], Y⟩ ?_
 rintro _ a w1 ⟨k, rfl, hk, hlen, hsame, Z, Y⟩
 refine ai fun K7 hK7 => aa fun K8 hK8 => wlm Z rfl fun a Z => wlm Z rfl fun a Z => wlv Z ((aY (sT := 161) (Y.arg hav) rfl rfl (Tryz.runUnderlying161 _)).asi (m' := (xs.length : Int)) (by simp)) fun a Z => wlv Z (v_lt rfl rfl) fun a Z => ab (hK8 _ _ ?_)
 refine aB Z rfl (fun hc2 => ?_) (fun hc2 => ?_)
 ·rw [hc2] at Z
  try simp only [qz] at hc2
  have hkx : k < xs.length := by omega
  have hky : k < ys.length := by omega
  obtain ⟨p, hp⟩ : ∃ p, xs.getD k ⟨0, 0, 0⟩ = p := ⟨_, rfl⟩
  obtain ⟨q, hq⟩ : ∃ q, ys.getD k ⟨0, 0, 0⟩ = q := ⟨_, rfl⟩
  refine ay <| hK7 _ _ <| ai fun K9 hK9 => ax <| ai fun K10 hK10 => aK (by kernel_rfl) ?_
  have Z : Fr 26 [(0, _), (1, _), (6, _), (7, _), (8, _), (9, _), (10, _), (5, _), (11, _), (12, _), (13, _), (14, _)] [] a := Z.pick [0, 1, 6, 7, 8, 9, 10, 5, 11, 12, 13, 14]
  refine aZ 9 [[], [], [0, 1], [2], [], [], [4, 5], [6], [3, 7]] (fun i => match i with | 0 => pv (av) | 1 => pv (iv (k : Int)) | 2 => pv (slAddr av (k * 3)) | 3 => pv (.agg #[iv p.state, iv p.since, iv p.next]) | 4 => pv (bv) | 5 => pv (iv (k : Int)) | 6 => pv (slAddr bv (k * 3)) | 7 => pv (.agg #[iv q.state, iv q.since, iv q.next]) | 8 => pv (.bool (!(decide (p.state = q.state) && decide (p.since = q.since) && decide (p.next = q.next)))) | _ => fun _ _ => False) Z Y (by kernel_rfl) (by kernel_rfl) ?_ ?_
  ·intro i hi
   match i, hi with
   | 0, _ =>
    intro w Y
    exact OpV.g (aj rfl)
   | 1, _ =>
    intro w Y
    exact OpV.g (aj rfl)
   | 2, _ =>
    rintro _ _ ⟨rfl, rfl⟩ _ _ ⟨rfl, rfl⟩
    intro w Y
    exact OpV.g ((am (i := (k : Int)) (sT := 161) (Y.arg hav) rfl rfl (Tryz.runUnderlying161 _) (Tryz.sizeOf98 _) (by omega) (by simpa using hkx)).as (v' := slAddr av (k * 3)) rfl)
   | 3, _ =>
    rintro _ _ ⟨rfl, rfl⟩
    intro w Y
    exact OpV.g ((bY (Y.arg hav) (i := k) (by simpa using hkx) rfl (Tryz.isAgg98 _) (Tryz.sizeOf98 _)).as (v' := .agg #[iv p.state, iv p.since, iv p.next]) (by rw [← hp]; simp [hkx, Stt.cells]))
   | 4, _ =>
    intro w Y
    exact OpV.g (aj rfl)
   | 5, _ =>
    intro w Y
    exact OpV.g (aj rfl)
   | 6, _ =>
    rintro _ _ ⟨rfl, rfl⟩ _ _ ⟨rfl, rfl⟩
    intro w Y
    exact OpV.g ((am (i := (k : Int)) (sT := 161) (Y.arg hbv) rfl rfl (Tryz.runUnderlying161 _) (Tryz.sizeOf98 _) (by omega) (by simpa using hky)).as (v' := slAddr bv (k * 3)) rfl)
   | 7, _ =>
    rintro _ _ ⟨rfl, rfl⟩
    intro w Y
    exact OpV.g ((bY (Y.arg hbv) (i := k) (by simpa using hky) rfl (Tryz.isAgg98 _) (Tryz.sizeOf98 _)).as (v' := .agg #[iv q.state, iv q.since, iv q.next]) (by rw [← hq]; simp [hky, Stt.cells]))
   | 8, _ =>
    rintro _ _ ⟨rfl, rfl⟩ _ _ ⟨rfl, rfl⟩
    intro w Y
    exact OpV.g (jq rfl rfl (by kernel_rfl) (eqStt p.state p.since p.next q.state q.since q.next _))
  rintro _ _ ⟨rfl, rfl⟩ _ _ ⟨rfl, rfl⟩ _ _ ⟨rfl, rfl⟩ _ _ ⟨rfl, rfl⟩ _ _ ⟨rfl, rfl⟩ _ _ ⟨rfl, rfl⟩ _ _ ⟨rfl, rfl⟩ _ _ ⟨rfl, rfl⟩ _ _ ⟨rfl, rfl⟩ a w2 Z Y
  have Z : Fr 26 [(17, _), (18, _), (19, _), (20, _), (21, _), (22, _), (23, _), (24, _), (25, _), (0, _), (1, _), (6, _), (7, _), (8, _), (9, _), (10, _), (5, _), (11, _), (12, _), (13, _), (14, _)] [] a := Z
  have Y : St No w0 [] w2 := Y
  refine ab <| hK10 _ _ ?_
  have Z : Fr 26 [(0, _), (1, _), (6, _), (7, _), (8, _), (9, _), (10, _), (5, _), (11, _), (12, _), (13, _), (14, _), (25, _)] [] a := Z.pick [0, 1, 6, 7, 8, 9, 10, 5, 11, 12, 13, 14, 25]
  refine aB Z rfl (fun hc3 => ?_) (fun hc3 => ?_)
  ·rw [hc3] at Z
   try simp only [qz] at hc3
   refine aa fun K11 hK11 => wla Z rfl fun a Z => ab (hK11 _ _ <| aq ?_)
   refine ak Z Tryz.results99 (ah rfl ag) ?_
   exact ⟨by simp only [retv]; congr 1; exact (decide_eq_false (lc (d := ⟨0, 0, 0⟩) (k := k) (by rw [hp, hq]; intro h; subst h; simp_all))).symm, Y.ext⟩
  rw [hc3] at Z
  try simp only [qz] at hc3
  refine ay <| hK9 _ _ <| ar <| wlm Z rfl fun a Z => wlv Z (aM rfl rfl ⟨by omega, by omega⟩) fun a Z => wla Z rfl fun a Z => ab ?_
  refine ⟨_, ?_, k + 1, rfl, (by omega), hlen, (by intro j hj; by_cases h : j = k; (subst h; rw [hp, hq]; cases p; cases q; simp_all); exact hsame j (by omega)), Z.pick [0, 1, 6, 7, 8, 9, 10, 5], Y⟩
  omega
 rw [hc2] at Z
 try simp only [qz] at hc2
 refine aS <| hK5 _ _ <| aa fun K12 hK12 => wla Z rfl fun a Z => ab (hK12 _ _ <| aq ?_)
 refine ak Z Tryz.results99 (ah rfl ag) ?_
 exact ⟨by simp only [retv]; congr 1; exact (decide_eq_true (jj hlen (by omega) hsame)).symm, Y.ext⟩
end Go.Proofs.YtmmfieceinmloaaGreatDoor.K16
namespace Go.Proofs.YtmmfieceinmloaaGreatDoor.K16
open Go.RowKit Go.PW
set_option linter.unusedVariables false
set_option linter.unusedSimpArgs false
set_option maxRecDepth 4000
end Go.Proofs.YtmmfieceinmloaaGreatDoor.K16
namespace Go.Proofs.YtmmfieceinmloaaGreatDoor.K16
open Go.RowKit Go.PW
set_option linter.unusedVariables false
set_option linter.unusedSimpArgs false
set_option maxRecDepth 4000
set_option maxHeartbeats 4000000 in
theorem iP (x0 x1 x2 x3 : Int) (w0 : World) (h0 : isI64 x0) (h1 : isI64 x1) (h2 : isI64 x2) (h3 : isI64 x3) :
  Ret Tryz.prog 46 #[.agg #[iv x0, iv x1, iv x2, iv x3]] w0 fun v w => v = (mkRul x0 x1 x2 x3).val ∧ Ext No w0 w := by
 have q0 := eK x0 16 (by omega) h0
 have p0 := cp x0 12 (by omega)
 have r0 := cp x0 86400 (by omega)
 have q1 := eK x1 16 (by omega) h1
 have p1 := cp x1 12 (by omega)
 have r1 := cp x1 86400 (by omega)
 have q2 := eK x2 16 (by omega) h2
 have p2 := cp x2 12 (by omega)
 have r2 := cp x2 86400 (by omega)
 have q3 := eK x3 16 (by omega) h3
 have p3 := cp x3 12 (by omega)
 have r3 := cp x3 86400 (by omega)
 unfold isI64 at h0 h1 h2 h3 q0 q1 q2 q3
 refine aD Tryz.func46 rfl Tryz.ntmps46 (lb rfl) fun a Z => ?_
 have Z : Fr 38 [(0, _)] [] a := Z
 have Y : St No w0 [] w0 := St.init w0
 refine aa fun K1 hK1 => aN Z Y (by decide) rfl (cs := [iv x0, iv x1, iv x2, iv x3]) rfl fun a w1 Z Y => aI Z Y (by decide) (Tryz.zeroValue81 _) (cs := [iv 0, iv 0, iv 0, iv 0]) rfl fun a w2 Z Y => ab (hK1 _ _ <| aa fun K2 hK2 => ?_)
 refine aI Z Y (by decide) (Tryz.zeroValue74 _) (cs := [iv 0, iv 0, iv 0, iv 0]) rfl fun a w3 Z Y => ab (hK2 _ _ <| ai fun K3 hK3 => ?_)
 refine aa fun K4 hK4 => wla Z rfl fun a Z => ab (hK4 _ _ <| ax ?_)
 refine fC 5 ?_
 refine cy ?_
 refine ai fun K5 hK5 => aa fun K6 hK6 => wlm Z rfl fun a Z => wlv Z ((v_lt rfl rfl).asb (b' := true) rfl) fun a Z => ab (hK6 _ _ <| aX Z rfl ?_)
 refine ay <| hK5 _ _ <| ai fun K7 hK7 => ?_
 refine fj (fun a w => ∃ (yy0 : Int), (yy0 = mkRule x0) ∧ Fr 38 [(1, pq w0.heap.size), (2, pq w1.heap.size), (3, pq w2.heap.size), (4, iv 0)] [] a ∧ St No w0 [blk w2.heap.size [iv yy0, iv 0, iv 0, iv 0] 74, blk w1.heap.size [iv 0, iv 0, iv 0, iv 0] 81, blk w0.heap.size [iv x0, iv x1, iv x2, iv x3] 74] w) ?_ ?_
 ·refine ax <| aa fun K8 hK8 => wlm Z rfl fun a Z => wlm Z rfl fun a Z => wlv Z (aF (v := pq w0.heap.size) rfl rfl (by kernel_rfl)) fun a Z => wlv Z (ae (Y.get (k := 2) rfl) rfl (Tryz.isAgg3 _) rfl) fun a Z => az Z Y (by decide) Tryz.call101 rfl (cb _ _ _ (by omega) (by omega) (by omega) (by omega)) fun a w4 Z Y => wlv Z (aM rfl rfl ⟨by omega, by omega⟩) fun a Z => ?_
  refine wlv Z (aF (v := pq w2.heap.size) rfl rfl (by kernel_rfl)) fun a Z => ap 0 Z Y rfl rfl rfl (Tryz.sizeOf3 _) rfl (lb rfl) (ds := [iv (1 + (pick x0 12)), iv 0, iv 0, iv 0]) rfl rfl fun a w5 Z Y => ab (hK8 _ _ ?_)
  have Z : Fr 38 [(0, _), (1, _), (2, _), (3, _), (4, _), (5, _), (6, _)] [] a := Z.pick [0, 1, 2, 3, 4, 5, 6]
  refine aa fun K9 hK9 => wlm Z rfl fun a Z => wlv Z (aF (v := pq w0.heap.size) rfl rfl (by kernel_rfl)) fun a Z => wlv Z (ae (Y.get (k := 2) rfl) rfl (Tryz.isAgg3 _) rfl) fun a Z => wlv Z (jd rfl rfl (by omega) ⟨by omega, by omega⟩) fun a Z => az Z Y (by decide) Tryz.call101 rfl (cb _ _ _ (by omega) (by omega) (by omega) (by omega)) fun a w6 Z Y => wlv Z (v_eq rfl rfl) fun a Z => ?_
  refine ab (hK9 _ _ ?_)
  refine aB Z rfl (fun hc1 => ?_) (fun hc1 => ?_)
  ·rw [hc1] at Z
   try simp only [qz] at hc1
   refine ar <| wlm Z rfl fun a Z => wlm Z rfl fun a Z => wlv Z (aF (v := pq w0.heap.size) rfl rfl (by kernel_rfl)) fun a Z => wlv Z (ae (Y.get (k := 2) rfl) rfl (Tryz.isAgg3 _) rfl) fun a Z => az Z Y (by decide) Tryz.call101 rfl (cb _ _ _ (by omega) (by omega) (by omega) (by omega)) fun a w7 Z Y => wlv Z (aM rfl rfl ⟨by omega, by omega⟩) fun a Z => wlv Z (aF (v := pq w2.heap.size) rfl rfl (by kernel_rfl)) fun a Z => ?_
   refine ap 0 Z Y rfl rfl rfl (Tryz.sizeOf3 _) rfl (lb rfl) (ds := [iv (1 + (pick x0 86400)), iv 0, iv 0, iv 0]) rfl rfl fun a w8 Z Y => ab ?_
   exact ⟨1 + (pick x0 86400), (by unfold mkRule; rw [if_pos hc1]), Z.pick [1, 2, 3, 4], Y.select [0, 1, 2] (by decide)⟩
  rw [hc1] at Z
  try simp only [qz] at hc1
  refine ay ?_
  exact ⟨1 + (pick x0 12), (by unfold mkRule; rw [if_neg hc1]), Z.pick [1, 2, 3, 4], Y.select [0, 1, 2] (by decide)⟩
 rintro a w9 ⟨yy0, hyy0, Z, Y⟩
 refine hK7 _ _ <| ar <| wlm Z rfl fun a Z => wlv Z ((aM rfl rfl (by decide)).asi (m' := 1) rfl) fun a Z => wla Z rfl fun a Z => ab <| cy ?_
 refine ai fun K10 hK10 => aa fun K11 hK11 => wlm Z rfl fun a Z => wlv Z ((v_lt rfl rfl).asb (b' := true) rfl) fun a Z => ab (hK11 _ _ <| aX Z rfl ?_)
 refine ay <| hK10 _ _ <| ai fun K12 hK12 => ?_
 refine fj (fun a w => ∃ (yy1 : Int), (yy1 = mkRule x1) ∧ Fr 38 [(1, pq w0.heap.size), (2, pq w1.heap.size), (3, pq w2.heap.size), (4, iv 1)] [] a ∧ St No w0 [blk w2.heap.size [iv yy0, iv yy1, iv 0, iv 0] 74, blk w1.heap.size [iv 0, iv 0, iv 0, iv 0] 81, blk w0.heap.size [iv x0, iv x1, iv x2, iv x3] 74] w) ?_ ?_
 ·refine ax <| aa fun K13 hK13 => wlm Z rfl fun a Z => wlm Z rfl fun a Z => wlv Z (aF (v := .pointer (some ⟨w0.heap.size, 1, none⟩)) rfl rfl (by kernel_rfl)) fun a Z => wlv Z (ae (Y.get (k := 2) rfl) rfl (Tryz.isAgg3 _) rfl) fun a Z => az Z Y (by decide) Tryz.call101 rfl (cb _ _ _ (by omega) (by omega) (by omega) (by omega)) fun a w10 Z Y => wlv Z (aM rfl rfl ⟨by omega, by omega⟩) fun a Z => ?_
  refine wlv Z (aF (v := .pointer (some ⟨w2.heap.size, 1, none⟩)) rfl rfl (by kernel_rfl)) fun a Z => ap 0 Z Y rfl rfl rfl (Tryz.sizeOf3 _) rfl (lb rfl) (ds := [iv yy0, iv (1 + (pick x1 12)), iv 0, iv 0]) rfl rfl fun a w11 Z Y => ab (hK13 _ _ ?_)
  have Z : Fr 38 [(1, _), (2, _), (3, _), (7, _), (8, _), (4, _), (5, _), (6, _)] [] a := Z.pick [1, 2, 3, 7, 8, 4, 5, 6]
  refine aa fun K14 hK14 => wlm Z rfl fun a Z => wlv Z (aF (v := .pointer (some ⟨w0.heap.size, 1, none⟩)) rfl rfl (by kernel_rfl)) fun a Z => wlv Z (ae (Y.get (k := 2) rfl) rfl (Tryz.isAgg3 _) rfl) fun a Z => wlv Z (jd rfl rfl (by omega) ⟨by omega, by omega⟩) fun a Z => az Z Y (by decide) Tryz.call101 rfl (cb _ _ _ (by omega) (by omega) (by omega) (by omega)) fun a w12 Z Y => wlv Z (v_eq rfl rfl) fun a Z => ?_
  refine ab (hK14 _ _ ?_)
  refine aB Z rfl (fun hc2 => ?_) (fun hc2 => ?_)
  ·rw [hc2] at Z
   try simp only [qz] at hc2
   refine ar <| wlm Z rfl fun a Z => wlm Z rfl fun a Z => wlv Z (aF (v := .pointer (some ⟨w0.heap.size, 1, none⟩)) rfl rfl (by kernel_rfl)) fun a Z => wlv Z (ae (Y.get (k := 2) rfl) rfl (Tryz.isAgg3 _) rfl) fun a Z => az Z Y (by decide) Tryz.call101 rfl (cb _ _ _ (by omega) (by omega) (by omega) (by omega)) fun a w13 Z Y => wlv Z (aM rfl rfl ⟨by omega, by omega⟩) fun a Z => wlv Z (aF (v := .pointer (some ⟨w2.heap.size, 1, none⟩)) rfl rfl (by kernel_rfl)) fun a Z => ?_
   refine ap 0 Z Y rfl rfl rfl (Tryz.sizeOf3 _) rfl (lb rfl) (ds := [iv yy0, iv (1 + (pick x1 86400)), iv 0, iv 0]) rfl rfl fun a w14 Z Y => ab ?_
   exact ⟨1 + (pick x1 86400), (by unfold mkRule; rw [if_pos hc2]), Z.pick [1, 2, 3, 4], Y.select [0, 1, 2] (by decide)⟩
  rw [hc2] at Z
  try simp only [qz] at hc2
  refine ay ?_
  exact ⟨1 + (pick x1 12), (by unfold mkRule; rw [if_neg hc2]), Z.pick [1, 2, 3, 4], Y.select [0, 1, 2] (by decide)⟩
 rintro a w15 ⟨yy1, hyy1, Z, Y⟩
 refine hK12 _ _ <| ar <| wlm Z rfl fun a Z => wlv Z ((aM rfl rfl (by decide)).asi (m' := 2) rfl) fun a Z => wla Z rfl fun a Z => ab <| cy ?_
 refine ai fun K15 hK15 => aa fun K16 hK16 => wlm Z rfl fun a Z => wlv Z ((v_lt rfl rfl).asb (b' := true) rfl) fun a Z => ab (hK16 _ _ <| aX Z rfl ?_)
 refine ay <| hK15 _ _ <| ai fun K17 hK17 => ?_
 refine fj (fun a w => ∃ (yy2 : Int), (yy2 = mkRule x2) ∧ Fr 38 [(1, pq w0.heap.size), (2, pq w1.heap.size), (3, pq w2.heap.size), (4, iv 2)] [] a ∧ St No w0 [blk w2.heap.size [iv yy0, iv yy1, iv yy2, iv 0] 74, blk w1.heap.size [iv 0, iv 0, iv 0, iv 0] 81, blk w0.heap.size [iv x0, iv x1, iv x2, iv x3] 74] w) ?_ ?_
 ·refine ax <| aa fun K18 hK18 => wlm Z rfl fun a Z => wlm Z rfl fun a Z => wlv Z (aF (v := .pointer (some ⟨w0.heap.size, 2, none⟩)) rfl rfl (by kernel_rfl)) fun a Z => wlv Z (ae (Y.get (k := 2) rfl) rfl (Tryz.isAgg3 _) rfl) fun a Z => az Z Y (by decide) Tryz.call101 rfl (cb _ _ _ (by omega) (by omega) (by omega) (by omega)) fun a w16 Z Y => wlv Z (aM rfl rfl ⟨by omega, by omega⟩) fun a Z => ?_
  refine wlv Z (aF (v := .pointer (some ⟨w2.heap.size, 2, none⟩)) rfl rfl (by kernel_rfl)) fun a Z => ap 0 Z Y rfl rfl rfl (Tryz.sizeOf3 _) rfl (lb rfl) (ds := [iv yy0, iv yy1, iv (1 + (pick x2 12)), iv 0]) rfl rfl fun a w17 Z Y => ab (hK18 _ _ ?_)
  have Z : Fr 38 [(1, _), (2, _), (3, _), (7, _), (8, _), (4, _), (5, _), (6, _)] [] a := Z.pick [1, 2, 3, 7, 8, 4, 5, 6]
  refine aa fun K19 hK19 => wlm Z rfl fun a Z => wlv Z (aF (v := .pointer (some ⟨w0.heap.size, 2, none⟩)) rfl rfl (by kernel_rfl)) fun a Z => wlv Z (ae (Y.get (k := 2) rfl) rfl (Tryz.isAgg3 _) rfl) fun a Z => wlv Z (jd rfl rfl (by omega) ⟨by omega, by omega⟩) fun a Z => az Z Y (by decide) Tryz.call101 rfl (cb _ _ _ (by omega) (by omega) (by omega) (by omega)) fun a w18 Z Y => wlv Z (v_eq rfl rfl) fun a Z => ?_
  refine ab (hK19 _ _ ?_)
  refine aB Z rfl (fun hc3 => ?_) (fun hc3 => ?_)
  ·rw [hc3] at Z
   try simp only [qz] at hc3
   refine ar <| wlm Z rfl fun a Z => wlm Z rfl fun a Z => wlv Z (aF (v := .pointer (some ⟨w0.heap.size, 2, none⟩)) rfl rfl (by kernel_rfl)) fun a Z => wlv Z (ae (Y.get (k := 2) rfl) rfl (Tryz.isAgg3 _) rfl) fun a Z => az Z Y (by decide) Tryz.call101 rfl (cb _ _ _ (by omega) (by omega) (by omega) (by omega)) fun a w19 Z Y => wlv Z (aM rfl rfl ⟨by omega, by omega⟩) fun a Z => wlv Z (aF (v := .pointer (some ⟨w2.heap.size, 2, none⟩)) rfl rfl (by kernel_rfl)) fun a Z => ?_
   refine ap 0 Z Y rfl rfl rfl (Tryz.sizeOf3 _) rfl (lb rfl) (ds := [iv yy0, iv yy1, iv (1 + (pick x2 86400)), iv 0]) rfl rfl fun a w20 Z Y => ab ?_
   exact ⟨1 + (pick x2 86400), (by unfold mkRule; rw [if_pos hc3]), Z.pick [1, 2, 3, 4], Y.select [0, 1, 2] (by decide)⟩
  rw [hc3] at Z
  try simp only [qz] at hc3
  refine ay ?_
  exact ⟨1 + (pick x2 12), (by unfold mkRule; rw [if_neg hc3]), Z.pick [1, 2, 3, 4], Y.select [0, 1, 2] (by decide)⟩
 rintro a w21 ⟨yy2, hyy2, Z, Y⟩
 refine hK17 _ _ <| ar <| wlm Z rfl fun a Z => wlv Z ((aM rfl rfl (by decide)).asi (m' := 3) rfl) fun a Z => wla Z rfl fun a Z => ab <| cy ?_
 refine ai fun K20 hK20 => aa fun K21 hK21 => wlm Z rfl fun a Z => wlv Z ((v_lt rfl rfl).asb (b' := true) rfl) fun a Z => ab (hK21 _ _ <| aX Z rfl ?_)
 refine ay <| hK20 _ _ <| ai fun K22 hK22 => ?_
 refine fj (fun a w => ∃ (yy3 : Int), (yy3 = mkRule x3) ∧ Fr 38 [(1, pq w0.heap.size), (2, pq w1.heap.size), (3, pq w2.heap.size), (4, iv 3)] [] a ∧ St No w0 [blk w2.heap.size [iv yy0, iv yy1, iv yy2, iv yy3] 74, blk w1.heap.size [iv 0, iv 0, iv 0, iv 0] 81, blk w0.heap.size [iv x0, iv x1, iv x2, iv x3] 74] w) ?_ ?_
 ·refine ax <| aa fun K23 hK23 => wlm Z rfl fun a Z => wlm Z rfl fun a Z => wlv Z (aF (v := .pointer (some ⟨w0.heap.size, 3, none⟩)) rfl rfl (by kernel_rfl)) fun a Z => wlv Z (ae (Y.get (k := 2) rfl) rfl (Tryz.isAgg3 _) rfl) fun a Z => az Z Y (by decide) Tryz.call101 rfl (cb _ _ _ (by omega) (by omega) (by omega) (by omega)) fun a w22 Z Y => wlv Z (aM rfl rfl ⟨by omega, by omega⟩) fun a Z => ?_
  refine wlv Z (aF (v := .pointer (some ⟨w2.heap.size, 3, none⟩)) rfl rfl (by kernel_rfl)) fun a Z => ap 0 Z Y rfl rfl rfl (Tryz.sizeOf3 _) rfl (lb rfl) (ds := [iv yy0, iv yy1, iv yy2, iv (1 + (pick x3 12))]) rfl rfl fun a w23 Z Y => ab (hK23 _ _ ?_)
  have Z : Fr 38 [(1, _), (2, _), (3, _), (7, _), (8, _), (4, _), (5, _), (6, _)] [] a := Z.pick [1, 2, 3, 7, 8, 4, 5, 6]
  refine aa fun K24 hK24 => wlm Z rfl fun a Z => wlv Z (aF (v := .pointer (some ⟨w0.heap.size, 3, none⟩)) rfl rfl (by kernel_rfl)) fun a Z => wlv Z (ae (Y.get (k := 2) rfl) rfl (Tryz.isAgg3 _) rfl) fun a Z => wlv Z (jd rfl rfl (by omega) ⟨by omega, by omega⟩) fun a Z => az Z Y (by decide) Tryz.call101 rfl (cb _ _ _ (by omega) (by omega) (by omega) (by omega)) fun a w24 Z Y => wlv Z (v_eq rfl rfl) fun a Z => ?_
  refine ab (hK24 _ _ ?_)
  refine aB Z rfl (fun hc4 => ?_) (fun hc4 => ?_)
  ·rw [hc4] at Z
   try simp only [qz] at hc4
   refine ar <| wlm Z rfl fun a Z => wlm Z rfl fun a Z => wlv Z (aF (v := .pointer (some ⟨w0.heap.size, 3, none⟩)) rfl rfl (by kernel_rfl)) fun a Z => wlv Z (ae (Y.get (k := 2) rfl) rfl (Tryz.isAgg3 _) rfl) fun a Z => az Z Y (by decide) Tryz.call101 rfl (cb _ _ _ (by omega) (by omega) (by omega) (by omega)) fun a w25 Z Y => wlv Z (aM rfl rfl ⟨by omega, by omega⟩) fun a Z => wlv Z (aF (v := .pointer (some ⟨w2.heap.size, 3, none⟩)) rfl rfl (by kernel_rfl)) fun a Z => ?_
   refine ap 0 Z Y rfl rfl rfl (Tryz.sizeOf3 _) rfl (lb rfl) (ds := [iv yy0, iv yy1, iv yy2, iv (1 + (pick x3 86400))]) rfl rfl fun a w26 Z Y => ab ?_
   exact ⟨1 + (pick x3 86400), (by unfold mkRule; rw [if_pos hc4]), Z.pick [1, 2, 3, 4], Y.select [0, 1, 2] (by decide)⟩
  rw [hc4] at Z
  try simp only [qz] at hc4
  refine ay ?_
  exact ⟨1 + (pick x3 12), (by unfold mkRule; rw [if_neg hc4]), Z.pick [1, 2, 3, 4], Y.select [0, 1, 2] (by decide)⟩
 rintro a w27 ⟨yy3, hyy3, Z, Y⟩
 refine hK22 _ _ <| ar <| wlm Z rfl fun a Z => wlv Z ((aM rfl rfl (by decide)).asi (m' := 4) rfl) fun a Z => wla Z rfl fun a Z => ab <| cy ?_
 refine ai fun K25 hK25 => aa fun K26 hK26 => wlm Z rfl fun a Z => wlv Z ((v_lt rfl rfl).asb (b' := false) rfl) fun a Z => ab (hK26 _ _ <| bj Z rfl ?_)
 refine aS <| hK3 _ _ <| aa fun K27 hK27 => wlv Z (aF (v := pq w2.heap.size) rfl rfl (by kernel_rfl)) fun a Z => wlv Z (ae (Y.get (k := 0) rfl) rfl (Tryz.isAgg3 _) rfl) fun a Z => wlv Z (aF (v := .pointer (some ⟨w2.heap.size, 1, none⟩)) rfl rfl (by kernel_rfl)) fun a Z => wlv Z (ae (Y.get (k := 0) rfl) rfl (Tryz.isAgg3 _) rfl) fun a Z => ?_
 refine wlv Z (aF (v := .pointer (some ⟨w2.heap.size, 2, none⟩)) rfl rfl (by kernel_rfl)) fun a Z => wlv Z (ae (Y.get (k := 0) rfl) rfl (Tryz.isAgg3 _) rfl) fun a Z => wlv Z (aF (v := .pointer (some ⟨w2.heap.size, 3, none⟩)) rfl rfl (by kernel_rfl)) fun a Z => wlv Z (ae (Y.get (k := 0) rfl) rfl (Tryz.isAgg3 _) rfl) fun a Z => wlv Z (aR (v := .agg #[iv yy0, iv yy1, iv yy2, iv yy3]) rfl (by kernel_rfl)) fun a Z => ap 1 Z Y rfl rfl rfl (Tryz.sizeOf81 _) rfl (lb rfl) (ds := [iv yy0, iv yy1, iv yy2, iv yy3]) rfl rfl fun a w28 Z Y => ab (hK27 _ _ ?_)
 have Z : Fr 38 [(1, _), (2, _), (3, _), (7, _), (8, _), (4, _), (5, _), (6, _)] [] a := Z.pick [1, 2, 3, 7, 8, 4, 5, 6]
 refine aq ?_
 refine ak Z Tryz.results46 (aE rfl (bW (Y.get (k := 1) rfl) (Tryz.isAgg81 _) (Tryz.sizeOf81 _)) ag) ?_
 subst hyy0; subst hyy1; subst hyy2; subst hyy3
 exact ⟨rfl, Y.ext⟩
end Go.Proofs.YtmmfieceinmloaaGreatDoor.K16
namespace Go.Proofs.YtmmfieceinmloaaGreatDoor.K16
open Go.RowKit Go.PW
set_option linter.unusedVariables false
set_option linter.unusedSimpArgs false
set_option maxRecDepth 4000
end Go.Proofs.YtmmfieceinmloaaGreatDoor.K16
namespace Go.Proofs.YtmmfieceinmloaaGreatDoor.K16
open Go.RowKit Go.PW
set_option linter.unusedVariables false
set_option linter.unusedSimpArgs false
set_option maxRecDepth 4000
def exR : Rul := ⟨100, 50, 200, 300⟩
def exC : Clm := ⟨55, 1, 2, 9, 1000, false⟩
theorem bZ {f : FuncId} {args : Array Value} {w : World} {x y : Value} (h : Ret Tryz.prog f args w fun v w' => v = x ∧ Ext No w w') (e : x = y) : Ret Tryz.prog f args w fun v w' => v = y ∧ Ext No w w' := e ▸ h
theorem gr {X : Type} {f : FuncId} {args : Array Value} {w : World} {g : X → Value} {E E' : X → List Ent} {Pr : X → Prop} (h : Ret Tryz.prog f args w (MemR w g E Pr)) (e : E = E') : Ret Tryz.prog f args w (MemR w g E' Pr) := e ▸ h
theorem cq (w0 : World) :
  Ret Tryz.prog 95 #[] w0 fun v w => v = .agg #[iv 100, iv 50, iv 200, iv 300] ∧ Ext No w0 w := by
 refine aD Tryz.func95 rfl Tryz.ntmps95 (lb rfl) fun a Z => ?_
 replace Z : Fr 2 [] [] a := Z
 replace Y : St No w0 [] w0 := St.init w0
 refine aa fun K1 hK1 => aI Z Y (by decide) (Tryz.zeroValue81 _) (cs := [iv 0, iv 0, iv 0, iv 0]) rfl ?_
 clear Z Y
 intro a w1 Z Y
 refine ab (hK1 _ _ <| aa fun K2 hK2 => ?_)
 refine wlv Z (aR (v := .agg #[iv 100, iv 50, iv 200, iv 300]) rfl (by kernel_rfl)) fun a Z => ap 0 Z Y rfl rfl rfl (Tryz.sizeOf81 _) rfl (lb rfl) (ds := [iv 100, iv 50, iv 200, iv 300]) rfl rfl ?_
 clear Z Y
 intro a w2 Z Y
 refine ab (hK2 _ _ <| aq ?_)
 refine ak Z Tryz.results95 (aE rfl (bW (Y.get (k := 0) rfl) (Tryz.isAgg81 _) (Tryz.sizeOf81 _)) ag) ?_
 exact ⟨by rfl, Y.ext⟩
theorem gw (w0 : World) :
  Ret Tryz.prog 93 #[] w0 fun v w => v = .agg #[iv 55, iv 1, iv 2, iv 9, iv 1000, .bool false] ∧ Ext No w0 w := by
 refine aD Tryz.func93 rfl Tryz.ntmps93 (lb rfl) fun a Z => ?_
 replace Z : Fr 2 [] [] a := Z
 replace Y : St No w0 [] w0 := St.init w0
 refine aa fun K1 hK1 => aI Z Y (by decide) (Tryz.zeroValue83 _) (cs := [iv 0, iv 0, iv 0, iv 0, iv 0, .bool false]) rfl ?_
 clear Z Y
 intro a w1 Z Y
 refine ab (hK1 _ _ <| aa fun K2 hK2 => ?_)
 refine wlv Z (aR (v := .agg #[iv 55, iv 1, iv 2, iv 9, iv 1000, .bool false]) rfl (by kernel_rfl)) fun a Z => ap 0 Z Y rfl rfl rfl (Tryz.sizeOf83 _) rfl (lb rfl) (ds := [iv 55, iv 1, iv 2, iv 9, iv 1000, .bool false]) rfl rfl ?_
 clear Z Y
 intro a w2 Z Y
 refine ab (hK2 _ _ <| aq ?_)
 refine ak Z Tryz.results93 (aE rfl (bW (Y.get (k := 0) rfl) (Tryz.isAgg83 _) (Tryz.sizeOf83 _)) ag) ?_
 exact ⟨by rfl, Y.ext⟩
theorem dR (sv : Value) (l : List Evt) (t st si nx : Int) (w0 : World) (hsv : SlAt w0 sv 3 (l.map Evt.cells)) (hv : valid exR exC l = true) (hin : isIn t 0 20000000 = true) :
  Ret Tryz.prog 98 #[sv, iv t, iv st, iv si, iv nx] w0 fun v w => v = .bool (decide ((bQ exR exC l t).state = st) && decide ((bQ exR exC l t).since = si) && decide ((bQ exR exC l t).next = nx)) ∧ Ext No w0 w := by
 refine aD Tryz.func98 rfl Tryz.ntmps98 (lb rfl) fun a Z => ?_
 replace Z : Fr 31 [(0, _), (1, _), (2, _), (3, _), (4, _)] [] a := Z
 replace Y : St No w0 [] w0 := St.init w0
 refine aa fun K1 hK1 => wla Z rfl fun a Z => ab (hK1 _ _ <| aa fun K2 hK2 => ?_)
 refine az Z Y (by decide) Tryz.call95 rfl (cq _) ?_
 clear Z Y
 intro a w1 Z Y
 refine az Z Y (by decide) Tryz.call93 rfl (gw _) ?_
 clear Z Y
 intro a w2 Z Y
 refine wlm Z rfl fun a Z => wlm Z rfl fun a Z => az Z Y (by decide) Tryz.call47 rfl (e8 exR exC sv l t _ (Y.arg hsv) hv hin) ?_
 clear Z Y
 intro a w3 Z Y
 refine wlm Z rfl fun a Z => wlv Z (aA rfl rfl) fun a Z => wlv Z (aA rfl rfl) fun a Z => aI Z Y (by decide) (Tryz.zeroValue98 _) (cs := [iv 0, iv 0, iv 0]) rfl ?_
 clear Z Y
 intro a w4 Z Y
 refine ap 0 Z Y rfl rfl rfl (Tryz.sizeOf98 _) rfl (lb rfl) (ds := [iv ((bQ exR exC l t).state), iv ((bQ exR exC l t).since), iv ((bQ exR exC l t).next)]) rfl rfl ?_
 clear Z Y
 intro a w5 Z Y
 refine wla Z rfl fun a Z => ab (hK2 _ _ ?_)
 replace Z : Fr 31 [(2, _), (3, _), (4, _), (10, _), (11, _), (12, _)] [] a := Z.pick [2, 3, 4, 10, 11, 12]
 refine aa fun K3 hK3 => wlm Z rfl fun a Z => wlv Z ((v_eq rfl rfl).asb (b' := true) rfl) fun a Z => wlm Z rfl fun a Z => wly Z (ao (Y.get (k := 0) rfl) rfl (Tryz.isAgg98 _) (Tryz.sizeOf98 _)) fun a Z => wly Z (aj rfl) fun a Z => wly Z (aj rfl) fun a Z => wly Z (aj rfl) fun a Z => wly Z (aR (v := .agg #[iv st, iv si, iv nx]) rfl (by kernel_rfl)) fun a Z => wly Z (mJ rfl rfl (by kernel_rfl) (eqStt ((bQ exR exC l t).state) ((bQ exR exC l t).since) ((bQ exR exC l t).next) st si nx _)) fun a Z => wlv Z (aw rfl rfl) fun a Z => wla Z rfl fun a Z => ab (hK3 _ _ ?_)
 replace Z : Fr 31 [(10, _)] [] a := Z.pick [10]
 replace Y : St No w0 [] w5 := Y.mask [false]
 refine aq ?_
 refine ak Z Tryz.results98 (ah rfl ag) ?_
 exact ⟨by rfl, Y.ext⟩
set_option maxHeartbeats 4000000 in
theorem nz (w0 : World) :
  Ret Tryz.prog 39 #[] w0 fun v w => v = .bool true ∧ Ext No w0 w := by
 refine aD Tryz.func39 rfl Tryz.ntmps39 (lb rfl) fun a Z => ?_
 replace Z : Fr 205 [] [] a := Z
 replace Y : St No w0 [] w0 := St.init w0
 refine aa fun K1 hK1 => wla Z rfl fun a Z => ab (hK1 _ _ <| aa fun K2 hK2 => ?_)
 refine az Z Y (by decide) Tryz.call93 rfl (gw _) ?_
 clear Z Y
 intro a w1 Z Y
 refine aI Z Y (by decide) (Tryz.zeroValue83 _) (cs := [iv 0, iv 0, iv 0, iv 0, iv 0, .bool false]) rfl ?_
 clear Z Y
 intro a w2 Z Y
 refine ap 0 Z Y rfl rfl rfl (Tryz.sizeOf83 _) rfl (lb rfl) (ds := [iv 55, iv 1, iv 2, iv 9, iv 1000, .bool false]) rfl rfl ?_
 clear Z Y
 intro a w3 Z Y
 refine ab (hK2 _ _ <| aa fun K3 hK3 => ?_)
 refine wlv Z (aR (v := .agg #[iv 2, iv 1099, iv 3]) rfl (by kernel_rfl)) fun a Z => aH (E := 96) (sz := 3) rfl [[iv 2, iv 1099, iv 3]] (by kernel_rfl) (by simp) rfl (by decide) (by decide) Z Y ?_
 clear Z Y
 intro a w4 Z Y
 refine wla Z rfl fun a Z => ab (hK3 _ _ <| aa fun K4 hK4 => ?_)
 refine wlv Z (aR (v := .agg #[iv 2, iv 1050, iv 1]) rfl (by kernel_rfl)) fun a Z => aH (E := 96) (sz := 3) rfl [[iv 2, iv 1050, iv 1]] (by kernel_rfl) (by simp) rfl (by decide) (by decide) Z Y ?_
 clear Z Y
 intro a w5 Z Y
 refine wla Z rfl fun a Z => ab (hK4 _ _ <| aa fun K5 hK5 => ?_)
 refine wlv Z (aR (v := .agg #[iv 2, iv 1100, iv 1]) rfl (by kernel_rfl)) fun a Z => aH (E := 96) (sz := 3) rfl [[iv 2, iv 1100, iv 1]] (by kernel_rfl) (by simp) rfl (by decide) (by decide) Z Y ?_
 clear Z Y
 intro a w6 Z Y
 refine wla Z rfl fun a Z => ab (hK5 _ _ ?_)
 replace Z : Fr 205 [(0, _), (1, _), (2, _), (3, _), (4, _)] [] a := Z.pick [0, 1, 2, 3, 4]
 refine aa fun K6 hK6 => wlv Z (aR (v := .agg #[iv 2, iv 1050, iv 3]) rfl (by kernel_rfl)) fun a Z => wlv Z (aR (v := .agg #[iv 3, iv 1050, iv 0]) rfl (by kernel_rfl)) fun a Z => wlv Z (aR (v := .agg #[iv 5, iv 1099, iv 0]) rfl (by kernel_rfl)) fun a Z => aH (E := 96) (sz := 3) rfl [[iv 2, iv 1050, iv 3], [iv 3, iv 1050, iv 0], [iv 5, iv 1099, iv 0]] (by kernel_rfl) (by simp) rfl (by decide) (by decide) Z Y ?_
 clear Z Y
 intro a w7 Z Y
 refine wla Z rfl fun a Z => ab (hK6 _ _ <| ai fun K7 hK7 => ?_)
 refine aK (by kernel_rfl) (aO (by kernel_rfl) fun w8 hxz => ?_)
 replace Y := Y.grow hxz
 refine aV (k := 0) 2 [0, 1] Z (by kernel_rfl) (by kernel_rfl) (by kernel_rfl) (by rfl) ?_
 replace Z : Fr 205 [(0, _), (1, _), (2, _), (3, _), (4, _), (32, _), (33, _), (34, _), (35, _), (5, _)] [] a := Z.pick [0, 1, 2, 3, 4, 32, 33, 34, 35, 5]
 refine aZ 2 [[], []] (fun i => match i with | 0 => pv (.agg #[iv 100, iv 50, iv 200, iv 300]) | 1 => pv (.agg #[iv 55, iv 1, iv 2, iv 9, iv 1000, .bool false]) | _ => fun _ _ => False) Z Y (by kernel_rfl) (by kernel_rfl) ?_ ?_
 ·intro i hi
  match i, hi with
  | 0, _ =>
   intro w Y
   exact aU Tryz.call95 rfl (cq _)
  | 1, _ =>
   intro w Y
   exact OpV.g (ao (Y.get (k := 4) rfl) rfl (Tryz.isAgg83 _) (Tryz.sizeOf83 _))
 clear Z Y
 rintro _ _ ⟨rfl, rfl⟩ _ _ ⟨rfl, rfl⟩ a w9 Z Y
 replace Z : Fr 205 [(37, _), (38, _), (0, _), (1, _), (2, _), (3, _), (4, _), (32, _), (33, _), (34, _), (35, _), (5, _)] [] a := Z
 replace Y : St No w0 [_, _, _, _, _] w9 := Y
 refine ab <| aP (k := 2) 4 [3] (by kernel_rfl) (by kernel_rfl) (by kernel_rfl) ?_
 refine az Z Y (by decide) Tryz.call94 rfl (bZ (y := .tuple #[iv 1649, iv 0]) (nO exR exC _) (by kernel_rfl)) ?_
 clear Z Y
 intro a w10 Z Y
 refine wlm Z rfl fun a Z => ab <| aV (k := 4) 7 [5, 6] Z (by kernel_rfl) (by kernel_rfl) (by kernel_rfl) (by rfl) ?_
 replace Z : Fr 205 [(0, _), (1, _), (2, _), (3, _), (4, _), (32, _), (33, _), (34, _), (35, _), (5, _), (37, _), (38, _), (39, _), (36, _)] [] a := Z.pick [0, 1, 2, 3, 4, 32, 33, 34, 35, 5, 37, 38, 39, 36]
 refine aZ 3 [[], [], [0]] (fun i => match i with | 0 => pv (iv 1649) | 1 => pv (iv 0) | 2 => pv (iv 1649) | _ => fun _ _ => False) Z Y (by kernel_rfl) (by kernel_rfl) ?_ ?_
 ·intro i hi
  match i, hi with
  | 0, _ =>
   intro w Y
   exact OpV.g (aA rfl rfl)
  | 1, _ =>
   intro w Y
   exact OpV.g (aA rfl rfl)
  | 2, _ =>
   rintro _ _ ⟨rfl, rfl⟩
   intro w Y
   exact OpV.g (cw rfl)
 clear Z Y
 rintro _ _ ⟨rfl, rfl⟩ _ _ ⟨rfl, rfl⟩ _ _ ⟨rfl, rfl⟩ a w11 Z Y
 replace Z : Fr 205 [(40, _), (41, _), (6, _), (0, _), (1, _), (2, _), (3, _), (4, _), (32, _), (33, _), (34, _), (35, _), (5, _), (37, _), (38, _), (39, _), (36, _)] [] a := Z
 replace Y : St No w0 [_, _, _, _, _] w11 := Y
 refine ab <| aP (k := 7) 8 [7] (by kernel_rfl) (by kernel_rfl) (by kernel_rfl) ?_
 refine wla Z rfl fun a Z => ab <| bd (by kernel_rfl) ?_
 refine hK7 _ _ ?_
 replace Z : Fr 205 [(0, _), (1, _), (2, _), (3, _), (4, _), (5, _), (6, _), (7, _)] [] a := Z.pick [0, 1, 2, 3, 4, 5, 6, 7]
 refine ai fun K8 hK8 => aK (by kernel_rfl) (aO (by kernel_rfl) fun w12 hxz => ?_)
 replace Y := Y.grow hxz
 refine aV (k := 0) 3 [0, 1, 2] Z (by kernel_rfl) (by kernel_rfl) (by kernel_rfl) (by rfl) ?_
 replace Z : Fr 205 [(0, _), (1, _), (2, _), (3, _), (4, _), (5, _), (6, _), (7, _)] [] a := Z.pick [0, 1, 2, 3, 4, 5, 6, 7]
 refine aZ 3 [[], [], []] (fun i => match i with | 0 => pv (.agg #[iv 100, iv 50, iv 200, iv 300]) | 1 => pv (.agg #[iv 55, iv 1, iv 2, iv 9, iv 1000, .bool false]) | 2 => pv ((.slice (some ⟨w5.heap.size, 0, none⟩) 1 1)) | _ => fun _ _ => False) Z Y (by kernel_rfl) (by kernel_rfl) ?_ ?_
 ·intro i hi
  match i, hi with
  | 0, _ =>
   intro w Y
   exact aU Tryz.call95 rfl (cq _)
  | 1, _ =>
   intro w Y
   exact OpV.g (ao (Y.get (k := 4) rfl) rfl (Tryz.isAgg83 _) (Tryz.sizeOf83 _))
  | 2, _ =>
   intro w Y
   exact OpV.g (aj rfl)
 clear Z Y
 rintro _ _ ⟨rfl, rfl⟩ _ _ ⟨rfl, rfl⟩ _ _ ⟨rfl, rfl⟩ a w13 Z Y
 replace Z : Fr 205 [(43, _), (44, _), (45, _), (0, _), (1, _), (2, _), (3, _), (4, _), (5, _), (6, _), (7, _)] [] a := Z
 replace Y : St No w0 [_, _, _, _, _] w13 := Y
 refine ab <| aP (k := 3) 5 [4] (by kernel_rfl) (by kernel_rfl) (by kernel_rfl) ?_
 refine bJ Z Y (by decide) Tryz.call48 rfl (gr (E' := fun v => [own v 3 1 [[iv 0]]]) (iC exR exC (.slice (some ⟨w5.heap.size, 0, none⟩) 1 1) [⟨2, 1100, 1⟩] _ (Y.ownAt (i := 1) rfl) (by kernel_rfl)) (by kernel_rfl)) ?_
 clear Z Y
 intro a w14 x2 hp Z Y
 revert x2 hp Z Y; rintro v1 hp Z Y
 clear hp
 replace Y : St No w0 [own v1 3 1 ([[iv 0]]), own (.slice (some ⟨w6.heap.size, 0, none⟩) 3 3) 96 3 ([[iv 2, iv 1050, iv 3], [iv 3, iv 1050, iv 0], [iv 5, iv 1099, iv 0]]), own (.slice (some ⟨w5.heap.size, 0, none⟩) 1 1) 96 3 ([[iv 2, iv 1100, iv 1]]), own (.slice (some ⟨w4.heap.size, 0, none⟩) 1 1) 96 3 ([[iv 2, iv 1050, iv 1]]), own (.slice (some ⟨w3.heap.size, 0, none⟩) 1 1) 96 3 ([[iv 2, iv 1099, iv 3]]), blk w1.heap.size [iv 55, iv 1, iv 2, iv 9, iv 1000, .bool false] 83] w14 := Y
 refine wlm Z rfl fun a Z => ab <| aV (k := 5) 8 [6, 7] Z (by kernel_rfl) (by kernel_rfl) (by kernel_rfl) (by rfl) ?_
 replace Z : Fr 205 [(0, _), (1, _), (2, _), (3, _), (4, _), (5, _), (6, _), (7, _), (43, _), (44, _), (45, _), (46, _), (42, _)] [] a := Z.pick [0, 1, 2, 3, 4, 5, 6, 7, 43, 44, 45, 46, 42]
 refine aZ 3 [[], [], [0]] (fun i => match i with | 0 => pv (v1) | 1 => pv (iv 0) | 2 => pv (v1) | _ => fun _ _ => False) Z Y (by kernel_rfl) (by kernel_rfl) ?_ ?_
 ·intro i hi
  match i, hi with
  | 0, _ =>
   intro w Y
   exact OpV.g (aA rfl rfl)
  | 1, _ =>
   intro w Y
   exact OpV.g (aA rfl rfl)
  | 2, _ =>
   rintro _ _ ⟨rfl, rfl⟩
   intro w Y
   exact OpV.g (cw rfl)
 clear Z Y
 rintro _ _ ⟨rfl, rfl⟩ _ _ ⟨rfl, rfl⟩ _ _ ⟨rfl, rfl⟩ a w15 Z Y
 replace Z : Fr 205 [(47, _), (48, _), (8, _), (0, _), (1, _), (2, _), (3, _), (4, _), (5, _), (6, _), (7, _), (43, _), (44, _), (45, _), (46, _), (42, _)] [] a := Z
 replace Y : St No w0 [_, _, _, _, _, _] w15 := Y
 refine ab <| aP (k := 8) 9 [8] (by kernel_rfl) (by kernel_rfl) (by kernel_rfl) ?_
 refine wla Z rfl fun a Z => ab <| bd (by kernel_rfl) ?_
 refine hK8 _ _ ?_
 replace Z : Fr 205 [(0, _), (1, _), (2, _), (3, _), (4, _), (5, _), (6, _), (7, _), (8, _), (9, _)] [] a := Z.pick [0, 1, 2, 3, 4, 5, 6, 7, 8, 9]
 refine ai fun K9 hK9 => aK (by kernel_rfl) (aO (by kernel_rfl) fun w16 hxz => ?_)
 replace Y := Y.grow hxz
 refine aV (k := 0) 3 [0, 1, 2] Z (by kernel_rfl) (by kernel_rfl) (by kernel_rfl) (by rfl) ?_
 replace Z : Fr 205 [(0, _), (1, _), (2, _), (3, _), (4, _), (5, _), (6, _), (7, _), (8, _), (9, _)] [] a := Z.pick [0, 1, 2, 3, 4, 5, 6, 7, 8, 9]
 refine aZ 3 [[], [], []] (fun i => match i with | 0 => pv (.agg #[iv 100, iv 50, iv 200, iv 300]) | 1 => pv (.agg #[iv 55, iv 1, iv 2, iv 9, iv 1000, .bool false]) | 2 => pv ((.slice (some ⟨w6.heap.size, 0, none⟩) 3 3)) | _ => fun _ _ => False) Z Y (by kernel_rfl) (by kernel_rfl) ?_ ?_
 ·intro i hi
  match i, hi with
  | 0, _ =>
   intro w Y
   exact aU Tryz.call95 rfl (cq _)
  | 1, _ =>
   intro w Y
   exact OpV.g (ao (Y.get (k := 5) rfl) rfl (Tryz.isAgg83 _) (Tryz.sizeOf83 _))
  | 2, _ =>
   intro w Y
   exact OpV.g (aj rfl)
 clear Z Y
 rintro _ _ ⟨rfl, rfl⟩ _ _ ⟨rfl, rfl⟩ _ _ ⟨rfl, rfl⟩ a w17 Z Y
 replace Z : Fr 205 [(50, _), (51, _), (52, _), (0, _), (1, _), (2, _), (3, _), (4, _), (5, _), (6, _), (7, _), (8, _), (9, _)] [] a := Z
 replace Y : St No w0 [_, _, _, _, _, _] w17 := Y
 refine ab <| aP (k := 3) 5 [4] (by kernel_rfl) (by kernel_rfl) (by kernel_rfl) ?_
 refine bJ Z Y (by decide) Tryz.call48 rfl (gr (E' := fun v => [own v 3 1 []]) (iC exR exC (.slice (some ⟨w6.heap.size, 0, none⟩) 3 3) [⟨2, 1050, 3⟩, ⟨3, 1050, 0⟩, ⟨5, 1099, 0⟩] _ (Y.ownAt (i := 1) rfl) (by kernel_rfl)) (by kernel_rfl)) ?_
 clear Z Y
 intro a w18 x4 hp Z Y
 revert x4 hp Z Y; rintro v3 hp Z Y
 clear hp
 replace Y : St No w0 [own v3 3 1 ([]), own v1 3 1 ([[iv 0]]), own (.slice (some ⟨w6.heap.size, 0, none⟩) 3 3) 96 3 ([[iv 2, iv 1050, iv 3], [iv 3, iv 1050, iv 0], [iv 5, iv 1099, iv 0]]), own (.slice (some ⟨w5.heap.size, 0, none⟩) 1 1) 96 3 ([[iv 2, iv 1100, iv 1]]), own (.slice (some ⟨w4.heap.size, 0, none⟩) 1 1) 96 3 ([[iv 2, iv 1050, iv 1]]), own (.slice (some ⟨w3.heap.size, 0, none⟩) 1 1) 96 3 ([[iv 2, iv 1099, iv 3]]), blk w1.heap.size [iv 55, iv 1, iv 2, iv 9, iv 1000, .bool false] 83] w18 := Y
 refine wlm Z rfl fun a Z => ab <| aV (k := 5) 8 [6, 7] Z (by kernel_rfl) (by kernel_rfl) (by kernel_rfl) (by rfl) ?_
 replace Z : Fr 205 [(0, _), (1, _), (2, _), (3, _), (4, _), (5, _), (6, _), (7, _), (8, _), (9, _), (50, _), (51, _), (52, _), (53, _), (49, _)] [] a := Z.pick [0, 1, 2, 3, 4, 5, 6, 7, 8, 9, 50, 51, 52, 53, 49]
 refine aZ 3 [[], [], [0]] (fun i => match i with | 0 => pv (v3) | 1 => pv (iv 0) | 2 => pv (v3) | _ => fun _ _ => False) Z Y (by kernel_rfl) (by kernel_rfl) ?_ ?_
 ·intro i hi
  match i, hi with
  | 0, _ =>
   intro w Y
   exact OpV.g (aA rfl rfl)
  | 1, _ =>
   intro w Y
   exact OpV.g (aA rfl rfl)
  | 2, _ =>
   rintro _ _ ⟨rfl, rfl⟩
   intro w Y
   exact OpV.g (cw rfl)
 clear Z Y
 rintro _ _ ⟨rfl, rfl⟩ _ _ ⟨rfl, rfl⟩ _ _ ⟨rfl, rfl⟩ a w19 Z Y
 replace Z : Fr 205 [(54, _), (55, _), (10, _), (0, _), (1, _), (2, _), (3, _), (4, _), (5, _), (6, _), (7, _), (8, _), (9, _), (50, _), (51, _), (52, _), (53, _), (49, _)] [] a := Z
 replace Y : St No w0 [_, _, _, _, _, _, _] w19 := Y
 refine ab <| aP (k := 8) 9 [8] (by kernel_rfl) (by kernel_rfl) (by kernel_rfl) ?_
 refine wla Z rfl fun a Z => ab <| bd (by kernel_rfl) ?_
 refine hK9 _ _ ?_
 replace Z : Fr 205 [(0, _), (1, _), (2, _), (3, _), (4, _), (5, _), (6, _), (7, _), (8, _), (9, _), (10, _), (11, _)] [] a := Z.pick [0, 1, 2, 3, 4, 5, 6, 7, 8, 9, 10, 11]
 refine ai fun K10 hK10 => aK (by kernel_rfl) (aO (by kernel_rfl) fun w20 hxz => ?_)
 replace Y := Y.grow hxz
 refine aV (k := 0) 3 [0, 1, 2] Z (by kernel_rfl) (by kernel_rfl) (by kernel_rfl) (by rfl) ?_
 replace Z : Fr 205 [(0, _), (1, _), (2, _), (3, _), (4, _), (5, _), (6, _), (7, _), (8, _), (9, _), (10, _), (11, _)] [] a := Z.pick [0, 1, 2, 3, 4, 5, 6, 7, 8, 9, 10, 11]
 refine aZ 3 [[], [], []] (fun i => match i with | 0 => pv (.agg #[iv 100, iv 50, iv 200, iv 300]) | 1 => pv (.agg #[iv 55, iv 1, iv 2, iv 9, iv 1000, .bool false]) | 2 => pv ((.slice (some ⟨w6.heap.size, 0, none⟩) 3 3)) | _ => fun _ _ => False) Z Y (by kernel_rfl) (by kernel_rfl) ?_ ?_
 ·intro i hi
  match i, hi with
  | 0, _ =>
   intro w Y
   exact aU Tryz.call95 rfl (cq _)
  | 1, _ =>
   intro w Y
   exact OpV.g (ao (Y.get (k := 6) rfl) rfl (Tryz.isAgg83 _) (Tryz.sizeOf83 _))
  | 2, _ =>
   intro w Y
   exact OpV.g (aj rfl)
 clear Z Y
 rintro _ _ ⟨rfl, rfl⟩ _ _ ⟨rfl, rfl⟩ _ _ ⟨rfl, rfl⟩ a w21 Z Y
 replace Z : Fr 205 [(57, _), (58, _), (59, _), (0, _), (1, _), (2, _), (3, _), (4, _), (5, _), (6, _), (7, _), (8, _), (9, _), (10, _), (11, _)] [] a := Z
 replace Y : St No w0 [_, _, _, _, _, _, _] w21 := Y
 refine ab <| aP (k := 3) 5 [4] (by kernel_rfl) (by kernel_rfl) (by kernel_rfl) ?_
 refine bJ Z Y (by decide) Tryz.call96 rfl (gr (E' := fun v => [own v 98 3 [[iv 1, iv 1000, iv 1100], [iv 2, iv 1050, iv 1250], [iv 3, iv 1050, iv 1100], [iv 7, iv 1099, iv (-1)]]]) (ju exR exC (.slice (some ⟨w6.heap.size, 0, none⟩) 3 3) [⟨2, 1050, 3⟩, ⟨3, 1050, 0⟩, ⟨5, 1099, 0⟩] _ (Y.ownAt (i := 2) rfl) (by kernel_rfl)) (by kernel_rfl)) ?_
 clear Z Y
 intro a w22 x6 hp Z Y
 revert x6 hp Z Y; rintro v5 hp Z Y
 clear hp
 replace Y : St No w0 [own v5 98 3 ([[iv 1, iv 1000, iv 1100], [iv 2, iv 1050, iv 1250], [iv 3, iv 1050, iv 1100], [iv 7, iv 1099, iv (-1)]]), own v3 3 1 ([]), own v1 3 1 ([[iv 0]]), own (.slice (some ⟨w6.heap.size, 0, none⟩) 3 3) 96 3 ([[iv 2, iv 1050, iv 3], [iv 3, iv 1050, iv 0], [iv 5, iv 1099, iv 0]]), own (.slice (some ⟨w5.heap.size, 0, none⟩) 1 1) 96 3 ([[iv 2, iv 1100, iv 1]]), own (.slice (some ⟨w4.heap.size, 0, none⟩) 1 1) 96 3 ([[iv 2, iv 1050, iv 1]]), own (.slice (some ⟨w3.heap.size, 0, none⟩) 1 1) 96 3 ([[iv 2, iv 1099, iv 3]]), blk w1.heap.size [iv 55, iv 1, iv 2, iv 9, iv 1000, .bool false] 83] w22 := Y
 refine wlm Z rfl fun a Z => ab <| aV (k := 5) 8 [6, 7] Z (by kernel_rfl) (by kernel_rfl) (by kernel_rfl) (by rfl) ?_
 replace Z : Fr 205 [(0, _), (1, _), (2, _), (3, _), (4, _), (5, _), (6, _), (7, _), (8, _), (9, _), (10, _), (11, _), (57, _), (58, _), (59, _), (60, _), (56, _)] [] a := Z.pick [0, 1, 2, 3, 4, 5, 6, 7, 8, 9, 10, 11, 57, 58, 59, 60, 56]
 refine aZ 3 [[], [], [0]] (fun i => match i with | 0 => pv (v5) | 1 => pv (iv 0) | 2 => pv (v5) | _ => fun _ _ => False) Z Y (by kernel_rfl) (by kernel_rfl) ?_ ?_
 ·intro i hi
  match i, hi with
  | 0, _ =>
   intro w Y
   exact OpV.g (aA rfl rfl)
  | 1, _ =>
   intro w Y
   exact OpV.g (aA rfl rfl)
  | 2, _ =>
   rintro _ _ ⟨rfl, rfl⟩
   intro w Y
   exact OpV.g (cw rfl)
 clear Z Y
 rintro _ _ ⟨rfl, rfl⟩ _ _ ⟨rfl, rfl⟩ _ _ ⟨rfl, rfl⟩ a w23 Z Y
 replace Z : Fr 205 [(61, _), (62, _), (12, _), (0, _), (1, _), (2, _), (3, _), (4, _), (5, _), (6, _), (7, _), (8, _), (9, _), (10, _), (11, _), (57, _), (58, _), (59, _), (60, _), (56, _)] [] a := Z
 replace Y : St No w0 [_, _, _, _, _, _, _, _] w23 := Y
 refine ab <| aP (k := 8) 9 [8] (by kernel_rfl) (by kernel_rfl) (by kernel_rfl) ?_
 refine wla Z rfl fun a Z => ab <| bd (by kernel_rfl) ?_
 refine hK10 _ _ ?_
 replace Z : Fr 205 [(0, _), (1, _), (2, _), (3, _), (4, _), (5, _), (6, _), (7, _), (8, _), (9, _), (10, _), (11, _), (12, _), (13, _)] [] a := Z.pick [0, 1, 2, 3, 4, 5, 6, 7, 8, 9, 10, 11, 12, 13]
 refine ai fun K11 hK11 => aK (by kernel_rfl) (aO (by kernel_rfl) fun w24 hxz => ?_)
 replace Y := Y.grow hxz
 refine aV (k := 0) 2 [0, 1] Z (by kernel_rfl) (by kernel_rfl) (by kernel_rfl) (by rfl) ?_
 replace Z : Fr 205 [(0, _), (1, _), (2, _), (3, _), (4, _), (5, _), (6, _), (7, _), (8, _), (9, _), (10, _), (11, _), (12, _), (13, _)] [] a := Z.pick [0, 1, 2, 3, 4, 5, 6, 7, 8, 9, 10, 11, 12, 13]
 refine aZ 2 [[], []] (fun i => match i with | 0 => pv (.agg #[iv 100, iv 50, iv 200, iv 300]) | 1 => pv (.agg #[iv 55, iv 1, iv 2, iv 9, iv 1000, .bool false]) | _ => fun _ _ => False) Z Y (by kernel_rfl) (by kernel_rfl) ?_ ?_
 ·intro i hi
  match i, hi with
  | 0, _ =>
   intro w Y
   exact aU Tryz.call95 rfl (cq _)
  | 1, _ =>
   intro w Y
   exact OpV.g (ao (Y.get (k := 7) rfl) rfl (Tryz.isAgg83 _) (Tryz.sizeOf83 _))
 clear Z Y
 rintro _ _ ⟨rfl, rfl⟩ _ _ ⟨rfl, rfl⟩ a w25 Z Y
 replace Z : Fr 205 [(64, _), (65, _), (0, _), (1, _), (2, _), (3, _), (4, _), (5, _), (6, _), (7, _), (8, _), (9, _), (10, _), (11, _), (12, _), (13, _)] [] a := Z
 replace Y : St No w0 [_, _, _, _, _, _, _, _] w25 := Y
 refine ab <| aP (k := 2) 4 [3] (by kernel_rfl) (by kernel_rfl) (by kernel_rfl) ?_
 refine az Z Y (by decide) Tryz.call97 rfl (bZ (y := .tuple #[iv 1, iv 0]) (k6 exR exC _ [] 1149 _ (cG _ _) (by kernel_rfl) (by kernel_rfl)) (by kernel_rfl)) ?_
 clear Z Y
 intro a w26 Z Y
 refine wlm Z rfl fun a Z => ab <| aV (k := 4) 7 [5, 6] Z (by kernel_rfl) (by kernel_rfl) (by kernel_rfl) (by rfl) ?_
 replace Z : Fr 205 [(0, _), (1, _), (2, _), (3, _), (4, _), (5, _), (6, _), (7, _), (8, _), (9, _), (10, _), (11, _), (12, _), (13, _), (64, _), (65, _), (66, _), (63, _)] [] a := Z.pick [0, 1, 2, 3, 4, 5, 6, 7, 8, 9, 10, 11, 12, 13, 64, 65, 66, 63]
 refine aZ 3 [[], [], [0]] (fun i => match i with | 0 => pv (iv 1) | 1 => pv (iv 0) | 2 => pv (iv 1) | _ => fun _ _ => False) Z Y (by kernel_rfl) (by kernel_rfl) ?_ ?_
 ·intro i hi
  match i, hi with
  | 0, _ =>
   intro w Y
   exact OpV.g (aA rfl rfl)
  | 1, _ =>
   intro w Y
   exact OpV.g (aA rfl rfl)
  | 2, _ =>
   rintro _ _ ⟨rfl, rfl⟩
   intro w Y
   exact OpV.g (cw rfl)
 clear Z Y
 rintro _ _ ⟨rfl, rfl⟩ _ _ ⟨rfl, rfl⟩ _ _ ⟨rfl, rfl⟩ a w27 Z Y
 replace Z : Fr 205 [(67, _), (68, _), (14, _), (0, _), (1, _), (2, _), (3, _), (4, _), (5, _), (6, _), (7, _), (8, _), (9, _), (10, _), (11, _), (12, _), (13, _), (64, _), (65, _), (66, _), (63, _)] [] a := Z
 replace Y : St No w0 [_, _, _, _, _, _, _, _] w27 := Y
 refine ab <| aP (k := 7) 8 [7] (by kernel_rfl) (by kernel_rfl) (by kernel_rfl) ?_
 refine wla Z rfl fun a Z => ab <| bd (by kernel_rfl) ?_
 refine hK11 _ _ ?_
 replace Z : Fr 205 [(0, _), (1, _), (2, _), (3, _), (4, _), (5, _), (6, _), (7, _), (8, _), (9, _), (10, _), (11, _), (12, _), (13, _), (14, _), (15, _)] [] a := Z.pick [0, 1, 2, 3, 4, 5, 6, 7, 8, 9, 10, 11, 12, 13, 14, 15]
 refine ai fun K12 hK12 => aK (by kernel_rfl) (aO (by kernel_rfl) fun w28 hxz => ?_)
 replace Y := Y.grow hxz
 refine aV (k := 0) 2 [0, 1] Z (by kernel_rfl) (by kernel_rfl) (by kernel_rfl) (by rfl) ?_
 replace Z : Fr 205 [(0, _), (1, _), (2, _), (3, _), (4, _), (5, _), (6, _), (7, _), (8, _), (9, _), (10, _), (11, _), (12, _), (13, _), (14, _), (15, _)] [] a := Z.pick [0, 1, 2, 3, 4, 5, 6, 7, 8, 9, 10, 11, 12, 13, 14, 15]
 refine aZ 2 [[], []] (fun i => match i with | 0 => pv (.agg #[iv 100, iv 50, iv 200, iv 300]) | 1 => pv (.agg #[iv 55, iv 1, iv 2, iv 9, iv 1000, .bool false]) | _ => fun _ _ => False) Z Y (by kernel_rfl) (by kernel_rfl) ?_ ?_
 ·intro i hi
  match i, hi with
  | 0, _ =>
   intro w Y
   exact aU Tryz.call95 rfl (cq _)
  | 1, _ =>
   intro w Y
   exact OpV.g (ao (Y.get (k := 7) rfl) rfl (Tryz.isAgg83 _) (Tryz.sizeOf83 _))
 clear Z Y
 rintro _ _ ⟨rfl, rfl⟩ _ _ ⟨rfl, rfl⟩ a w29 Z Y
 replace Z : Fr 205 [(70, _), (71, _), (0, _), (1, _), (2, _), (3, _), (4, _), (5, _), (6, _), (7, _), (8, _), (9, _), (10, _), (11, _), (12, _), (13, _), (14, _), (15, _)] [] a := Z
 replace Y : St No w0 [_, _, _, _, _, _, _, _] w29 := Y
 refine ab <| aP (k := 2) 4 [3] (by kernel_rfl) (by kernel_rfl) (by kernel_rfl) ?_
 refine az Z Y (by decide) Tryz.call97 rfl (bZ (y := .tuple #[iv 2, iv 0]) (k6 exR exC _ [] 1150 _ (cG _ _) (by kernel_rfl) (by kernel_rfl)) (by kernel_rfl)) ?_
 clear Z Y
 intro a w30 Z Y
 refine wlm Z rfl fun a Z => ab <| aV (k := 4) 7 [5, 6] Z (by kernel_rfl) (by kernel_rfl) (by kernel_rfl) (by rfl) ?_
 replace Z : Fr 205 [(0, _), (1, _), (2, _), (3, _), (4, _), (5, _), (6, _), (7, _), (8, _), (9, _), (10, _), (11, _), (12, _), (13, _), (14, _), (15, _), (70, _), (71, _), (72, _), (69, _)] [] a := Z.pick [0, 1, 2, 3, 4, 5, 6, 7, 8, 9, 10, 11, 12, 13, 14, 15, 70, 71, 72, 69]
 refine aZ 3 [[], [], [0]] (fun i => match i with | 0 => pv (iv 2) | 1 => pv (iv 0) | 2 => pv (iv 2) | _ => fun _ _ => False) Z Y (by kernel_rfl) (by kernel_rfl) ?_ ?_
 ·intro i hi
  match i, hi with
  | 0, _ =>
   intro w Y
   exact OpV.g (aA rfl rfl)
  | 1, _ =>
   intro w Y
   exact OpV.g (aA rfl rfl)
  | 2, _ =>
   rintro _ _ ⟨rfl, rfl⟩
   intro w Y
   exact OpV.g (cw rfl)
 clear Z Y
 rintro _ _ ⟨rfl, rfl⟩ _ _ ⟨rfl, rfl⟩ _ _ ⟨rfl, rfl⟩ a w31 Z Y
 replace Z : Fr 205 [(73, _), (74, _), (16, _), (0, _), (1, _), (2, _), (3, _), (4, _), (5, _), (6, _), (7, _), (8, _), (9, _), (10, _), (11, _), (12, _), (13, _), (14, _), (15, _), (70, _), (71, _), (72, _), (69, _)] [] a := Z
 replace Y : St No w0 [_, _, _, _, _, _, _, _] w31 := Y
 refine ab <| aP (k := 7) 8 [7] (by kernel_rfl) (by kernel_rfl) (by kernel_rfl) ?_
 refine wla Z rfl fun a Z => ab <| bd (by kernel_rfl) ?_
 refine hK12 _ _ ?_
 replace Z : Fr 205 [(0, _), (1, _), (2, _), (3, _), (4, _), (5, _), (6, _), (7, _), (8, _), (9, _), (10, _), (11, _), (12, _), (13, _), (14, _), (15, _), (16, _), (17, _)] [] a := Z.pick [0, 1, 2, 3, 4, 5, 6, 7, 8, 9, 10, 11, 12, 13, 14, 15, 16, 17]
 refine ai fun K13 hK13 => aK (by kernel_rfl) (aO (by kernel_rfl) fun w32 hxz => ?_)
 replace Y := Y.grow hxz
 refine aV (k := 0) 8 [5, 7] Z (by kernel_rfl) (by kernel_rfl) (by kernel_rfl) (by rfl) ?_
 replace Z : Fr 205 [(0, _), (1, _), (2, _), (3, _), (4, _), (5, _), (6, _), (7, _), (8, _), (9, _), (10, _), (11, _), (12, _), (13, _), (14, _), (15, _), (16, _), (17, _)] [] a := Z.pick [0, 1, 2, 3, 4, 5, 6, 7, 8, 9, 10, 11, 12, 13, 14, 15, 16, 17]
 refine cx 6 7 98 [iv 0, iv 0, iv 0] [iv 0, iv 0, iv 0] 8 [[], [], [0, 1], [2], [3], [3], [], [4, 6]] (fun i => match i with | 0 => pv (.agg #[iv 100, iv 50, iv 200, iv 300]) | 1 => pv (.agg #[iv 55, iv 1, iv 2, iv 9, iv 1000, .bool false]) | 2 => pv (.tuple #[.agg #[iv 0, iv 0, iv 0], iv 160]) | 3 => pv (.tuple #[.agg #[iv 0, iv 0, iv 0], iv 160]) | 4 => pv (.agg #[iv 0, iv 0, iv 0]) | 5 => pv (iv 160) | 6 => fun v E => ∃ b, v = ptr b ∧ E = [] | 7 => fun v E => v = undef ∧ E = [] | _ => fun _ _ => False) Z (H := [own v5 98 3 ([[iv 1, iv 1000, iv 1100], [iv 2, iv 1050, iv 1250], [iv 3, iv 1050, iv 1100], [iv 7, iv 1099, iv (-1)]]), own v3 3 1 ([]), own v1 3 1 ([[iv 0]]), own (.slice (some ⟨w6.heap.size, 0, none⟩) 3 3) 96 3 ([[iv 2, iv 1050, iv 3], [iv 3, iv 1050, iv 0], [iv 5, iv 1099, iv 0]]), own (.slice (some ⟨w5.heap.size, 0, none⟩) 1 1) 96 3 ([[iv 2, iv 1100, iv 1]]), own (.slice (some ⟨w4.heap.size, 0, none⟩) 1 1) 96 3 ([[iv 2, iv 1050, iv 1]]), own (.slice (some ⟨w3.heap.size, 0, none⟩) 1 1) 96 3 ([[iv 2, iv 1099, iv 3]]), blk w1.heap.size [iv 55, iv 1, iv 2, iv 9, iv 1000, .bool false] 83]) Y (by kernel_rfl) (by kernel_rfl) (by kernel_rfl) (by kernel_rfl) (by decide) (by decide) (by decide) (by decide) (by decide) ?_ (fun v E h => h) ⟨rfl, rfl⟩ (fun v E => Iff.rfl) ?_ ?_ ?_ ?_
 ·intro i v E h
  match i, h with
  | 0, _ => exact by decide
  | 1, _ => exact by decide
  | 2, _ => exact by decide
  | 3, _ => exact by decide
  | 4, _ => exact by decide
  | 5, _ => exact by decide
  | 6, _ => exact by decide
  | 7, _ => exact by decide
  | i + 8, h => exact h.elim
 ·intro i hi hia hij e
  match i, hi, hia, hij with
  | 0, _, _, _ =>
   intro w Y
   exact aU Tryz.call95 rfl (cq _)
  | 1, _, _, _ =>
   intro w Y
   exact OpV.g (ao (Y.get (k := 8) rfl) rfl (Tryz.isAgg83 _) (Tryz.sizeOf83 _))
  | 2, _, _, _ =>
   rintro _ _ ⟨rfl, rfl⟩ _ _ ⟨rfl, rfl⟩
   intro w Y
   exact aU Tryz.call47 rfl (kn exR exC _ [] (-1) _ (cG _ _) (by kernel_rfl) (by kernel_rfl))
  | 3, _, _, _ =>
   rintro _ _ ⟨rfl, rfl⟩
   intro w Y
   exact OpV.g (aj rfl)
  | 4, _, _, _ =>
   rintro _ _ ⟨rfl, rfl⟩
   intro w Y
   exact OpV.g (aA rfl rfl)
  | 5, _, _, _ =>
   rintro _ _ ⟨rfl, rfl⟩
   intro w Y
   exact OpV.g (aA rfl rfl)
  | 6, _, h, _ => exact absurd rfl h
  | 7, _, _, h => exact absurd rfl h
 ·exact fun Lv w => dx (Tryz.zeroValue98 _)
 ·rintro _ _ ⟨rfl, rfl⟩ _ _ ⟨b7, rfl, rfl⟩
  intro b hb w h
  have hb : some (ptr b7) = some (ptr b) := hb
  cases hb
  exact dp rfl rfl h (Tryz.sizeOf98 _) rfl (lb rfl) rfl
 clear Z Y
 rintro bq _ _ ⟨⟨rfl, rfl⟩, -⟩ _ _ ⟨⟨rfl, rfl⟩, -⟩ _ _ ⟨⟨rfl, rfl⟩, -⟩ _ _ ⟨⟨rfl, rfl⟩, -⟩ _ _ ⟨⟨rfl, rfl⟩, -⟩ _ _ ⟨⟨rfl, rfl⟩, -⟩ _ _ ⟨⟨b7, rfl, rfl⟩, hva⟩ a w33 Z Y
 obtain rfl : b7 = bq := eL (hva rfl)
 replace Z : Fr 205 [(76, _), (77, _), (78, _), (75, _), (79, _), (80, _), (18, _), (0, _), (1, _), (2, _), (3, _), (4, _), (5, _), (6, _), (7, _), (8, _), (9, _), (10, _), (11, _), (12, _), (13, _), (14, _), (15, _), (16, _), (17, _)] [] a := Z
 replace Y : St No w0 [blk b7 [iv 0, iv 0, iv 0] 98, own v5 98 3 ([[iv 1, iv 1000, iv 1100], [iv 2, iv 1050, iv 1250], [iv 3, iv 1050, iv 1100], [iv 7, iv 1099, iv (-1)]]), own v3 3 1 ([]), own v1 3 1 ([[iv 0]]), own (.slice (some ⟨w6.heap.size, 0, none⟩) 3 3) 96 3 ([[iv 2, iv 1050, iv 3], [iv 3, iv 1050, iv 0], [iv 5, iv 1099, iv 0]]), own (.slice (some ⟨w5.heap.size, 0, none⟩) 1 1) 96 3 ([[iv 2, iv 1100, iv 1]]), own (.slice (some ⟨w4.heap.size, 0, none⟩) 1 1) 96 3 ([[iv 2, iv 1050, iv 1]]), own (.slice (some ⟨w3.heap.size, 0, none⟩) 1 1) 96 3 ([[iv 2, iv 1099, iv 3]]), blk w1.heap.size [iv 55, iv 1, iv 2, iv 9, iv 1000, .bool false] 83] w33 := Y
 refine ab <| aP (k := 8) 9 [8] (by kernel_rfl) (by kernel_rfl) (by kernel_rfl) ?_
 refine wla Z rfl fun a Z => ab <| bd (by kernel_rfl) ?_
 refine hK13 _ _ ?_
 replace Z : Fr 205 [(0, _), (1, _), (2, _), (3, _), (4, _), (5, _), (6, _), (7, _), (8, _), (9, _), (10, _), (11, _), (12, _), (13, _), (14, _), (15, _), (16, _), (17, _), (19, _)] [] a := Z.pick [0, 1, 2, 3, 4, 5, 6, 7, 8, 9, 10, 11, 12, 13, 14, 15, 16, 17, 19]
 replace Y : St No w0 [_, _, _, _, _, _, _, _] w33 := Y.mask [false, true, true, true, true, true, true, true, true]
 refine aa fun K14 hK14 => wlm Z rfl fun a Z => wlv Z ((v_eq rfl rfl).asb (b' := true) rfl) fun a Z => wlm Z rfl fun a Z => wly Z (aj rfl) fun a Z => wly Z ((v_eq rfl rfl).asb (b' := true) rfl) fun a Z => wlv Z (aw rfl rfl) fun a Z => wlm Z rfl fun a Z => wly Z (aj rfl) fun a Z => wly Z ((v_eq rfl rfl).asb (b' := true) rfl) fun a Z => wlv Z (aw rfl rfl) fun a Z => wlm Z rfl fun a Z => wly Z (aj rfl) fun a Z => wly Z ((v_eq rfl rfl).asb (b' := true) rfl) fun a Z => wlv Z (aw rfl rfl) fun a Z => wlm Z rfl fun a Z => wly Z (aj rfl) fun a Z => wly Z ((v_eq rfl rfl).asb (b' := true) rfl) fun a Z => wlv Z (aw rfl rfl) fun a Z => wlm Z rfl fun a Z => wly Z (aj rfl) fun a Z => wly Z ((v_eq rfl rfl).asb (b' := true) rfl) fun a Z => ?_
 refine wlv Z (aw rfl rfl) fun a Z => wlm Z rfl fun a Z => wly Z (aj rfl) fun a Z => wly Z ((v_eq rfl rfl).asb (b' := true) rfl) fun a Z => wlv Z (aw rfl rfl) fun a Z => wla Z rfl fun a Z => ab (hK14 _ _ ?_)
 replace Z : Fr 205 [(0, _), (1, _), (2, _), (3, _), (4, _), (5, _), (6, _), (8, _), (10, _), (12, _), (14, _), (16, _), (20, _)] [] a := Z.pick [0, 1, 2, 3, 4, 5, 6, 8, 10, 12, 14, 16, 20]
 refine aa fun K15 hK15 => az Z Y (by decide) Tryz.call98 rfl (bZ (y := .bool true) (dR (.slice none 0 0) [] 999 0 0 1000 _ (cG _ _) (by kernel_rfl) (by kernel_rfl)) (by kernel_rfl)) ?_
 clear Z Y
 intro a w34 Z Y
 refine wlm Z rfl fun a Z => aJ Z Y (by decide) rfl (by decide) rfl Tryz.call98 rfl (bZ (y := .bool true) (dR (.slice none 0 0) [] 1099 1 1000 1100 _ (cG _ _) (by kernel_rfl) (by kernel_rfl)) (by kernel_rfl)) ?_
 clear Z Y
 intro a w35 Z Y
 refine wlv Z (aw rfl rfl) fun a Z => wlm Z rfl fun a Z => aJ Z Y (by decide) rfl (by decide) rfl Tryz.call98 rfl (bZ (y := .bool true) (dR (.slice none 0 0) [] 1100 3 1100 1150 _ (cG _ _) (by kernel_rfl) (by kernel_rfl)) (by kernel_rfl)) ?_
 clear Z Y
 intro a w36 Z Y
 refine wlv Z (aw rfl rfl) fun a Z => wlm Z rfl fun a Z => aJ Z Y (by decide) rfl (by decide) rfl Tryz.call98 rfl (bZ (y := .bool true) (dR (.slice none 0 0) [] 1150 4 1150 1450 _ (cG _ _) (by kernel_rfl) (by kernel_rfl)) (by kernel_rfl)) ?_
 clear Z Y
 intro a w37 Z Y
 refine wlv Z (aw rfl rfl) fun a Z => wlm Z rfl fun a Z => aJ Z Y (by decide) rfl (by decide) rfl Tryz.call98 rfl (bZ (y := .bool true) (dR (.slice none 0 0) [] 1450 5 1450 (-1) _ (cG _ _) (by kernel_rfl) (by kernel_rfl)) (by kernel_rfl)) ?_
 clear Z Y
 intro a w38 Z Y
 refine wlv Z (aw rfl rfl) fun a Z => wla Z rfl fun a Z => ab (hK15 _ _ ?_)
 replace Z : Fr 205 [(0, _), (1, _), (2, _), (3, _), (4, _), (5, _), (6, _), (8, _), (10, _), (12, _), (14, _), (16, _), (20, _), (21, _)] [] a := Z.pick [0, 1, 2, 3, 4, 5, 6, 8, 10, 12, 14, 16, 20, 21]
 refine aa fun K16 hK16 => wlv Z (aR (v := .agg #[iv 1, iv 1010, iv 0]) rfl (by kernel_rfl)) fun a Z => aH (E := 96) (sz := 3) rfl [[iv 1, iv 1010, iv 0]] (by kernel_rfl) (by simp) rfl (by decide) (by decide) Z Y ?_
 clear Z Y
 intro a w39 Z Y
 refine az Z Y (by decide) Tryz.call98 rfl (bZ (y := .bool true) (dR (.slice (some ⟨w38.heap.size, 0, none⟩) 1 1) [⟨1, 1010, 0⟩] 1060 4 1060 1360 _ (Y.ownAt (i := 0) rfl) (by kernel_rfl) (by kernel_rfl)) (by kernel_rfl)) ?_
 clear Z Y
 intro a w40 Z Y
 refine wlm Z rfl fun a Z => wly Z (aj rfl) fun a Z => aJ Z Y (by decide) rfl (by decide) rfl Tryz.call98 rfl (bZ (y := .bool true) (dR (.slice (some ⟨w3.heap.size, 0, none⟩) 1 1) [⟨2, 1099, 3⟩] 1648 4 1349 1649 _ (Y.ownAt (i := 7) rfl) (by kernel_rfl) (by kernel_rfl)) (by kernel_rfl)) ?_
 clear Z Y
 intro a w41 Z Y
 refine wlv Z (aw rfl rfl) fun a Z => wlm Z rfl fun a Z => wly Z (aj rfl) fun a Z => aJ Z Y (by decide) rfl (by decide) rfl Tryz.call98 rfl (bZ (y := .bool true) (dR (.slice (some ⟨w3.heap.size, 0, none⟩) 1 1) [⟨2, 1099, 3⟩] 1649 5 1649 (-1) _ (Y.ownAt (i := 7) rfl) (by kernel_rfl) (by kernel_rfl)) (by kernel_rfl)) ?_
 clear Z Y
 intro a w42 Z Y
 refine wlv Z (aw rfl rfl) fun a Z => wlm Z rfl fun a Z => wly Z (aj rfl) fun a Z => aJ Z Y (by decide) rfl (by decide) rfl Tryz.call98 rfl (bZ (y := .bool true) (dR (.slice (some ⟨w4.heap.size, 0, none⟩) 1 1) [⟨2, 1050, 1⟩] 1050 6 1050 (-1) _ (Y.ownAt (i := 6) rfl) (by kernel_rfl) (by kernel_rfl)) (by kernel_rfl)) ?_
 clear Z Y
 intro a w43 Z Y
 refine wlv Z (aw rfl rfl) fun a Z => wlm Z rfl fun a Z => wly Z (aj rfl) fun a Z => aJ Z Y (by decide) rfl (by decide) rfl Tryz.call98 rfl (bZ (y := .bool true) (dR (.slice (some ⟨w5.heap.size, 0, none⟩) 1 1) [⟨2, 1100, 1⟩] 1100 3 1100 1150 _ (Y.ownAt (i := 5) rfl) (by kernel_rfl) (by kernel_rfl)) (by kernel_rfl)) ?_
 clear Z Y
 intro a w44 Z Y
 refine wlv Z (aw rfl rfl) fun a Z => wlm Z rfl fun a Z => wly Z (aj rfl) fun a Z => aJ Z Y (by decide) rfl (by decide) rfl Tryz.call98 rfl (bZ (y := .bool true) (dR (.slice (some ⟨w6.heap.size, 0, none⟩) 3 3) [⟨2, 1050, 3⟩, ⟨3, 1050, 0⟩, ⟨5, 1099, 0⟩] 1200 7 1099 (-1) _ (Y.ownAt (i := 4) rfl) (by kernel_rfl) (by kernel_rfl)) (by kernel_rfl)) ?_
 clear Z Y
 intro a w45 Z Y
 refine wlv Z (aw rfl rfl) fun a Z => wla Z rfl fun a Z => ab (hK16 _ _ ?_)
 replace Z : Fr 205 [(0, _), (1, _), (5, _), (6, _), (8, _), (10, _), (12, _), (14, _), (16, _), (20, _), (21, _), (22, _)] [] a := Z.pick [0, 1, 5, 6, 8, 10, 12, 14, 16, 20, 21, 22]
 replace Y : St No w0 [_, _, _, _, _] w45 := Y.mask [false, true, true, true, true, false, false, false, true]
 refine aa fun K17 hK17 => wlv Z (aR (v := .agg #[iv 6, iv 1449, iv 2]) rfl (by kernel_rfl)) fun a Z => aH (E := 96) (sz := 3) rfl [[iv 6, iv 1449, iv 2]] (by kernel_rfl) (by simp) rfl (by decide) (by decide) Z Y ?_
 clear Z Y
 intro a w46 Z Y
 refine az Z Y (by decide) Tryz.call98 rfl (bZ (y := .bool true) (dR (.slice (some ⟨w45.heap.size, 0, none⟩) 1 1) [⟨6, 1449, 2⟩] 1449 8 1449 (-1) _ (Y.ownAt (i := 0) rfl) (by kernel_rfl) (by kernel_rfl)) (by kernel_rfl)) ?_
 clear Z Y
 intro a w47 Z Y
 refine wlm Z rfl fun a Z => wly Z (aR (v := .agg #[iv 6, iv 1450, iv 2]) rfl (by kernel_rfl)) fun a Z => iX Z rfl rfl (by decide) rfl ?_
 refine aH (E := 96) (sz := 3) rfl [[iv 6, iv 1450, iv 2]] (by kernel_rfl) (by simp) rfl (by decide) (by decide) Z Y ?_
 clear Z Y
 intro a w48 Z Y
 refine aJ Z Y (by decide) rfl (by decide) rfl Tryz.call98 rfl (bZ (y := .bool true) (dR (.slice (some ⟨w47.heap.size, 0, none⟩) 1 1) [⟨6, 1450, 2⟩] 1450 5 1450 (-1) _ (Y.ownAt (i := 0) rfl) (by kernel_rfl) (by kernel_rfl)) (by kernel_rfl)) ?_
 clear Z Y
 intro a w49 Z Y
 refine wlv Z (aw rfl rfl) fun a Z => wla Z rfl fun a Z => ab (hK17 _ _ ?_)
 replace Z : Fr 205 [(0, _), (1, _), (5, _), (6, _), (8, _), (10, _), (12, _), (14, _), (16, _), (20, _), (21, _), (22, _), (23, _)] [] a := Z.pick [0, 1, 5, 6, 8, 10, 12, 14, 16, 20, 21, 22, 23]
 replace Y : St No w0 [_, _, _, _, _] w49 := Y.mask [false, false, true, true, true, true, true]
 refine aa fun K18 hK18 => wlm Z rfl fun a Z => wlv Z (aR (v := .agg #[iv 1, iv 1000, iv 1100]) rfl (by kernel_rfl)) fun a Z => wlv Z (aR (v := .agg #[iv 2, iv 1050, iv 1250]) rfl (by kernel_rfl)) fun a Z => wlv Z (aR (v := .agg #[iv 3, iv 1050, iv 1100]) rfl (by kernel_rfl)) fun a Z => wlv Z (aR (v := .agg #[iv 7, iv 1099, iv (-1)]) rfl (by kernel_rfl)) fun a Z => aH (E := 98) (sz := 3) rfl [[iv 1, iv 1000, iv 1100], [iv 2, iv 1050, iv 1250], [iv 3, iv 1050, iv 1100], [iv 7, iv 1099, iv (-1)]] (by kernel_rfl) (by simp) rfl (by decide) (by decide) Z Y ?_
 clear Z Y
 intro a w50 Z Y
 refine az Z Y (by decide) Tryz.call99 rfl (bZ (y := .bool true) (fY [⟨1, 1000, 1100⟩, ⟨2, 1050, 1250⟩, ⟨3, 1050, 1100⟩, ⟨7, 1099, -1⟩] [⟨1, 1000, 1100⟩, ⟨2, 1050, 1250⟩, ⟨3, 1050, 1100⟩, ⟨7, 1099, -1⟩] v5 (.slice (some ⟨w49.heap.size, 0, none⟩) 4 4) _ (Y.ownAt (i := 1) rfl) (Y.ownAt (i := 0) rfl)) (by kernel_rfl)) ?_
 clear Z Y
 intro a w51 Z Y
 refine wla Z rfl fun a Z => ab (hK18 _ _ ?_)
 replace Z : Fr 205 [(0, _), (1, _), (5, _), (6, _), (8, _), (10, _), (14, _), (16, _), (20, _), (21, _), (22, _), (23, _), (24, _)] [] a := Z.pick [0, 1, 5, 6, 8, 10, 14, 16, 20, 21, 22, 23, 24]
 replace Y : St No w0 [_, _, _, _] w51 := Y.mask [false, false, true, true, true, true]
 refine ai fun K19 hK19 => aK (by kernel_rfl) (aO (by kernel_rfl) fun w52 hxz => ?_)
 replace Y := Y.grow hxz
 refine aP (k := 0) 18 [17] (by kernel_rfl) (by kernel_rfl) (by kernel_rfl) ?_
 refine wlm Z rfl fun a Z => wlm Z rfl fun a Z => wly Z (aj rfl) fun a Z => wlv Z (aw rfl rfl) fun a Z => wlm Z rfl fun a Z => wly Z (aj rfl) fun a Z => wlv Z (aw rfl rfl) fun a Z => wlm Z rfl fun a Z => wly Z (aj rfl) fun a Z => wlv Z (aw rfl rfl) fun a Z => wlm Z rfl fun a Z => wly Z (aj rfl) fun a Z => wlv Z (aw rfl rfl) fun a Z => wlm Z rfl fun a Z => wly Z (aj rfl) fun a Z => wly Z ((v_eq rfl rfl).asb (b' := true) rfl) fun a Z => wlv Z (aw rfl rfl) fun a Z => wlm Z rfl fun a Z => ab ?_
 refine aV (k := 18) 20 [18, 19] Z (by kernel_rfl) (by kernel_rfl) (by kernel_rfl) (by rfl) ?_
 replace Z : Fr 205 [(0, _), (1, _), (5, _), (6, _), (8, _), (10, _), (14, _), (16, _), (20, _), (21, _), (22, _), (23, _), (24, _), (158, _), (159, _), (160, _), (161, _), (162, _), (163, _), (164, _), (165, _), (166, _), (167, _), (168, _), (169, _), (170, _), (171, _), (172, _), (173, _), (174, _), (175, _)] [] a := Z.pick [0, 1, 5, 6, 8, 10, 14, 16, 20, 21, 22, 23, 24, 158, 159, 160, 161, 162, 163, 164, 165, 166, 167, 168, 169, 170, 171, 172, 173, 174, 175]
 refine aZ 2 [[], []] (fun i => match i with | 0 => pv (v1) | 1 => pm (fun b : Nat => .slice (some ⟨b, 0, none⟩) 1 1) (fun b => [own (.slice (some ⟨b, 0, none⟩) 1 1) 3 1 [[iv 0]]]) (fun _ => True) | _ => fun _ _ => False) Z Y (by kernel_rfl) (by kernel_rfl) ?_ ?_
 ·intro i hi
  match i, hi with
  | 0, _ =>
   intro w Y
   exact OpV.g (aj rfl)
  | 1, _ =>
   intro w Y
   exact bV (E := 3) (sz := 1) rfl [[iv 0]] (fun _ => by kernel_rfl) (by simp) rfl (by decide)
 clear Z Y
 rintro _ _ ⟨rfl, rfl⟩ _ _ ⟨b8, rfl, -, rfl⟩ a w53 Z Y
 replace Z : Fr 205 [(176, _), (177, _), (0, _), (1, _), (5, _), (6, _), (8, _), (10, _), (14, _), (16, _), (20, _), (21, _), (22, _), (23, _), (24, _), (158, _), (159, _), (160, _), (161, _), (162, _), (163, _), (164, _), (165, _), (166, _), (167, _), (168, _), (169, _), (170, _), (171, _), (172, _), (173, _), (174, _), (175, _)] [] a := Z
 replace Y : St No w0 [_, _, _, _, _] w53 := Y
 refine ab <| aP (k := 20) 36 [35] (by kernel_rfl) (by kernel_rfl) (by kernel_rfl) ?_
 refine aJ Z Y (by decide) rfl (by decide) rfl Tryz.call49 rfl (bZ (y := .bool true) (iK [0] [0] v1 (.slice (some ⟨b8, 0, none⟩) 1 1) _ (Y.ownAt (i := 2) rfl) (Y.ownAt (i := 0) rfl)) (by kernel_rfl)) ?_
 clear Z Y
 intro a w54 Z Y
 refine wlv Z (aw rfl rfl) fun a Z => wlm Z rfl fun a Z => wly Z (aj rfl) fun a Z => wly Z ((aY (sT := 88) (Y.ownAt (i := 1) rfl) rfl rfl (Tryz.runUnderlying88 _)).asi (m' := 0) (by rfl)) fun a Z => wly Z ((v_eq rfl rfl).asb (b' := true) rfl) fun a Z => wlv Z (aw rfl rfl) fun a Z => wlm Z rfl fun a Z => wly Z (aj rfl) fun a Z => wly Z ((v_eq rfl rfl).asb (b' := true) rfl) fun a Z => wlv Z (aw rfl rfl) fun a Z => wlm Z rfl fun a Z => wly Z (aj rfl) fun a Z => wly Z ((v_eq rfl rfl).asb (b' := true) rfl) fun a Z => wlv Z (aw rfl rfl) fun a Z => wlm Z rfl fun a Z => ab <| aV (k := 36) 39 [36, 37, 38] Z (by kernel_rfl) (by kernel_rfl) (by kernel_rfl) (by rfl) ?_
 replace Z : Fr 205 [(0, _), (1, _), (5, _), (6, _), (8, _), (10, _), (14, _), (16, _), (20, _), (21, _), (22, _), (23, _), (24, _), (158, _), (159, _), (160, _), (161, _), (162, _), (163, _), (164, _), (165, _), (166, _), (167, _), (168, _), (169, _), (170, _), (171, _), (172, _), (173, _), (174, _), (175, _), (176, _), (177, _), (178, _), (179, _), (180, _), (181, _), (182, _), (183, _), (184, _), (185, _), (186, _), (187, _), (188, _), (189, _), (190, _), (191, _), (192, _), (193, _)] [] a := Z.pick [0, 1, 5, 6, 8, 10, 14, 16, 20, 21, 22, 23, 24, 158, 159, 160, 161, 162, 163, 164, 165, 166, 167, 168, 169, 170, 171, 172, 173, 174, 175, 176, 177, 178, 179, 180, 181, 182, 183, 184, 185, 186, 187, 188, 189, 190, 191, 192, 193]
 refine aZ 3 [[], [], []] (fun i => match i with | 0 => pv (.agg #[iv 100, iv 50, iv 200, iv 300]) | 1 => pv (.agg #[iv 55, iv 1, iv 2, iv 9, iv 1000, .bool false]) | 2 => pv ((.slice (some ⟨w6.heap.size, 0, none⟩) 3 3)) | _ => fun _ _ => False) Z Y (by kernel_rfl) (by kernel_rfl) ?_ ?_
 ·intro i hi
  match i, hi with
  | 0, _ =>
   intro w Y
   exact aU Tryz.call95 rfl (cq _)
  | 1, _ =>
   intro w Y
   exact OpV.g (ao (Y.get (k := 4) rfl) rfl (Tryz.isAgg83 _) (Tryz.sizeOf83 _))
  | 2, _ =>
   intro w Y
   exact OpV.g (aj rfl)
 clear Z Y
 rintro _ _ ⟨rfl, rfl⟩ _ _ ⟨rfl, rfl⟩ _ _ ⟨rfl, rfl⟩ a w55 Z Y
 replace Z : Fr 205 [(194, _), (195, _), (196, _), (0, _), (1, _), (5, _), (6, _), (8, _), (10, _), (14, _), (16, _), (20, _), (21, _), (22, _), (23, _), (24, _), (158, _), (159, _), (160, _), (161, _), (162, _), (163, _), (164, _), (165, _), (166, _), (167, _), (168, _), (169, _), (170, _), (171, _), (172, _), (173, _), (174, _), (175, _), (176, _), (177, _), (178, _), (179, _), (180, _), (181, _), (182, _), (183, _), (184, _), (185, _), (186, _), (187, _), (188, _), (189, _), (190, _), (191, _), (192, _), (193, _)] [] a := Z
 replace Y : St No w0 [_, _, _, _, _] w55 := Y
 refine ab <| aP (k := 39) 42 [41] (by kernel_rfl) (by kernel_rfl) (by kernel_rfl) ?_
 refine aJ Z Y (by decide) rfl (by decide) rfl Tryz.call100 rfl (bZ (y := .bool true) (eB exR exC (.slice (some ⟨w6.heap.size, 0, none⟩) 3 3) [⟨2, 1050, 3⟩, ⟨3, 1050, 0⟩, ⟨5, 1099, 0⟩] _ (Y.ownAt (i := 3) rfl)) (by kernel_rfl)) ?_
 clear Z Y
 intro a w56 Z Y
 refine wlv Z (aw rfl rfl) fun a Z => wlm Z rfl fun a Z => ab <| aV (k := 42) 44 [42, 43] Z (by kernel_rfl) (by kernel_rfl) (by kernel_rfl) (by rfl) ?_
 replace Z : Fr 205 [(0, _), (1, _), (5, _), (6, _), (8, _), (10, _), (14, _), (16, _), (20, _), (21, _), (22, _), (23, _), (24, _), (158, _), (159, _), (160, _), (161, _), (162, _), (163, _), (164, _), (165, _), (166, _), (167, _), (168, _), (169, _), (170, _), (171, _), (172, _), (173, _), (174, _), (175, _), (176, _), (177, _), (178, _), (179, _), (180, _), (181, _), (182, _), (183, _), (184, _), (185, _), (186, _), (187, _), (188, _), (189, _), (190, _), (191, _), (192, _), (193, _), (194, _), (195, _), (196, _), (197, _), (198, _), (199, _)] [] a := Z.pick [0, 1, 5, 6, 8, 10, 14, 16, 20, 21, 22, 23, 24, 158, 159, 160, 161, 162, 163, 164, 165, 166, 167, 168, 169, 170, 171, 172, 173, 174, 175, 176, 177, 178, 179, 180, 181, 182, 183, 184, 185, 186, 187, 188, 189, 190, 191, 192, 193, 194, 195, 196, 197, 198, 199]
 refine aZ 2 [[], []] (fun i => match i with | 0 => pv (.agg #[iv 0, iv 0, iv 0, iv 0]) | 1 => pv (.agg #[iv 55, iv 1, iv 2, iv 9, iv 1000, .bool false]) | _ => fun _ _ => False) Z Y (by kernel_rfl) (by kernel_rfl) ?_ ?_
 ·intro i hi
  match i, hi with
  | 0, _ =>
   intro w Y
   exact OpV.g (aR (v := .agg #[iv 0, iv 0, iv 0, iv 0]) rfl (by kernel_rfl))
  | 1, _ =>
   intro w Y
   exact OpV.g (ao (Y.get (k := 4) rfl) rfl (Tryz.isAgg83 _) (Tryz.sizeOf83 _))
 clear Z Y
 rintro _ _ ⟨rfl, rfl⟩ _ _ ⟨rfl, rfl⟩ a w57 Z Y
 replace Z : Fr 205 [(200, _), (201, _), (0, _), (1, _), (5, _), (6, _), (8, _), (10, _), (14, _), (16, _), (20, _), (21, _), (22, _), (23, _), (24, _), (158, _), (159, _), (160, _), (161, _), (162, _), (163, _), (164, _), (165, _), (166, _), (167, _), (168, _), (169, _), (170, _), (171, _), (172, _), (173, _), (174, _), (175, _), (176, _), (177, _), (178, _), (179, _), (180, _), (181, _), (182, _), (183, _), (184, _), (185, _), (186, _), (187, _), (188, _), (189, _), (190, _), (191, _), (192, _), (193, _), (194, _), (195, _), (196, _), (197, _), (198, _), (199, _)] [] a := Z
 replace Y : St No w0 [_, _, _, _, _] w57 := Y
 refine ab <| aP (k := 44) 48 [47] (by kernel_rfl) (by kernel_rfl) (by kernel_rfl) ?_
 refine aJ Z Y (by decide) rfl (by decide) rfl Tryz.call100 rfl (bZ (y := .bool false) (eB ⟨0, 0, 0, 0⟩ exC (.slice none 0 0) [] _ (cG _ _)) (by kernel_rfl)) ?_
 clear Z Y
 intro a w58 Z Y
 refine wly Z ((bK rfl).asb (b' := true) rfl) fun a Z => wlv Z (aw rfl rfl) fun a Z => wla Z rfl fun a Z => ab <| bd (by kernel_rfl) ?_
 refine hK19 _ _ ?_
 replace Z : Fr 205 [(0, _)] [] a := Z.pick [0]
 replace Y : St No w0 [] w58 := Y.mask [false, false, false, false, false]
 refine aq ?_
 refine ak Z Tryz.results39 (ah rfl ag) ?_
 exact ⟨by rfl, Y.ext⟩
end Go.Proofs.YtmmfieceinmloaaGreatDoor.K16
namespace Go.Proofs.YtmmfieceinmloaaGreatDoor.K16
set_option linter.unusedVariables false
set_option linter.unusedSimpArgs false
theorem f5 (r : Rul) (s : Int) : begins r 1 s = ⟨1, s, s + r.answer⟩ := rfl
theorem n7 (r : Rul) (s : Int) : begins r 3 s = ⟨3, s, s + r.cooling⟩ := rfl
theorem nk (r : Rul) (s : Int) : begins r 4 s = ⟨4, s, s + r.reverse⟩ := rfl
theorem nm (r : Rul) (s : Int) : begins r 8 s = ⟨8, s, -1⟩ := rfl
theorem due1 : bC 1 = 3 := rfl
theorem due3 : bC 3 = 4 := rfl
theorem fS {n : Nat} {r : Rul} {u : Int} {s t : Int} : aloneF n r u ⟨s, t, -1⟩ = [] := cS (by simp)
theorem gI {r : Rul} {u s t n : Int} (h : u < n) : alone r u ⟨s, t, n⟩ = [] := cS (by simp only; omega)
theorem jr {r : Rul} {b : Bool} {i : Nat} {now now1 : Stt} {l : List Evt} {x : Evt} (hn : lastOf now (alone r x.at_ now) = now1) (ha : (after b now1.state x).2 = true) :
  runE r b i now (x :: l) = (alone r x.at_ now ++ begins r (after b now1.state x).1 x.at_ :: (runE r b (i + 1) (begins r (after b now1.state x).1 x.at_) l).1, (runE r b (i + 1) (begins r (after b now1.state x).1 x.at_) l).2) := by
 rw [runE]; simp only [hn, ha, if_true]
theorem ld {r : Rul} {b : Bool} {i : Nat} {now now1 : Stt} {l : List Evt} {x : Evt} (hn : lastOf now (alone r x.at_ now) = now1) (ha : (after b now1.state x).2 = false) :
  runE r b i now (x :: l) = (alone r x.at_ now ++ (runE r b (i + 1) now1 l).1, (i : Int) :: (runE r b (i + 1) now1 l).2) := by
 rw [runE]; simp only [hn, ha]; rfl
theorem dj {t : Int} {a : Stt} {l : List Stt} (h : a.since ≤ t) : (a :: l).takeWhile (fun s => decide (s.since ≤ t)) = a :: l.takeWhile (fun s => decide (s.since ≤ t)) := List.takeWhile_cons_of_pos (by simpa using h)
section
variable {r : Rul} {c : Clm} {l : List Evt} {t : Int}
theorem out4e {s1 s2 s3 s4 : Stt} (h : aT r c l = [s1, s2, s3, s4]) (h1 : s1.since ≤ t) (h2 : s2.since ≤ t) (h3 : s3.since ≤ t) (h4 : s4.since ≤ t) : bQ r c l t = s4 := by
 rw [bQ, h, dj h1, dj h2, dj h3, dj h4]; rfl
end
theorem eG {r : Rul} {c : Clm} {e : Evt} (hr : aW r = true) (hc : bH c = true) (he : badEvt c.asked e = false) : valid r c [e] = true := by simp [valid, hr, hc, anyBad, he]
def bnd (r : Rul) (c : Clm) (s : Int) : Int :=
 if s = 1 then c.asked else if s = 2 then c.asked + r.answer - 1 else if s = 3 then c.asked + r.answer - 1 + r.settle else if s = 4 then c.asked + r.answer - 1 + r.settle + r.cooling else ends r c
def Tame (r : Rul) (c : Clm) (now : Stt) : Prop := Sound r now ∧ now.since ≤ bnd r c now.state ∧ (1 ≤ now.state ∧ now.state ≤ 8)
theorem Tame.step {r : Rul} {c : Clm} {now : Stt} (hr : aW r = true) (h : Tame r c now) (h0 : 0 ≤ now.next) : Tame r c (begins r (bC now.state) now.next) := by
 have hb := bP hr
 obtain ⟨hs, ht, hlo, hhi⟩ := h
 have hk := hs.step hr h0
 refine ⟨hk.1, ?_⟩
 have hn : now.next = (begins r now.state now.since).next := by rw [← hs.1]
 simp only [begins, dueSec, bC, bnd, ends] at *
 by_cases e1 : now.state = 1
 ·simp [e1] at *; omega
 by_cases e2 : now.state = 2
 ·simp [e2] at *; omega
 by_cases e3 : now.state = 3
 ·simp [e3] at *; omega
 by_cases e4 : now.state = 4
 ·simp [e4] at *; omega
 ·simp [e1, e2, e3, e4] at hn; omega
end Go.Proofs.YtmmfieceinmloaaGreatDoor.K16
namespace Go.Proofs.YtmmfieceinmloaaGreatDoor.K16
set_option linter.unusedVariables false
set_option linter.unusedSimpArgs false
end Go.Proofs.YtmmfieceinmloaaGreatDoor.K16
namespace Go.Proofs.YtmmfieceinmloaaGreatDoor.K16
set_option linter.unusedVariables false
set_option linter.unusedSimpArgs false
end Go.Proofs.YtmmfieceinmloaaGreatDoor.K16
namespace Go.Proofs.YtmmfieceinmloaaGreatDoor.K16
open Go.RowKit Go.PW
set_option linter.unusedVariables false
set_option linter.unusedSimpArgs false
set_option maxRecDepth 4000
theorem jh {f : FuncId} {args : Array Value} {w : World} {x y : Value} (h : Ret Tryz.prog f args w fun v w' => v = x ∧ Ext No w w') (e : x = y) : Ret Tryz.prog f args w fun v w' => v = y ∧ Ext No w w' := e ▸ h
end Go.Proofs.YtmmfieceinmloaaGreatDoor.K16
namespace Go.Proofs.YtmmfieceinmloaaGreatDoor.K16
set_option linter.unusedVariables false
set_option linter.unusedSimpArgs false
theorem nC (r : Rul) (s : Int) : begins r 6 s = ⟨6, s, -1⟩ := rfl
theorem fp (t : Int) : after false 1 ⟨2, t, 1⟩ = (6, true) := by simp [after, effect]
theorem gH (t : Int) : after false 4 ⟨6, t, 1⟩ = (8, true) := by simp [after, effect]
theorem kL {t : Int} : (after true 1 ⟨2, t, 1⟩).2 = false := by simp [after, effect]
theorem kK {t : Int} : (after true 4 ⟨6, t, 1⟩).2 = false := by simp [after, effect]
theorem gh {n : Nat} {r : Rul} {s u : Int} (hs : 0 ≤ s) (h0 : 0 ≤ r.answer) (h1 : 0 ≤ r.cooling) (h : s + r.answer + r.cooling ≤ u) (h2 : u < s + r.answer + r.cooling + r.reverse) :
  aloneF (n + 3) r u ⟨1, s, s + r.answer⟩ = [⟨3, s + r.answer, s + r.answer + r.cooling⟩, ⟨4, s + r.answer + r.cooling, s + r.answer + r.cooling + r.reverse⟩] := by
 rw [ee (by simp only; omega) (by simp only; omega)]; rw [due1, n7, ee (by simp only; omega) (by simp only; omega)]
 rw [due3, nk, cS (by simp only; omega)]
section
variable {r : Rul} {c : Clm} {d : Int}
theorem f1 (hr : aW r = true) (hc : bH c = true) (hb : c.backed = false) (h0 : 0 ≤ d) (hd : d < r.answer) :
  aT r c [⟨2, c.asked + d, 1⟩] = [⟨1, c.asked, c.asked + r.answer⟩, ⟨6, c.asked + d, -1⟩] := by
 have h1 := bP hr
 have h2 := cH hc
 rw [aT, hb, first, f5, jr (now1 := ⟨1, c.asked, c.asked + r.answer⟩) (by rw [gI (by simp only; omega)]; rfl) (by rw [fp])]
 simp only [fp, nC, runE, alone]
 rw [fS, cS (by simp only; omega)]
 rfl
theorem gT (hr : aW r = true) (hc : bH c = true) (hb : c.backed = false) (h0 : 0 ≤ d) (hd : d < r.reverse) :
  aT r c [⟨6, c.asked + r.answer + r.cooling + d, 1⟩] = [⟨1, c.asked, c.asked + r.answer⟩, ⟨3, c.asked + r.answer, c.asked + r.answer + r.cooling⟩, ⟨4, c.asked + r.answer + r.cooling, c.asked + r.answer + r.cooling + r.reverse⟩, ⟨8, c.asked + r.answer + r.cooling + d, -1⟩] := by
 have h1 := bP hr
 have h2 := cH hc
 have ha : aloneF 4 r (c.asked + r.answer + r.cooling + d) ⟨1, c.asked, c.asked + r.answer⟩ = [⟨3, c.asked + r.answer, c.asked + r.answer + r.cooling⟩, ⟨4, c.asked + r.answer + r.cooling, c.asked + r.answer + r.cooling + r.reverse⟩] := gh (n := 1) (by omega) (by omega) (by omega) (by omega) (by omega)
 rw [aT, hb, first, f5, jr (now1 := ⟨4, c.asked + r.answer + r.cooling, c.asked + r.answer + r.cooling + r.reverse⟩) (by rw [alone, ha]; rfl) (by rw [gH])]
 simp only [gH, nm, runE, alone]
 rw [fS, ha]
 rfl
theorem kl (hr : aW r = true) (hc : bH c = true) (hb : c.backed = false) (h0 : 0 ≤ d) (hd : d < r.answer) : bQ r c [⟨2, c.asked + d, 1⟩] (c.asked + d) = ⟨6, c.asked + d, -1⟩ := by
 rw [bQ, f1 hr hc hb h0 hd, dj (by simp only; omega), dj (by simp only; omega)]; rfl
theorem mS (hr : aW r = true) (hc : bH c = true) (hb : c.backed = false) (h0 : 0 ≤ d) (hd : d < r.reverse) : bQ r c [⟨6, c.asked + r.answer + r.cooling + d, 1⟩] (c.asked + r.answer + r.cooling + d) = ⟨8, c.asked + r.answer + r.cooling + d, -1⟩ := by
 have h1 := bP hr
 exact out4e (gT hr hc hb h0 hd) (by simp only; omega) (by simp only; omega) (by simp only; omega) (by simp only; omega)
theorem kO (hr : aW r = true) (hc : bH c = true) (hb : c.backed = true) (h0 : 0 ≤ d) (hd : d < r.answer) : voids r c [⟨2, c.asked + d, 1⟩] = [0] := by
 have h1 := bP hr
 have h2 := cH hc
 rw [voids, hb, first, f5, ld (now1 := ⟨1, c.asked, c.asked + r.answer⟩) (by rw [gI (by simp only; omega)]; rfl) kL]
 rfl
theorem kN (hr : aW r = true) (hc : bH c = true) (hb : c.backed = true) (h0 : 0 ≤ d) (hd : d < r.reverse) : voids r c [⟨6, c.asked + r.answer + r.cooling + d, 1⟩] = [0] := by
 have h1 := bP hr
 have h2 := cH hc
 have ha : aloneF 4 r (c.asked + r.answer + r.cooling + d) ⟨1, c.asked, c.asked + r.answer⟩ = [⟨3, c.asked + r.answer, c.asked + r.answer + r.cooling⟩, ⟨4, c.asked + r.answer + r.cooling, c.asked + r.answer + r.cooling + r.reverse⟩] := gh (n := 1) (by omega) (by omega) (by omega) (by omega) (by omega)
 rw [voids, hb, first, f5, ld (now1 := ⟨4, c.asked + r.answer + r.cooling, c.asked + r.answer + r.cooling + r.reverse⟩) (by rw [alone, ha]; rfl) kK]
 rfl
end
end Go.Proofs.YtmmfieceinmloaaGreatDoor.K16
namespace Go.Proofs.YtmmfieceinmloaaGreatDoor.K16
open Go.RowKit Go.PW
set_option linter.unusedVariables false
set_option linter.unusedSimpArgs false
set_option maxRecDepth 4000
def Clm.z : Clm := ⟨0, 0, 0, 0, 0, false⟩
def Evt.z : Evt := ⟨0, 0, 0⟩
def backT (ks : List By) (x : Wsh) (ps : List Pxy) (cl : Clm) : Clm × Int := if bH cl = true then (⟨cl.number, cl.frm, cl.to, cl.holder, cl.asked, decide (x.carrier = cl.to) && decide (x.holder = cl.holder) && validH ks x ps cl.number cl.asked⟩, 0) else (Clm.z, 160)
set_option maxHeartbeats 4000000 in
theorem nJ (kv lv : Value) (ks : List By) (x : Wsh) (ps : List Pxy) (cl : Clm) (w0 : World) (hkv : SlAt w0 kv 1 (ks.map fun s => [sv s])) (hlv : SlAt w0 lv 7 (ps.map Pxy.cells)) (hk0 : (blk 0 (kOf.map wv) 239).ok w0) :
  Ret Tryz.prog 44 #[kv, .agg #[iv x.signer, iv x.holder, iv x.rf, iv x.rt, iv x.carrier, iv x.serial, iv x.sf, iv x.st, sv x.sig], lv, .agg #[iv cl.number, iv cl.frm, iv cl.to, iv cl.holder, iv cl.asked, .bool cl.backed]] w0 fun v w => v = .tuple #[(backT ks x ps cl).1.val, iv (backT ks x ps cl).2] ∧ Ext No w0 w := by
 obtain ⟨vb, hvb⟩ : ∃ b, validH ks x ps cl.number cl.asked = b := ⟨_, rfl⟩
 refine aD Tryz.func44 rfl Tryz.ntmps44 (lb rfl) fun a Z => ?_
 replace Z : Fr 38 [(0, _), (1, _), (2, _), (3, _)] [] a := Z
 replace Y : St No w0 [] w0 := St.init w0
 refine aa fun K1 hK1 => aN Z Y (by decide) rfl (cs := [iv x.signer, iv x.holder, iv x.rf, iv x.rt, iv x.carrier, iv x.serial, iv x.sf, iv x.st, sv x.sig]) rfl ?_
 clear Z Y
 intro a w1 Z Y
 refine aN Z Y (by decide) rfl (cs := [iv cl.number, iv cl.frm, iv cl.to, iv cl.holder, iv cl.asked, .bool cl.backed]) rfl ?_
 clear Z Y
 intro a w2 Z Y
 refine aI Z Y (by decide) (Tryz.zeroValue83 _) (cs := [iv 0, iv 0, iv 0, iv 0, iv 0, .bool false]) rfl ?_
 clear Z Y
 intro a w3 Z Y
 refine wla Z rfl fun a Z => ab (hK1 _ _ <| ai fun K2 hK2 => ?_)
 refine aa fun K3 hK3 => wlv Z (ao (Y.get (k := 1) rfl) rfl (Tryz.isAgg83 _) (Tryz.sizeOf83 _)) fun a Z => az Z Y (by decide) Tryz.call108 rfl (eU cl _) ?_
 clear Z Y
 intro a w4 Z Y
 refine wlv Z (bK rfl) fun a Z => ab (hK3 _ _ ?_)
 refine aB Z rfl (fun hc1 => ?_) (fun hc1 => ?_)
 ·rw [hc1] at Z
  try simp only [qz] at hc1
  refine aa fun K4 hK4 => wlv Z (aR (v := .agg #[iv 0, iv 0, iv 0, iv 0, iv 0, .bool false]) rfl (by kernel_rfl)) fun a Z => ap 0 Z Y rfl rfl rfl (Tryz.sizeOf83 _) rfl (lb rfl) (ds := [iv 0, iv 0, iv 0, iv 0, iv 0, .bool false]) rfl rfl ?_
  clear Z Y
  intro a w5 Z Y
  refine wla Z rfl fun a Z => ab (hK4 _ _ ?_)
  replace Z : Fr 38 [(0, _), (2, _), (5, _), (7, _), (8, _), (9, _)] [] a := Z.pick [0, 2, 5, 7, 8, 9]
  refine aq ?_
  refine ak Z Tryz.results44 (aE rfl (bW (Y.get (k := 0) rfl) (Tryz.isAgg83 _) (Tryz.sizeOf83 _)) (ah rfl ag)) ?_
  exact ⟨by simp only [retv]; unfold backT; rw [if_neg (by simp [hc1])]; rfl, Y.ext⟩
 rw [hc1] at Z
 try simp only [qz] at hc1
 refine ay <| hK2 _ _ <| aa fun K5 hK5 => wlv Z (ac (v := .pointer (some ⟨w0.heap.size, 4, none⟩)) rfl (by kernel_rfl)) fun a Z => wlv Z (ae (Y.get (k := 2) rfl) rfl (Tryz.isAgg3 _) rfl) fun a Z => wlv Z (ac (v := .pointer (some ⟨w1.heap.size, 2, none⟩)) rfl (by kernel_rfl)) fun a Z => wlv Z (ae (Y.get (k := 1) rfl) rfl (Tryz.isAgg3 _) rfl) fun a Z => ?_
 refine wlv Z (v_eq rfl rfl) fun a Z => wlm Z rfl fun a Z => ?_
 rcases Bool.eq_false_or_eq_true (decide (x.carrier = cl.to)) with hb2 | hb2
 ·rw [hb2] at Z
  try simp only [qz] at hb2
  refine wly Z (ac (v := .pointer (some ⟨w0.heap.size, 1, none⟩)) rfl (by kernel_rfl)) fun a Z => wly Z (ae (Y.get (k := 2) rfl) rfl (Tryz.isAgg3 _) rfl) fun a Z => wly Z (ac (v := .pointer (some ⟨w1.heap.size, 3, none⟩)) rfl (by kernel_rfl)) fun a Z => wly Z (ae (Y.get (k := 1) rfl) rfl (Tryz.isAgg3 _) rfl) fun a Z => wly Z (v_eq rfl rfl) fun a Z => wlv Z (aw rfl rfl) fun a Z => wlm Z rfl fun a Z => ?_
  rcases Bool.eq_false_or_eq_true (decide (x.holder = cl.holder)) with hb3 | hb3
  ·rw [hb3] at Z
   try simp only [qz] at hb3
   refine wly Z (aj rfl) fun a Z => wly Z (ao (Y.get (k := 2) rfl) rfl (Tryz.isAgg30 _) (Tryz.sizeOf30 _)) fun a Z => wly Z (aj rfl) fun a Z => wly Z (ac (v := pq w1.heap.size) rfl (by kernel_rfl)) fun a Z => wly Z (ae (Y.get (k := 1) rfl) rfl (Tryz.isAgg3 _) rfl) fun a Z => wly Z (ac (v := .pointer (some ⟨w1.heap.size, 4, none⟩)) rfl (by kernel_rfl)) fun a Z => wly Z (ae (Y.get (k := 1) rfl) rfl (Tryz.isAgg3 _) rfl) fun a Z => aJ Z Y (by decide) rfl (by decide) rfl Tryz.call17 rfl (j8 (Y.arg hkv) (Y.arg hlv) (Y.keepb hk0) hvb) ?_
   clear Z Y
   intro a w6 Z Y
   refine wlv Z (aw rfl rfl) fun a Z => wlv Z (ac (v := .pointer (some ⟨w1.heap.size, 5, none⟩)) rfl (by kernel_rfl)) fun a Z => ap 1 Z Y rfl rfl rfl (Tryz.sizeOf4 _) rfl (lb rfl) (ds := [iv cl.number, iv cl.frm, iv cl.to, iv cl.holder, iv cl.asked, .bool vb]) rfl rfl ?_
   clear Z Y
   intro a w7 Z Y
   refine ab (hK5 _ _ ?_)
   replace Z : Fr 38 [(7, _), (8, _), (9, _)] [] a := Z.pick [7, 8, 9]
   replace Y : St No w0 [_, _] w7 := Y.mask [true, true, false]
   refine aa fun K6 hK6 => wlv Z (ao (Y.get (k := 1) rfl) rfl (Tryz.isAgg83 _) (Tryz.sizeOf83 _)) fun a Z => ap 0 Z Y rfl rfl rfl (Tryz.sizeOf83 _) rfl (lb rfl) (ds := [iv cl.number, iv cl.frm, iv cl.to, iv cl.holder, iv cl.asked, .bool vb]) rfl rfl ?_
   clear Z Y
   intro a w8 Z Y
   refine wla Z rfl fun a Z => ab (hK6 _ _ <| aq ?_)
   refine ak Z Tryz.results44 (aE rfl (bW (Y.get (k := 0) rfl) (Tryz.isAgg83 _) (Tryz.sizeOf83 _)) (ah rfl ag)) ?_
   exact ⟨by simp only [retv]; unfold backT; rw [if_pos (by simpa using hc1), hvb]; simp [Clm.val, hb2, hb3], Y.ext⟩
  rw [hb3] at Z
  try simp only [qz] at hb3
  refine wln Z fun a Z => wln Z fun a Z => wln Z fun a Z => wln Z fun a Z => wln Z fun a Z => wln Z fun a Z => wln Z fun a Z => ?_
  refine wln Z fun a Z => wlv Z (au rfl rfl) fun a Z => wlv Z (ac (v := .pointer (some ⟨w1.heap.size, 5, none⟩)) rfl (by kernel_rfl)) fun a Z => ap 1 Z Y rfl rfl rfl (Tryz.sizeOf4 _) rfl (lb rfl) (ds := [iv cl.number, iv cl.frm, iv cl.to, iv cl.holder, iv cl.asked, .bool false]) rfl rfl ?_
  clear Z Y
  intro a w9 Z Y
  refine ab (hK5 _ _ ?_)
  replace Z : Fr 38 [(7, _), (8, _), (9, _)] [] a := Z.pick [7, 8, 9]
  replace Y : St No w0 [_, _] w9 := Y.mask [true, true, false]
  refine aa fun K7 hK7 => wlv Z (ao (Y.get (k := 1) rfl) rfl (Tryz.isAgg83 _) (Tryz.sizeOf83 _)) fun a Z => ap 0 Z Y rfl rfl rfl (Tryz.sizeOf83 _) rfl (lb rfl) (ds := [iv cl.number, iv cl.frm, iv cl.to, iv cl.holder, iv cl.asked, .bool false]) rfl rfl ?_
  clear Z Y
  intro a w10 Z Y
  refine wla Z rfl fun a Z => ab (hK7 _ _ <| aq ?_)
  refine ak Z Tryz.results44 (aE rfl (bW (Y.get (k := 0) rfl) (Tryz.isAgg83 _) (Tryz.sizeOf83 _)) (ah rfl ag)) ?_
  exact ⟨by simp only [retv]; unfold backT; rw [if_pos (by simpa using hc1), hvb]; simp [Clm.val, hb2, hb3], Y.ext⟩
 rw [hb2] at Z
 try simp only [qz] at hb2
 refine wln Z fun a Z => wln Z fun a Z => wln Z fun a Z => wln Z fun a Z => wln Z fun a Z => wlv Z (au rfl rfl) fun a Z => wlm Z rfl fun a Z => wln Z fun a Z => ?_
 refine wln Z fun a Z => wln Z fun a Z => wln Z fun a Z => wln Z fun a Z => wln Z fun a Z => wln Z fun a Z => wln Z fun a Z => ?_
 refine wlv Z (au rfl rfl) fun a Z => wlv Z (ac (v := .pointer (some ⟨w1.heap.size, 5, none⟩)) rfl (by kernel_rfl)) fun a Z => ap 1 Z Y rfl rfl rfl (Tryz.sizeOf4 _) rfl (lb rfl) (ds := [iv cl.number, iv cl.frm, iv cl.to, iv cl.holder, iv cl.asked, .bool false]) rfl rfl ?_
 clear Z Y
 intro a w11 Z Y
 refine ab (hK5 _ _ ?_)
 replace Z : Fr 38 [(7, _), (8, _), (9, _)] [] a := Z.pick [7, 8, 9]
 replace Y : St No w0 [_, _] w11 := Y.mask [true, true, false]
 refine aa fun K8 hK8 => wlv Z (ao (Y.get (k := 1) rfl) rfl (Tryz.isAgg83 _) (Tryz.sizeOf83 _)) fun a Z => ap 0 Z Y rfl rfl rfl (Tryz.sizeOf83 _) rfl (lb rfl) (ds := [iv cl.number, iv cl.frm, iv cl.to, iv cl.holder, iv cl.asked, .bool false]) rfl rfl ?_
 clear Z Y
 intro a w12 Z Y
 refine wla Z rfl fun a Z => ab (hK8 _ _ <| aq ?_)
 refine ak Z Tryz.results44 (aE rfl (bW (Y.get (k := 0) rfl) (Tryz.isAgg83 _) (Tryz.sizeOf83 _)) (ah rfl ag)) ?_
 exact ⟨by simp only [retv]; unfold backT; rw [if_pos (by simpa using hc1), hvb]; simp [Clm.val, hb2], Y.ext⟩
theorem da {kv lv : Value} {ks : List By} {x : Wsh} {ps : List Pxy} {cl b : Clm} {e : Int} {w0 : World} (hb : backT ks x ps cl = (b, e)) (hkv : SlAt w0 kv 1 (ks.map fun s => [sv s])) (hlv : SlAt w0 lv 7 (ps.map Pxy.cells)) (hk0 : (blk 0 (kOf.map wv) 239).ok w0) : Ret Tryz.prog 44 #[kv, .agg #[iv x.signer, iv x.holder, iv x.rf, iv x.rt, iv x.carrier, iv x.serial, iv x.sf, iv x.st, sv x.sig], lv, .agg #[iv cl.number, iv cl.frm, iv cl.to, iv cl.holder, iv cl.asked, .bool cl.backed]] w0 fun v w => v = .tuple #[.agg #[iv b.number, iv b.frm, iv b.to, iv b.holder, iv b.asked, .bool b.backed], iv e] ∧ Ext No w0 w := by
 have := nJ kv lv ks x ps cl w0 hkv hlv hk0
 rw [hb] at this
 exact this
end Go.Proofs.YtmmfieceinmloaaGreatDoor.K16
namespace Go.Proofs.YtmmfieceinmloaaGreatDoor.K16
open Go.RowKit Go.PW
set_option linter.unusedVariables false
set_option linter.unusedSimpArgs false
set_option maxRecDepth 4000
theorem nb (holder r0 r1 s0 s1 carrier serial : Int) (l : List Cin) : (madeW holder r0 r1 s0 s1 carrier serial l).rt ≤ 11000 ∧ (madeW holder r0 r1 s0 s1 carrier serial l).st ≤ 11000 := by
 have h := eN (l := l.take 4) (dU holder r0 r1 s0 s1)
 exact ⟨h.2.2.2.2.1, h.2.2.2.2.2.2.2⟩
theorem fd {ks : List By} {x : Wsh} {ps : List Pxy} {cl : Clm} {b : Bool} (hc : bH cl = true) (hb : (decide (x.carrier = cl.to) && decide (x.holder = cl.holder) && validH ks x ps cl.number cl.asked) = b) : backT ks x ps cl = (⟨cl.number, cl.frm, cl.to, cl.holder, cl.asked, b⟩, 0) := by
 unfold backT; rw [if_pos hc, hb]
theorem Wsh.ok_bnd2 {w : Wsh} (h : w.ok = true) : 0 ≤ w.holder ∧ w.holder ≤ 63 ∧ 0 ≤ w.carrier ∧ w.carrier ≤ 7 ∧ 0 ≤ w.rf ∧ w.rf < w.rt ∧ 0 ≤ w.sf ∧ w.sf < w.st := by
 simp only [Wsh.ok, inB, cc, cB, Bool.and_eq_true, decide_eq_true_eq] at h; omega
theorem g8 {rl : Rul} {cl : Clm} {sv : Value} {l : List Evt} {t : Int} {s : Stt} {w0 : World} (hs : bQ rl cl l t = s) (hsv : SlAt w0 sv 3 (l.map Evt.cells)) (hv : valid rl cl l = true) (hin : isIn t 0 20000000 = true) :
  Ret Tryz.prog 47 #[.agg #[iv rl.answer, iv rl.cooling, iv rl.settle, iv rl.reverse], .agg #[iv cl.number, iv cl.frm, iv cl.to, iv cl.holder, iv cl.asked, .bool cl.backed], sv, iv t] w0 fun v w => v = .tuple #[.agg #[iv s.state, iv s.since, iv s.next], iv 0] ∧ Ext No w0 w := by
 have := e8 rl cl sv l t w0 hsv hv hin
 rw [hs] at this
 exact this
theorem mu {rl : Rul} {cl : Clm} {sv : Value} {l : List Evt} {vo : List Int} {w0 : World} (hs : voids rl cl l = vo) (hsv : SlAt w0 sv 3 (l.map Evt.cells)) (hv : valid rl cl l = true) :
  Ret Tryz.prog 48 #[.agg #[iv rl.answer, iv rl.cooling, iv rl.settle, iv rl.reverse], .agg #[iv cl.number, iv cl.frm, iv cl.to, iv cl.holder, iv cl.asked, .bool cl.backed], sv] w0 (MemR w0 (fun v : Value => .tuple #[v, iv 0]) (fun v => [own v 3 1 (vo.map fun i => [iv i])]) (fun _ => True)) := by
 have := iC rl cl sv l w0 hsv hv
 rw [hs] at this
 exact this
theorem gp {c n k : Int} {f : FuncId} {args : Array Value} {w : World} (hk : pick c n = k) (h : Ret Tryz.prog f args w fun v w' => v = iv (pick c n) ∧ Ext No w w') : Ret Tryz.prog f args w fun v w' => v = iv k ∧ Ext No w w' := by subst hk; exact h
theorem gR {key s : By} (hk : key.length ≤ 1000) (hs : s.length ≤ 1000) : ∀ z ∈ bM key s, z.length ≤ 100000000 := by
 intro z hz
 simp only [bM, List.mem_cons, List.not_mem_nil, or_false] at hz
 rcases hz with rfl | rfl
 ·simp; omega
 ·have := dQ dW (s := s)
  simp only [List.length_append, List.length_cons, List.length_nil]; omega
theorem dY {who : Int} (h : 0 ≤ who ∧ who < 10) : keysH.getD who.toNat [] = keyH who := by
 have h1 := fm h.1 h.2
 unfold keyAt at h1
 rw [if_neg (by omega)] at h1
 rw [List.getD_eq_getElem?_getD, h1]; rfl
theorem mQ {k k' c c' : By} (hc : c ≠ c') (h1 : k.length = 32) (h2 : k'.length = 32) (h : sealH k c = sealH k' c') : collH (bM k c) (bM k' c') = true := by
 by_cases e : k ++ leafH sha c = k' ++ leafH sha c'
 ·have e3 := (List.append_inj e (by rw [h1, h2])).2
  refine fG (i := 0) (j := 0) (by simp [bM]) (by simp [bM]) ?_
  have e1 : ¬ (bM k c).getD 0 [] = (bM k' c').getD 0 [] := fun e => hc (by simpa [bM] using e)
  have e2 : sha ((bM k c).getD 0 []) = sha ((bM k' c').getD 0 []) := e3
  unfold collB
  rw [decide_eq_false e1, decide_eq_true e2]; rfl
 ·refine fG (i := 1) (j := 1) (by simp [bM]) (by simp [bM]) ?_
  have e1 : ¬ (bM k c).getD 1 [] = (bM k' c').getD 1 [] := fun e2 => e (by simpa [bM] using e2)
  have e2 : sha ((bM k c).getD 1 []) = sha ((bM k' c').getD 1 []) := by
   unfold sealH nodeH at h; simpa [bM] using h
  unfold collB
  rw [decide_eq_false e1, decide_eq_true e2]; rfl
theorem Wsh.content_inj {v x : Wsh} (hv : v.ok = true) (hx : x.ok = true) (hs : v.sig = x.sig) (h : v.content = x.content) : v = x := by
 obtain ⟨e, _⟩ := jC (k := v.nums) (l := x.nums) (a := []) (b := []) rfl (Wsh.smalls_of hv) (Wsh.smalls_of hx) (by
  show v.content ++ [] = x.content ++ []
  rw [h])
 cases v; cases x
 simp only [Wsh.nums, List.cons.injEq, true_and, and_true] at e
 simp only at hs
 obtain ⟨rfl, rfl, rfl, rfl, rfl, rfl, rfl, rfl⟩ := e
 subst hs; rfl
theorem jk {ks : List By} {x : Wsh} {ps : List Pxy} {n t : Int} (h : validH ks x ps n t = true) : x.ok = true := by
 obtain ⟨h0, _⟩ := eJ.1 h
 cases hx : x.ok with
 | true => rfl
 | false => exact absurd (.inr (.inr (.inl hx))) h0
theorem nh {x v : Wsh} {ps : List Pxy} (h : Mk x ps) (hs : v.sig = x.sig) (hne : ¬ v = x) {n t : Int} (hv : validH keysH v ps n t = true) :
  v.ok = true ∧ (0 ≤ v.signer ∧ v.signer < 10) ∧ collH (bM (keysH.getD x.signer.toNat []) x.content) (bM (keysH.getD v.signer.toNat []) v.content) = true := by
 have hok := jk hv
 obtain ⟨_, _, _, _, _, _, hl⟩ := eJ.1 hv
 obtain ⟨key, h1, h2⟩ := (fq hl).2
 obtain ⟨h3, h4, rfl⟩ := fI h1
 refine ⟨hok, ⟨h3, h4⟩, ?_⟩
 rw [dY ⟨h3, h4⟩, dY ⟨h.sgn.1, h.sgn.2.1⟩]
 exact mQ (fun e => hne (Wsh.content_inj hok h.ok hs e.symm)) (cO _) (cO _) (by rw [← h2, ← h.sgn.2.2, hs])
set_option maxHeartbeats 4000000 in
theorem j0 (holder r0 r1 s0 s1 carrier serial : Int) (cv : Value) (ys : List Cin) (x0 x1 x2 x3 how n number second when_ : Int) (w0 : World) (hcv : SlAt w0 cv 5 (ys.map Cin.cells)) (hys : ∀ y ∈ ys, y.wt) (h0 : i64 holder) (h1 : i64 r0) (h2 : i64 r1) (h3 : i64 s0) (h4 : i64 s1) (h5 : i64 carrier) (h6 : i64 serial) (hk0 : (blk 0 (kOf.map wv) 239).ok w0) (g0 : isI64 x0) (g1 : isI64 x1) (g2 : isI64 x2) (g3 : isI64 x3) (h7 : i64 how) (h8 : i64 n) (h9 : i64 number) (h10 : i64 second) (h11 : i64 when_) :
  Ret Tryz.prog 7 #[.agg #[iv holder, iv r0, iv r1, iv s0, iv s1, iv carrier, iv serial, cv], .agg #[iv x0, iv x1, iv x2, iv x3], .agg #[iv how, iv n], iv number, iv second, iv when_] w0 fun v w => v = .bool true ∧ Ext No w0 w := by
 obtain ⟨x, hx⟩ : ∃ x, madeW holder r0 r1 s0 s1 carrier serial ys = x := ⟨_, rfl⟩
 obtain ⟨ps, hps⟩ : ∃ ps, madeL holder r0 r1 s0 s1 ys = ps := ⟨_, rfl⟩
 have hmk : Mk x ps := by rw [← hx, ← hps]; exact nY _ _ _ _ _ _ _ _
 have hxo := hmk.ok
 have hxd := Wsh.ok_bnd hxo
 have hxg := hmk.sgn
 have hpl := hmk.len
 have hrt : x.rt ≤ 11000 ∧ x.st ≤ 11000 := by rw [← hx]; exact nb _ _ _ _ _ _ _ _
 have hx3 := Wsh.ok_bnd2 hxo
 have h7a := h7.1
 have h7b := h7.2
 unfold i64 at h8 h9 h10 h11
 obtain ⟨bw, hbw⟩ : ∃ bw, bentW x how n = bw := ⟨_, rfl⟩
 have hbsig : bw.sig = x.sig := by rw [← hbw]; exact lG _ _ _
 obtain ⟨rl, hrl⟩ : ∃ r, mkRul x0 x1 x2 x3 = r := ⟨_, rfl⟩
 have hr : aW rl = true := hrl ▸ jZ x0 x1 x2 x3
 have hrl1 := bP hr
 obtain ⟨pn, hpn⟩ : ∃ k, pick number (x.rt - x.rf) = k := ⟨_, rfl⟩
 obtain ⟨pc, hpc⟩ : ∃ k, pick number 7 = k := ⟨_, rfl⟩
 obtain ⟨pt, hpt⟩ : ∃ k, pick second (x.st - x.sf) = k := ⟨_, rfl⟩
 obtain ⟨po, hpo⟩ : ∃ k, pick when_ rl.answer = k := ⟨_, rfl⟩
 obtain ⟨pr, hpr⟩ : ∃ k, pick when_ rl.reverse = k := ⟨_, rfl⟩
 have bn := cp number (x.rt - x.rf) (by omega)
 have bc := cp number 7 (by omega)
 have bt := cp second (x.st - x.sf) (by omega)
 have bo := cp when_ rl.answer (by omega)
 have br := cp when_ rl.reverse (by omega)
 rw [hpn] at bn
 rw [hpc] at bc
 rw [hpt] at bt
 rw [hpo] at bo
 rw [hpr] at br
 have hvalid : validH keysH x ps (x.rf + pn) (x.sf + pt) = true := by rw [hmk.valid]; simp [inB]; omega
 have hgood : (decide (x.carrier = (⟨(x.rf + pn), ((x.carrier + 1 + pc) % 8), x.carrier, x.holder, (x.sf + pt), false⟩ : Clm).to) && decide (x.holder = (⟨(x.rf + pn), ((x.carrier + 1 + pc) % 8), x.carrier, x.holder, (x.sf + pt), false⟩ : Clm).holder) && validH keysH x ps (⟨(x.rf + pn), ((x.carrier + 1 + pc) % 8), x.carrier, x.holder, (x.sf + pt), false⟩ : Clm).number (⟨(x.rf + pn), ((x.carrier + 1 + pc) % 8), x.carrier, x.holder, (x.sf + pt), false⟩ : Clm).asked) = true := by simp [hvalid]
 have hic : bH (⟨(x.rf + pn), ((x.carrier + 1 + pc) % 8), x.carrier, x.holder, (x.sf + pt), false⟩ : Clm) = true := by simp [bH, isIn]; omega
 have hic1 : bH (⟨(x.rf + pn), ((x.carrier + 1 + pc) % 8), x.carrier, x.holder, (x.sf + pt), true⟩ : Clm) = true := by simp [bH, isIn]; omega
 have hne : ¬ x.carrier = (x.carrier + 1 + pc) % 8 := by omega
 have hnh : ¬ x.holder = (x.holder + 1) % 64 := by omega
 obtain ⟨vb, hvb⟩ : ∃ b, (decide (bw.carrier = (⟨(x.rf + pn), ((x.carrier + 1 + pc) % 8), x.carrier, x.holder, (x.sf + pt), false⟩ : Clm).to) && decide (bw.holder = (⟨(x.rf + pn), ((x.carrier + 1 + pc) % 8), x.carrier, x.holder, (x.sf + pt), false⟩ : Clm).holder) && validH keysH bw ps (⟨(x.rf + pn), ((x.carrier + 1 + pc) % 8), x.carrier, x.holder, (x.sf + pt), false⟩ : Clm).number (⟨(x.rf + pn), ((x.carrier + 1 + pc) % 8), x.carrier, x.holder, (x.sf + pt), false⟩ : Clm).asked) = b := ⟨_, rfl⟩
 have hvo : valid rl (⟨(x.rf + pn), ((x.carrier + 1 + pc) % 8), x.carrier, x.holder, (x.sf + pt), false⟩ : Clm) [⟨2, x.sf + pt + po, 1⟩] = true := eG hr hic (by simp [badEvt, isIn]; omega)
 have hvr : valid rl (⟨(x.rf + pn), ((x.carrier + 1 + pc) % 8), x.carrier, x.holder, (x.sf + pt), false⟩ : Clm) [⟨6, x.sf + pt + rl.answer + rl.cooling + pr, 1⟩] = true := eG hr hic (by simp [badEvt, isIn]; omega)
 have hgo : valid rl (⟨(x.rf + pn), ((x.carrier + 1 + pc) % 8), x.carrier, x.holder, (x.sf + pt), true⟩ : Clm) [⟨2, x.sf + pt + po, 1⟩] = true := eG hr hic1 (by simp [badEvt, isIn]; omega)
 have hgr : valid rl (⟨(x.rf + pn), ((x.carrier + 1 + pc) % 8), x.carrier, x.holder, (x.sf + pt), true⟩ : Clm) [⟨6, x.sf + pt + rl.answer + rl.cooling + pr, 1⟩] = true := eG hr hic1 (by simp [badEvt, isIn]; omega)
 have hso := kl (c := (⟨(x.rf + pn), ((x.carrier + 1 + pc) % 8), x.carrier, x.holder, (x.sf + pt), false⟩ : Clm)) (d := po) hr hic rfl bo.1 bo.2
 have hsr := mS (c := (⟨(x.rf + pn), ((x.carrier + 1 + pc) % 8), x.carrier, x.holder, (x.sf + pt), false⟩ : Clm)) (d := pr) hr hic rfl br.1 br.2
 have hko := kO (c := (⟨(x.rf + pn), ((x.carrier + 1 + pc) % 8), x.carrier, x.holder, (x.sf + pt), true⟩ : Clm)) (d := po) hr hic1 rfl bo.1 bo.2
 have hkr := kN (c := (⟨(x.rf + pn), ((x.carrier + 1 + pc) % 8), x.carrier, x.holder, (x.sf + pt), true⟩ : Clm)) (d := pr) hr hic1 rfl br.1 br.2
 simp only at hso hsr hko hkr
 refine aD Tryz.func7 rfl Tryz.ntmps7 (lb rfl) fun a Z => ?_
 replace Z : Fr 298 [(0, _), (1, _), (2, _), (3, _), (4, _), (5, _)] [] a := Z
 replace Y : St No w0 [] w0 := St.init w0
 refine aa fun K1 hK1 => aN Z Y (by decide) rfl (cs := [iv holder, iv r0, iv r1, iv s0, iv s1, iv carrier, iv serial, cv]) rfl ?_
 clear Z Y
 intro a w1 Z Y
 refine aN Z Y (by decide) rfl (cs := [iv x0, iv x1, iv x2, iv x3]) rfl ?_
 clear Z Y
 intro a w2 Z Y
 refine aN Z Y (by decide) rfl (cs := [iv how, iv n]) rfl ?_
 clear Z Y
 intro a w3 Z Y
 refine wla Z rfl fun a Z => ab (hK1 _ _ <| aa fun K2 hK2 => ?_)
 refine az Z Y (by decide) Tryz.call39 rfl (nz _) ?_
 clear Z Y
 intro a w4 Z Y
 refine wla Z rfl fun a Z => ab (hK2 _ _ <| ai fun K3 hK3 => ?_)
 refine aa fun K4 hK4 => wlm Z rfl fun a Z => wlv Z ((bK rfl).asb (b' := false) rfl) fun a Z => ab (hK4 _ _ ?_)
 replace Z : Fr 298 [(3, _), (4, _), (5, _), (6, _), (7, _), (8, _), (12, _), (48, _)] [] a := Z.pick [3, 4, 5, 6, 7, 8, 12, 48]
 refine bj Z rfl ?_
 refine ay <| hK3 _ _ <| aa fun K5 hK5 => wlv Z (ao (Y.get (k := 2) rfl) rfl (Tryz.isAgg25 _) (Tryz.sizeOf25 _)) fun a Z => bJ Z Y (by decide) Tryz.call9 rfl (oc hx hps (Y.arg hcv) hys h0 h1 h2 h3 h4 h5 h6) ?_
 clear Z Y
 intro a w5 x2 hp Z Y
 revert x2 hp Z Y; rintro pv1 hp Z Y
 clear hp
 replace Y : St No w0 [own pv1 40 7 (ps.map Pxy.cells), blk w2.heap.size [iv how, iv n] 22, blk w1.heap.size [iv x0, iv x1, iv x2, iv x3] 74, blk w0.heap.size [iv holder, iv r0, iv r1, iv s0, iv s1, iv carrier, iv serial, cv] 25] w5 := Y
 refine wlm Z rfl fun a Z => wlv Z (aA rfl rfl) fun a Z => wlv Z (aA rfl rfl) fun a Z => aI Z Y (by decide) (Tryz.zeroValue30 _) (cs := [iv 0, iv 0, iv 0, iv 0, iv 0, iv 0, iv 0, iv 0, .string (⟨#[]⟩)]) rfl ?_
 clear Z Y
 intro a w6 Z Y
 refine ap 0 Z Y rfl rfl rfl (Tryz.sizeOf30 _) rfl (lb rfl) (ds := [iv x.signer, iv x.holder, iv x.rf, iv x.rt, iv x.carrier, iv x.serial, iv x.sf, iv x.st, sv x.sig]) rfl rfl ?_
 clear Z Y
 intro a w7 Z Y
 refine wla Z rfl fun a Z => ab (hK5 _ _ ?_)
 replace Z : Fr 298 [(3, _), (4, _), (5, _), (7, _), (8, _), (12, _), (14, _), (15, _)] [] a := Z.pick [3, 4, 5, 7, 8, 12, 14, 15]
 replace Y : St No w0 [_, _, _, _] w7 := Y.mask [true, true, true, true, false]
 refine aa fun K6 hK6 => bJ Z Y (by decide) Tryz.call13 rfl (nu _) ?_
 clear Z Y
 intro a w8 x4 hp Z Y
 revert x4 hp Z Y; rintro kv3 hp Z Y
 clear hp
 replace Y : St No w0 [own kv3 9 1 (keysH.map fun s => [sv s]), blk w5.heap.size [iv x.signer, iv x.holder, iv x.rf, iv x.rt, iv x.carrier, iv x.serial, iv x.sf, iv x.st, sv x.sig] 30, own pv1 40 7 (ps.map Pxy.cells), blk w2.heap.size [iv how, iv n] 22, blk w1.heap.size [iv x0, iv x1, iv x2, iv x3] 74] w8 := Y
 refine wla Z rfl fun a Z => ab (hK6 _ _ <| aa fun K7 hK7 => ?_)
 refine wlv Z (ao (Y.get (k := 4) rfl) rfl (Tryz.isAgg74 _) (Tryz.sizeOf74 _)) fun a Z => az Z Y (by decide) Tryz.call46 rfl ((hrl ▸ iP x0 x1 x2 x3 _ g0 g1 g2 g3)) ?_
 clear Z Y
 intro a w9 Z Y
 refine aI Z Y (by decide) (Tryz.zeroValue81 _) (cs := [iv 0, iv 0, iv 0, iv 0]) rfl ?_
 clear Z Y
 intro a w10 Z Y
 refine ap 0 Z Y rfl rfl rfl (Tryz.sizeOf81 _) rfl (lb rfl) (ds := [iv rl.answer, iv rl.cooling, iv rl.settle, iv rl.reverse]) rfl rfl ?_
 clear Z Y
 intro a w11 Z Y
 refine ab (hK7 _ _ <| ai fun K8 hK8 => ?_)
 refine aK (by kernel_rfl) (aO (by kernel_rfl) fun w12 hxz => ?_)
 replace Y := Y.grow hxz
 refine aV (k := 0) 39 [37, 38] Z (by kernel_rfl) (by kernel_rfl) (by kernel_rfl) (by rfl) ?_
 replace Z : Fr 298 [(3, _), (4, _), (5, _), (7, _), (8, _), (12, _), (14, _), (15, _), (54, _), (16, _), (55, _), (56, _), (17, _)] [] a := Z.pick [3, 4, 5, 7, 8, 12, 14, 15, 54, 16, 55, 56, 17]
 refine aL [38] (fun i => match i with | 38 => pm (fun b : Nat => pq b) (fun b => [blk b [iv 0, iv 0, iv 0, iv 0, iv 0, .bool false] 83]) (fun _ => True) | _ => fun _ _ => False) 39 [[], [0], [1], [], [], [4], [5], [], [7], [8], [6, 9], [3, 10], [2, 11], [], [13], [14], [], [16], [15, 17], [18], [], [20], [], [22], [], [24], [25], [], [], [28], [29], [], [31], [32], [30, 33], [27, 34], [26, 35], [12, 19, 21, 23, 36], []] [.pointer (some ⟨w5.heap.size, 2, none⟩), .pointer (some ⟨w5.heap.size, 2, none⟩), iv x.rf, iv number, .pointer (some ⟨w5.heap.size, 2, none⟩), .pointer (some ⟨w5.heap.size, 3, none⟩), iv x.rt, .pointer (some ⟨w5.heap.size, 2, none⟩), .pointer (some ⟨w5.heap.size, 2, none⟩), iv x.rf, iv (x.rt - x.rf), iv pn, iv (x.rf + pn), .pointer (some ⟨w5.heap.size, 4, none⟩), iv x.carrier, iv (x.carrier + 1), iv number, iv pc, iv ((x.carrier + 1) + pc), iv (((x.carrier + 1) + pc) % 8), .pointer (some ⟨w5.heap.size, 4, none⟩), iv x.carrier, .pointer (some ⟨w5.heap.size, 1, none⟩), iv x.holder, .pointer (some ⟨w5.heap.size, 6, none⟩), .pointer (some ⟨w5.heap.size, 6, none⟩), iv x.sf, iv second, .pointer (some ⟨w5.heap.size, 6, none⟩), .pointer (some ⟨w5.heap.size, 7, none⟩), iv x.st, .pointer (some ⟨w5.heap.size, 6, none⟩), .pointer (some ⟨w5.heap.size, 6, none⟩), iv x.sf, iv (x.st - x.sf), iv pt, iv (x.sf + pt), .agg #[iv (x.rf + pn), iv (((x.carrier + 1) + pc) % 8), iv x.carrier, iv x.holder, iv (x.sf + pt), .bool false], undef] Z Y (by kernel_rfl) (by kernel_rfl) (by kernel_rfl) ?_ ?_ ?_
 ·intro i hi hiq
  match i, hi, hiq with
  | 0, _, _ =>
   intro w Y
   exact OpV.g (ac (v := .pointer (some ⟨w5.heap.size, 2, none⟩)) rfl (by kernel_rfl))
  | 1, _, _ =>
   intro w Y
   exact OpV.g (ac (v := .pointer (some ⟨w5.heap.size, 2, none⟩)) rfl (by kernel_rfl))
  | 2, _, _ =>
   intro w Y
   exact OpV.g (ae (Y.get (k := 2) rfl) rfl (Tryz.isAgg3 _) rfl)
  | 3, _, _ =>
   intro w Y
   exact OpV.g (aj rfl)
  | 4, _, _ =>
   intro w Y
   exact OpV.g (ac (v := .pointer (some ⟨w5.heap.size, 2, none⟩)) rfl (by kernel_rfl))
  | 5, _, _ =>
   intro w Y
   exact OpV.g (ac (v := .pointer (some ⟨w5.heap.size, 3, none⟩)) rfl (by kernel_rfl))
  | 6, _, _ =>
   intro w Y
   exact OpV.g (ae (Y.get (k := 2) rfl) rfl (Tryz.isAgg3 _) rfl)
  | 7, _, _ =>
   intro w Y
   exact OpV.g (ac (v := .pointer (some ⟨w5.heap.size, 2, none⟩)) rfl (by kernel_rfl))
  | 8, _, _ =>
   intro w Y
   exact OpV.g (ac (v := .pointer (some ⟨w5.heap.size, 2, none⟩)) rfl (by kernel_rfl))
  | 9, _, _ =>
   intro w Y
   exact OpV.g (ae (Y.get (k := 2) rfl) rfl (Tryz.isAgg3 _) rfl)
  | 10, _, _ =>
   intro w Y
   exact OpV.g (cm rfl rfl ⟨by omega, by omega⟩)
  | 11, _, _ =>
   intro w Y
   exact aU Tryz.call42 rfl (gp hpn (dO _ _ _ (by omega) (by omega) (by omega) (by omega)))
  | 12, _, _ =>
   intro w Y
   exact OpV.g (aM rfl rfl ⟨by omega, by omega⟩)
  | 13, _, _ =>
   intro w Y
   exact OpV.g (ac (v := .pointer (some ⟨w5.heap.size, 4, none⟩)) rfl (by kernel_rfl))
  | 14, _, _ =>
   intro w Y
   exact OpV.g (ae (Y.get (k := 2) rfl) rfl (Tryz.isAgg3 _) rfl)
  | 15, _, _ =>
   intro w Y
   exact OpV.g (aM rfl rfl ⟨by omega, by omega⟩)
  | 16, _, _ =>
   intro w Y
   exact OpV.g (aj rfl)
  | 17, _, _ =>
   intro w Y
   exact aU Tryz.call42 rfl (gp hpc (dO _ _ _ (by omega) (by omega) (by omega) (by omega)))
  | 18, _, _ =>
   intro w Y
   exact OpV.g (aM rfl rfl ⟨by omega, by omega⟩)
  | 19, _, _ =>
   intro w Y
   exact OpV.g (ey rfl rfl (by omega) (by omega))
  | 20, _, _ =>
   intro w Y
   exact OpV.g (ac (v := .pointer (some ⟨w5.heap.size, 4, none⟩)) rfl (by kernel_rfl))
  | 21, _, _ =>
   intro w Y
   exact OpV.g (ae (Y.get (k := 2) rfl) rfl (Tryz.isAgg3 _) rfl)
  | 22, _, _ =>
   intro w Y
   exact OpV.g (ac (v := .pointer (some ⟨w5.heap.size, 1, none⟩)) rfl (by kernel_rfl))
  | 23, _, _ =>
   intro w Y
   exact OpV.g (ae (Y.get (k := 2) rfl) rfl (Tryz.isAgg3 _) rfl)
  | 24, _, _ =>
   intro w Y
   exact OpV.g (ac (v := .pointer (some ⟨w5.heap.size, 6, none⟩)) rfl (by kernel_rfl))
  | 25, _, _ =>
   intro w Y
   exact OpV.g (ac (v := .pointer (some ⟨w5.heap.size, 6, none⟩)) rfl (by kernel_rfl))
  | 26, _, _ =>
   intro w Y
   exact OpV.g (ae (Y.get (k := 2) rfl) rfl (Tryz.isAgg3 _) rfl)
  | 27, _, _ =>
   intro w Y
   exact OpV.g (aj rfl)
  | 28, _, _ =>
   intro w Y
   exact OpV.g (ac (v := .pointer (some ⟨w5.heap.size, 6, none⟩)) rfl (by kernel_rfl))
  | 29, _, _ =>
   intro w Y
   exact OpV.g (ac (v := .pointer (some ⟨w5.heap.size, 7, none⟩)) rfl (by kernel_rfl))
  | 30, _, _ =>
   intro w Y
   exact OpV.g (ae (Y.get (k := 2) rfl) rfl (Tryz.isAgg3 _) rfl)
  | 31, _, _ =>
   intro w Y
   exact OpV.g (ac (v := .pointer (some ⟨w5.heap.size, 6, none⟩)) rfl (by kernel_rfl))
  | 32, _, _ =>
   intro w Y
   exact OpV.g (ac (v := .pointer (some ⟨w5.heap.size, 6, none⟩)) rfl (by kernel_rfl))
  | 33, _, _ =>
   intro w Y
   exact OpV.g (ae (Y.get (k := 2) rfl) rfl (Tryz.isAgg3 _) rfl)
  | 34, _, _ =>
   intro w Y
   exact OpV.g (cm rfl rfl ⟨by omega, by omega⟩)
  | 35, _, _ =>
   intro w Y
   exact aU Tryz.call42 rfl (gp hpt (dO _ _ _ (by omega) (by omega) (by omega) (by omega)))
  | 36, _, _ =>
   intro w Y
   exact OpV.g (aM rfl rfl ⟨by omega, by omega⟩)
  | 37, _, _ =>
   intro w Y
   exact OpV.g (aR (v := .agg #[iv (x.rf + pn), iv (((x.carrier + 1) + pc) % 8), iv x.carrier, iv x.holder, iv (x.sf + pt), .bool false]) rfl (by kernel_rfl))
  | 38, _, h => exact absurd (by simp) h
  | i + 39, h, _ => exact absurd h (by omega)
 ·intro i hi
  simp only [List.mem_cons, List.not_mem_nil, or_false] at hi
  subst hi
  ·intro w Y
   exact f8 (Tryz.zeroValue83 _) (cs := [iv 0, iv 0, iv 0, iv 0, iv 0, .bool false]) rfl
 clear Z Y
 rintro _ _ ⟨b5, rfl, -, rfl⟩ a w13 Z Y
 replace Z : Fr 298 [(57, .pointer (some ⟨w5.heap.size, 2, none⟩)), (58, .pointer (some ⟨w5.heap.size, 2, none⟩)), (59, iv x.rf), (60, iv number), (61, .pointer (some ⟨w5.heap.size, 2, none⟩)), (62, .pointer (some ⟨w5.heap.size, 3, none⟩)), (63, iv x.rt), (64, .pointer (some ⟨w5.heap.size, 2, none⟩)), (65, .pointer (some ⟨w5.heap.size, 2, none⟩)), (66, iv x.rf), (67, iv (x.rt - x.rf)), (68, iv pn), (69, iv (x.rf + pn)), (70, .pointer (some ⟨w5.heap.size, 4, none⟩)), (71, iv x.carrier), (72, iv (x.carrier + 1)), (73, iv number), (74, iv pc), (75, iv ((x.carrier + 1) + pc)), (76, iv (((x.carrier + 1) + pc) % 8)), (77, .pointer (some ⟨w5.heap.size, 4, none⟩)), (78, iv x.carrier), (79, .pointer (some ⟨w5.heap.size, 1, none⟩)), (80, iv x.holder), (81, .pointer (some ⟨w5.heap.size, 6, none⟩)), (82, .pointer (some ⟨w5.heap.size, 6, none⟩)), (83, iv x.sf), (84, iv second), (85, .pointer (some ⟨w5.heap.size, 6, none⟩)), (86, .pointer (some ⟨w5.heap.size, 7, none⟩)), (87, iv x.st), (88, .pointer (some ⟨w5.heap.size, 6, none⟩)), (89, .pointer (some ⟨w5.heap.size, 6, none⟩)), (90, iv x.sf), (91, iv (x.st - x.sf)), (92, iv pt), (93, iv (x.sf + pt)), (94, .agg #[iv (x.rf + pn), iv (((x.carrier + 1) + pc) % 8), iv x.carrier, iv x.holder, iv (x.sf + pt), .bool false]), (18, _), (3, _), (4, _), (5, _), (7, _), (8, _), (12, _), (14, _), (15, _), (54, _), (16, _), (55, _), (56, _), (17, _)] [] a := Z
 replace Y : St No w0 [_, _, _, _, _, _, _] w13 := Y
 refine ab <| aP (k := 39) 40 [39] (by kernel_rfl) (by kernel_rfl) (by kernel_rfl) ?_
 refine ap 0 Z Y rfl rfl rfl (Tryz.sizeOf83 _) rfl (lb rfl) (ds := [iv (x.rf + pn), iv (((x.carrier + 1) + pc) % 8), iv x.carrier, iv x.holder, iv (x.sf + pt), .bool false]) rfl rfl ?_
 clear Z Y
 intro a w14 Z Y
 refine ab <| bd (by kernel_rfl) ?_
 refine hK8 _ _ ?_
 replace Z : Fr 298 [(5, _), (8, _), (12, _), (14, _), (15, _), (16, _), (17, _), (18, _)] [] a := Z.pick [5, 8, 12, 14, 15, 16, 17, 18]
 replace Y : St No w0 [_, _, _, _, _, _] w14 := Y.mask [true, true, true, true, true, true, false]
 refine aa fun K9 hK9 => wlm Z rfl fun a Z => wlv Z (ao (Y.get (k := 3) rfl) rfl (Tryz.isAgg30 _) (Tryz.sizeOf30 _)) fun a Z => wlm Z rfl fun a Z => wlv Z (ao (Y.get (k := 0) rfl) rfl (Tryz.isAgg83 _) (Tryz.sizeOf83 _)) fun a Z => az Z Y (by decide) Tryz.call44 rfl (da (ks := keysH) (x := x) (ps := ps) (cl := (⟨x.rf + pn, ((x.carrier + 1) + pc) % 8, x.carrier, x.holder, x.sf + pt, false⟩ : Clm)) (b := (⟨x.rf + pn, ((x.carrier + 1) + pc) % 8, x.carrier, x.holder, x.sf + pt, true⟩ : Clm)) (e := 0) (fd (ks := keysH) (x := x) (ps := ps) (cl := (⟨x.rf + pn, ((x.carrier + 1) + pc) % 8, x.carrier, x.holder, x.sf + pt, false⟩ : Clm)) (b := true) hic hgood) (Y.ownAt (i := 2) rfl) (Y.ownAt (i := 4) rfl) (Y.keepb hk0)) ?_
 clear Z Y
 intro a w15 Z Y
 refine wlm Z rfl fun a Z => wlv Z (aA rfl rfl) fun a Z => wlv Z (aA rfl rfl) fun a Z => aI Z Y (by decide) (Tryz.zeroValue83 _) (cs := [iv 0, iv 0, iv 0, iv 0, iv 0, .bool false]) rfl ?_
 clear Z Y
 intro a w16 Z Y
 refine ap 0 Z Y rfl rfl rfl (Tryz.sizeOf83 _) rfl (lb rfl) (ds := [iv (x.rf + pn), iv (((x.carrier + 1) + pc) % 8), iv x.carrier, iv x.holder, iv (x.sf + pt), .bool true]) rfl rfl ?_
 clear Z Y
 intro a w17 Z Y
 refine wla Z rfl fun a Z => ab (hK9 _ _ ?_)
 replace Z : Fr 298 [(5, _), (8, _), (12, _), (14, _), (15, _), (16, _), (17, _), (18, _), (19, _), (20, _)] [] a := Z.pick [5, 8, 12, 14, 15, 16, 17, 18, 19, 20]
 refine ai fun K10 hK10 => aa fun K11 hK11 => wlm Z rfl fun a Z => wlv Z ((v_ne rfl rfl).asb (b' := false) rfl) fun a Z => wlm Z rfl fun a Z => wly Z (ac (v := .pointer (some ⟨w15.heap.size, 5, none⟩)) rfl (by kernel_rfl)) fun a Z => wly Z (ae (Y.get (k := 0) rfl) rfl (Tryz.isAgg4 _) rfl) fun a Z => wly Z ((bK rfl).asb (b' := false) rfl) fun a Z => wlv Z (au rfl rfl) fun a Z => wlm Z rfl fun a Z => wly Z (aj rfl) fun a Z => wly Z (ao (Y.get (k := 4) rfl) rfl (Tryz.isAgg30 _) (Tryz.sizeOf30 _)) fun a Z => wly Z (aj rfl) fun a Z => wly Z (ac (v := pq b5) rfl (by kernel_rfl)) fun a Z => wly Z (ae (Y.get (k := 1) rfl) rfl (Tryz.isAgg3 _) rfl) fun a Z => wly Z (ac (v := .pointer (some ⟨b5, 4, none⟩)) rfl (by kernel_rfl)) fun a Z => wly Z (ae (Y.get (k := 1) rfl) rfl (Tryz.isAgg3 _) rfl) fun a Z => aJ Z Y (by decide) rfl (by decide) rfl Tryz.call17 rfl (j8 (x := x) (ps := ps) (b := true) (Y.ownAt (i := 3) rfl) (Y.ownAt (i := 5) rfl) (Y.keepb hk0) (hvalid)) ?_
 clear Z Y
 intro a w18 Z Y
 refine wly Z ((bK rfl).asb (b' := false) rfl) fun a Z => wlv Z (au rfl rfl) fun a Z => ab (hK11 _ _ ?_)
 replace Z : Fr 298 [(5, _), (8, _), (12, _), (14, _), (15, _), (16, _), (17, _), (18, _), (19, _), (120, _)] [] a := Z.pick [5, 8, 12, 14, 15, 16, 17, 18, 19, 120]
 refine bj Z rfl ?_
 refine ay <| hK10 _ _ <| aa fun K12 hK12 => wlv Z (ao (Y.get (k := 1) rfl) rfl (Tryz.isAgg83 _) (Tryz.sizeOf83 _)) fun a Z => aI Z Y (by decide) (Tryz.zeroValue83 _) (cs := [iv 0, iv 0, iv 0, iv 0, iv 0, .bool false]) rfl ?_
 clear Z Y
 intro a w19 Z Y
 refine ap 0 Z Y rfl rfl rfl (Tryz.sizeOf83 _) rfl (lb rfl) (ds := [iv (x.rf + pn), iv (((x.carrier + 1) + pc) % 8), iv x.carrier, iv x.holder, iv (x.sf + pt), .bool false]) rfl rfl ?_
 clear Z Y
 intro a w20 Z Y
 refine ab (hK12 _ _ <| aa fun K13 hK13 => ?_)
 refine wlv Z (ac (v := .pointer (some ⟨b5, 1, none⟩)) rfl (by kernel_rfl)) fun a Z => wlv Z (ae (Y.get (k := 2) rfl) rfl (Tryz.isAgg3 _) rfl) fun a Z => wlv Z (ac (v := .pointer (some ⟨w18.heap.size, 2, none⟩)) rfl (by kernel_rfl)) fun a Z => ap 0 Z Y rfl rfl rfl (Tryz.sizeOf3 _) rfl (lb rfl) (ds := [iv (x.rf + pn), iv (((x.carrier + 1) + pc) % 8), iv (((x.carrier + 1) + pc) % 8), iv x.holder, iv (x.sf + pt), .bool false]) rfl rfl ?_
 clear Z Y
 intro a w21 Z Y
 refine ab (hK13 _ _ <| aa fun K14 hK14 => ?_)
 refine wlv Z (ac (v := .pointer (some ⟨b5, 2, none⟩)) rfl (by kernel_rfl)) fun a Z => wlv Z (ae (Y.get (k := 2) rfl) rfl (Tryz.isAgg3 _) rfl) fun a Z => wlv Z (ac (v := .pointer (some ⟨w18.heap.size, 1, none⟩)) rfl (by kernel_rfl)) fun a Z => ap 0 Z Y rfl rfl rfl (Tryz.sizeOf3 _) rfl (lb rfl) (ds := [iv (x.rf + pn), iv x.carrier, iv (((x.carrier + 1) + pc) % 8), iv x.holder, iv (x.sf + pt), .bool false]) rfl rfl ?_
 clear Z Y
 intro a w22 Z Y
 refine ab (hK14 _ _ ?_)
 replace Z : Fr 298 [(5, _), (8, _), (12, _), (14, _), (15, _), (16, _), (17, _), (18, _), (19, _), (21, _)] [] a := Z.pick [5, 8, 12, 14, 15, 16, 17, 18, 19, 21]
 refine aa fun K15 hK15 => wlv Z (ao (Y.get (k := 2) rfl) rfl (Tryz.isAgg83 _) (Tryz.sizeOf83 _)) fun a Z => aI Z Y (by decide) (Tryz.zeroValue83 _) (cs := [iv 0, iv 0, iv 0, iv 0, iv 0, .bool false]) rfl ?_
 clear Z Y
 intro a w23 Z Y
 refine ap 0 Z Y rfl rfl rfl (Tryz.sizeOf83 _) rfl (lb rfl) (ds := [iv (x.rf + pn), iv (((x.carrier + 1) + pc) % 8), iv x.carrier, iv x.holder, iv (x.sf + pt), .bool false]) rfl rfl ?_
 clear Z Y
 intro a w24 Z Y
 refine ab (hK15 _ _ <| aa fun K16 hK16 => ?_)
 refine wlv Z (ac (v := .pointer (some ⟨w5.heap.size, 2, none⟩)) rfl (by kernel_rfl)) fun a Z => wlv Z (ac (v := .pointer (some ⟨w5.heap.size, 3, none⟩)) rfl (by kernel_rfl)) fun a Z => wlv Z (ae (Y.get (k := 6) rfl) rfl (Tryz.isAgg3 _) rfl) fun a Z => wlv Z (ac (v := pq w22.heap.size) rfl (by kernel_rfl)) fun a Z => ap 0 Z Y rfl rfl rfl (Tryz.sizeOf3 _) rfl (lb rfl) (ds := [iv x.rt, iv (((x.carrier + 1) + pc) % 8), iv x.carrier, iv x.holder, iv (x.sf + pt), .bool false]) rfl rfl ?_
 clear Z Y
 intro a w25 Z Y
 refine ab (hK16 _ _ <| aa fun K17 hK17 => ?_)
 refine wlv Z (ao (Y.get (k := 3) rfl) rfl (Tryz.isAgg83 _) (Tryz.sizeOf83 _)) fun a Z => aI Z Y (by decide) (Tryz.zeroValue83 _) (cs := [iv 0, iv 0, iv 0, iv 0, iv 0, .bool false]) rfl ?_
 clear Z Y
 intro a w26 Z Y
 refine ap 0 Z Y rfl rfl rfl (Tryz.sizeOf83 _) rfl (lb rfl) (ds := [iv (x.rf + pn), iv (((x.carrier + 1) + pc) % 8), iv x.carrier, iv x.holder, iv (x.sf + pt), .bool false]) rfl rfl ?_
 clear Z Y
 intro a w27 Z Y
 refine ab (hK17 _ _ ?_)
 replace Z : Fr 298 [(5, _), (8, _), (12, _), (14, _), (15, _), (16, _), (17, _), (18, _), (19, _), (21, _), (22, _), (23, _)] [] a := Z.pick [5, 8, 12, 14, 15, 16, 17, 18, 19, 21, 22, 23]
 refine aa fun K18 hK18 => wlv Z (ac (v := .pointer (some ⟨w5.heap.size, 1, none⟩)) rfl (by kernel_rfl)) fun a Z => wlv Z (ae (Y.get (k := 7) rfl) rfl (Tryz.isAgg3 _) rfl) fun a Z => wlv Z (aM rfl rfl ⟨by omega, by omega⟩) fun a Z => wlv Z (ey rfl rfl (by omega) (by omega)) fun a Z => wlv Z (ac (v := .pointer (some ⟨w25.heap.size, 3, none⟩)) rfl (by kernel_rfl)) fun a Z => ap 0 Z Y rfl rfl rfl (Tryz.sizeOf3 _) rfl (lb rfl) (ds := [iv (x.rf + pn), iv (((x.carrier + 1) + pc) % 8), iv x.carrier, iv ((x.holder + 1) % 64), iv (x.sf + pt), .bool false]) rfl rfl ?_
 clear Z Y
 intro a w28 Z Y
 refine ab (hK18 _ _ <| ai fun K19 hK19 => ?_)
 refine aa fun K20 hK20 => wlv Z (ao (Y.get (k := 2) rfl) rfl (Tryz.isAgg83 _) (Tryz.sizeOf83 _)) fun a Z => wlv Z (ao (Y.get (k := 1) rfl) rfl (Tryz.isAgg83 _) (Tryz.sizeOf83 _)) fun a Z => wlv Z (ao (Y.get (k := 0) rfl) rfl (Tryz.isAgg83 _) (Tryz.sizeOf83 _)) fun a Z => aH (E := 83) (sz := 6) rfl [[iv (x.rf + pn), iv x.carrier, iv (((x.carrier + 1) + pc) % 8), iv x.holder, iv (x.sf + pt), .bool false], [iv x.rt, iv (((x.carrier + 1) + pc) % 8), iv x.carrier, iv x.holder, iv (x.sf + pt), .bool false], [iv (x.rf + pn), iv (((x.carrier + 1) + pc) % 8), iv x.carrier, iv ((x.holder + 1) % 64), iv (x.sf + pt), .bool false]] (by kernel_rfl) (by simp) rfl (by decide) (by decide) Z Y ?_
 clear Z Y
 intro a w29 Z Y
 refine wlv Z ((aY (sT := 90) (Y.ownAt (i := 0) rfl) rfl rfl (Tryz.runUnderlying90 _)).asi (m' := 3) (by rfl)) fun a Z => wlm Z rfl fun a Z => ab (hK20 _ _ ?_)
 replace Z : Fr 298 [(5, _), (8, _), (12, _), (14, _), (15, _), (16, _), (17, _), (18, _), (19, _), (142, _), (143, _), (144, _)] [] a := Z.pick [5, 8, 12, 14, 15, 16, 17, 18, 19, 142, 143, 144]
 replace Y : St No w0 [_, _, _, _, _, _, _, _] w29 := Y.mask [true, false, false, false, true, true, true, true, true, true, true]
 refine ax <| fC 4 ?_
 refine cy ?_
 refine aa fun K21 hK21 => wlv Z ((v_lt rfl rfl).asb (b' := true) rfl) fun a Z => ab (hK21 _ _ <| ai fun K22 hK22 => ?_)
 refine aX Z rfl ?_
 refine ay <| hK22 _ _ <| ai fun K23 hK23 => ax <| aa fun K24 hK24 => wlv Z ((am (i := 0) (sT := 90) (Y.ownAt (i := 0) rfl) rfl rfl (Tryz.runUnderlying90 _) (Tryz.sizeOf83 _) (by omega) (by simp)).as (v' := slAddr (.slice (some ⟨w28.heap.size, 0, none⟩) 3 3) (0 * 6)) rfl) fun a Z => wlv Z ((bY (Y.ownAt (i := 0) rfl) (i := 0) (by simp) rfl (Tryz.isAgg83 _) (Tryz.sizeOf83 _)).as (v' := .agg #[iv (x.rf + pn), iv x.carrier, iv (((x.carrier + 1) + pc) % 8), iv x.holder, iv (x.sf + pt), .bool false]) (by rfl)) fun a Z => ?_
 refine aI Z Y (by decide) (Tryz.zeroValue83 _) (cs := [iv 0, iv 0, iv 0, iv 0, iv 0, .bool false]) rfl ?_
 clear Z Y
 intro a w30 Z Y
 refine ap 0 Z Y rfl rfl rfl (Tryz.sizeOf83 _) rfl (lb rfl) (ds := [iv (x.rf + pn), iv x.carrier, iv (((x.carrier + 1) + pc) % 8), iv x.holder, iv (x.sf + pt), .bool false]) rfl rfl ?_
 clear Z Y
 intro a w31 Z Y
 refine ab (hK24 _ _ <| aa fun K25 hK25 => ?_)
 refine wlm Z rfl fun a Z => wlv Z (ao (Y.get (k := 6) rfl) rfl (Tryz.isAgg30 _) (Tryz.sizeOf30 _)) fun a Z => wlm Z rfl fun a Z => wlv Z (ao (Y.get (k := 0) rfl) rfl (Tryz.isAgg83 _) (Tryz.sizeOf83 _)) fun a Z => az Z Y (by decide) Tryz.call44 rfl (da (ks := keysH) (x := x) (ps := ps) (cl := (⟨x.rf + pn, x.carrier, ((x.carrier + 1) + pc) % 8, x.holder, x.sf + pt, false⟩ : Clm)) (b := (⟨x.rf + pn, x.carrier, ((x.carrier + 1) + pc) % 8, x.holder, x.sf + pt, false⟩ : Clm)) (e := 0) (fd (ks := keysH) (x := x) (ps := ps) (cl := (⟨x.rf + pn, x.carrier, ((x.carrier + 1) + pc) % 8, x.holder, x.sf + pt, false⟩ : Clm)) (b := false) (by simp [bH, isIn]; omega) (by simp [hne])) (Y.ownAt (i := 5) rfl) (Y.ownAt (i := 7) rfl) (Y.keepb hk0)) ?_
 clear Z Y
 intro a w32 Z Y
 refine wlm Z rfl fun a Z => wlv Z (aA rfl rfl) fun a Z => wlv Z (aA rfl rfl) fun a Z => aI Z Y (by decide) (Tryz.zeroValue83 _) (cs := [iv 0, iv 0, iv 0, iv 0, iv 0, .bool false]) rfl ?_
 clear Z Y
 intro a w33 Z Y
 refine ap 0 Z Y rfl rfl rfl (Tryz.sizeOf83 _) rfl (lb rfl) (ds := [iv (x.rf + pn), iv x.carrier, iv (((x.carrier + 1) + pc) % 8), iv x.holder, iv (x.sf + pt), .bool false]) rfl rfl ?_
 clear Z Y
 intro a w34 Z Y
 refine wla Z rfl fun a Z => ab (hK25 _ _ ?_)
 replace Z : Fr 298 [(5, _), (8, _), (12, _), (14, _), (15, _), (16, _), (17, _), (18, _), (19, _), (142, _), (143, _), (144, _), (26, _), (27, _)] [] a := Z.pick [5, 8, 12, 14, 15, 16, 17, 18, 19, 142, 143, 144, 26, 27]
 replace Y : St No w0 [_, _, _, _, _, _, _, _, _] w34 := Y.mask [true, false, true, true, true, true, true, true, true, true]
 refine aa fun K26 hK26 => wlm Z rfl fun a Z => wlv Z ((v_ne rfl rfl).asb (b' := false) rfl) fun a Z => wlm Z rfl fun a Z => wly Z (ac (v := .pointer (some ⟨w32.heap.size, 5, none⟩)) rfl (by kernel_rfl)) fun a Z => wly Z (ae (Y.get (k := 0) rfl) rfl (Tryz.isAgg4 _) rfl) fun a Z => wlv Z (au rfl rfl) fun a Z => ab (hK26 _ _ ?_)
 replace Z : Fr 298 [(5, _), (8, _), (12, _), (14, _), (15, _), (16, _), (17, _), (18, _), (19, _), (142, _), (143, _), (144, _), (161, _)] [] a := Z.pick [5, 8, 12, 14, 15, 16, 17, 18, 19, 142, 143, 144, 161]
 replace Y : St No w0 [_, _, _, _, _, _, _, _] w34 := Y.mask [false, true, true, true, true, true, true, true, true]
 refine bj Z rfl ?_
 refine ay <| hK23 _ _ <| ar <| wlv Z ((aM rfl rfl (by decide)).asi (m' := 1) rfl) fun a Z => wlm Z rfl fun a Z => ab <| cy ?_
 refine aa fun K27 hK27 => wlv Z ((v_lt rfl rfl).asb (b' := true) rfl) fun a Z => ab (hK27 _ _ <| ai fun K28 hK28 => ?_)
 refine aX Z rfl ?_
 refine ay <| hK28 _ _ <| ai fun K29 hK29 => ax <| aa fun K30 hK30 => wlv Z ((am (i := 1) (sT := 90) (Y.ownAt (i := 0) rfl) rfl rfl (Tryz.runUnderlying90 _) (Tryz.sizeOf83 _) (by omega) (by simp)).as (v' := slAddr (.slice (some ⟨w28.heap.size, 0, none⟩) 3 3) (1 * 6)) rfl) fun a Z => wlv Z ((bY (Y.ownAt (i := 0) rfl) (i := 1) (by simp) rfl (Tryz.isAgg83 _) (Tryz.sizeOf83 _)).as (v' := .agg #[iv x.rt, iv (((x.carrier + 1) + pc) % 8), iv x.carrier, iv x.holder, iv (x.sf + pt), .bool false]) (by rfl)) fun a Z => ?_
 refine aI Z Y (by decide) (Tryz.zeroValue83 _) (cs := [iv 0, iv 0, iv 0, iv 0, iv 0, .bool false]) rfl ?_
 clear Z Y
 intro a w35 Z Y
 refine ap 0 Z Y rfl rfl rfl (Tryz.sizeOf83 _) rfl (lb rfl) (ds := [iv x.rt, iv (((x.carrier + 1) + pc) % 8), iv x.carrier, iv x.holder, iv (x.sf + pt), .bool false]) rfl rfl ?_
 clear Z Y
 intro a w36 Z Y
 refine ab (hK30 _ _ <| aa fun K31 hK31 => ?_)
 refine wlm Z rfl fun a Z => wlv Z (ao (Y.get (k := 6) rfl) rfl (Tryz.isAgg30 _) (Tryz.sizeOf30 _)) fun a Z => wlm Z rfl fun a Z => wlv Z (ao (Y.get (k := 0) rfl) rfl (Tryz.isAgg83 _) (Tryz.sizeOf83 _)) fun a Z => az Z Y (by decide) Tryz.call44 rfl (da (ks := keysH) (x := x) (ps := ps) (cl := (⟨x.rt, ((x.carrier + 1) + pc) % 8, x.carrier, x.holder, x.sf + pt, false⟩ : Clm)) (b := (⟨x.rt, ((x.carrier + 1) + pc) % 8, x.carrier, x.holder, x.sf + pt, false⟩ : Clm)) (e := 0) (fd (ks := keysH) (x := x) (ps := ps) (cl := (⟨x.rt, ((x.carrier + 1) + pc) % 8, x.carrier, x.holder, x.sf + pt, false⟩ : Clm)) (b := false) (by simp [bH, isIn]; omega) (by rw [hmk.valid]; simp [inB]; omega)) (Y.ownAt (i := 5) rfl) (Y.ownAt (i := 7) rfl) (Y.keepb hk0)) ?_
 clear Z Y
 intro a w37 Z Y
 refine wlm Z rfl fun a Z => wlv Z (aA rfl rfl) fun a Z => wlv Z (aA rfl rfl) fun a Z => aI Z Y (by decide) (Tryz.zeroValue83 _) (cs := [iv 0, iv 0, iv 0, iv 0, iv 0, .bool false]) rfl ?_
 clear Z Y
 intro a w38 Z Y
 refine ap 0 Z Y rfl rfl rfl (Tryz.sizeOf83 _) rfl (lb rfl) (ds := [iv x.rt, iv (((x.carrier + 1) + pc) % 8), iv x.carrier, iv x.holder, iv (x.sf + pt), .bool false]) rfl rfl ?_
 clear Z Y
 intro a w39 Z Y
 refine wla Z rfl fun a Z => ab (hK31 _ _ ?_)
 replace Z : Fr 298 [(5, _), (8, _), (12, _), (14, _), (15, _), (16, _), (17, _), (18, _), (19, _), (142, _), (143, _), (144, _), (26, _), (27, _)] [] a := Z.pick [5, 8, 12, 14, 15, 16, 17, 18, 19, 142, 143, 144, 26, 27]
 replace Y : St No w0 [_, _, _, _, _, _, _, _, _] w39 := Y.mask [true, false, true, true, true, true, true, true, true, true]
 refine aa fun K32 hK32 => wlm Z rfl fun a Z => wlv Z ((v_ne rfl rfl).asb (b' := false) rfl) fun a Z => wlm Z rfl fun a Z => wly Z (ac (v := .pointer (some ⟨w37.heap.size, 5, none⟩)) rfl (by kernel_rfl)) fun a Z => wly Z (ae (Y.get (k := 0) rfl) rfl (Tryz.isAgg4 _) rfl) fun a Z => wlv Z (au rfl rfl) fun a Z => ab (hK32 _ _ ?_)
 replace Z : Fr 298 [(5, _), (8, _), (12, _), (14, _), (15, _), (16, _), (17, _), (18, _), (19, _), (142, _), (143, _), (144, _), (161, _)] [] a := Z.pick [5, 8, 12, 14, 15, 16, 17, 18, 19, 142, 143, 144, 161]
 replace Y : St No w0 [_, _, _, _, _, _, _, _] w39 := Y.mask [false, true, true, true, true, true, true, true, true]
 refine bj Z rfl ?_
 refine ay <| hK29 _ _ <| ar <| wlv Z ((aM rfl rfl (by decide)).asi (m' := 2) rfl) fun a Z => wlm Z rfl fun a Z => ab <| cy ?_
 refine aa fun K33 hK33 => wlv Z ((v_lt rfl rfl).asb (b' := true) rfl) fun a Z => ab (hK33 _ _ <| ai fun K34 hK34 => ?_)
 refine aX Z rfl ?_
 refine ay <| hK34 _ _ <| ai fun K35 hK35 => ax <| aa fun K36 hK36 => wlv Z ((am (i := 2) (sT := 90) (Y.ownAt (i := 0) rfl) rfl rfl (Tryz.runUnderlying90 _) (Tryz.sizeOf83 _) (by omega) (by simp)).as (v' := slAddr (.slice (some ⟨w28.heap.size, 0, none⟩) 3 3) (2 * 6)) rfl) fun a Z => wlv Z ((bY (Y.ownAt (i := 0) rfl) (i := 2) (by simp) rfl (Tryz.isAgg83 _) (Tryz.sizeOf83 _)).as (v' := .agg #[iv (x.rf + pn), iv (((x.carrier + 1) + pc) % 8), iv x.carrier, iv ((x.holder + 1) % 64), iv (x.sf + pt), .bool false]) (by rfl)) fun a Z => ?_
 refine aI Z Y (by decide) (Tryz.zeroValue83 _) (cs := [iv 0, iv 0, iv 0, iv 0, iv 0, .bool false]) rfl ?_
 clear Z Y
 intro a w40 Z Y
 refine ap 0 Z Y rfl rfl rfl (Tryz.sizeOf83 _) rfl (lb rfl) (ds := [iv (x.rf + pn), iv (((x.carrier + 1) + pc) % 8), iv x.carrier, iv ((x.holder + 1) % 64), iv (x.sf + pt), .bool false]) rfl rfl ?_
 clear Z Y
 intro a w41 Z Y
 refine ab (hK36 _ _ <| aa fun K37 hK37 => ?_)
 refine wlm Z rfl fun a Z => wlv Z (ao (Y.get (k := 6) rfl) rfl (Tryz.isAgg30 _) (Tryz.sizeOf30 _)) fun a Z => wlm Z rfl fun a Z => wlv Z (ao (Y.get (k := 0) rfl) rfl (Tryz.isAgg83 _) (Tryz.sizeOf83 _)) fun a Z => az Z Y (by decide) Tryz.call44 rfl (da (ks := keysH) (x := x) (ps := ps) (cl := (⟨x.rf + pn, ((x.carrier + 1) + pc) % 8, x.carrier, (x.holder + 1) % 64, x.sf + pt, false⟩ : Clm)) (b := (⟨x.rf + pn, ((x.carrier + 1) + pc) % 8, x.carrier, (x.holder + 1) % 64, x.sf + pt, false⟩ : Clm)) (e := 0) (fd (ks := keysH) (x := x) (ps := ps) (cl := (⟨x.rf + pn, ((x.carrier + 1) + pc) % 8, x.carrier, (x.holder + 1) % 64, x.sf + pt, false⟩ : Clm)) (b := false) (by simp [bH, isIn]; omega) (by simp [hnh])) (Y.ownAt (i := 5) rfl) (Y.ownAt (i := 7) rfl) (Y.keepb hk0)) ?_
 clear Z Y
 intro a w42 Z Y
 refine wlm Z rfl fun a Z => wlv Z (aA rfl rfl) fun a Z => wlv Z (aA rfl rfl) fun a Z => aI Z Y (by decide) (Tryz.zeroValue83 _) (cs := [iv 0, iv 0, iv 0, iv 0, iv 0, .bool false]) rfl ?_
 clear Z Y
 intro a w43 Z Y
 refine ap 0 Z Y rfl rfl rfl (Tryz.sizeOf83 _) rfl (lb rfl) (ds := [iv (x.rf + pn), iv (((x.carrier + 1) + pc) % 8), iv x.carrier, iv ((x.holder + 1) % 64), iv (x.sf + pt), .bool false]) rfl rfl ?_
 clear Z Y
 intro a w44 Z Y
 refine wla Z rfl fun a Z => ab (hK37 _ _ ?_)
 replace Z : Fr 298 [(5, _), (8, _), (12, _), (14, _), (15, _), (16, _), (17, _), (18, _), (19, _), (142, _), (143, _), (144, _), (26, _), (27, _)] [] a := Z.pick [5, 8, 12, 14, 15, 16, 17, 18, 19, 142, 143, 144, 26, 27]
 replace Y : St No w0 [_, _, _, _, _, _, _, _, _] w44 := Y.mask [true, false, true, true, true, true, true, true, true, true]
 refine aa fun K38 hK38 => wlm Z rfl fun a Z => wlv Z ((v_ne rfl rfl).asb (b' := false) rfl) fun a Z => wlm Z rfl fun a Z => wly Z (ac (v := .pointer (some ⟨w42.heap.size, 5, none⟩)) rfl (by kernel_rfl)) fun a Z => wly Z (ae (Y.get (k := 0) rfl) rfl (Tryz.isAgg4 _) rfl) fun a Z => wlv Z (au rfl rfl) fun a Z => ab (hK38 _ _ ?_)
 replace Z : Fr 298 [(5, _), (8, _), (12, _), (14, _), (15, _), (16, _), (17, _), (18, _), (19, _), (142, _), (143, _), (144, _), (161, _)] [] a := Z.pick [5, 8, 12, 14, 15, 16, 17, 18, 19, 142, 143, 144, 161]
 replace Y : St No w0 [_, _, _, _, _, _, _, _] w44 := Y.mask [false, true, true, true, true, true, true, true, true]
 refine bj Z rfl ?_
 refine ay <| hK35 _ _ <| ar <| wlv Z ((aM rfl rfl (by decide)).asi (m' := 3) rfl) fun a Z => wlm Z rfl fun a Z => ab <| cy ?_
 refine aa fun K39 hK39 => wlv Z ((v_lt rfl rfl).asb (b' := false) rfl) fun a Z => ab (hK39 _ _ <| ai fun K40 hK40 => ?_)
 refine bj Z rfl ?_
 refine aS <| hK19 _ _ <| aa fun K41 hK41 => wlv Z (ao (Y.get (k := 5) rfl) rfl (Tryz.isAgg30 _) (Tryz.sizeOf30 _)) fun a Z => wlv Z (aF (v := pq w2.heap.size) rfl rfl (by kernel_rfl)) fun a Z => wlv Z (ae (Y.get (k := 7) rfl) rfl (Tryz.isAgg3 _) rfl) fun a Z => wlv Z (aF (v := .pointer (some ⟨w2.heap.size, 1, none⟩)) rfl rfl (by kernel_rfl)) fun a Z => ?_
 refine wlv Z (ae (Y.get (k := 7) rfl) rfl (Tryz.isAgg3 _) rfl) fun a Z => az Z Y (by decide) Tryz.call10 rfl (oB hbw h7 (by omega) (by omega)) ?_
 clear Z Y
 intro a w45 Z Y
 refine wlm Z rfl fun a Z => wlv Z (aA rfl rfl) fun a Z => wlv Z (aA rfl rfl) fun a Z => aI Z Y (by decide) (Tryz.zeroValue30 _) (cs := [iv 0, iv 0, iv 0, iv 0, iv 0, iv 0, iv 0, iv 0, .string (⟨#[]⟩)]) rfl ?_
 clear Z Y
 intro a w46 Z Y
 refine ap 0 Z Y rfl rfl rfl (Tryz.sizeOf30 _) rfl (lb rfl) (ds := [iv bw.signer, iv bw.holder, iv bw.rf, iv bw.rt, iv bw.carrier, iv bw.serial, iv bw.sf, iv bw.st, sv bw.sig]) rfl rfl ?_
 clear Z Y
 intro a w47 Z Y
 refine wla Z rfl fun a Z => ab (hK41 _ _ ?_)
 replace Z : Fr 298 [(5, _), (12, _), (14, _), (15, _), (16, _), (17, _), (18, _), (19, _), (28, _), (29, _)] [] a := Z.pick [5, 12, 14, 15, 16, 17, 18, 19, 28, 29]
 replace Y : St No w0 [_, _, _, _, _, _, _] w47 := Y.mask [true, false, true, true, true, true, true, true, false]
 refine aa fun K42 hK42 => wlm Z rfl fun a Z => wlv Z (ao (Y.get (k := 0) rfl) rfl (Tryz.isAgg30 _) (Tryz.sizeOf30 _)) fun a Z => wlm Z rfl fun a Z => wlv Z (ao (Y.get (k := 2) rfl) rfl (Tryz.isAgg83 _) (Tryz.sizeOf83 _)) fun a Z => az Z Y (by decide) Tryz.call44 rfl (da (ks := keysH) (x := bw) (ps := ps) (cl := (⟨x.rf + pn, ((x.carrier + 1) + pc) % 8, x.carrier, x.holder, x.sf + pt, false⟩ : Clm)) (b := (⟨x.rf + pn, ((x.carrier + 1) + pc) % 8, x.carrier, x.holder, x.sf + pt, vb⟩ : Clm)) (e := 0) (fd (ks := keysH) (x := bw) (ps := ps) (cl := (⟨x.rf + pn, ((x.carrier + 1) + pc) % 8, x.carrier, x.holder, x.sf + pt, false⟩ : Clm)) (b := vb) hic hvb) (Y.ownAt (i := 4) rfl) (Y.ownAt (i := 6) rfl) (Y.keepb hk0)) ?_
 clear Z Y
 intro a w48 Z Y
 refine wlm Z rfl fun a Z => wlv Z (aA rfl rfl) fun a Z => wlv Z (aA rfl rfl) fun a Z => aI Z Y (by decide) (Tryz.zeroValue83 _) (cs := [iv 0, iv 0, iv 0, iv 0, iv 0, .bool false]) rfl ?_
 clear Z Y
 intro a w49 Z Y
 refine ap 0 Z Y rfl rfl rfl (Tryz.sizeOf83 _) rfl (lb rfl) (ds := [iv (x.rf + pn), iv (((x.carrier + 1) + pc) % 8), iv x.carrier, iv x.holder, iv (x.sf + pt), .bool vb]) rfl rfl ?_
 clear Z Y
 intro a w50 Z Y
 refine wla Z rfl fun a Z => ab (hK42 _ _ ?_)
 replace Z : Fr 298 [(5, _), (12, _), (14, _), (17, _), (18, _), (19, _), (28, _), (29, _), (30, _), (31, _)] [] a := Z.pick [5, 12, 14, 17, 18, 19, 28, 29, 30, 31]
 replace Y : St No w0 [_, _, _, _, _, _] w50 := Y.mask [true, true, true, true, true, false, true, false]
 refine ai fun K43 hK43 => aa fun K44 hK44 => wlm Z rfl fun a Z => wlv Z ((v_ne rfl rfl).asb (b' := false) rfl) fun a Z => ab (hK44 _ _ <| bj Z rfl ?_)
 refine ay <| hK43 _ _ <| ai fun K45 hK45 => aa fun K46 hK46 => wlm Z rfl fun a Z => wlm Z rfl fun a Z => ?_
 refine cz (N := 298) (df := []) 3 [(186, .bool ((!(decide (bw = x))) && vb)), (5, iv when_), (12, .bool false), (14, pq w5.heap.size), (17, pq w9.heap.size), (18, pq b5), (19, pq w15.heap.size), (28, pq w45.heap.size), (29, .bool (!(decide (bw = x)))), (30, pq w48.heap.size), (31, iv 0), (180, iv 0), (181, .bool false)] ?_ (fun hj => ?_)
 rotate_left
 ·rcases Bool.eq_false_or_eq_true (!(decide (bw = x))) with hb6 | hb6
  ·rw [hb6] at Z
   have hb6b := hb6
   try simp only [qz, Bool.and_eq_true, Bool.or_eq_true, Bool.and_eq_false_iff, Bool.or_eq_false_iff] at hb6
   refine wly Z (ac (v := .pointer (some ⟨w48.heap.size, 5, none⟩)) rfl (by kernel_rfl)) fun a Z => wly Z (ae (Y.get (k := 0) rfl) rfl (Tryz.isAgg4 _) rfl) fun a Z => wlv Z (aw rfl rfl) fun a Z => ?_
   refine hj _ ?_
   try rw [hb6b]
   exact Z.pick [186, 5, 12, 14, 17, 18, 19, 28, 29, 30, 31, 180, 181]
  rw [hb6] at Z
  have hb6b := hb6
  try simp only [qz, Bool.and_eq_true, Bool.or_eq_true, Bool.and_eq_false_iff, Bool.or_eq_false_iff] at hb6
  refine wln Z fun a Z => wln Z fun a Z => wlv Z (au rfl rfl) fun a Z => ?_
  refine hj _ ?_
  try rw [hb6b]
  exact Z.pick [186, 5, 12, 14, 17, 18, 19, 28, 29, 30, 31, 180, 181]
 intro a Z
 refine ab (hK46 _ _ ?_)
 refine aB Z rfl (fun hc7 => ?_) (fun hc7 => ?_)
 ·rw [hc7] at Z
  try simp only [qz, Bool.and_eq_true, Bool.or_eq_true, Bool.and_eq_false_iff, Bool.or_eq_false_iff] at hc7
  have hbad2 := hvb
  rw [hc7.2] at hbad2
  simp only [Bool.and_eq_true, decide_eq_true_eq] at hbad2
  obtain ⟨hbo, ⟨hbs1, hbs2⟩, hbc⟩ := nh hmk hbsig hc7.1 hbad2.2
  rw [dY ⟨hbs1, hbs2⟩, dY ⟨hxg.1, hxg.2.1⟩] at hbc
  refine aa fun K47 hK47 => wlv Z (ac (v := pq w5.heap.size) rfl (by kernel_rfl)) fun a Z => wlv Z (ae (Y.get (k := 5) rfl) rfl (Tryz.isAgg3 _) rfl) fun a Z => az Z Y (by decide) Tryz.call21 rfl (fA x.signer _) ?_
  clear Z Y
  intro a w51 Z Y
  refine wla Z rfl fun a Z => ab (hK47 _ _ ?_)
  replace Z : Fr 298 [(5, _), (12, _), (14, _), (17, _), (18, _), (19, _), (28, _), (32, _)] [] a := Z.pick [5, 12, 14, 17, 18, 19, 28, 32]
  replace Y : St No w0 [_, _, _, _, _] w51 := Y.mask [false, true, true, true, true, true]
  refine aa fun K48 hK48 => wlv Z (ac (v := pq w45.heap.size) rfl (by kernel_rfl)) fun a Z => wlv Z (ae (Y.get (k := 0) rfl) rfl (Tryz.isAgg3 _) rfl) fun a Z => az Z Y (by decide) Tryz.call21 rfl (fA bw.signer _) ?_
  clear Z Y
  intro a w52 Z Y
  refine wla Z rfl fun a Z => ab (hK48 _ _ <| ai fun K49 hK49 => ?_)
  refine aK (by kernel_rfl) (aO (by kernel_rfl) fun w53 hxz => ?_)
  replace Y := Y.grow hxz
  refine aV (k := 0) 7 [4, 6] Z (by kernel_rfl) (by kernel_rfl) (by kernel_rfl) (by rfl) ?_
  replace Z : Fr 298 [(5, _), (12, _), (14, _), (17, _), (18, _), (19, _), (28, _), (32, _), (190, _), (191, _), (192, _), (33, _)] [] a := Z.pick [5, 12, 14, 17, 18, 19, 28, 32, 190, 191, 192, 33]
  refine aL [3] (fun i => match i with | 3 => pm (fun v : Value => v) (fun v => [own v 9 1 ((bM (keyH x.signer) x.content).map fun s => [sv s])]) (fun _ => True) | _ => fun _ _ => False) 7 [[], [], [1], [0, 2], [], [], [5]] [sv (keyH x.signer), .agg #[iv x.signer, iv x.holder, iv x.rf, iv x.rt, iv x.carrier, iv x.serial, iv x.sf, iv x.st, sv x.sig], sv x.content, undef, sv (keyH bw.signer), .agg #[iv bw.signer, iv bw.holder, iv bw.rf, iv bw.rt, iv bw.carrier, iv bw.serial, iv bw.sf, iv bw.st, sv bw.sig], sv bw.content] Z Y (by kernel_rfl) (by kernel_rfl) (by kernel_rfl) ?_ ?_ ?_
  ·intro i hi hiq
   match i, hi, hiq with
   | 0, _, _ =>
    intro w Y
    exact OpV.g (aj rfl)
   | 1, _, _ =>
    intro w Y
    exact OpV.g (ao (Y.get (k := 4) rfl) rfl (Tryz.isAgg30 _) (Tryz.sizeOf30 _))
   | 2, _, _ =>
    intro w Y
    exact aU Tryz.call37 rfl (dZ x _ (Wsh.smalls_of hxo))
   | 3, _, h => exact absurd (by simp) h
   | 4, _, _ =>
    intro w Y
    exact OpV.g (aj rfl)
   | 5, _, _ =>
    intro w Y
    exact OpV.g (ao (Y.get (k := 0) rfl) rfl (Tryz.isAgg30 _) (Tryz.sizeOf30 _))
   | 6, _, _ =>
    intro w Y
    exact aU Tryz.call37 rfl (dZ bw _ (Wsh.smalls_of hbo))
  ·intro i hi
   simp only [List.mem_cons, List.not_mem_nil, or_false] at hi
   subst hi
   ·intro w Y
    exact iQ Tryz.call36 rfl (iw (keyH x.signer) x.content _ (Nat.le_trans (Nat.le_of_eq (cO _)) (by decide)) (Nat.le_trans (fb _) (by decide)))
  clear Z Y
  rintro hv8 _ ⟨_, rfl, -, rfl⟩ a w54 Z Y
  replace Z : Fr 298 [(193, sv (keyH x.signer)), (194, .agg #[iv x.signer, iv x.holder, iv x.rf, iv x.rt, iv x.carrier, iv x.serial, iv x.sf, iv x.st, sv x.sig]), (195, sv x.content), (196, _), (197, sv (keyH bw.signer)), (198, .agg #[iv bw.signer, iv bw.holder, iv bw.rf, iv bw.rt, iv bw.carrier, iv bw.serial, iv bw.sf, iv bw.st, sv bw.sig]), (199, sv bw.content), (5, _), (12, _), (14, _), (17, _), (18, _), (19, _), (28, _), (32, _), (190, _), (191, _), (192, _), (33, _)] [] a := Z
  replace Y : St No w0 [_, _, _, _, _, _] w54 := Y
  refine ab <| aP (k := 7) 10 [9] (by kernel_rfl) (by kernel_rfl) (by kernel_rfl) ?_
  refine bJ Z Y (by decide) Tryz.call36 rfl (iw (keyH bw.signer) bw.content _ (Nat.le_trans (Nat.le_of_eq (cO _)) (by decide)) (Nat.le_trans (fb _) (by decide))) ?_
  clear Z Y
  intro a w55 x10 hp Z Y
  revert x10 hp Z Y; rintro hv9 hp Z Y
  clear hp
  replace Y : St No w0 [own hv9 9 1 ((bM (keyH bw.signer) bw.content).map fun s => [sv s]), own hv8 9 1 ((bM (keyH x.signer) x.content).map fun s => [sv s]), blk w45.heap.size [iv bw.signer, iv bw.holder, iv bw.rf, iv bw.rt, iv bw.carrier, iv bw.serial, iv bw.sf, iv bw.st, sv bw.sig] 30, blk w15.heap.size [iv (x.rf + pn), iv (((x.carrier + 1) + pc) % 8), iv x.carrier, iv x.holder, iv (x.sf + pt), .bool true] 83, blk b5 [iv (x.rf + pn), iv (((x.carrier + 1) + pc) % 8), iv x.carrier, iv x.holder, iv (x.sf + pt), .bool false] 83, blk w9.heap.size [iv rl.answer, iv rl.cooling, iv rl.settle, iv rl.reverse] 81, blk w5.heap.size [iv x.signer, iv x.holder, iv x.rf, iv x.rt, iv x.carrier, iv x.serial, iv x.sf, iv x.st, sv x.sig] 30] w55 := Y
  refine az Z Y (by decide) Tryz.call35 rfl (mU hbc (jy hv8 hv9 _ _ _ (Y.ownAt (i := 1) rfl) (Y.ownAt (i := 0) rfl) (gR (Nat.le_trans (Nat.le_of_eq (cO _)) (by decide)) (Nat.le_trans (fb _) (by decide))) (gR (Nat.le_trans (Nat.le_of_eq (cO _)) (by decide)) (Nat.le_trans (fb _) (by decide))) (by simp [bM]))) ?_
  clear Z Y
  intro a w56 Z Y
  refine wla Z rfl fun a Z => ab <| bd (by kernel_rfl) ?_
  refine hK49 _ _ ?_
  replace Z : Fr 298 [(5, _), (17, _), (18, _), (19, _), (12, _)] [] a := Z.pick [5, 17, 18, 19, 12]
  replace Y : St No w0 [_, _, _] w56 := Y.mask [false, false, false, true, true, true, false]
  refine aq ?_
  refine ak Z Tryz.results7 (ah rfl ag) ?_
  exact ⟨by rfl, Y.ext⟩
 rw [hc7] at Z
 try simp only [qz, Bool.and_eq_true, Bool.or_eq_true, Bool.and_eq_false_iff, Bool.or_eq_false_iff] at hc7
 refine ay <| hK45 _ _ <| aa fun K50 hK50 => wlv Z (ao (Y.get (k := 3) rfl) rfl (Tryz.isAgg83 _) (Tryz.sizeOf83 _)) fun a Z => aI Z Y (by decide) (Tryz.zeroValue83 _) (cs := [iv 0, iv 0, iv 0, iv 0, iv 0, .bool false]) rfl ?_
 clear Z Y
 intro a w57 Z Y
 refine ap 0 Z Y rfl rfl rfl (Tryz.sizeOf83 _) rfl (lb rfl) (ds := [iv (x.rf + pn), iv (((x.carrier + 1) + pc) % 8), iv x.carrier, iv x.holder, iv (x.sf + pt), .bool false]) rfl rfl ?_
 clear Z Y
 intro a w58 Z Y
 refine ab (hK50 _ _ ?_)
 replace Z : Fr 298 [(5, _), (12, _), (17, _), (18, _), (19, _), (34, _)] [] a := Z.pick [5, 12, 17, 18, 19, 34]
 replace Y : St No w0 [_, _, _, _] w58 := Y.mask [true, false, false, true, true, true, false]
 refine ai fun K51 hK51 => aK (by kernel_rfl) (aO (by kernel_rfl) fun w59 hxz => ?_)
 replace Y := Y.grow hxz
 refine aV (k := 0) 6 [1, 5] Z (by kernel_rfl) (by kernel_rfl) (by kernel_rfl) (by rfl) ?_
 replace Z : Fr 298 [(5, _), (12, _), (17, _), (18, _), (19, _), (34, _)] [] a := Z.pick [5, 12, 17, 18, 19, 34]
 refine aL [] (fun i => match i with | _ => fun _ _ => False) 6 [[], [0], [], [], [3], [2, 4]] [.pointer (some ⟨b5, 4, none⟩), iv (x.sf + pt), iv when_, pq w9.heap.size, iv rl.answer, iv po] Z Y (by kernel_rfl) (by kernel_rfl) (by kernel_rfl) ?_ ?_ ?_
 ·intro i hi hiq
  match i, hi, hiq with
  | 0, _, _ =>
   intro w Y
   exact OpV.g (ac (v := .pointer (some ⟨b5, 4, none⟩)) rfl (by kernel_rfl))
  | 1, _, _ =>
   intro w Y
   exact OpV.g (ae (Y.get (k := 2) rfl) rfl (Tryz.isAgg3 _) rfl)
  | 2, _, _ =>
   intro w Y
   exact OpV.g (aj rfl)
  | 3, _, _ =>
   intro w Y
   exact OpV.g (ac (v := pq w9.heap.size) rfl (by kernel_rfl))
  | 4, _, _ =>
   intro w Y
   exact OpV.g (ae (Y.get (k := 3) rfl) rfl (Tryz.isAgg3 _) rfl)
  | 5, _, _ =>
   intro w Y
   exact aU Tryz.call42 rfl (gp hpo (dO _ _ _ (by omega) (by omega) (by omega) (by omega)))
 ·intro i hi
  exact absurd hi (by simp)
 clear Z Y
 intro  a w60 Z Y
 replace Z : Fr 298 [(203, .pointer (some ⟨b5, 4, none⟩)), (204, iv (x.sf + pt)), (205, iv when_), (206, pq w9.heap.size), (207, iv rl.answer), (208, iv po), (5, _), (12, _), (17, _), (18, _), (19, _), (34, _)] [] a := Z
 refine ab <| aP (k := 6) 10 [9] (by kernel_rfl) (by kernel_rfl) (by kernel_rfl) ?_
 refine wlv Z (aM rfl rfl ⟨by omega, by omega⟩) fun a Z => wlv Z (aR (v := .agg #[iv 2, iv ((x.sf + pt) + po), iv 1]) rfl (by kernel_rfl)) fun a Z => aH (E := 96) (sz := 3) rfl [[iv 2, iv ((x.sf + pt) + po), iv 1]] (by kernel_rfl) (by simp) rfl (by decide) (by decide) Z Y ?_
 clear Z Y
 intro a w61 Z Y
 refine wla Z rfl fun a Z => ab <| bd (by kernel_rfl) ?_
 refine hK51 _ _ ?_
 replace Z : Fr 298 [(5, _), (12, _), (17, _), (18, _), (19, _), (34, _), (35, _)] [] a := Z.pick [5, 12, 17, 18, 19, 34, 35]
 refine aa fun K52 hK52 => wlv Z (ac (v := .pointer (some ⟨b5, 4, none⟩)) rfl (by kernel_rfl)) fun a Z => wlv Z (ae (Y.get (k := 3) rfl) rfl (Tryz.isAgg3 _) rfl) fun a Z => wlv Z (ac (v := pq w9.heap.size) rfl (by kernel_rfl)) fun a Z => wlv Z (ae (Y.get (k := 4) rfl) rfl (Tryz.isAgg3 _) rfl) fun a Z => wlv Z (aM rfl rfl ⟨by omega, by omega⟩) fun a Z => wlv Z (ac (v := .pointer (some ⟨w9.heap.size, 1, none⟩)) rfl (by kernel_rfl)) fun a Z => ?_
 refine wlv Z (ae (Y.get (k := 4) rfl) rfl (Tryz.isAgg3 _) rfl) fun a Z => wlv Z (aM rfl rfl ⟨by omega, by omega⟩) fun a Z => wla Z rfl fun a Z => ab (hK52 _ _ ?_)
 replace Z : Fr 298 [(5, _), (12, _), (17, _), (19, _), (34, _), (35, _), (36, _)] [] a := Z.pick [5, 12, 17, 19, 34, 35, 36]
 replace Y : St No w0 [_, _, _, _] w61 := Y.mask [true, true, true, false, true]
 refine aa fun K53 hK53 => wlm Z rfl fun a Z => wlm Z rfl fun a Z => wlv Z (ac (v := .pointer (some ⟨w9.heap.size, 3, none⟩)) rfl (by kernel_rfl)) fun a Z => wlv Z (ae (Y.get (k := 3) rfl) rfl (Tryz.isAgg3 _) rfl) fun a Z => az Z Y (by decide) Tryz.call42 rfl (gp hpr (dO _ _ _ (by omega) (by omega) (by omega) (by omega))) ?_
 clear Z Y
 intro a w62 Z Y
 refine wlv Z (aM rfl rfl ⟨by omega, by omega⟩) fun a Z => wlv Z (aR (v := .agg #[iv 6, iv ((((x.sf + pt) + rl.answer) + rl.cooling) + pr), iv 1]) rfl (by kernel_rfl)) fun a Z => aH (E := 96) (sz := 3) rfl [[iv 6, iv ((((x.sf + pt) + rl.answer) + rl.cooling) + pr), iv 1]] (by kernel_rfl) (by simp) rfl (by decide) (by decide) Z Y ?_
 clear Z Y
 intro a w63 Z Y
 refine wla Z rfl fun a Z => ab (hK53 _ _ ?_)
 replace Z : Fr 298 [(12, _), (17, _), (19, _), (34, _), (35, _), (37, _)] [] a := Z.pick [12, 17, 19, 34, 35, 37]
 refine ai fun K54 hK54 => aK (by kernel_rfl) (aO (by kernel_rfl) fun w64 hxz => ?_)
 replace Y := Y.grow hxz
 refine aV (k := 0) 13 [10, 12] Z (by kernel_rfl) (by kernel_rfl) (by kernel_rfl) (by rfl) ?_
 replace Z : Fr 298 [(12, _), (17, _), (19, _), (34, _), (35, _), (37, _)] [] a := Z.pick [12, 17, 19, 34, 35, 37]
 refine cx 11 12 98 [iv 0, iv 0, iv 0] [iv 6, iv (x.sf + pt + po), iv (-1)] 13 [[], [], [], [], [3], [4], [5], [0, 1, 2, 6], [7], [8], [8], [], [9, 11]] (fun i => match i with | 0 => pv (.agg #[iv rl.answer, iv rl.cooling, iv rl.settle, iv rl.reverse]) | 1 => pv (.agg #[iv (x.rf + pn), iv (((x.carrier + 1) + pc) % 8), iv x.carrier, iv x.holder, iv (x.sf + pt), .bool false]) | 2 => pv ((.slice (some ⟨w60.heap.size, 0, none⟩) 1 1)) | 3 => pv ((.slice (some ⟨w60.heap.size, 0, none⟩) 1 1)) | 4 => pv (slAddr (.slice (some ⟨w60.heap.size, 0, none⟩) 1 1) (0 * 3)) | 5 => pv (slAddr (.slice (some ⟨w60.heap.size, 0, none⟩) 1 1) (0 * 3 + 1)) | 6 => pv (iv ((x.sf + pt) + po)) | 7 => pv (.tuple #[.agg #[iv 6, iv (x.sf + pt + po), iv (-1)], iv 0]) | 8 => pv (.tuple #[.agg #[iv 6, iv (x.sf + pt + po), iv (-1)], iv 0]) | 9 => pv (.agg #[iv 6, iv (x.sf + pt + po), iv (-1)]) | 10 => pv (iv 0) | 11 => fun v E => ∃ b, v = ptr b ∧ E = [] | 12 => fun v E => v = undef ∧ E = [] | _ => fun _ _ => False) Z (H := [own (.slice (some ⟨w62.heap.size, 0, none⟩) 1 1) 96 3 ([[iv 6, iv ((((x.sf + pt) + rl.answer) + rl.cooling) + pr), iv 1]]), own (.slice (some ⟨w60.heap.size, 0, none⟩) 1 1) 96 3 ([[iv 2, iv ((x.sf + pt) + po), iv 1]]), blk w50.heap.size [iv (x.rf + pn), iv (((x.carrier + 1) + pc) % 8), iv x.carrier, iv x.holder, iv (x.sf + pt), .bool false] 83, blk w15.heap.size [iv (x.rf + pn), iv (((x.carrier + 1) + pc) % 8), iv x.carrier, iv x.holder, iv (x.sf + pt), .bool true] 83, blk w9.heap.size [iv rl.answer, iv rl.cooling, iv rl.settle, iv rl.reverse] 81]) Y (by kernel_rfl) (by kernel_rfl) (by kernel_rfl) (by kernel_rfl) (by decide) (by decide) (by decide) (by decide) (by decide) ?_ (fun v E h => h) ⟨rfl, rfl⟩ (fun v E => Iff.rfl) ?_ ?_ ?_ ?_
 ·intro i v E h
  match i, h with
  | 0, _ => exact by decide
  | 1, _ => exact by decide
  | 2, _ => exact by decide
  | 3, _ => exact by decide
  | 4, _ => exact by decide
  | 5, _ => exact by decide
  | 6, _ => exact by decide
  | 7, _ => exact by decide
  | 8, _ => exact by decide
  | 9, _ => exact by decide
  | 10, _ => exact by decide
  | 11, _ => exact by decide
  | 12, _ => exact by decide
  | i + 13, h => exact h.elim
 ·intro i hi hia hij e
  match i, hi, hia, hij with
  | 0, _, _, _ =>
   intro w Y
   exact OpV.g (ao (Y.get (k := 5) rfl) rfl (Tryz.isAgg81 _) (Tryz.sizeOf81 _))
  | 1, _, _, _ =>
   intro w Y
   exact OpV.g (ao (Y.get (k := 3) rfl) rfl (Tryz.isAgg83 _) (Tryz.sizeOf83 _))
  | 2, _, _, _ =>
   intro w Y
   exact OpV.g (aj rfl)
  | 3, _, _, _ =>
   intro w Y
   exact OpV.g (aj rfl)
  | 4, _, _, _ =>
   rintro _ _ ⟨rfl, rfl⟩
   intro w Y
   exact OpV.g ((am (i := 0) (sT := 84) (Y.ownAt (i := 2) rfl) rfl rfl (Tryz.runUnderlying84 _) (Tryz.sizeOf96 _) (by omega) (by simp)).as (v' := slAddr (.slice (some ⟨w60.heap.size, 0, none⟩) 1 1) (0 * 3)) rfl)
  | 5, _, _, _ =>
   rintro _ _ ⟨rfl, rfl⟩
   intro w Y
   exact OpV.g (dr (k := 0 * 3) (j := 1) (Y.ownAt (i := 2) rfl) (i := 0) (by simp) rfl (fun _ _ => by kernel_rfl))
  | 6, _, _, _ =>
   rintro _ _ ⟨rfl, rfl⟩
   intro w Y
   exact OpV.g (aC (u := iv ((x.sf + pt) + po)) (i := 0) (j := 1) (Y.ownAt (i := 2) rfl) (by simp) rfl (Tryz.isAgg3 _) (by rfl))
  | 7, _, _, _ =>
   rintro _ _ ⟨rfl, rfl⟩ _ _ ⟨rfl, rfl⟩ _ _ ⟨rfl, rfl⟩ _ _ ⟨rfl, rfl⟩
   intro w Y
   exact aU Tryz.call47 rfl (g8 (rl := rl) (cl := (⟨x.rf + pn, ((x.carrier + 1) + pc) % 8, x.carrier, x.holder, x.sf + pt, false⟩ : Clm)) (t := (x.sf + pt) + po) (s := ⟨6, x.sf + pt + po, -1⟩) (l := [(⟨2, (x.sf + pt) + po, 1⟩ : Evt)]) hso (Y.ownAt (i := 2) rfl) hvo (by simp [isIn]; omega))
  | 8, _, _, _ =>
   rintro _ _ ⟨rfl, rfl⟩
   intro w Y
   exact OpV.g (aj rfl)
  | 9, _, _, _ =>
   rintro _ _ ⟨rfl, rfl⟩
   intro w Y
   exact OpV.g (aA rfl rfl)
  | 10, _, _, _ =>
   rintro _ _ ⟨rfl, rfl⟩
   intro w Y
   exact OpV.g (aA rfl rfl)
  | 11, _, h, _ => exact absurd rfl h
  | 12, _, _, h => exact absurd rfl h
  | i + 13, h, _, _ => exact absurd h (by omega)
 ·exact fun Lv w => dx (Tryz.zeroValue98 _)
 ·rintro _ _ ⟨rfl, rfl⟩ _ _ ⟨b11, rfl, rfl⟩
  intro b hb w h
  have hb : some (ptr b11) = some (ptr b) := hb
  cases hb
  exact dp rfl rfl h (Tryz.sizeOf98 _) rfl (lb rfl) rfl
 clear Z Y
 rintro bq _ _ ⟨⟨rfl, rfl⟩, -⟩ _ _ ⟨⟨rfl, rfl⟩, -⟩ _ _ ⟨⟨rfl, rfl⟩, -⟩ _ _ ⟨⟨rfl, rfl⟩, -⟩ _ _ ⟨⟨rfl, rfl⟩, -⟩ _ _ ⟨⟨rfl, rfl⟩, -⟩ _ _ ⟨⟨rfl, rfl⟩, -⟩ _ _ ⟨⟨rfl, rfl⟩, -⟩ _ _ ⟨⟨rfl, rfl⟩, -⟩ _ _ ⟨⟨rfl, rfl⟩, -⟩ _ _ ⟨⟨rfl, rfl⟩, -⟩ _ _ ⟨⟨b11, rfl, rfl⟩, hva⟩ a w65 Z Y
 obtain rfl : b11 = bq := eL (hva rfl)
 replace Z : Fr 298 [(229, _), (230, _), (231, _), (232, _), (233, _), (234, _), (235, _), (236, _), (228, _), (237, _), (238, _), (38, _), (12, _), (17, _), (19, _), (34, _), (35, _), (37, _)] [] a := Z
 replace Y : St No w0 [blk b11 [iv 6, iv (x.sf + pt + po), iv (-1)] 98, own (.slice (some ⟨w62.heap.size, 0, none⟩) 1 1) 96 3 ([[iv 6, iv ((((x.sf + pt) + rl.answer) + rl.cooling) + pr), iv 1]]), own (.slice (some ⟨w60.heap.size, 0, none⟩) 1 1) 96 3 ([[iv 2, iv ((x.sf + pt) + po), iv 1]]), blk w50.heap.size [iv (x.rf + pn), iv (((x.carrier + 1) + pc) % 8), iv x.carrier, iv x.holder, iv (x.sf + pt), .bool false] 83, blk w15.heap.size [iv (x.rf + pn), iv (((x.carrier + 1) + pc) % 8), iv x.carrier, iv x.holder, iv (x.sf + pt), .bool true] 83, blk w9.heap.size [iv rl.answer, iv rl.cooling, iv rl.settle, iv rl.reverse] 81] w65 := Y
 refine ab <| aP (k := 13) 14 [13] (by kernel_rfl) (by kernel_rfl) (by kernel_rfl) ?_
 refine wla Z rfl fun a Z => ab <| bd (by kernel_rfl) ?_
 refine hK54 _ _ ?_
 replace Z : Fr 298 [(12, _), (17, _), (19, _), (34, _), (35, _), (37, _), (38, _), (39, _)] [] a := Z.pick [12, 17, 19, 34, 35, 37, 38, 39]
 refine ai fun K55 hK55 => aK (by kernel_rfl) (aO (by kernel_rfl) fun w66 hxz => ?_)
 replace Y := Y.grow hxz
 refine aV (k := 0) 13 [10, 12] Z (by kernel_rfl) (by kernel_rfl) (by kernel_rfl) (by rfl) ?_
 replace Z : Fr 298 [(12, _), (17, _), (19, _), (34, _), (35, _), (37, _), (38, _), (39, _)] [] a := Z.pick [12, 17, 19, 34, 35, 37, 38, 39]
 refine cx 11 12 98 [iv 0, iv 0, iv 0] [iv 8, iv (x.sf + pt + rl.answer + rl.cooling + pr), iv (-1)] 13 [[], [], [], [], [3], [4], [5], [0, 1, 2, 6], [7], [8], [8], [], [9, 11]] (fun i => match i with | 0 => pv (.agg #[iv rl.answer, iv rl.cooling, iv rl.settle, iv rl.reverse]) | 1 => pv (.agg #[iv (x.rf + pn), iv (((x.carrier + 1) + pc) % 8), iv x.carrier, iv x.holder, iv (x.sf + pt), .bool false]) | 2 => pv ((.slice (some ⟨w62.heap.size, 0, none⟩) 1 1)) | 3 => pv ((.slice (some ⟨w62.heap.size, 0, none⟩) 1 1)) | 4 => pv (slAddr (.slice (some ⟨w62.heap.size, 0, none⟩) 1 1) (0 * 3)) | 5 => pv (slAddr (.slice (some ⟨w62.heap.size, 0, none⟩) 1 1) (0 * 3 + 1)) | 6 => pv (iv ((((x.sf + pt) + rl.answer) + rl.cooling) + pr)) | 7 => pv (.tuple #[.agg #[iv 8, iv (x.sf + pt + rl.answer + rl.cooling + pr), iv (-1)], iv 0]) | 8 => pv (.tuple #[.agg #[iv 8, iv (x.sf + pt + rl.answer + rl.cooling + pr), iv (-1)], iv 0]) | 9 => pv (.agg #[iv 8, iv (x.sf + pt + rl.answer + rl.cooling + pr), iv (-1)]) | 10 => pv (iv 0) | 11 => fun v E => ∃ b, v = ptr b ∧ E = [] | 12 => fun v E => v = undef ∧ E = [] | _ => fun _ _ => False) Z (H := [blk b11 [iv 6, iv (x.sf + pt + po), iv (-1)] 98, own (.slice (some ⟨w62.heap.size, 0, none⟩) 1 1) 96 3 ([[iv 6, iv ((((x.sf + pt) + rl.answer) + rl.cooling) + pr), iv 1]]), own (.slice (some ⟨w60.heap.size, 0, none⟩) 1 1) 96 3 ([[iv 2, iv ((x.sf + pt) + po), iv 1]]), blk w50.heap.size [iv (x.rf + pn), iv (((x.carrier + 1) + pc) % 8), iv x.carrier, iv x.holder, iv (x.sf + pt), .bool false] 83, blk w15.heap.size [iv (x.rf + pn), iv (((x.carrier + 1) + pc) % 8), iv x.carrier, iv x.holder, iv (x.sf + pt), .bool true] 83, blk w9.heap.size [iv rl.answer, iv rl.cooling, iv rl.settle, iv rl.reverse] 81]) Y (by kernel_rfl) (by kernel_rfl) (by kernel_rfl) (by kernel_rfl) (by decide) (by decide) (by decide) (by decide) (by decide) ?_ (fun v E h => h) ⟨rfl, rfl⟩ (fun v E => Iff.rfl) ?_ ?_ ?_ ?_
 ·intro i v E h
  match i, h with
  | 0, _ => exact by decide
  | 1, _ => exact by decide
  | 2, _ => exact by decide
  | 3, _ => exact by decide
  | 4, _ => exact by decide
  | 5, _ => exact by decide
  | 6, _ => exact by decide
  | 7, _ => exact by decide
  | 8, _ => exact by decide
  | 9, _ => exact by decide
  | 10, _ => exact by decide
  | 11, _ => exact by decide
  | 12, _ => exact by decide
  | i + 13, h => exact h.elim
 ·intro i hi hia hij e
  match i, hi, hia, hij with
  | 0, _, _, _ =>
   intro w Y
   exact OpV.g (ao (Y.get (k := 6) rfl) rfl (Tryz.isAgg81 _) (Tryz.sizeOf81 _))
  | 1, _, _, _ =>
   intro w Y
   exact OpV.g (ao (Y.get (k := 4) rfl) rfl (Tryz.isAgg83 _) (Tryz.sizeOf83 _))
  | 2, _, _, _ =>
   intro w Y
   exact OpV.g (aj rfl)
  | 3, _, _, _ =>
   intro w Y
   exact OpV.g (aj rfl)
  | 4, _, _, _ =>
   rintro _ _ ⟨rfl, rfl⟩
   intro w Y
   exact OpV.g ((am (i := 0) (sT := 84) (Y.ownAt (i := 2) rfl) rfl rfl (Tryz.runUnderlying84 _) (Tryz.sizeOf96 _) (by omega) (by simp)).as (v' := slAddr (.slice (some ⟨w62.heap.size, 0, none⟩) 1 1) (0 * 3)) rfl)
  | 5, _, _, _ =>
   rintro _ _ ⟨rfl, rfl⟩
   intro w Y
   exact OpV.g (dr (k := 0 * 3) (j := 1) (Y.ownAt (i := 2) rfl) (i := 0) (by simp) rfl (fun _ _ => by kernel_rfl))
  | 6, _, _, _ =>
   rintro _ _ ⟨rfl, rfl⟩
   intro w Y
   exact OpV.g (aC (u := iv ((((x.sf + pt) + rl.answer) + rl.cooling) + pr)) (i := 0) (j := 1) (Y.ownAt (i := 2) rfl) (by simp) rfl (Tryz.isAgg3 _) (by rfl))
  | 7, _, _, _ =>
   rintro _ _ ⟨rfl, rfl⟩ _ _ ⟨rfl, rfl⟩ _ _ ⟨rfl, rfl⟩ _ _ ⟨rfl, rfl⟩
   intro w Y
   exact aU Tryz.call47 rfl (g8 (rl := rl) (cl := (⟨x.rf + pn, ((x.carrier + 1) + pc) % 8, x.carrier, x.holder, x.sf + pt, false⟩ : Clm)) (t := (((x.sf + pt) + rl.answer) + rl.cooling) + pr) (s := ⟨8, x.sf + pt + rl.answer + rl.cooling + pr, -1⟩) (l := [(⟨6, (((x.sf + pt) + rl.answer) + rl.cooling) + pr, 1⟩ : Evt)]) hsr (Y.ownAt (i := 2) rfl) hvr (by simp [isIn]; omega))
  | 8, _, _, _ =>
   rintro _ _ ⟨rfl, rfl⟩
   intro w Y
   exact OpV.g (aj rfl)
  | 9, _, _, _ =>
   rintro _ _ ⟨rfl, rfl⟩
   intro w Y
   exact OpV.g (aA rfl rfl)
  | 10, _, _, _ =>
   rintro _ _ ⟨rfl, rfl⟩
   intro w Y
   exact OpV.g (aA rfl rfl)
  | 11, _, h, _ => exact absurd rfl h
  | 12, _, _, h => exact absurd rfl h
  | i + 13, h, _, _ => exact absurd h (by omega)
 ·exact fun Lv w => dx (Tryz.zeroValue98 _)
 ·rintro _ _ ⟨rfl, rfl⟩ _ _ ⟨b12, rfl, rfl⟩
  intro b hb w h
  have hb : some (ptr b12) = some (ptr b) := hb
  cases hb
  exact dp rfl rfl h (Tryz.sizeOf98 _) rfl (lb rfl) rfl
 clear Z Y
 rintro bq _ _ ⟨⟨rfl, rfl⟩, -⟩ _ _ ⟨⟨rfl, rfl⟩, -⟩ _ _ ⟨⟨rfl, rfl⟩, -⟩ _ _ ⟨⟨rfl, rfl⟩, -⟩ _ _ ⟨⟨rfl, rfl⟩, -⟩ _ _ ⟨⟨rfl, rfl⟩, -⟩ _ _ ⟨⟨rfl, rfl⟩, -⟩ _ _ ⟨⟨rfl, rfl⟩, -⟩ _ _ ⟨⟨rfl, rfl⟩, -⟩ _ _ ⟨⟨rfl, rfl⟩, -⟩ _ _ ⟨⟨rfl, rfl⟩, -⟩ _ _ ⟨⟨b12, rfl, rfl⟩, hva⟩ a w67 Z Y
 obtain rfl : b12 = bq := eL (hva rfl)
 replace Z : Fr 298 [(240, _), (241, _), (242, _), (243, _), (244, _), (245, _), (246, _), (247, _), (239, _), (248, _), (249, _), (40, _), (12, _), (17, _), (19, _), (34, _), (35, _), (37, _), (38, _), (39, _)] [] a := Z
 replace Y : St No w0 [blk b12 [iv 8, iv (x.sf + pt + rl.answer + rl.cooling + pr), iv (-1)] 98, blk b11 [iv 6, iv (x.sf + pt + po), iv (-1)] 98, own (.slice (some ⟨w62.heap.size, 0, none⟩) 1 1) 96 3 ([[iv 6, iv ((((x.sf + pt) + rl.answer) + rl.cooling) + pr), iv 1]]), own (.slice (some ⟨w60.heap.size, 0, none⟩) 1 1) 96 3 ([[iv 2, iv ((x.sf + pt) + po), iv 1]]), blk w50.heap.size [iv (x.rf + pn), iv (((x.carrier + 1) + pc) % 8), iv x.carrier, iv x.holder, iv (x.sf + pt), .bool false] 83, blk w15.heap.size [iv (x.rf + pn), iv (((x.carrier + 1) + pc) % 8), iv x.carrier, iv x.holder, iv (x.sf + pt), .bool true] 83, blk w9.heap.size [iv rl.answer, iv rl.cooling, iv rl.settle, iv rl.reverse] 81] w67 := Y
 refine ab <| aP (k := 13) 14 [13] (by kernel_rfl) (by kernel_rfl) (by kernel_rfl) ?_
 refine wla Z rfl fun a Z => ab <| bd (by kernel_rfl) ?_
 refine hK55 _ _ ?_
 replace Z : Fr 298 [(12, _), (17, _), (19, _), (35, _), (37, _), (38, _), (39, _), (40, _), (41, _)] [] a := Z.pick [12, 17, 19, 35, 37, 38, 39, 40, 41]
 replace Y : St No w0 [_, _, _, _, _, _] w67 := Y.mask [true, true, true, true, false, true, true]
 refine aa fun K56 hK56 => wlv Z (ao (Y.get (k := 5) rfl) rfl (Tryz.isAgg81 _) (Tryz.sizeOf81 _)) fun a Z => wlv Z (ao (Y.get (k := 4) rfl) rfl (Tryz.isAgg83 _) (Tryz.sizeOf83 _)) fun a Z => wlm Z rfl fun a Z => bJ Z Y (by decide) Tryz.call48 rfl (mu (rl := rl) (cl := (⟨x.rf + pn, ((x.carrier + 1) + pc) % 8, x.carrier, x.holder, x.sf + pt, true⟩ : Clm)) (l := [(⟨2, (x.sf + pt) + po, 1⟩ : Evt)]) (vo := [0]) hko (Y.ownAt (i := 3) rfl) hgo) ?_
 clear Z Y
 intro a w68 x14 hp Z Y
 revert x14 hp Z Y; rintro vv13 hp Z Y
 clear hp
 replace Y : St No w0 [own vv13 3 1 ([[iv 0]]), blk b12 [iv 8, iv (x.sf + pt + rl.answer + rl.cooling + pr), iv (-1)] 98, blk b11 [iv 6, iv (x.sf + pt + po), iv (-1)] 98, own (.slice (some ⟨w62.heap.size, 0, none⟩) 1 1) 96 3 ([[iv 6, iv ((((x.sf + pt) + rl.answer) + rl.cooling) + pr), iv 1]]), own (.slice (some ⟨w60.heap.size, 0, none⟩) 1 1) 96 3 ([[iv 2, iv ((x.sf + pt) + po), iv 1]]), blk w15.heap.size [iv (x.rf + pn), iv (((x.carrier + 1) + pc) % 8), iv x.carrier, iv x.holder, iv (x.sf + pt), .bool true] 83, blk w9.heap.size [iv rl.answer, iv rl.cooling, iv rl.settle, iv rl.reverse] 81] w68 := Y
 refine wlm Z rfl fun a Z => wlv Z (aA rfl rfl) fun a Z => wlv Z (aA rfl rfl) fun a Z => wla Z rfl fun a Z => wla Z rfl fun a Z => ab (hK56 _ _ ?_)
 replace Z : Fr 298 [(12, _), (17, _), (19, _), (37, _), (38, _), (39, _), (40, _), (41, _), (42, _), (43, _)] [] a := Z.pick [12, 17, 19, 37, 38, 39, 40, 41, 42, 43]
 replace Y : St No w0 [_, _, _, _, _, _] w68 := Y.mask [true, true, true, true, false, true, true]
 refine aa fun K57 hK57 => wlv Z (ao (Y.get (k := 5) rfl) rfl (Tryz.isAgg81 _) (Tryz.sizeOf81 _)) fun a Z => wlv Z (ao (Y.get (k := 4) rfl) rfl (Tryz.isAgg83 _) (Tryz.sizeOf83 _)) fun a Z => wlm Z rfl fun a Z => bJ Z Y (by decide) Tryz.call48 rfl (mu (rl := rl) (cl := (⟨x.rf + pn, ((x.carrier + 1) + pc) % 8, x.carrier, x.holder, x.sf + pt, true⟩ : Clm)) (l := [(⟨6, (((x.sf + pt) + rl.answer) + rl.cooling) + pr, 1⟩ : Evt)]) (vo := [0]) hkr (Y.ownAt (i := 3) rfl) hgr) ?_
 clear Z Y
 intro a w69 x16 hp Z Y
 revert x16 hp Z Y; rintro vv15 hp Z Y
 clear hp
 replace Y : St No w0 [own vv15 3 1 ([[iv 0]]), own vv13 3 1 ([[iv 0]]), blk b12 [iv 8, iv (x.sf + pt + rl.answer + rl.cooling + pr), iv (-1)] 98, blk b11 [iv 6, iv (x.sf + pt + po), iv (-1)] 98, own (.slice (some ⟨w62.heap.size, 0, none⟩) 1 1) 96 3 ([[iv 6, iv ((((x.sf + pt) + rl.answer) + rl.cooling) + pr), iv 1]]), blk w15.heap.size [iv (x.rf + pn), iv (((x.carrier + 1) + pc) % 8), iv x.carrier, iv x.holder, iv (x.sf + pt), .bool true] 83, blk w9.heap.size [iv rl.answer, iv rl.cooling, iv rl.settle, iv rl.reverse] 81] w69 := Y
 refine wlm Z rfl fun a Z => wlv Z (aA rfl rfl) fun a Z => wlv Z (aA rfl rfl) fun a Z => wla Z rfl fun a Z => wla Z rfl fun a Z => ab (hK57 _ _ ?_)
 replace Z : Fr 298 [(12, _), (38, _), (39, _), (40, _), (41, _), (42, _), (43, _), (44, _), (45, _)] [] a := Z.pick [12, 38, 39, 40, 41, 42, 43, 44, 45]
 replace Y : St No w0 [_, _, _, _] w69 := Y.mask [true, true, true, true, false, false, false]
 refine aa fun K58 hK58 => wlm Z rfl fun a Z => wlv Z ((v_eq rfl rfl).asb (b' := true) rfl) fun a Z => wlm Z rfl fun a Z => wly Z (aj rfl) fun a Z => wly Z ((v_eq rfl rfl).asb (b' := true) rfl) fun a Z => wlv Z (aw rfl rfl) fun a Z => wlm Z rfl fun a Z => wly Z (aj rfl) fun a Z => wly Z ((v_eq rfl rfl).asb (b' := true) rfl) fun a Z => wlv Z (aw rfl rfl) fun a Z => wlm Z rfl fun a Z => wly Z (aj rfl) fun a Z => wly Z ((v_eq rfl rfl).asb (b' := true) rfl) fun a Z => wlv Z (aw rfl rfl) fun a Z => wlm Z rfl fun a Z => wly Z (ac (v := pq b11) rfl (by kernel_rfl)) fun a Z => wly Z (ae (Y.get (k := 3) rfl) rfl (Tryz.isAgg3 _) rfl) fun a Z => wly Z ((v_eq rfl rfl).asb (b' := true) rfl) fun a Z => wlv Z (aw rfl rfl) fun a Z => wlm Z rfl fun a Z => wly Z (ac (v := pq b12) rfl (by kernel_rfl)) fun a Z => wly Z (ae (Y.get (k := 2) rfl) rfl (Tryz.isAgg3 _) rfl) fun a Z => wly Z ((v_eq rfl rfl).asb (b' := true) rfl) fun a Z => ?_
 refine wlv Z (aw rfl rfl) fun a Z => wlm Z rfl fun a Z => wly Z (aj rfl) fun a Z => iX Z rfl rfl (by decide) rfl ?_
 refine aH (E := 3) (sz := 1) rfl [[iv 0]] (by kernel_rfl) (by simp) rfl (by decide) (by decide) Z Y ?_
 clear Z Y
 intro a w70 Z Y
 refine aJ Z Y (by decide) rfl (by decide) rfl Tryz.call49 rfl (jh (y := .bool true) (iK [0] [0] vv13 (.slice (some ⟨w69.heap.size, 0, none⟩) 1 1) _ (Y.ownAt (i := 2) rfl) (Y.ownAt (i := 0) rfl)) (by simp)) ?_
 clear Z Y
 intro a w71 Z Y
 refine wlv Z (aw rfl rfl) fun a Z => wlm Z rfl fun a Z => wly Z (aj rfl) fun a Z => iX Z rfl rfl (by decide) rfl ?_
 refine aH (E := 3) (sz := 1) rfl [[iv 0]] (by kernel_rfl) (by simp) rfl (by decide) (by decide) Z Y ?_
 clear Z Y
 intro a w72 Z Y
 refine aJ Z Y (by decide) rfl (by decide) rfl Tryz.call49 rfl (jh (y := .bool true) (iK [0] [0] vv15 (.slice (some ⟨w71.heap.size, 0, none⟩) 1 1) _ (Y.ownAt (i := 2) rfl) (Y.ownAt (i := 0) rfl)) (by simp)) ?_
 clear Z Y
 intro a w73 Z Y
 refine wlv Z (aw rfl rfl) fun a Z => wla Z rfl fun a Z => ab (hK58 _ _ ?_)
 replace Z : Fr 298 [(12, _)] [] a := Z.pick [12]
 replace Y : St No w0 [] w73 := Y.mask [false, false, false, false, false, false]
 refine aq ?_
 refine ak Z Tryz.results7 (ah rfl ag) ?_
 exact ⟨by rfl, Y.ext⟩
end Go.Proofs.YtmmfieceinmloaaGreatDoor.K16
namespace Go.Proofs.YtmmfieceinmloaaGreatDoor.K16
open Go.RowKit Go.PW
set_option linter.unusedVariables false
set_option linter.unusedSimpArgs false
set_option maxRecDepth 4000
open Go.ChangeShapes Go.WideShapes Go.ChangeAt
section
variable {H : Type} {enc : TypeId × Value → H} {W : World} {base b0 : Nat} {sp : Nat → Bool} {hd : Bool} {v : Value} {d : DataW H} {ps : List MemPlace} {r : Reach}
theorem len4 {α : Type} {l : List α} (h : l.length = 4) : ∃ a0 a1 a2 a3, l = [a0, a1, a2, a3] := by
 match l, h with
 | [a0, a1, a2, a3], _ => exact ⟨_, _, _, _, rfl⟩
theorem mB {fuel : Nat} {cs : List Value} {x : DataW H × List MemPlace} (hl : cs.length = 4) (hw : Wt Tryz.prog 74 x.1) (h : DataW.trod enc Tryz.prog W base sp hd fuel 74 cs = some x) :
  ∃ (n0 : Int) (n1 : Int) (n2 : Int) (n3 : Int), cs = [iv n0, iv n1, iv n2, iv n3] ∧ (i64 n0) ∧ (i64 n1) ∧ (i64 n2) ∧ (i64 n3) := by
 obtain ⟨zs, hz, he, hy⟩ := dM 4 Tryz.underlying74 Tryz.underlying3 (by kernel_rfl) h hl
 obtain ⟨n0, n1, n2, n3, rfl⟩ := len4 hz
 exact ⟨n0, n1, n2, n3, he, hy n0 (by simp), hy n1 (by simp), hy n2 (by simp), hy n3 (by simp)⟩
theorem kS (hval : Value.okWide Tryz.prog W r b0 74 v) (hw : Wt Tryz.prog 74 d) (hd0 : DataW.Trod enc Tryz.prog W base sp hd 74 v d ps) :
  ∃ (n0 : Int) (n1 : Int) (n2 : Int) (n3 : Int), v = .agg #[iv n0, iv n1, iv n2, iv n3] ∧ (i64 n0) ∧ (i64 n1) ∧ (i64 n2) ∧ (i64 n3) := by
 obtain ⟨csA, rfl, hsz, hrow⟩ := ek (by kernel_rfl) hval
 obtain ⟨fuel, hf⟩ := hd0
 have hc : Tryz.prog.cellsOf 74 = 4 := by kernel_rfl
 obtain ⟨n0, n1, n2, n3, he, g0, g1, g2, g3⟩ := mB (cs := csA.toList) (by rw [Array.length_toList, hsz, hc]) hw hf
 obtain rfl : csA = #[iv n0, iv n1, iv n2, iv n3] := by
  have he2 : csA.toList = [iv n0, iv n1, iv n2, iv n3] := he
  cases csA; simp only at he2; rw [he2]
 exact ⟨n0, n1, n2, n3, rfl, g0, g1, g2, g3⟩
end
end Go.Proofs.YtmmfieceinmloaaGreatDoor.K16
