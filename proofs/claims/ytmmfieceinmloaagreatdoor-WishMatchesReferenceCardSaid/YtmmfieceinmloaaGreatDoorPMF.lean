/- Texts joined: RefV, SgnA, LawM, OpenM. -/
import Derived.Test.YtmmfieceinmloaaGreatDoorPME
namespace Go.Proofs.YtmmfieceinmloaaGreatDoor
open Go.RowKit Go.PW
set_option linter.unusedVariables false
set_option linter.unusedSimpArgs false
set_option maxRecDepth 4000
def bentP (x : Pxy) (how n : Int) : Pxy :=
 if pickI how 7 = 0 then { x with frm := n } else if pickI how 7 = 1 then { x with to := n } else if pickI how 7 = 2 then { x with rf := n } else if pickI how 7 = 3 then { x with rt := n } else
 if pickI how 7 = 4 then { x with sf := n } else if pickI how 7 = 5 then { x with st := n } else { x with rt := x.rt + 1 }
theorem Pxy.ok_bnd {p : Pxy} (h : p.ok = true) : 0 ≤ p.rt ∧ p.rt ≤ 100000000 := by
 simp only [Pxy.ok, bP, Bool.and_eq_true, decide_eq_true_eq] at h; omega
theorem qi {x bw : Wsh} {how n : Int} {w0 : World} (hbw : bentW x how n = bw) (hh : -9223372036854775808 ≤ how ∧ how ≤ 9223372036854775807) (hx : x.rt < 9223372036854775807) (hx2 : -9223372036854775808 ≤ x.rt) :
  Ret Tryz.prog 10 #[.agg #[iv x.signer, iv x.holder, iv x.rf, iv x.rt, iv x.carrier, iv x.serial, iv x.sf, iv x.st, sv x.sig], iv how, iv n] w0 fun v w => v = .tuple #[.agg #[iv bw.signer, iv bw.holder, iv bw.rf, iv bw.rt, iv bw.carrier, iv bw.serial, iv bw.sf, iv bw.st, sv bw.sig], .bool (!(decide (bw = x)))] ∧ Ext No w0 w := by
 subst hbw; exact pz x how n w0 hh hx hx2
set_option maxHeartbeats 4000000 in
theorem nE (x : Pxy) (how n : Int) (w0 : World) (hh : -9223372036854775808 ≤ how ∧ how ≤ 9223372036854775807) (hx : x.rt < 9223372036854775807) (hx2 : -9223372036854775808 ≤ x.rt) :
  Ret Tryz.prog 12 #[.agg #[iv x.frm, iv x.to, iv x.rf, iv x.rt, iv x.sf, iv x.st, sv x.sig], iv how, iv n] w0 fun v w => v = .tuple #[.agg (bentP x how n).cells.toArray, .bool (!(decide (bentP x how n = x)))] ∧ Ext No w0 w := by
 refine aF Tryz.func12 rfl Tryz.ntmps12 (lb rfl) fun a Z => ?_
 replace Z : Fr 50 [(0, _), (1, _), (2, _)] [] a := Z
 replace Y : St No w0 [] w0 := St.init w0
 refine aa fun K1 hK1 => aY Z Y (by decide) rfl (cs := [iv x.frm, iv x.to, iv x.rf, iv x.rt, iv x.sf, iv x.st, sv x.sig]) rfl ?_
 clear Z Y
 intro a w1 Z Y
 refine aK Z Y (by decide) (Tryz.zeroValue40 _) (cs := [iv 0, iv 0, iv 0, iv 0, iv 0, iv 0, .string (⟨#[]⟩)]) rfl ?_
 clear Z Y
 intro a w2 Z Y
 refine wla Z rfl fun a Z => ab (hK1 _ _ ?_)
 refine aa fun K2 hK2 => wlv Z (ar (Y.get (k := 1) rfl) rfl (Tryz.isAgg40 _) (Tryz.sizeOf40 _)) fun a Z => aK Z Y (by decide) (Tryz.zeroValue40 _) (cs := [iv 0, iv 0, iv 0, iv 0, iv 0, iv 0, .string (⟨#[]⟩)]) rfl ?_
 clear Z Y
 intro a w3 Z Y
 refine ap 0 Z Y rfl rfl rfl (Tryz.sizeOf40 _) rfl (lb rfl) (ds := [iv x.frm, iv x.to, iv x.rf, iv x.rt, iv x.sf, iv x.st, sv x.sig]) rfl rfl ?_
 clear Z Y
 intro a w4 Z Y
 refine ab (hK2 _ _ ?_)
 refine ai fun K3 hK3 => aa fun K4 hK4 => wlm Z rfl fun a Z => aA Z Y (by decide) Tryz.call53 rfl (cf how 7 _ (by first | assumption | omega) (by omega)) ?_
 clear Z Y
 intro a w5 Z Y
 refine ab (hK4 _ _ ?_)
 refine gc (fun a w => ∃ (o : Pxy), (bentP x how n = o) ∧ Fr 50 [(3, Go.PW.pt w0.heap.size), (6, Go.PW.pt w1.heap.size), (7, .bool false), (8, Go.PW.pt w2.heap.size)] [] a ∧ St No w0 [blk w2.heap.size [iv o.frm, iv o.to, iv o.rf, iv o.rt, iv o.sf, iv o.st, sv o.sig] 40, blk w1.heap.size [iv 0, iv 0, iv 0, iv 0, iv 0, iv 0, .string (⟨#[]⟩)] 40, blk w0.heap.size [iv x.frm, iv x.to, iv x.rf, iv x.rt, iv x.sf, iv x.st, sv x.sig] 40] w) ?_ ?_
 ·refine aq <| aa fun K5 hK5 => wlv Z (v_eq rfl rfl) fun a Z => wla Z rfl fun a Z => ab (hK5 _ _ ?_)
  refine ay Z rfl (fun hc1 => ?_) (fun hc1 => ?_)
  ·rw [hc1] at Z
   try simp only [qz] at hc1
   refine am <| wlm Z rfl fun a Z => wlv Z (ac (v := Go.PW.pt w2.heap.size) rfl (by kernel_rfl)) fun a Z => ap 0 Z Y rfl rfl rfl (Tryz.sizeOf3 _) rfl (lb rfl) (ds := [iv n, iv x.to, iv x.rf, iv x.rt, iv x.sf, iv x.st, sv x.sig]) rfl rfl ?_
   clear Z Y
   intro a w6 Z Y
   refine ab ?_
   exact ⟨⟨n, x.to, x.rf, x.rt, x.sf, x.st, x.sig⟩, (by unfold bentP; simp [hc1]), Z.pick [3, 6, 7, 8], Y.select [0, 1, 2] (by decide)⟩
  rw [hc1] at Z
  try simp only [qz] at hc1
  refine aa fun K6 hK6 => wlv Z (v_eq rfl rfl) fun a Z => wla Z rfl fun a Z => ab (hK6 _ _ ?_)
  replace Z : Fr 50 [(2, _), (3, _), (6, _), (7, _), (8, _), (11, _), (22, _)] [] a := Z.pick [2, 3, 6, 7, 8, 11, 22]
  refine ay Z rfl (fun hc2 => ?_) (fun hc2 => ?_)
  ·rw [hc2] at Z
   try simp only [qz] at hc2
   refine am <| wlm Z rfl fun a Z => wlv Z (ac (v := .pointer (some ⟨w2.heap.size, 1, none⟩)) rfl (by kernel_rfl)) fun a Z => ap 0 Z Y rfl rfl rfl (Tryz.sizeOf3 _) rfl (lb rfl) (ds := [iv x.frm, iv n, iv x.rf, iv x.rt, iv x.sf, iv x.st, sv x.sig]) rfl rfl ?_
   clear Z Y
   intro a w7 Z Y
   refine ab ?_
   exact ⟨⟨x.frm, n, x.rf, x.rt, x.sf, x.st, x.sig⟩, (by unfold bentP; simp [hc1, hc2]), Z.pick [3, 6, 7, 8], Y.select [0, 1, 2] (by decide)⟩
  rw [hc2] at Z
  try simp only [qz] at hc2
  refine aa fun K7 hK7 => wlv Z (v_eq rfl rfl) fun a Z => wla Z rfl fun a Z => ab (hK7 _ _ ?_)
  refine ay Z rfl (fun hc3 => ?_) (fun hc3 => ?_)
  ·rw [hc3] at Z
   try simp only [qz] at hc3
   refine am <| wlm Z rfl fun a Z => wlv Z (ac (v := .pointer (some ⟨w2.heap.size, 2, none⟩)) rfl (by kernel_rfl)) fun a Z => wlv Z (ac (v := .pointer (some ⟨w2.heap.size, 2, none⟩)) rfl (by kernel_rfl)) fun a Z => ap 0 Z Y rfl rfl rfl (Tryz.sizeOf3 _) rfl (lb rfl) (ds := [iv x.frm, iv x.to, iv n, iv x.rt, iv x.sf, iv x.st, sv x.sig]) rfl rfl ?_
   clear Z Y
   intro a w8 Z Y
   refine ab ?_
   exact ⟨⟨x.frm, x.to, n, x.rt, x.sf, x.st, x.sig⟩, (by unfold bentP; simp [hc1, hc2, hc3]), Z.pick [3, 6, 7, 8], Y.select [0, 1, 2] (by decide)⟩
  rw [hc3] at Z
  try simp only [qz] at hc3
  refine aa fun K8 hK8 => wlv Z (v_eq rfl rfl) fun a Z => wla Z rfl fun a Z => ab (hK8 _ _ ?_)
  refine ay Z rfl (fun hc4 => ?_) (fun hc4 => ?_)
  ·rw [hc4] at Z
   try simp only [qz] at hc4
   refine am <| wlm Z rfl fun a Z => wlv Z (ac (v := .pointer (some ⟨w2.heap.size, 2, none⟩)) rfl (by kernel_rfl)) fun a Z => wlv Z (ac (v := .pointer (some ⟨w2.heap.size, 3, none⟩)) rfl (by kernel_rfl)) fun a Z => ap 0 Z Y rfl rfl rfl (Tryz.sizeOf3 _) rfl (lb rfl) (ds := [iv x.frm, iv x.to, iv x.rf, iv n, iv x.sf, iv x.st, sv x.sig]) rfl rfl ?_
   clear Z Y
   intro a w9 Z Y
   refine ab ?_
   exact ⟨⟨x.frm, x.to, x.rf, n, x.sf, x.st, x.sig⟩, (by unfold bentP; simp [hc1, hc2, hc3, hc4]), Z.pick [3, 6, 7, 8], Y.select [0, 1, 2] (by decide)⟩
  rw [hc4] at Z
  try simp only [qz] at hc4
  refine aa fun K9 hK9 => wlv Z (v_eq rfl rfl) fun a Z => wla Z rfl fun a Z => ab (hK9 _ _ ?_)
  replace Z : Fr 50 [(2, _), (3, _), (6, _), (7, _), (8, _), (11, _), (36, _)] [] a := Z.pick [2, 3, 6, 7, 8, 11, 36]
  refine ay Z rfl (fun hc5 => ?_) (fun hc5 => ?_)
  ·rw [hc5] at Z
   try simp only [qz] at hc5
   refine am <| wlm Z rfl fun a Z => wlv Z (ac (v := .pointer (some ⟨w2.heap.size, 4, none⟩)) rfl (by kernel_rfl)) fun a Z => wlv Z (ac (v := .pointer (some ⟨w2.heap.size, 4, none⟩)) rfl (by kernel_rfl)) fun a Z => ap 0 Z Y rfl rfl rfl (Tryz.sizeOf3 _) rfl (lb rfl) (ds := [iv x.frm, iv x.to, iv x.rf, iv x.rt, iv n, iv x.st, sv x.sig]) rfl rfl ?_
   clear Z Y
   intro a w10 Z Y
   refine ab ?_
   exact ⟨⟨x.frm, x.to, x.rf, x.rt, n, x.st, x.sig⟩, (by unfold bentP; simp [hc1, hc2, hc3, hc4, hc5]), Z.pick [3, 6, 7, 8], Y.select [0, 1, 2] (by decide)⟩
  rw [hc5] at Z
  try simp only [qz] at hc5
  refine aa fun K10 hK10 => wlv Z (v_eq rfl rfl) fun a Z => wla Z rfl fun a Z => ab (hK10 _ _ ?_)
  refine ay Z rfl (fun hc6 => ?_) (fun hc6 => ?_)
  ·rw [hc6] at Z
   try simp only [qz] at hc6
   refine am <| wlm Z rfl fun a Z => wlv Z (ac (v := .pointer (some ⟨w2.heap.size, 4, none⟩)) rfl (by kernel_rfl)) fun a Z => wlv Z (ac (v := .pointer (some ⟨w2.heap.size, 5, none⟩)) rfl (by kernel_rfl)) fun a Z => ap 0 Z Y rfl rfl rfl (Tryz.sizeOf3 _) rfl (lb rfl) (ds := [iv x.frm, iv x.to, iv x.rf, iv x.rt, iv x.sf, iv n, sv x.sig]) rfl rfl ?_
   clear Z Y
   intro a w11 Z Y
   refine ab ?_
   exact ⟨⟨x.frm, x.to, x.rf, x.rt, x.sf, n, x.sig⟩, (by unfold bentP; simp [hc1, hc2, hc3, hc4, hc5, hc6]), Z.pick [3, 6, 7, 8], Y.select [0, 1, 2] (by decide)⟩
  rw [hc6] at Z
  try simp only [qz] at hc6
  refine am <| wlv Z (ac (v := .pointer (some ⟨w2.heap.size, 2, none⟩)) rfl (by kernel_rfl)) fun a Z => wlv Z (ac (v := .pointer (some ⟨w2.heap.size, 3, none⟩)) rfl (by kernel_rfl)) fun a Z => wlv Z (ae (Y.get (k := 0) rfl) rfl (Tryz.isAgg3 _) rfl) fun a Z => wlv Z (aT rfl rfl ⟨by omega, by omega⟩) fun a Z => wlv Z (ac (v := .pointer (some ⟨w2.heap.size, 2, none⟩)) rfl (by kernel_rfl)) fun a Z => wlv Z (ac (v := .pointer (some ⟨w2.heap.size, 3, none⟩)) rfl (by kernel_rfl)) fun a Z => ?_
  refine ap 0 Z Y rfl rfl rfl (Tryz.sizeOf3 _) rfl (lb rfl) (ds := [iv x.frm, iv x.to, iv x.rf, iv (x.rt + 1), iv x.sf, iv x.st, sv x.sig]) rfl rfl ?_
  clear Z Y
  intro a w12 Z Y
  refine ab ?_
  exact ⟨⟨x.frm, x.to, x.rf, x.rt + 1, x.sf, x.st, x.sig⟩, (by unfold bentP; simp [hc1, hc2, hc3, hc4, hc5, hc6]), Z.pick [3, 6, 7, 8], Y.select [0, 1, 2] (by decide)⟩
 rintro a w13 ⟨o, ho, Z, Y⟩
 refine hK3 _ _ ?_
 refine ai fun K11 hK11 => aM (by kernel_rfl) (aO (by kernel_rfl) fun w14 hxz => ?_)
 replace Y := Y.grow hxz
 refine aX (k := 0) 5 [3, 4] Z (by kernel_rfl) (by kernel_rfl) (by kernel_rfl) (by rfl) ?_
 replace Z : Fr 50 [(3, _), (6, _), (7, _), (8, _)] [] a := Z.pick [3, 6, 7, 8]
 replace Y : St No w0 [blk w1.heap.size [iv 0, iv 0, iv 0, iv 0, iv 0, iv 0, .string (⟨#[]⟩)] 40, blk w2.heap.size [iv o.frm, iv o.to, iv o.rf, iv o.rt, iv o.sf, iv o.st, sv o.sig] 40, blk w0.heap.size [iv x.frm, iv x.to, iv x.rf, iv x.rt, iv x.sf, iv x.st, sv x.sig] 40] w14 := Y.select [1, 0, 2] (by decide)
 refine eD [4] (fun q => if q = 4 then blk w1.heap.size [iv 0, iv 0, iv 0, iv 0, iv 0, iv 0, .string (⟨#[]⟩)] 40 else join []) (fun q => if q = 4 then blk w1.heap.size [iv o.frm, iv o.to, iv o.rf, iv o.rt, iv o.sf, iv o.st, sv o.sig] 40 else join []) 5 [[], [], [], [1, 2], [0]] (fun i => match i with | 0 => pv (.agg #[iv o.frm, iv o.to, iv o.rf, iv o.rt, iv o.sf, iv o.st, sv o.sig]) | 1 => pv (.agg #[iv o.frm, iv o.to, iv o.rf, iv o.rt, iv o.sf, iv o.st, sv o.sig]) | 2 => pv (.agg #[iv x.frm, iv x.to, iv x.rf, iv x.rt, iv x.sf, iv x.st, sv x.sig]) | 3 => pv (.bool (!(decide (o = x)))) | 4 => fun v E => v = undef ∧ E = [] | _ => fun _ _ => False) (by intro q; by_cases h4 : q = 4; (subst h4; rfl); simp only [h4, if_false]) Z (H := [blk w2.heap.size [iv o.frm, iv o.to, iv o.rf, iv o.rt, iv o.sf, iv o.st, sv o.sig] 40, blk w0.heap.size [iv x.frm, iv x.to, iv x.rf, iv x.rt, iv x.sf, iv x.st, sv x.sig] 40]) Y (by kernel_rfl) (by kernel_rfl) (by kernel_rfl) (by kernel_rfl) (by decide) (by decide) ?_ ?_ ?_ ?_ ?_ ?_
 ·intro i v E h
  match i, h with
  | 0, _ => exact by decide
  | 1, _ => exact by decide
  | 2, _ => exact by decide
  | 3, _ => exact by decide
  | 4, _ => exact by decide
  | i + 5, h => exact h.elim
 ·intro q v E hq h
  simp only [List.mem_cons, List.not_mem_nil, or_false] at hq
  rcases hq with rfl <;> exact h
 ·intro q hq
  simp only [List.mem_cons, List.not_mem_nil, or_false] at hq
  rcases hq with rfl <;> exact ⟨rfl, rfl⟩
 ·intro i hi hiq e
  match i, hi, hiq with
  | 0, _, _ =>
   intro w Y
   exact OpV.g (ar (Y.get (k := 1) rfl) rfl (Tryz.isAgg40 _) (Tryz.sizeOf40 _))
  | 1, _, _ =>
   intro w Y
   exact OpV.g (ar (Y.get (k := 1) rfl) rfl (Tryz.isAgg40 _) (Tryz.sizeOf40 _))
  | 2, _, _ =>
   intro w Y
   exact OpV.g (ar (Y.get (k := 2) rfl) rfl (Tryz.isAgg40 _) (Tryz.sizeOf40 _))
  | 3, _, _ =>
   rintro _ _ ⟨rfl, rfl⟩ _ _ ⟨rfl, rfl⟩
   intro w Y
   exact OpV.g ((ek rfl rfl (by kernel_rfl) (eqPxy o.frm o.to o.rf o.rt o.sf o.st o.sig x.frm x.to x.rf x.rt x.sf x.st x.sig _)).asb (b' := !(decide (o = x))) (by rfl))
  | 4, _, h => exact absurd (by decide) h
 ·intro q hq
  simp only [List.mem_cons, List.not_mem_nil, or_false] at hq
  rcases hq with rfl
  ·rintro _ _ ⟨rfl, rfl⟩
   intro w h
   exact dD (cs := [iv 0, iv 0, iv 0, iv 0, iv 0, iv 0, .string (⟨#[]⟩)]) (ds := [iv o.frm, iv o.to, iv o.rf, iv o.rt, iv o.sf, iv o.st, sv o.sig]) rfl rfl h (Tryz.sizeOf40 _) rfl (lb rfl) rfl
 clear Z Y
 rintro _ _ ⟨rfl, rfl⟩ _ _ ⟨rfl, rfl⟩ _ _ ⟨rfl, rfl⟩ _ _ ⟨rfl, rfl⟩ a w15 Z Y
 replace Z : Fr 50 [(46, _), (47, _), (48, _), (49, _), (3, _), (6, _), (7, _), (8, _)] [] a := Z
 replace Y : St No w0 [blk w1.heap.size [iv o.frm, iv o.to, iv o.rf, iv o.rt, iv o.sf, iv o.st, sv o.sig] 40, blk w2.heap.size [iv o.frm, iv o.to, iv o.rf, iv o.rt, iv o.sf, iv o.st, sv o.sig] 40, blk w0.heap.size [iv x.frm, iv x.to, iv x.rf, iv x.rt, iv x.sf, iv x.st, sv x.sig] 40] w15 := Y
 refine ab <| aQ (k := 5) 6 [5] (by kernel_rfl) (by kernel_rfl) (by kernel_rfl) ?_
 refine wla Z rfl fun a Z => ab ?_
 refine aZ (by kernel_rfl) ?_
 refine hK11 _ _ ?_
 replace Z : Fr 50 [(6, _), (7, _)] [] a := Z.pick [6, 7]
 replace Y : St No w0 [_] w15 := Y.mask [true, false, false]
 refine aw ?_
 refine ao Z Tryz.results12 (aj rfl (ba (Y.get (k := 0) rfl) (Tryz.isAgg40 _) (Tryz.sizeOf40 _)) (ah rfl ag)) ?_
 rw [ho]
 exact ⟨rfl, Y.ext⟩
theorem pf {x bq : Pxy} {how n : Int} {w0 : World} (hbq : bentP x how n = bq) (hh : -9223372036854775808 ≤ how ∧ how ≤ 9223372036854775807) (hx : x.rt < 9223372036854775807) (hx2 : -9223372036854775808 ≤ x.rt) :
  Ret Tryz.prog 12 #[.agg #[iv x.frm, iv x.to, iv x.rf, iv x.rt, iv x.sf, iv x.st, sv x.sig], iv how, iv n] w0 fun v w => v = .tuple #[.agg #[iv bq.frm, iv bq.to, iv bq.rf, iv bq.rt, iv bq.sf, iv bq.st, sv bq.sig], .bool (!(decide (bq = x)))] ∧ Ext No w0 w := by
 subst hbq; exact nE x how n w0 hh hx hx2
def wiB (a b c d e f g h : Int) : Bool := decide (e ≤ a) && decide (b ≤ f) && decide (g ≤ c) && decide (d ≤ h)
theorem nL (a b c d : Int) (q : Pxy) : isInH a b c d q = wiB a b c d q.rf q.rt q.sf q.st := rfl
section
variable {ks : List By} {x : Wsh} {ps : List Pxy} {number t : Int}
theorem np {i : Nat} (h : ¬ formB ks x ps) (hb : badIdx ps 0 = some i) : whyH ks x ps number t = (1, (i : Int)) := by unfold whyH; rw [if_neg h, hb]
theorem nz (h : ∀ j, j < ks.length → (ks.getD j []).length = 32) : (ks.all fun s => decide (s.length = 32)) = true := by
 refine List.all_eq_true.2 fun s hs => ?_
 obtain ⟨j, hj, rfl⟩ := List.mem_iff_getElem.1 hs
 have := h j hj
 rw [List.getD_eq_getElem?_getD, List.getElem?_eq_getElem hj] at this
 exact decide_eq_true this
theorem eP {k : Nat} (hk : k < ks.length) (h : ¬ (ks.getD k []).length = 32) : (ks.all fun s => decide (s.length = 32)) = false := by
 cases hq : ks.all fun s => decide (s.length = 32) with
 | false => rfl
 | true => exact absurd (of_decide_eq_true (List.all_eq_true.1 hq _ (bR hk))) h
theorem ki {k : Nat} (hk : k < ps.length) (h : (ps.getD k Pxy.z).ok = true) : badIdx (ps.drop k) k = badIdx (ps.drop (k + 1)) (k + 1) := by
 rw [cr Pxy.z hk, badIdx, if_pos h]
theorem fV {k : Nat} (hk : k < ps.length) (h : (ps.getD k Pxy.z).ok = false) : badIdx (ps.drop k) k = some k := by
 rw [cr Pxy.z hk, badIdx, if_neg (by rw [h]; simp)]
theorem kQ {sg who : Int} {k : Nat} (hk : k < ps.length) (h : (ps.getD k Pxy.z).frm = who) : bt sg who (ps.drop k) k = bt sg (ps.getD k Pxy.z).to (ps.drop (k + 1)) (k + 1) := by
 rw [cr Pxy.z hk, bt, if_pos h]
theorem kV {sg who : Int} {k : Nat} (hk : k < ps.length) (h : ¬ (ps.getD k Pxy.z).frm = who) : bt sg who (ps.drop k) k = some (k : Int) := by
 rw [cr Pxy.z hk, bt, if_neg h]
theorem j4 (h : 0 < ps.length) : aU x none ps 0 = aU x (prevP ps 1) (ps.drop 1) 1 := by
 cases ps with
 | nil => cases h
 | cons p l => rfl
theorem ml (h : ps.length = 0) : aU x none ps 0 = none := by rw [List.length_eq_zero_iff.1 h]; rfl
theorem oT (h : 0 < ps.length) (hs : aU x none ps 0 = if ps.length = 0 ∨ isInH x.rf x.rt x.sf x.st (ps.getD (ps.length - 1) Pxy.z) = true then none else some (-1)) :
  aU x none ps 0 = if (!(wiB x.rf x.rt x.sf x.st (ps.getD (ps.length - 1) Pxy.z).rf (ps.getD (ps.length - 1) Pxy.z).rt (ps.getD (ps.length - 1) Pxy.z).sf (ps.getD (ps.length - 1) Pxy.z).st)) = true then some (-1) else none := by
 have hl : ¬ ps.length = 0 := by omega
 rw [hs, nL]
 generalize wiB x.rf x.rt x.sf x.st (ps.getD (ps.length - 1) Pxy.z).rf (ps.getD (ps.length - 1) Pxy.z).rt (ps.getD (ps.length - 1) Pxy.z).sf (ps.getD (ps.length - 1) Pxy.z).st = c
 cases c <;> simp [hl]
theorem l6 {n a b : Int} (h : n < a ∨ b ≤ n) : inB n a (b - 1) = false := by
 unfold inB
 rcases h with h | h
 ·rw [decide_eq_false (by omega)]; rfl
 ·rw [decide_eq_false (by omega : ¬ n ≤ b - 1), Bool.and_false]
theorem lM {n a b : Int} (h1 : a ≤ n) (h2 : n < b) : inB n a (b - 1) = true := by unfold inB; rw [decide_eq_true h1, decide_eq_true (by omega : n ≤ b - 1)]; rfl
end
theorem hT (a1 a2 a3 a4 a5 a6 a7 a8 : Int) (w0 : World) :
  Ret Tryz.prog 70 #[.agg #[iv a1, iv a2], .agg #[iv a3, iv a4], .agg #[iv a5, iv a6], .agg #[iv a7, iv a8]] w0 fun v w => v = .bool (wiB a1 a2 a3 a4 a5 a6 a7 a8) ∧ Ext No w0 w := by
 refine aF Tryz.func70 rfl Tryz.ntmps70 (lb rfl) fun a Z => ?_
 replace Z : Fr 35 [(0, _), (1, _), (2, _), (3, _)] [] a := Z
 replace Y : St No w0 [] w0 := St.init w0
 refine aa fun K1 hK1 => aY Z Y (by decide) rfl (cs := [iv a1, iv a2]) rfl ?_
 clear Z Y
 intro a w1 Z Y
 refine aY Z Y (by decide) rfl (cs := [iv a3, iv a4]) rfl ?_
 clear Z Y
 intro a w2 Z Y
 refine aY Z Y (by decide) rfl (cs := [iv a5, iv a6]) rfl ?_
 clear Z Y
 intro a w3 Z Y
 refine aY Z Y (by decide) rfl (cs := [iv a7, iv a8]) rfl ?_
 clear Z Y
 intro a w4 Z Y
 refine wla Z rfl fun a Z => ab (hK1 _ _ ?_)
 refine aa fun K2 hK2 => wlv Z (ac (v := Go.PW.pt w0.heap.size) rfl (by kernel_rfl)) fun a Z => wlv Z (ae (Y.get (k := 3) rfl) rfl (Tryz.isAgg3 _) rfl) fun a Z => wlv Z (ac (v := Go.PW.pt w2.heap.size) rfl (by kernel_rfl)) fun a Z => wlv Z (ae (Y.get (k := 1) rfl) rfl (Tryz.isAgg3 _) rfl) fun a Z => wlv Z (v_ge rfl rfl) fun a Z => wlm Z rfl fun a Z => ?_
 refine cp (N := 35) (df := []) 6 [(20, .bool ((decide (a5 ≤ a1)) && (decide (a2 ≤ a6)))), (0, .agg #[iv a1, iv a2]), (1, .agg #[iv a3, iv a4]), (2, .agg #[iv a5, iv a6]), (3, .agg #[iv a7, iv a8]), (4, Go.PW.pt w0.heap.size), (5, Go.PW.pt w1.heap.size), (6, Go.PW.pt w2.heap.size), (7, Go.PW.pt w3.heap.size), (8, .bool false)] ?_ (fun hj => ?_)
 rotate_left
 ·rcases Bool.eq_false_or_eq_true (decide (a5 ≤ a1)) with hb1 | hb1
  ·rw [hb1] at Z
   have hb1b := hb1
   try simp only [qz, Bool.and_eq_true, Bool.or_eq_true, Bool.and_eq_false_iff, Bool.or_eq_false_iff] at hb1
   refine wly Z (ac (v := .pointer (some ⟨w0.heap.size, 1, none⟩)) rfl (by kernel_rfl)) fun a Z => wly Z (ae (Y.get (k := 3) rfl) rfl (Tryz.isAgg3 _) rfl) fun a Z => wly Z (ac (v := .pointer (some ⟨w2.heap.size, 1, none⟩)) rfl (by kernel_rfl)) fun a Z => wly Z (ae (Y.get (k := 1) rfl) rfl (Tryz.isAgg3 _) rfl) fun a Z => wly Z (v_le rfl rfl) fun a Z => wlv Z (az rfl rfl) fun a Z => ?_
   refine hj _ ?_
   try rw [hb1b]
   exact Z.pick [20, 0, 1, 2, 3, 4, 5, 6, 7, 8]
  rw [hb1] at Z
  have hb1b := hb1
  try simp only [qz, Bool.and_eq_true, Bool.or_eq_true, Bool.and_eq_false_iff, Bool.or_eq_false_iff] at hb1
  refine wln Z fun a Z => wln Z fun a Z => wln Z fun a Z => wln Z fun a Z => wln Z fun a Z => wlv Z (au rfl rfl) fun a Z => ?_
  refine hj _ ?_
  try rw [hb1b]
  exact Z.pick [20, 0, 1, 2, 3, 4, 5, 6, 7, 8]
 intro a Z
 refine wlm Z rfl fun a Z => ?_
 refine cp (N := 35) (df := []) 6 [(27, .bool (((decide (a5 ≤ a1)) && (decide (a2 ≤ a6))) && (decide (a7 ≤ a3)))), (0, .agg #[iv a1, iv a2]), (1, .agg #[iv a3, iv a4]), (2, .agg #[iv a5, iv a6]), (3, .agg #[iv a7, iv a8]), (4, Go.PW.pt w0.heap.size), (5, Go.PW.pt w1.heap.size), (6, Go.PW.pt w2.heap.size), (7, Go.PW.pt w3.heap.size), (8, .bool false)] ?_ (fun hj => ?_)
 rotate_left
 ·rcases Bool.eq_false_or_eq_true ((decide (a5 ≤ a1)) && (decide (a2 ≤ a6))) with hb2 | hb2
  ·rw [hb2] at Z
   have hb2b := hb2
   try simp only [qz, Bool.and_eq_true, Bool.or_eq_true, Bool.and_eq_false_iff, Bool.or_eq_false_iff] at hb2
   refine wly Z (ac (v := Go.PW.pt w1.heap.size) rfl (by kernel_rfl)) fun a Z => wly Z (ae (Y.get (k := 2) rfl) rfl (Tryz.isAgg3 _) rfl) fun a Z => wly Z (ac (v := Go.PW.pt w3.heap.size) rfl (by kernel_rfl)) fun a Z => wly Z (ae (Y.get (k := 0) rfl) rfl (Tryz.isAgg3 _) rfl) fun a Z => wly Z (v_ge rfl rfl) fun a Z => wlv Z (az rfl rfl) fun a Z => ?_
   refine hj _ ?_
   try rw [hb2b]
   exact Z.pick [27, 0, 1, 2, 3, 4, 5, 6, 7, 8]
  rw [hb2] at Z
  have hb2b := hb2
  try simp only [qz, Bool.and_eq_true, Bool.or_eq_true, Bool.and_eq_false_iff, Bool.or_eq_false_iff] at hb2
  refine wln Z fun a Z => wln Z fun a Z => wln Z fun a Z => wln Z fun a Z => wln Z fun a Z => wlv Z (au rfl rfl) fun a Z => ?_
  refine hj _ ?_
  try rw [hb2b]
  exact Z.pick [27, 0, 1, 2, 3, 4, 5, 6, 7, 8]
 intro a Z
 refine wlm Z rfl fun a Z => ?_
 refine cp (N := 35) (df := []) 6 [(34, .bool ((((decide (a5 ≤ a1)) && (decide (a2 ≤ a6))) && (decide (a7 ≤ a3))) && (decide (a4 ≤ a8)))), (0, .agg #[iv a1, iv a2]), (1, .agg #[iv a3, iv a4]), (2, .agg #[iv a5, iv a6]), (3, .agg #[iv a7, iv a8]), (4, Go.PW.pt w0.heap.size), (5, Go.PW.pt w1.heap.size), (6, Go.PW.pt w2.heap.size), (7, Go.PW.pt w3.heap.size), (8, .bool false)] ?_ (fun hj => ?_)
 rotate_left
 ·rcases Bool.eq_false_or_eq_true (((decide (a5 ≤ a1)) && (decide (a2 ≤ a6))) && (decide (a7 ≤ a3))) with hb3 | hb3
  ·rw [hb3] at Z
   have hb3b := hb3
   try simp only [qz, Bool.and_eq_true, Bool.or_eq_true, Bool.and_eq_false_iff, Bool.or_eq_false_iff] at hb3
   refine wly Z (ac (v := .pointer (some ⟨w1.heap.size, 1, none⟩)) rfl (by kernel_rfl)) fun a Z => wly Z (ae (Y.get (k := 2) rfl) rfl (Tryz.isAgg3 _) rfl) fun a Z => wly Z (ac (v := .pointer (some ⟨w3.heap.size, 1, none⟩)) rfl (by kernel_rfl)) fun a Z => wly Z (ae (Y.get (k := 0) rfl) rfl (Tryz.isAgg3 _) rfl) fun a Z => wly Z (v_le rfl rfl) fun a Z => wlv Z (az rfl rfl) fun a Z => ?_
   refine hj _ ?_
   try rw [hb3b]
   exact Z.pick [34, 0, 1, 2, 3, 4, 5, 6, 7, 8]
  rw [hb3] at Z
  have hb3b := hb3
  try simp only [qz, Bool.and_eq_true, Bool.or_eq_true, Bool.and_eq_false_iff, Bool.or_eq_false_iff] at hb3
  refine wln Z fun a Z => wln Z fun a Z => wln Z fun a Z => wln Z fun a Z => wln Z fun a Z => wlv Z (au rfl rfl) fun a Z => ?_
  refine hj _ ?_
  try rw [hb3b]
  exact Z.pick [34, 0, 1, 2, 3, 4, 5, 6, 7, 8]
 intro a Z
 refine wla Z rfl fun a Z => ab (hK2 _ _ ?_)
 replace Z : Fr 35 [(8, _)] [] a := Z.pick [8]
 replace Y : St No w0 [] w4 := Y.mask [false, false, false, false]
 refine aw ?_
 refine ao Z Tryz.results70 (ah rfl ag) ?_
 exact ⟨by rfl, Y.ext⟩
theorem lu (x : Wsh) (lv : Value) (ps : List Pxy) (w0 : World) (hlv : SlAt w0 lv 7 (ps.map Pxy.cells)) :
  Ret Tryz.prog 20 #[.agg #[iv x.signer, iv x.holder, iv x.rf, iv x.rt, iv x.carrier, iv x.serial, iv x.sf, iv x.st, sv x.sig], lv] w0 fun v w => v = .bool (bI x ps) ∧ Ext No w0 w := by
 have hxb := hlv.2.1
 simp only [List.length_map, big] at hxb
 refine aF Tryz.func20 rfl Tryz.ntmps20 (lb rfl) fun a Z => ?_
 replace Z : Fr 26 [(0, _), (1, _)] [] a := Z
 replace Y : St No w0 [] w0 := St.init w0
 refine aa fun K1 hK1 => aY Z Y (by decide) rfl (cs := [iv x.signer, iv x.holder, iv x.rf, iv x.rt, iv x.carrier, iv x.serial, iv x.sf, iv x.st, sv x.sig]) rfl ?_
 clear Z Y
 intro a w1 Z Y
 refine wla Z rfl fun a Z => ab (hK1 _ _ ?_)
 refine ai fun K2 hK2 => aa fun K3 hK3 => wlv Z (ar (Y.get (k := 0) rfl) rfl (Tryz.isAgg30 _) (Tryz.sizeOf30 _)) fun a Z => aA Z Y (by decide) Tryz.call68 rfl (fh x _) ?_
 clear Z Y
 intro a w2 Z Y
 refine wlv Z (bS rfl) fun a Z => wlm Z rfl fun a Z => ?_
 rcases Bool.eq_false_or_eq_true (!x.ok) with hb1 | hb1
 ·rw [hb1] at Z
  try simp only [qz] at hb1
  refine wln Z fun a Z => wln Z fun a Z => wln Z fun a Z => wlv Z (az rfl rfl) fun a Z => ab (hK3 _ _ ?_)
  replace Z : Fr 26 [(1, _), (4, _), (13, _)] [] a := Z.pick [1, 4, 13]
  replace Y : St No w0 [] w2 := Y.mask [false]
  refine aL Z rfl ?_
  refine aa fun K4 hK4 => wla Z rfl fun a Z => ab (hK4 _ _ ?_)
  refine aw ?_
  refine ao Z Tryz.results20 (ah rfl ag) ?_
  refine ⟨?_, Y.ext⟩
  simp only [retv]
  unfold bI
  first | (rw [hbi, fV hkx (by simpa using hb1)]; simp; done) | (rw [decide_eq_false (by omega : ¬ ps.length ≤ 4)]; simp; done) | (rw [(by simpa using hb1 : x.ok = false)]; rfl)
 rw [hb1] at Z
 try simp only [qz] at hb1
 refine wly Z (al rfl) fun a Z => wly Z ((aN (sT := 31) (Y.arg hlv) rfl rfl (Tryz.runUnderlying31 _)).asi (m' := (ps.length : Int)) (by rw [List.length_map])) fun a Z => wly Z (v_gt rfl rfl) fun a Z => wlv Z (au rfl rfl) fun a Z => ab (hK3 _ _ ?_)
 replace Z : Fr 26 [(1, _), (4, _), (13, _)] [] a := Z.pick [1, 4, 13]
 replace Y : St No w0 [] w2 := Y.mask [false]
 refine ay Z rfl (fun hc2 => ?_) (fun hc2 => ?_)
 ·rw [hc2] at Z
  try simp only [qz] at hc2
  refine aa fun K5 hK5 => wla Z rfl fun a Z => ab (hK5 _ _ ?_)
  refine aw ?_
  refine ao Z Tryz.results20 (ah rfl ag) ?_
  refine ⟨?_, Y.ext⟩
  simp only [retv]
  unfold bI
  first | (rw [hbi, fV hkx (by simpa using hc2)]; simp; done) | (rw [decide_eq_false (by omega : ¬ ps.length ≤ 4)]; simp; done) | (rw [(by simpa using hc2 : x.ok = false)]; rfl)
 rw [hc2] at Z
 try simp only [qz] at hc2
 refine ax ?_
 refine hK2 _ _ ?_
 refine ai fun K6 hK6 => ?_
 have hxo : x.ok = true := by simpa using hb1
 refine aa fun K7 hK7 => wla Z rfl fun a Z => ab (hK7 _ _ ?_)
 refine aq <| aW (fun m a w => ∃ (k : Nat), m = ps.length - k ∧ (k ≤ ps.length) ∧ (badIdx ps 0 = badIdx (ps.drop k) k) ∧ Fr 26 [(1, lv), (5, iv (k : Int))] [] a ∧ St No w0 [] w) _ ⟨0, rfl, Nat.zero_le _, rfl, Z.pick [1, 5], Y.select [] (by decide)⟩ ?_
 rintro _ a w3 ⟨k, rfl, hk, hbi, Z, Y⟩
 refine ai fun K8 hK8 => aa fun K9 hK9 => wlm Z rfl fun a Z => wlm Z rfl fun a Z => wlv Z ((aN (sT := 31) (Y.arg hlv) rfl rfl (Tryz.runUnderlying31 _)).asi (m' := (ps.length : Int)) (by rw [List.length_map])) fun a Z => wlv Z (v_lt rfl rfl) fun a Z => ab (hK9 _ _ ?_)
 refine ay Z rfl (fun hc3 => ?_) (fun hc3 => ?_)
 ·rw [hc3] at Z
  try simp only [qz] at hc3
  have hkx : k < ps.length := by omega
  refine ax ?_
  refine hK8 _ _ ?_
  refine ai fun K10 hK10 => aq ?_
  refine aa fun K11 hK11 => wlm Z rfl fun a Z => wlm Z rfl fun a Z => wlv Z ((ak (i := (k : Int)) (sT := 31) (Y.arg hlv) rfl rfl (Tryz.runUnderlying31 _) (Tryz.sizeOf40 _) (by omega) (by rw [List.length_map]; omega)).as (v' := slAddr lv (k * 7)) rfl) fun a Z => wlv Z ((bO (Y.arg hlv) (i := k) (by rw [List.length_map]; omega) rfl (Tryz.isAgg40 _) (Tryz.sizeOf40 _)).as (v' := .agg #[iv ((ps.getD k Pxy.z).frm), iv ((ps.getD k Pxy.z).to), iv ((ps.getD k Pxy.z).rf), iv ((ps.getD k Pxy.z).rt), iv ((ps.getD k Pxy.z).sf), iv ((ps.getD k Pxy.z).st), sv ((ps.getD k Pxy.z).sig)]) (by rw [bp Pxy.z]; rfl)) fun a Z => aA Z Y (by decide) Tryz.call69 rfl (eq (ps.getD k Pxy.z) _) ?_
  clear Z Y
  intro a w4 Z Y
  refine wlv Z (bS rfl) fun a Z => ab (hK11 _ _ ?_)
  replace Z : Fr 26 [(1, _), (5, _), (25, _)] [] a := Z.pick [1, 5, 25]
  refine ay Z rfl (fun hc4 => ?_) (fun hc4 => ?_)
  ·rw [hc4] at Z
   try simp only [qz] at hc4
   refine aa fun K12 hK12 => wla Z rfl fun a Z => ab (hK12 _ _ ?_)
   refine aw ?_
   refine ao Z Tryz.results20 (ah rfl ag) ?_
   refine ⟨?_, Y.ext⟩
   simp only [retv]
   unfold bI
   first | (rw [hbi, fV hkx (by simpa using hc4)]; simp; done) | (rw [decide_eq_false (by omega : ¬ ps.length ≤ 4)]; simp; done) | (rw [(by simpa using hc4 : x.ok = false)]; rfl)
  rw [hc4] at Z
  try simp only [qz] at hc4
  refine ax ?_
  refine hK10 _ _ ?_
  refine am <| wlm Z rfl fun a Z => wlv Z (aT rfl rfl ⟨by omega, by omega⟩) fun a Z => wla Z rfl fun a Z => ab ?_
  refine ⟨_, ?_, k + 1, rfl, (by omega), (by rw [hbi]; exact ki hkx (by simpa using hc4)), Z.pick [1, 5], Y.select [] (by decide)⟩
  omega
 rw [hc3] at Z
 try simp only [qz] at hc3
 have hke : k = ps.length := by omega
 rw [hke, List.drop_length] at hbi
 refine aP ?_
 refine hK6 _ _ ?_
 refine aa fun K13 hK13 => wla Z rfl fun a Z => ab (hK13 _ _ ?_)
 replace Z : Fr 26 [(4, _)] [] a := Z.pick [4]
 refine aw ?_
 refine ao Z Tryz.results20 (ah rfl ag) ?_
 exact ⟨by simp only [retv]; unfold bI; rw [hbi, badIdx, hxo, decide_eq_true (by omega : ps.length ≤ 4)]; rfl, Y.ext⟩
set_option maxHeartbeats 4000000 in
theorem lP (kv lv : Value) (ks : List By) (x : Wsh) (ps : List Pxy) (number t : Int) (w0 : World) (hkv : SlAt w0 kv 1 (ks.map fun s => [sv s])) (hlv : SlAt w0 lv 7 (ps.map Pxy.cells)) :
  Ret Tryz.prog 16 #[kv, .agg #[iv x.signer, iv x.holder, iv x.rf, iv x.rt, iv x.carrier, iv x.serial, iv x.sf, iv x.st, sv x.sig], lv, iv number, iv t] w0 fun v w => v = .tuple #[iv (whyH ks x ps number t).1, iv (whyH ks x ps number t).2] ∧ Ext No w0 w := by
 have hxb := hlv.2.1
 simp only [List.length_map, big] at hxb
 have hyb := hkv.2.1
 simp only [List.length_map, big] at hyb
 refine aF Tryz.func16 rfl Tryz.ntmps16 (lb rfl) fun a Z => ?_
 replace Z : Fr 216 [(0, _), (1, _), (2, _), (3, _), (4, _)] [] a := Z
 replace Y : St No w0 [] w0 := St.init w0
 refine aa fun K1 hK1 => aY Z Y (by decide) rfl (cs := [iv x.signer, iv x.holder, iv x.rf, iv x.rt, iv x.carrier, iv x.serial, iv x.sf, iv x.st, sv x.sig]) rfl ?_
 clear Z Y
 intro a w1 Z Y
 refine wla Z rfl fun a Z => wla Z rfl fun a Z => ab (hK1 _ _ ?_)
 refine ai fun K2 hK2 => aa fun K3 hK3 => wlm Z rfl fun a Z => wlv Z ((aN (sT := 32) (Y.arg hkv) rfl rfl (Tryz.runUnderlying32 _)).asi (m' := (ks.length : Int)) (by rw [List.length_map])) fun a Z => wlv Z (v_gt rfl rfl) fun a Z => wlm Z rfl fun a Z => ?_
 rcases Bool.eq_false_or_eq_true (decide (64 < (ks.length : Int))) with hb1 | hb1
 ·rw [hb1] at Z
  try simp only [qz] at hb1
  refine wln Z fun a Z => wln Z fun a Z => wln Z fun a Z => wlv Z (az rfl rfl) fun a Z => wlm Z rfl fun a Z => wln Z fun a Z => wln Z fun a Z => wln Z fun a Z => ?_
  refine wlv Z (az rfl rfl) fun a Z => ab (hK3 _ _ ?_)
  replace Z : Fr 216 [(0, _), (2, _), (3, _), (4, _), (6, _), (10, _), (11, _), (30, _)] [] a := Z.pick [0, 2, 3, 4, 6, 10, 11, 30]
  refine aL Z rfl ?_
  refine aa fun K4 hK4 => wla Z rfl fun a Z => wla Z rfl fun a Z => ab (hK4 _ _ ?_)
  refine aw ?_
  refine ao Z Tryz.results16 (ah rfl (ah rfl ag)) ?_
  exact ⟨by rw [cQ (by unfold formB; first | exact .inl (by omega) | exact .inr (.inr (.inr (by omega))) | exact .inr (.inr (.inl (by simpa using hb1))) | exact .inr (.inl (eP hkx (by omega))))]; rfl, Y.ext⟩
 rw [hb1] at Z
 try simp only [qz] at hb1
 refine wly Z (ar (Y.get (k := 0) rfl) rfl (Tryz.isAgg30 _) (Tryz.sizeOf30 _)) fun a Z => aJ Z Y (by decide) rfl (by decide) rfl Tryz.call68 rfl (fh x _) ?_
 clear Z Y
 intro a w2 Z Y
 refine wly Z (bS rfl) fun a Z => wlv Z (au rfl rfl) fun a Z => wlm Z rfl fun a Z => ?_
 rcases Bool.eq_false_or_eq_true (!x.ok) with hb2 | hb2
 ·rw [hb2] at Z
  try simp only [qz] at hb2
  refine wln Z fun a Z => wln Z fun a Z => wln Z fun a Z => wlv Z (az rfl rfl) fun a Z => ab (hK3 _ _ ?_)
  replace Z : Fr 216 [(0, _), (2, _), (3, _), (4, _), (6, _), (10, _), (11, _), (30, _)] [] a := Z.pick [0, 2, 3, 4, 6, 10, 11, 30]
  refine aL Z rfl ?_
  refine aa fun K5 hK5 => wla Z rfl fun a Z => wla Z rfl fun a Z => ab (hK5 _ _ ?_)
  refine aw ?_
  refine ao Z Tryz.results16 (ah rfl (ah rfl ag)) ?_
  exact ⟨by rw [cQ (by unfold formB; first | exact .inl (by omega) | exact .inr (.inr (.inr (by omega))) | exact .inr (.inr (.inl (by simpa using hb2))) | exact .inr (.inl (eP hkx (by omega))))]; rfl, Y.ext⟩
 rw [hb2] at Z
 try simp only [qz] at hb2
 refine wly Z (al rfl) fun a Z => wly Z ((aN (sT := 31) (Y.arg hlv) rfl rfl (Tryz.runUnderlying31 _)).asi (m' := (ps.length : Int)) (by rw [List.length_map])) fun a Z => wly Z (v_gt rfl rfl) fun a Z => wlv Z (au rfl rfl) fun a Z => ab (hK3 _ _ ?_)
 replace Z : Fr 216 [(0, _), (2, _), (3, _), (4, _), (6, _), (10, _), (11, _), (30, _)] [] a := Z.pick [0, 2, 3, 4, 6, 10, 11, 30]
 refine ay Z rfl (fun hc3 => ?_) (fun hc3 => ?_)
 ·rw [hc3] at Z
  try simp only [qz] at hc3
  refine aa fun K6 hK6 => wla Z rfl fun a Z => wla Z rfl fun a Z => ab (hK6 _ _ ?_)
  refine aw ?_
  refine ao Z Tryz.results16 (ah rfl (ah rfl ag)) ?_
  exact ⟨by rw [cQ (by unfold formB; first | exact .inl (by omega) | exact .inr (.inr (.inr (by omega))) | exact .inr (.inr (.inl (by simpa using hc3))) | exact .inr (.inl (eP hkx (by omega))))]; rfl, Y.ext⟩
 rw [hc3] at Z
 try simp only [qz] at hc3
 refine ax ?_
 refine hK2 _ _ ?_
 refine ai fun K7 hK7 => aa fun K8 hK8 => wla Z rfl fun a Z => ab (hK8 _ _ ?_)
 refine aq <| aW (fun m a w => ∃ (k : Nat), m = ks.length - k ∧ (k ≤ ks.length) ∧ (∀ j, j < k → (ks.getD j []).length = 32) ∧ Fr 216 [(0, kv), (2, lv), (3, iv number), (4, iv t), (6, Go.PW.pt w0.heap.size), (12, iv (k : Int))] [] a ∧ St No w0 [blk w0.heap.size [iv x.signer, iv x.holder, iv x.rf, iv x.rt, iv x.carrier, iv x.serial, iv x.sf, iv x.st, sv x.sig] 30] w) _ ⟨0, rfl, Nat.zero_le _, (fun j h => absurd h (Nat.not_lt_zero _)), Z.pick [0, 2, 3, 4, 6, 12], Y.select [0] (by decide)⟩ ?_
 rintro _ a w3 ⟨k, rfl, hk, hks, Z, Y⟩
 refine ai fun K9 hK9 => aa fun K10 hK10 => wlm Z rfl fun a Z => wlm Z rfl fun a Z => wlv Z ((aN (sT := 32) (Y.arg hkv) rfl rfl (Tryz.runUnderlying32 _)).asi (m' := (ks.length : Int)) (by rw [List.length_map])) fun a Z => wlv Z (v_lt rfl rfl) fun a Z => ab (hK10 _ _ ?_)
 refine ay Z rfl (fun hc4 => ?_) (fun hc4 => ?_)
 ·rw [hc4] at Z
  try simp only [qz] at hc4
  have hkx : k < ks.length := by omega
  refine ax ?_
  refine hK9 _ _ ?_
  refine ai fun K11 hK11 => aq ?_
  refine aa fun K12 hK12 => wlm Z rfl fun a Z => wlm Z rfl fun a Z => wlv Z ((ak (i := (k : Int)) (sT := 32) (Y.arg hkv) rfl rfl (Tryz.runUnderlying32 _) (Tryz.sizeOf9 _) (by omega) (by rw [List.length_map]; omega)).as (v' := slAddr kv (k * 1)) rfl) fun a Z => wlv Z (aC (u := sv (ks.getD k [])) (i := k) (j := 0) (Y.arg hkv) (by rw [List.length_map]; omega) rfl (Tryz.isAgg9 _) (by rw [bp ([] : By)]; rfl)) fun a Z => wlv Z (bD rfl rfl (Tryz.runUnderlying9 _)) fun a Z => wlv Z (v_ne rfl rfl) fun a Z => ab (hK12 _ _ ?_)
  replace Z : Fr 216 [(0, _), (2, _), (3, _), (4, _), (6, _), (12, _), (42, _)] [] a := Z.pick [0, 2, 3, 4, 6, 12, 42]
  refine ay Z rfl (fun hc5 => ?_) (fun hc5 => ?_)
  ·rw [hc5] at Z
   try simp only [qz] at hc5
   refine aa fun K13 hK13 => wla Z rfl fun a Z => wla Z rfl fun a Z => ab (hK13 _ _ ?_)
   refine aw ?_
   refine ao Z Tryz.results16 (ah rfl (ah rfl ag)) ?_
   exact ⟨by rw [cQ (by unfold formB; first | exact .inl (by omega) | exact .inr (.inr (.inr (by omega))) | exact .inr (.inr (.inl (by simpa using hc5))) | exact .inr (.inl (eP hkx (by omega))))]; rfl, Y.ext⟩
  rw [hc5] at Z
  try simp only [qz] at hc5
  refine ax ?_
  refine hK11 _ _ ?_
  refine am <| wlm Z rfl fun a Z => wlv Z (aT rfl rfl ⟨by omega, by omega⟩) fun a Z => wla Z rfl fun a Z => ab ?_
  refine ⟨_, ?_, k + 1, rfl, (by omega), (fun j h => by rcases Nat.lt_succ_iff_lt_or_eq.1 h with h | rfl; exact hks j h; omega), Z.pick [0, 2, 3, 4, 6, 12], Y.select [0] (by decide)⟩
  omega
 rw [hc4] at Z
 try simp only [qz] at hc4
 have hkall := nz (ks := ks) fun j hj => hks j (by omega)
 refine aP ?_
 refine hK7 _ _ ?_
 refine ai fun K14 hK14 => ?_
 have hxo : x.ok = true := by simpa using hb2
 have hnf : ¬ formB ks x ps := by
  rintro (h | h | h | h)
  ·omega
  ·rw [hkall] at h; cases h
  ·rw [hxo] at h; cases h
  ·omega
 have hk32 := lH hnf
 have hxd := Wsh.ok_bnd hxo
 have hxg := Wsh.ok_signer hxo
 refine aa fun K15 hK15 => wla Z rfl fun a Z => ab (hK15 _ _ ?_)
 refine aq <| aW (fun m a w => ∃ (k : Nat), m = ps.length - k ∧ (k ≤ ps.length) ∧ (badIdx ps 0 = badIdx (ps.drop k) k) ∧ Fr 216 [(0, kv), (2, lv), (3, iv number), (4, iv t), (6, Go.PW.pt w0.heap.size), (13, iv (k : Int))] [] a ∧ St No w0 [blk w0.heap.size [iv x.signer, iv x.holder, iv x.rf, iv x.rt, iv x.carrier, iv x.serial, iv x.sf, iv x.st, sv x.sig] 30] w) _ ⟨0, rfl, Nat.zero_le _, rfl, Z.pick [0, 2, 3, 4, 6, 13], Y.select [0] (by decide)⟩ ?_
 rintro _ a w4 ⟨k, rfl, hk, hbi, Z, Y⟩
 refine ai fun K16 hK16 => aa fun K17 hK17 => wlm Z rfl fun a Z => wlm Z rfl fun a Z => wlv Z ((aN (sT := 31) (Y.arg hlv) rfl rfl (Tryz.runUnderlying31 _)).asi (m' := (ps.length : Int)) (by rw [List.length_map])) fun a Z => wlv Z (v_lt rfl rfl) fun a Z => ab (hK17 _ _ ?_)
 refine ay Z rfl (fun hc6 => ?_) (fun hc6 => ?_)
 ·rw [hc6] at Z
  try simp only [qz] at hc6
  have hkx : k < ps.length := by omega
  refine ax ?_
  refine hK16 _ _ ?_
  refine ai fun K18 hK18 => aq ?_
  refine aa fun K19 hK19 => wlm Z rfl fun a Z => wlm Z rfl fun a Z => wlv Z ((ak (i := (k : Int)) (sT := 31) (Y.arg hlv) rfl rfl (Tryz.runUnderlying31 _) (Tryz.sizeOf40 _) (by omega) (by rw [List.length_map]; omega)).as (v' := slAddr lv (k * 7)) rfl) fun a Z => wlv Z ((bO (Y.arg hlv) (i := k) (by rw [List.length_map]; omega) rfl (Tryz.isAgg40 _) (Tryz.sizeOf40 _)).as (v' := .agg #[iv ((ps.getD k Pxy.z).frm), iv ((ps.getD k Pxy.z).to), iv ((ps.getD k Pxy.z).rf), iv ((ps.getD k Pxy.z).rt), iv ((ps.getD k Pxy.z).sf), iv ((ps.getD k Pxy.z).st), sv ((ps.getD k Pxy.z).sig)]) (by rw [bp Pxy.z]; rfl)) fun a Z => aA Z Y (by decide) Tryz.call69 rfl (eq (ps.getD k Pxy.z) _) ?_
  clear Z Y
  intro a w5 Z Y
  refine wlv Z (bS rfl) fun a Z => ab (hK19 _ _ ?_)
  replace Z : Fr 216 [(0, _), (2, _), (3, _), (4, _), (6, _), (13, _), (54, _)] [] a := Z.pick [0, 2, 3, 4, 6, 13, 54]
  refine ay Z rfl (fun hc7 => ?_) (fun hc7 => ?_)
  ·rw [hc7] at Z
   try simp only [qz] at hc7
   refine aa fun K20 hK20 => wlm Z rfl fun a Z => wla Z rfl fun a Z => wla Z rfl fun a Z => ab (hK20 _ _ ?_)
   refine aw ?_
   refine ao Z Tryz.results16 (ah rfl (ah rfl ag)) ?_
   exact ⟨by rw [np hnf (by rw [hbi]; exact fV hkx (by simpa using hc7))]; rfl, Y.ext⟩
  rw [hc7] at Z
  try simp only [qz] at hc7
  refine ax ?_
  refine hK18 _ _ ?_
  refine am <| wlm Z rfl fun a Z => wlv Z (aT rfl rfl ⟨by omega, by omega⟩) fun a Z => wla Z rfl fun a Z => ab ?_
  refine ⟨_, ?_, k + 1, rfl, (by omega), (by rw [hbi]; exact ki hkx (by simpa using hc7)), Z.pick [0, 2, 3, 4, 6, 13], Y.select [0] (by decide)⟩
  omega
 rw [hc6] at Z
 try simp only [qz] at hc6
 have hke : k = ps.length := by omega
 have hbn : badIdx ps 0 = none := by rw [hbi, hke, List.drop_length]; rfl
 refine aP ?_
 refine hK14 _ _ ?_
 refine ai fun K21 hK21 => aa fun K22 hK22 => wlm Z rfl fun a Z => wlv Z (ac (v := .pointer (some ⟨w0.heap.size, 6, none⟩)) rfl (by kernel_rfl)) fun a Z => wlv Z (ac (v := .pointer (some ⟨w0.heap.size, 6, none⟩)) rfl (by kernel_rfl)) fun a Z => wlv Z (ae (Y.get (k := 0) rfl) rfl (Tryz.isAgg3 _) rfl) fun a Z => wlv Z (v_lt rfl rfl) fun a Z => wlm Z rfl fun a Z => ?_
 rcases Bool.eq_false_or_eq_true (decide (t < x.sf)) with hb8 | hb8
 ·rw [hb8] at Z
  try simp only [qz] at hb8
  refine wln Z fun a Z => wln Z fun a Z => wln Z fun a Z => wln Z fun a Z => wln Z fun a Z => wlv Z (az rfl rfl) fun a Z => ab (hK22 _ _ ?_)
  replace Z : Fr 216 [(0, _), (2, _), (3, _), (6, _), (67, _)] [] a := Z.pick [0, 2, 3, 6, 67]
  refine aL Z rfl ?_
  refine aa fun K23 hK23 => wla Z rfl fun a Z => wla Z rfl fun a Z => ab (hK23 _ _ ?_)
  refine aw ?_
  refine ao Z Tryz.results16 (ah rfl (ah rfl ag)) ?_
  exact ⟨by rw [eb hnf hbn (l6 (by omega))]; rfl, Y.ext⟩
 rw [hb8] at Z
 try simp only [qz] at hb8
 refine wly Z (al rfl) fun a Z => wly Z (ac (v := .pointer (some ⟨w0.heap.size, 6, none⟩)) rfl (by kernel_rfl)) fun a Z => wly Z (ac (v := .pointer (some ⟨w0.heap.size, 7, none⟩)) rfl (by kernel_rfl)) fun a Z => wly Z (ae (Y.get (k := 0) rfl) rfl (Tryz.isAgg3 _) rfl) fun a Z => wly Z (v_ge rfl rfl) fun a Z => wlv Z (au rfl rfl) fun a Z => ab (hK22 _ _ ?_)
 replace Z : Fr 216 [(0, _), (2, _), (3, _), (6, _), (67, _)] [] a := Z.pick [0, 2, 3, 6, 67]
 refine ay Z rfl (fun hc9 => ?_) (fun hc9 => ?_)
 ·rw [hc9] at Z
  try simp only [qz] at hc9
  refine aa fun K24 hK24 => wla Z rfl fun a Z => wla Z rfl fun a Z => ab (hK24 _ _ ?_)
  refine aw ?_
  refine ao Z Tryz.results16 (ah rfl (ah rfl ag)) ?_
  exact ⟨by rw [eb hnf hbn (l6 (by omega))]; rfl, Y.ext⟩
 rw [hc9] at Z
 try simp only [qz] at hc9
 refine ax ?_
 refine hK21 _ _ ?_
 refine ai fun K25 hK25 => aa fun K26 hK26 => wlm Z rfl fun a Z => wlv Z (ac (v := .pointer (some ⟨w0.heap.size, 2, none⟩)) rfl (by kernel_rfl)) fun a Z => wlv Z (ac (v := .pointer (some ⟨w0.heap.size, 2, none⟩)) rfl (by kernel_rfl)) fun a Z => wlv Z (ae (Y.get (k := 0) rfl) rfl (Tryz.isAgg3 _) rfl) fun a Z => wlv Z (v_lt rfl rfl) fun a Z => wlm Z rfl fun a Z => ?_
 rcases Bool.eq_false_or_eq_true (decide (number < x.rf)) with hb10 | hb10
 ·rw [hb10] at Z
  try simp only [qz] at hb10
  refine wln Z fun a Z => wln Z fun a Z => wln Z fun a Z => wln Z fun a Z => wln Z fun a Z => wlv Z (az rfl rfl) fun a Z => ab (hK26 _ _ ?_)
  replace Z : Fr 216 [(0, _), (2, _), (6, _), (79, _)] [] a := Z.pick [0, 2, 6, 79]
  refine aL Z rfl ?_
  refine aa fun K27 hK27 => wla Z rfl fun a Z => wla Z rfl fun a Z => ab (hK27 _ _ ?_)
  refine aw ?_
  refine ao Z Tryz.results16 (ah rfl (ah rfl ag)) ?_
  exact ⟨by rw [fe hnf hbn (lM (by omega) (by omega)) (l6 (by omega))]; rfl, Y.ext⟩
 rw [hb10] at Z
 try simp only [qz] at hb10
 refine wly Z (al rfl) fun a Z => wly Z (ac (v := .pointer (some ⟨w0.heap.size, 2, none⟩)) rfl (by kernel_rfl)) fun a Z => wly Z (ac (v := .pointer (some ⟨w0.heap.size, 3, none⟩)) rfl (by kernel_rfl)) fun a Z => wly Z (ae (Y.get (k := 0) rfl) rfl (Tryz.isAgg3 _) rfl) fun a Z => wly Z (v_ge rfl rfl) fun a Z => wlv Z (au rfl rfl) fun a Z => ab (hK26 _ _ ?_)
 replace Z : Fr 216 [(0, _), (2, _), (6, _), (79, _)] [] a := Z.pick [0, 2, 6, 79]
 refine ay Z rfl (fun hc11 => ?_) (fun hc11 => ?_)
 ·rw [hc11] at Z
  try simp only [qz] at hc11
  refine aa fun K28 hK28 => wla Z rfl fun a Z => wla Z rfl fun a Z => ab (hK28 _ _ ?_)
  refine aw ?_
  refine ao Z Tryz.results16 (ah rfl (ah rfl ag)) ?_
  exact ⟨by rw [fe hnf hbn (lM (by omega) (by omega)) (l6 (by omega))]; rfl, Y.ext⟩
 rw [hc11] at Z
 try simp only [qz] at hc11
 refine ax ?_
 refine hK25 _ _ ?_
 have hwp : whyP ks x ps number t := ⟨hnf, hbn, lM (by omega) (by omega), lM (by omega) (by omega)⟩
 refine aa fun K29 hK29 => wlv Z (ac (v := .pointer (some ⟨w0.heap.size, 1, none⟩)) rfl (by kernel_rfl)) fun a Z => wlv Z (ae (Y.get (k := 0) rfl) rfl (Tryz.isAgg3 _) rfl) fun a Z => wla Z rfl fun a Z => ab (hK29 _ _ ?_)
 refine ai fun K30 hK30 => aa fun K31 hK31 => wla Z rfl fun a Z => ab (hK31 _ _ ?_)
 refine aq <| aW (fun m a w => ∃ (k : Nat) (who : Int), m = ps.length - k ∧ (k ≤ ps.length) ∧ (bt x.signer x.holder ps 0 = bt x.signer who (ps.drop k) k) ∧ Fr 216 [(0, kv), (2, lv), (6, Go.PW.pt w0.heap.size), (14, iv who), (15, iv (k : Int))] [] a ∧ St No w0 [blk w0.heap.size [iv x.signer, iv x.holder, iv x.rf, iv x.rt, iv x.carrier, iv x.serial, iv x.sf, iv x.st, sv x.sig] 30] w) _ ⟨0, x.holder, rfl, Nat.zero_le _, rfl, Z.pick [0, 2, 6, 14, 15], Y.select [0] (by decide)⟩ ?_
 rintro _ a w6 ⟨k, who, rfl, hk, hcb, Z, Y⟩
 refine ai fun K32 hK32 => aa fun K33 hK33 => wlm Z rfl fun a Z => wlm Z rfl fun a Z => wlv Z ((aN (sT := 31) (Y.arg hlv) rfl rfl (Tryz.runUnderlying31 _)).asi (m' := (ps.length : Int)) (by rw [List.length_map])) fun a Z => wlv Z (v_lt rfl rfl) fun a Z => ab (hK33 _ _ ?_)
 refine ay Z rfl (fun hc12 => ?_) (fun hc12 => ?_)
 ·rw [hc12] at Z
  try simp only [qz] at hc12
  have hkx : k < ps.length := by omega
  have hpk := cz hbn _ (bR (d := Pxy.z) hkx)
  have hp0 := Pxy.ok_frm hpk
  refine ax ?_
  refine hK32 _ _ ?_
  refine ai fun K34 hK34 => aq ?_
  refine ai fun K35 hK35 => aa fun K36 hK36 => wlm Z rfl fun a Z => wlm Z rfl fun a Z => wlv Z ((ak (i := (k : Int)) (sT := 31) (Y.arg hlv) rfl rfl (Tryz.runUnderlying31 _) (Tryz.sizeOf40 _) (by omega) (by rw [List.length_map]; omega)).as (v' := slAddr lv (k * 7)) rfl) fun a Z => wlv Z (bj (k := k * 7) (j := 0) (Y.arg hlv) (i := k) (by rw [List.length_map]; omega) rfl (fun _ _ => by kernel_rfl)) fun a Z => wlv Z (aC (u := iv ((ps.getD k Pxy.z).frm)) (i := k) (j := 0) (Y.arg hlv) (by rw [List.length_map]; omega) rfl (Tryz.isAgg3 _) (by rw [bp Pxy.z]; rfl)) fun a Z => wlm Z rfl fun a Z => wlv Z (v_ne rfl rfl) fun a Z => ?_
  refine ab (hK36 _ _ ?_)
  replace Z : Fr 216 [(0, _), (2, _), (6, _), (15, _), (94, _)] [] a := Z.pick [0, 2, 6, 15, 94]
  refine ay Z rfl (fun hc13 => ?_) (fun hc13 => ?_)
  ·rw [hc13] at Z
   try simp only [qz] at hc13
   refine aa fun K37 hK37 => wlm Z rfl fun a Z => wla Z rfl fun a Z => wla Z rfl fun a Z => ab (hK37 _ _ ?_)
   refine aw ?_
   refine ao Z Tryz.results16 (ah rfl (ah rfl ag)) ?_
   exact ⟨by rw [es hwp (by rw [hcb]; exact kV hkx hc13)]; rfl, Y.ext⟩
  rw [hc13] at Z
  try simp only [qz] at hc13
  refine ax ?_
  refine hK35 _ _ ?_
  refine am <| wlm Z rfl fun a Z => wlm Z rfl fun a Z => wlv Z ((ak (i := (k : Int)) (sT := 31) (Y.arg hlv) rfl rfl (Tryz.runUnderlying31 _) (Tryz.sizeOf40 _) (by omega) (by rw [List.length_map]; omega)).as (v' := slAddr lv (k * 7)) rfl) fun a Z => wlv Z (bj (k := k * 7) (j := 1) (Y.arg hlv) (i := k) (by rw [List.length_map]; omega) rfl (fun _ _ => by kernel_rfl)) fun a Z => wlv Z (aC (u := iv ((ps.getD k Pxy.z).to)) (i := k) (j := 1) (Y.arg hlv) (by rw [List.length_map]; omega) rfl (Tryz.isAgg3 _) (by rw [bp Pxy.z]; rfl)) fun a Z => wla Z rfl fun a Z => ab ?_
  refine hK34 _ _ ?_
  replace Z : Fr 216 [(0, _), (2, _), (6, _), (15, _), (14, _)] [] a := Z.pick [0, 2, 6, 15, 14]
  refine am <| wlm Z rfl fun a Z => wlv Z (aT rfl rfl ⟨by omega, by omega⟩) fun a Z => wla Z rfl fun a Z => ab ?_
  refine ⟨_, ?_, k + 1, (ps.getD k Pxy.z).to, rfl, (by omega), (by rw [hcb]; exact kQ hkx hc13), Z.pick [0, 2, 6, 14, 15], Y.select [0] (by decide)⟩
  omega
 rw [hc12] at Z
 try simp only [qz] at hc12
 have hke : k = ps.length := by omega
 rw [hke, List.drop_length] at hcb
 refine aP ?_
 refine hK30 _ _ ?_
 refine ai fun K38 hK38 => aa fun K39 hK39 => wlv Z (ac (v := Go.PW.pt w0.heap.size) rfl (by kernel_rfl)) fun a Z => wlv Z (ae (Y.get (k := 0) rfl) rfl (Tryz.isAgg3 _) rfl) fun a Z => wlm Z rfl fun a Z => wlv Z (v_ne rfl rfl) fun a Z => ab (hK39 _ _ ?_)
 replace Z : Fr 216 [(0, _), (2, _), (6, _), (104, _)] [] a := Z.pick [0, 2, 6, 104]
 refine ay Z rfl (fun hc14 => ?_) (fun hc14 => ?_)
 ·rw [hc14] at Z
  try simp only [qz] at hc14
  refine aa fun K40 hK40 => wla Z rfl fun a Z => wla Z rfl fun a Z => ab (hK40 _ _ ?_)
  refine aw ?_
  refine ao Z Tryz.results16 (ah rfl (ah rfl ag)) ?_
  exact ⟨by rw [es hwp (by rw [hcb, bt, if_neg (by omega)])]; rfl, Y.ext⟩
 rw [hc14] at Z
 try simp only [qz] at hc14
 refine ax ?_
 refine hK38 _ _ ?_
 refine ai fun K41 hK41 => ?_
 have hch : bt x.signer x.holder ps 0 = none := by rw [hcb, bt, if_pos (by omega)]
 refine aa fun K42 hK42 => wla Z rfl fun a Z => ab (hK42 _ _ ?_)
 refine aq <| aW (fun m a w => ∃ (k : Nat), m = ps.length - k ∧ (k ≤ ps.length ∨ k = 1) ∧ (1 ≤ k) ∧ (0 < ps.length → aU x none ps 0 = aU x (prevP ps k) (ps.drop k) k) ∧ Fr 216 [(0, kv), (2, lv), (6, Go.PW.pt w0.heap.size), (16, iv (k : Int))] [] a ∧ St No w0 [blk w0.heap.size [iv x.signer, iv x.holder, iv x.rf, iv x.rt, iv x.carrier, iv x.serial, iv x.sf, iv x.st, sv x.sig] 30] w) _ ⟨1, rfl, (.inr rfl), Nat.le_refl _, j4, Z.pick [0, 2, 6, 16], Y.select [0] (by decide)⟩ ?_
 rintro _ a w7 ⟨k, rfl, hk, hk1, hs, Z, Y⟩
 refine ai fun K43 hK43 => aa fun K44 hK44 => wlm Z rfl fun a Z => wlm Z rfl fun a Z => wlv Z ((aN (sT := 31) (Y.arg hlv) rfl rfl (Tryz.runUnderlying31 _)).asi (m' := (ps.length : Int)) (by rw [List.length_map])) fun a Z => wlv Z (v_lt rfl rfl) fun a Z => ab (hK44 _ _ ?_)
 refine ay Z rfl (fun hc15 => ?_) (fun hc15 => ?_)
 ·rw [hc15] at Z
  try simp only [qz] at hc15
  have hkx : k < ps.length := by omega
  have hpk := cz hbn _ (bR (d := Pxy.z) hkx)
  have hp0 := Pxy.ok_frm hpk
  refine ax ?_
  refine hK43 _ _ ?_
  refine ai fun K45 hK45 => aq ?_
  refine ai fun K46 hK46 => aM (by kernel_rfl) (aO (by kernel_rfl) fun w8 hxz => ?_)
  replace Y := Y.grow hxz
  refine aX (k := 0) 22 [4, 9, 15, 21] Z (by kernel_rfl) (by kernel_rfl) (by kernel_rfl) (by rfl) ?_
  replace Z : Fr 216 [(0, _), (2, _), (6, _), (16, _), (105, _), (106, _), (107, _), (108, _)] [] a := Z.pick [0, 2, 6, 16, 105, 106, 107, 108]
  refine aB [] (fun i => match i with | _ => fun _ _ => False) 22 [[], [], [0, 1], [2], [3], [], [], [5, 6], [7], [8], [], [], [11], [10, 12], [13], [14], [], [], [17], [16, 18], [19], [20]] [lv, iv (k : Int), slAddr lv (k * 7), slAddr lv (k * 7 + 2), .agg #[iv ((ps.getD k Pxy.z).rf), iv ((ps.getD k Pxy.z).rt)], lv, iv (k : Int), slAddr lv (k * 7), slAddr lv (k * 7 + 4), .agg #[iv ((ps.getD k Pxy.z).sf), iv ((ps.getD k Pxy.z).st)], lv, iv (k : Int), iv ((k : Int) - 1), slAddr lv ((k - 1) * 7), slAddr lv ((k - 1) * 7 + 2), .agg #[iv ((ps.getD (k - 1) Pxy.z).rf), iv ((ps.getD (k - 1) Pxy.z).rt)], lv, iv (k : Int), iv ((k : Int) - 1), slAddr lv ((k - 1) * 7), slAddr lv ((k - 1) * 7 + 4), .agg #[iv ((ps.getD (k - 1) Pxy.z).sf), iv ((ps.getD (k - 1) Pxy.z).st)]] Z Y (by kernel_rfl) (by kernel_rfl) (by kernel_rfl) ?_ ?_ ?_
  ·intro i hi hiq
   match i, hi, hiq with
   | 0, _, _ =>
    intro w Y
    exact OpV.g (al rfl)
   | 1, _, _ =>
    intro w Y
    exact OpV.g (al rfl)
   | 2, _, _ =>
    intro w Y
    exact OpV.g ((ak (i := (k : Int)) (sT := 31) (Y.arg hlv) rfl rfl (Tryz.runUnderlying31 _) (Tryz.sizeOf40 _) (by omega) (by rw [List.length_map]; omega)).as (v' := slAddr lv (k * 7)) rfl)
   | 3, _, _ =>
    intro w Y
    exact OpV.g (bj (k := k * 7) (j := 2) (Y.arg hlv) (i := k) (by rw [List.length_map]; omega) rfl (fun _ _ => by kernel_rfl))
   | 4, _, _ =>
    intro w Y
    exact OpV.g (cX (i := k) (j := 2) (ds := [iv ((ps.getD k Pxy.z).rf), iv ((ps.getD k Pxy.z).rt)]) (Y.arg hlv) (by rw [List.length_map]; omega) rfl (Tryz.isAgg27 _) (Tryz.sizeOf27 _) (by rw [bp Pxy.z]; rfl))
   | 5, _, _ =>
    intro w Y
    exact OpV.g (al rfl)
   | 6, _, _ =>
    intro w Y
    exact OpV.g (al rfl)
   | 7, _, _ =>
    intro w Y
    exact OpV.g ((ak (i := (k : Int)) (sT := 31) (Y.arg hlv) rfl rfl (Tryz.runUnderlying31 _) (Tryz.sizeOf40 _) (by omega) (by rw [List.length_map]; omega)).as (v' := slAddr lv (k * 7)) rfl)
   | 8, _, _ =>
    intro w Y
    exact OpV.g (bj (k := k * 7) (j := 4) (Y.arg hlv) (i := k) (by rw [List.length_map]; omega) rfl (fun _ _ => by kernel_rfl))
   | 9, _, _ =>
    intro w Y
    exact OpV.g (cX (i := k) (j := 4) (ds := [iv ((ps.getD k Pxy.z).sf), iv ((ps.getD k Pxy.z).st)]) (Y.arg hlv) (by rw [List.length_map]; omega) rfl (Tryz.isAgg28 _) (Tryz.sizeOf28 _) (by rw [bp Pxy.z]; rfl))
   | 10, _, _ =>
    intro w Y
    exact OpV.g (al rfl)
   | 11, _, _ =>
    intro w Y
    exact OpV.g (al rfl)
   | 12, _, _ =>
    intro w Y
    exact OpV.g (cc rfl rfl ⟨by omega, by omega⟩)
   | 13, _, _ =>
    intro w Y
    exact OpV.g ((ak (i := (k : Int) - 1) (sT := 31) (Y.arg hlv) rfl rfl (Tryz.runUnderlying31 _) (Tryz.sizeOf40 _) (by omega) (by rw [List.length_map]; omega)).as (v' := slAddr lv ((k - 1) * 7)) (by rw [show ((k : Int) - 1).toNat = (k - 1) from by omega]))
   | 14, _, _ =>
    intro w Y
    exact OpV.g (bj (k := (k - 1) * 7) (j := 2) (Y.arg hlv) (i := (k - 1)) (by rw [List.length_map]; omega) rfl (fun _ _ => by kernel_rfl))
   | 15, _, _ =>
    intro w Y
    exact OpV.g (cX (i := (k - 1)) (j := 2) (ds := [iv ((ps.getD (k - 1) Pxy.z).rf), iv ((ps.getD (k - 1) Pxy.z).rt)]) (Y.arg hlv) (by rw [List.length_map]; omega) rfl (Tryz.isAgg27 _) (Tryz.sizeOf27 _) (by rw [bp Pxy.z]; rfl))
   | 16, _, _ =>
    intro w Y
    exact OpV.g (al rfl)
   | 17, _, _ =>
    intro w Y
    exact OpV.g (al rfl)
   | 18, _, _ =>
    intro w Y
    exact OpV.g (cc rfl rfl ⟨by omega, by omega⟩)
   | 19, _, _ =>
    intro w Y
    exact OpV.g ((ak (i := (k : Int) - 1) (sT := 31) (Y.arg hlv) rfl rfl (Tryz.runUnderlying31 _) (Tryz.sizeOf40 _) (by omega) (by rw [List.length_map]; omega)).as (v' := slAddr lv ((k - 1) * 7)) (by rw [show ((k : Int) - 1).toNat = (k - 1) from by omega]))
   | 20, _, _ =>
    intro w Y
    exact OpV.g (bj (k := (k - 1) * 7) (j := 4) (Y.arg hlv) (i := (k - 1)) (by rw [List.length_map]; omega) rfl (fun _ _ => by kernel_rfl))
   | 21, _, _ =>
    intro w Y
    exact OpV.g (cX (i := (k - 1)) (j := 4) (ds := [iv ((ps.getD (k - 1) Pxy.z).sf), iv ((ps.getD (k - 1) Pxy.z).st)]) (Y.arg hlv) (by rw [List.length_map]; omega) rfl (Tryz.isAgg28 _) (Tryz.sizeOf28 _) (by rw [bp Pxy.z]; rfl))
   | i + 22, h, _ => exact absurd h (by omega)
  ·intro i hi
   exact absurd hi (by simp)
  clear Z Y
  intro  a w9 Z Y
  replace Z : Fr 216 [(111, lv), (112, iv (k : Int)), (113, slAddr lv (k * 7)), (114, slAddr lv (k * 7 + 2)), (115, .agg #[iv ((ps.getD k Pxy.z).rf), iv ((ps.getD k Pxy.z).rt)]), (116, lv), (117, iv (k : Int)), (118, slAddr lv (k * 7)), (119, slAddr lv (k * 7 + 4)), (120, .agg #[iv ((ps.getD k Pxy.z).sf), iv ((ps.getD k Pxy.z).st)]), (121, lv), (122, iv (k : Int)), (123, iv ((k : Int) - 1)), (124, slAddr lv ((k - 1) * 7)), (125, slAddr lv ((k - 1) * 7 + 2)), (126, .agg #[iv ((ps.getD (k - 1) Pxy.z).rf), iv ((ps.getD (k - 1) Pxy.z).rt)]), (127, lv), (128, iv (k : Int)), (129, iv ((k : Int) - 1)), (130, slAddr lv ((k - 1) * 7)), (131, slAddr lv ((k - 1) * 7 + 4)), (132, .agg #[iv ((ps.getD (k - 1) Pxy.z).sf), iv ((ps.getD (k - 1) Pxy.z).st)]), (0, _), (2, _), (6, _), (16, _), (105, _), (106, _), (107, _), (108, _)] [] a := Z
  refine ab <| aQ (k := 22) 24 [23] (by kernel_rfl) (by kernel_rfl) (by kernel_rfl) ?_
  refine aA Z Y (by decide) Tryz.call70 rfl (hT ((ps.getD k Pxy.z).rf) ((ps.getD k Pxy.z).rt) ((ps.getD k Pxy.z).sf) ((ps.getD k Pxy.z).st) ((ps.getD (k - 1) Pxy.z).rf) ((ps.getD (k - 1) Pxy.z).rt) ((ps.getD (k - 1) Pxy.z).sf) ((ps.getD (k - 1) Pxy.z).st) _) ?_
  clear Z Y
  intro a w10 Z Y
  refine wlv Z (bS rfl) fun a Z => ab ?_
  refine aZ (by kernel_rfl) ?_
  refine hK46 _ _ ?_
  replace Z : Fr 216 [(0, _), (2, _), (6, _), (16, _), (134, _)] [] a := Z.pick [0, 2, 6, 16, 134]
  refine ay Z rfl (fun hc16 => ?_) (fun hc16 => ?_)
  ·rw [hc16] at Z
   try simp only [qz] at hc16
   refine aa fun K47 hK47 => wlm Z rfl fun a Z => wla Z rfl fun a Z => wla Z rfl fun a Z => ab (hK47 _ _ ?_)
   refine aw ?_
   refine ao Z Tryz.results16 (ah rfl (ah rfl ag)) ?_
   exact ⟨by rw [er hwp hch (by rw [hs (by omega)]; exact iX hkx (by omega) ((nL _ _ _ _ _).trans (by simpa using hc16)))]; rfl, Y.ext⟩
  rw [hc16] at Z
  try simp only [qz] at hc16
  refine ax ?_
  refine hK45 _ _ ?_
  refine am <| wlm Z rfl fun a Z => wlv Z (aT rfl rfl ⟨by omega, by omega⟩) fun a Z => wla Z rfl fun a Z => ab ?_
  refine ⟨_, ?_, k + 1, rfl, (.inl (by omega)), (by omega), (fun h => by rw [hs h]; exact eH hkx (.inr ((nL _ _ _ _ _).trans (by simpa using hc16)))), Z.pick [0, 2, 6, 16], Y.select [0] (by decide)⟩
  omega
 rw [hc15] at Z
 try simp only [qz] at hc15
 have hsc : 0 < ps.length → aU x none ps 0 = if ps.length = 0 ∨ isInH x.rf x.rt x.sf x.st (ps.getD (ps.length - 1) Pxy.z) = true then none else some (-1) := fun h => by rw [hs h, show k = ps.length by omega, io]
 refine aP ?_
 refine hK41 _ _ ?_
 refine ai fun K48 hK48 => ai fun K49 hK49 => ?_
 refine gc (fun a w => ∃ (b : Bool), (aU x none ps 0 = if b = true then some (-1) else none) ∧ Fr 216 [(0, kv), (2, lv), (6, Go.PW.pt w0.heap.size), (160, .bool b)] [] a ∧ St No w0 [blk w0.heap.size [iv x.signer, iv x.holder, iv x.rf, iv x.rt, iv x.carrier, iv x.serial, iv x.sf, iv x.st, sv x.sig] 30] w) ?_ ?_
 ·refine aM (by kernel_rfl) (aO (by kernel_rfl) fun w11 hxz => ?_)
  replace Y := Y.grow hxz
  refine aQ (k := 0) 4 [3] (by kernel_rfl) (by kernel_rfl) (by kernel_rfl) ?_
  refine wlm Z rfl fun a Z => wlv Z ((aN (sT := 31) (Y.arg hlv) rfl rfl (Tryz.runUnderlying31 _)).asi (m' := (ps.length : Int)) (by rw [List.length_map])) fun a Z => wlv Z (v_gt rfl rfl) fun a Z => wlm Z rfl fun a Z => ab ?_
  rcases Bool.eq_false_or_eq_true (decide (0 < (ps.length : Int))) with hb17 | hb17
  ·rw [hb17] at Z
   try simp only [qz] at hb17
   refine aX (k := 4) 22 [5, 7, 14, 21] Z (by kernel_rfl) (by kernel_rfl) (by kernel_rfl) (by rfl) ?_
   replace Z : Fr 216 [(0, _), (2, _), (6, _), (16, _), (105, _), (106, _), (107, _), (108, _), (136, _), (137, _), (138, _), (139, _)] [] a := Z.pick [0, 2, 6, 16, 105, 106, 107, 108, 136, 137, 138, 139]
   refine aB [] (fun i => match i with | _ => fun _ _ => False) 18 [[], [0], [], [2], [], [], [5], [6], [4, 7], [8], [9], [], [], [12], [13], [11, 14], [15], [16]] [.pointer (some ⟨w0.heap.size, 2, none⟩), .agg #[iv x.rf, iv x.rt], .pointer (some ⟨w0.heap.size, 6, none⟩), .agg #[iv x.sf, iv x.st], lv, lv, iv (ps.length : Int), iv ((ps.length : Int) - 1), slAddr lv ((ps.length - 1) * 7), slAddr lv ((ps.length - 1) * 7 + 2), .agg #[iv ((ps.getD (ps.length - 1) Pxy.z).rf), iv ((ps.getD (ps.length - 1) Pxy.z).rt)], lv, lv, iv (ps.length : Int), iv ((ps.length : Int) - 1), slAddr lv ((ps.length - 1) * 7), slAddr lv ((ps.length - 1) * 7 + 4), .agg #[iv ((ps.getD (ps.length - 1) Pxy.z).sf), iv ((ps.getD (ps.length - 1) Pxy.z).st)]] Z Y (by kernel_rfl) (by kernel_rfl) (by kernel_rfl) ?_ ?_ ?_
   ·intro i hi hiq
    match i, hi, hiq with
    | 0, _, _ =>
     intro w Y
     exact OpV.g (ac (v := .pointer (some ⟨w0.heap.size, 2, none⟩)) rfl (by kernel_rfl))
    | 1, _, _ =>
     intro w Y
     exact OpV.g (bT (ds := [iv x.rf, iv x.rt]) (Y.get (k := 0) rfl) rfl (Tryz.isAgg27 _) (Tryz.sizeOf27 _) rfl)
    | 2, _, _ =>
     intro w Y
     exact OpV.g (ac (v := .pointer (some ⟨w0.heap.size, 6, none⟩)) rfl (by kernel_rfl))
    | 3, _, _ =>
     intro w Y
     exact OpV.g (bT (ds := [iv x.sf, iv x.st]) (Y.get (k := 0) rfl) rfl (Tryz.isAgg28 _) (Tryz.sizeOf28 _) rfl)
    | 4, _, _ =>
     intro w Y
     exact OpV.g (al rfl)
    | 5, _, _ =>
     intro w Y
     exact OpV.g (al rfl)
    | 6, _, _ =>
     intro w Y
     exact OpV.g ((aN (sT := 31) (Y.arg hlv) rfl rfl (Tryz.runUnderlying31 _)).asi (m' := (ps.length : Int)) (by rw [List.length_map]))
    | 7, _, _ =>
     intro w Y
     exact OpV.g (cc rfl rfl ⟨by omega, by omega⟩)
    | 8, _, _ =>
     intro w Y
     exact OpV.g ((ak (i := (ps.length : Int) - 1) (sT := 31) (Y.arg hlv) rfl rfl (Tryz.runUnderlying31 _) (Tryz.sizeOf40 _) (by omega) (by rw [List.length_map]; omega)).as (v' := slAddr lv ((ps.length - 1) * 7)) (by rw [show ((ps.length : Int) - 1).toNat = (ps.length - 1) from by omega]))
    | 9, _, _ =>
     intro w Y
     exact OpV.g (bj (k := (ps.length - 1) * 7) (j := 2) (Y.arg hlv) (i := (ps.length - 1)) (by rw [List.length_map]; omega) rfl (fun _ _ => by kernel_rfl))
    | 10, _, _ =>
     intro w Y
     exact OpV.g (cX (i := (ps.length - 1)) (j := 2) (ds := [iv ((ps.getD (ps.length - 1) Pxy.z).rf), iv ((ps.getD (ps.length - 1) Pxy.z).rt)]) (Y.arg hlv) (by rw [List.length_map]; omega) rfl (Tryz.isAgg27 _) (Tryz.sizeOf27 _) (by rw [bp Pxy.z]; rfl))
    | 11, _, _ =>
     intro w Y
     exact OpV.g (al rfl)
    | 12, _, _ =>
     intro w Y
     exact OpV.g (al rfl)
    | 13, _, _ =>
     intro w Y
     exact OpV.g ((aN (sT := 31) (Y.arg hlv) rfl rfl (Tryz.runUnderlying31 _)).asi (m' := (ps.length : Int)) (by rw [List.length_map]))
    | 14, _, _ =>
     intro w Y
     exact OpV.g (cc rfl rfl ⟨by omega, by omega⟩)
    | 15, _, _ =>
     intro w Y
     exact OpV.g ((ak (i := (ps.length : Int) - 1) (sT := 31) (Y.arg hlv) rfl rfl (Tryz.runUnderlying31 _) (Tryz.sizeOf40 _) (by omega) (by rw [List.length_map]; omega)).as (v' := slAddr lv ((ps.length - 1) * 7)) (by rw [show ((ps.length : Int) - 1).toNat = (ps.length - 1) from by omega]))
    | 16, _, _ =>
     intro w Y
     exact OpV.g (bj (k := (ps.length - 1) * 7) (j := 4) (Y.arg hlv) (i := (ps.length - 1)) (by rw [List.length_map]; omega) rfl (fun _ _ => by kernel_rfl))
    | 17, _, _ =>
     intro w Y
     exact OpV.g (cX (i := (ps.length - 1)) (j := 4) (ds := [iv ((ps.getD (ps.length - 1) Pxy.z).sf), iv ((ps.getD (ps.length - 1) Pxy.z).st)]) (Y.arg hlv) (by rw [List.length_map]; omega) rfl (Tryz.isAgg28 _) (Tryz.sizeOf28 _) (by rw [bp Pxy.z]; rfl))
    | i + 18, h, _ => exact absurd h (by omega)
   ·intro i hi
    exact absurd hi (by simp)
   clear Z Y
   intro  a w12 Z Y
   replace Z : Fr 216 [(140, .pointer (some ⟨w0.heap.size, 2, none⟩)), (141, .agg #[iv x.rf, iv x.rt]), (142, .pointer (some ⟨w0.heap.size, 6, none⟩)), (143, .agg #[iv x.sf, iv x.st]), (144, lv), (145, lv), (146, iv (ps.length : Int)), (147, iv ((ps.length : Int) - 1)), (148, slAddr lv ((ps.length - 1) * 7)), (149, slAddr lv ((ps.length - 1) * 7 + 2)), (150, .agg #[iv ((ps.getD (ps.length - 1) Pxy.z).rf), iv ((ps.getD (ps.length - 1) Pxy.z).rt)]), (151, lv), (152, lv), (153, iv (ps.length : Int)), (154, iv ((ps.length : Int) - 1)), (155, slAddr lv ((ps.length - 1) * 7)), (156, slAddr lv ((ps.length - 1) * 7 + 4)), (157, .agg #[iv ((ps.getD (ps.length - 1) Pxy.z).sf), iv ((ps.getD (ps.length - 1) Pxy.z).st)]), (0, _), (2, _), (6, _), (16, _), (105, _), (106, _), (107, _), (108, _), (136, _), (137, _), (138, _), (139, _)] [] a := Z
   refine ab <| aQ (k := 22) 25 [24] (by kernel_rfl) (by kernel_rfl) (by kernel_rfl) ?_
   refine aJ Z Y (by decide) rfl (by decide) rfl Tryz.call70 rfl (hT x.rf x.rt x.sf x.st ((ps.getD (ps.length - 1) Pxy.z).rf) ((ps.getD (ps.length - 1) Pxy.z).rt) ((ps.getD (ps.length - 1) Pxy.z).sf) ((ps.getD (ps.length - 1) Pxy.z).st) _) ?_
   clear Z Y
   intro a w13 Z Y
   refine wly Z (bS rfl) fun a Z => wlv Z (az rfl rfl) fun a Z => ab ?_
   refine aZ (by kernel_rfl) ?_
   exact ⟨!(wiB x.rf x.rt x.sf x.st ((ps.getD (ps.length - 1) Pxy.z).rf) ((ps.getD (ps.length - 1) Pxy.z).rt) ((ps.getD (ps.length - 1) Pxy.z).sf) ((ps.getD (ps.length - 1) Pxy.z).st)), (oT (by omega) (hsc (by omega))), Z.pick [0, 2, 6, 160], Y.select [0] (by decide)⟩
  rw [hb17] at Z
  try simp only [qz] at hb17
  replace Z : Fr 216 [(0, kv), (2, lv), (6, Go.PW.pt w0.heap.size), (16, iv (k : Int)), (105, iv (k : Int)), (106, lv), (107, iv (ps.length : Int)), (108, .bool false), (136, lv), (137, iv (ps.length : Int)), (138, .bool false), (139, .bool false)] [] a := Z.pick [0, 2, 6, 16, 105, 106, 107, 108, 136, 137, 138, 139]
  refine dL (k := 4) 22 [5, 7, 14, 21] Z (by kernel_rfl) (by kernel_rfl) (by kernel_rfl) (by rfl) fun a Z => ?_
  replace Z : Fr 216 [(140, undef), (141, undef), (142, undef), (143, undef), (144, undef), (145, undef), (146, undef), (147, undef), (148, undef), (149, undef), (150, undef), (151, undef), (152, undef), (153, undef), (154, undef), (155, undef), (156, undef), (157, undef), (0, kv), (2, lv), (6, Go.PW.pt w0.heap.size), (16, iv (k : Int)), (105, iv (k : Int)), (106, lv), (107, iv (ps.length : Int)), (108, .bool false), (136, lv), (137, iv (ps.length : Int)), (138, .bool false), (139, .bool false)] [] a := Z
  refine aQ (k := 22) 25 [24] (by kernel_rfl) (by kernel_rfl) (by kernel_rfl) ?_
  refine wln Z fun a Z => wln Z fun a Z => wlv Z (au rfl rfl) fun a Z => ab ?_
  refine aZ (by kernel_rfl) ?_
  exact ⟨false, (by simpa using ml (ps := ps) (x := x) (by omega)), Z.pick [0, 2, 6, 160], Y.select [0] (by decide)⟩
 rintro a w14 ⟨b, hbs, Z, Y⟩
 refine hK49 _ _ ?_
 refine ay Z rfl (fun hc18 => ?_) (fun hc18 => ?_)
 ·rw [hc18] at Z
  try simp only [qz] at hc18
  refine aa fun K50 hK50 => wla Z rfl fun a Z => wla Z rfl fun a Z => ab (hK50 _ _ ?_)
  refine aw ?_
  refine ao Z Tryz.results16 (ah rfl (ah rfl ag)) ?_
  exact ⟨by rw [er hwp hch (by rw [hbs, if_pos (by simpa using hc18)])]; rfl, Y.ext⟩
 rw [hc18] at Z
 try simp only [qz] at hc18
 refine ax ?_
 refine hK48 _ _ ?_
 refine ai fun K51 hK51 => ?_
 have hscn : aU x none ps 0 = none := by rw [hbs, if_neg (by simpa using hc18)]
 refine aa fun K52 hK52 => wla Z rfl fun a Z => ab (hK52 _ _ ?_)
 refine aq <| aW (fun m a w => ∃ (k : Nat), m = ps.length - k ∧ (k ≤ ps.length) ∧ (bG ks x ps 0 = bG ks x (ps.drop k) k) ∧ Fr 216 [(0, kv), (2, lv), (6, Go.PW.pt w0.heap.size), (17, iv (k : Int))] [] a ∧ St No w0 [blk w0.heap.size [iv x.signer, iv x.holder, iv x.rf, iv x.rt, iv x.carrier, iv x.serial, iv x.sf, iv x.st, sv x.sig] 30] w) _ ⟨0, rfl, Nat.zero_le _, rfl, Z.pick [0, 2, 6, 17], Y.select [0] (by decide)⟩ ?_
 rintro _ a w15 ⟨k, rfl, hk, hsb, Z, Y⟩
 refine ai fun K53 hK53 => aa fun K54 hK54 => wlm Z rfl fun a Z => wlm Z rfl fun a Z => wlv Z ((aN (sT := 31) (Y.arg hlv) rfl rfl (Tryz.runUnderlying31 _)).asi (m' := (ps.length : Int)) (by rw [List.length_map])) fun a Z => wlv Z (v_lt rfl rfl) fun a Z => ab (hK54 _ _ ?_)
 refine ay Z rfl (fun hc19 => ?_) (fun hc19 => ?_)
 ·rw [hc19] at Z
  try simp only [qz] at hc19
  have hkx : k < ps.length := by omega
  have hpk := cz hbn _ (bR (d := Pxy.z) hkx)
  have hp0 := Pxy.ok_frm hpk
  refine ax ?_
  refine hK53 _ _ ?_
  refine ai fun K55 hK55 => aq ?_
  refine ai fun K56 hK56 => aM (by kernel_rfl) (aO (by kernel_rfl) fun w16 hxz => ?_)
  replace Y := Y.grow hxz
  refine aX (k := 0) 7 [4, 6] Z (by kernel_rfl) (by kernel_rfl) (by kernel_rfl) (by rfl) ?_
  replace Z : Fr 216 [(0, _), (2, _), (6, _), (17, _), (161, _), (162, _), (163, _), (164, _)] [] a := Z.pick [0, 2, 6, 17, 161, 162, 163, 164]
  refine aB [] (fun i => match i with | _ => fun _ _ => False) 7 [[], [], [0, 1], [2], [3], [], [5]] [lv, iv (k : Int), slAddr lv (k * 7), slAddr lv (k * 7 + 0), iv ((ps.getD k Pxy.z).frm), kv, iv (ks.length : Int)] Z Y (by kernel_rfl) (by kernel_rfl) (by kernel_rfl) ?_ ?_ ?_
  ·intro i hi hiq
   match i, hi, hiq with
   | 0, _, _ =>
    intro w Y
    exact OpV.g (al rfl)
   | 1, _, _ =>
    intro w Y
    exact OpV.g (al rfl)
   | 2, _, _ =>
    intro w Y
    exact OpV.g ((ak (i := (k : Int)) (sT := 31) (Y.arg hlv) rfl rfl (Tryz.runUnderlying31 _) (Tryz.sizeOf40 _) (by omega) (by rw [List.length_map]; omega)).as (v' := slAddr lv (k * 7)) rfl)
   | 3, _, _ =>
    intro w Y
    exact OpV.g (bj (k := k * 7) (j := 0) (Y.arg hlv) (i := k) (by rw [List.length_map]; omega) rfl (fun _ _ => by kernel_rfl))
   | 4, _, _ =>
    intro w Y
    exact OpV.g (aC (u := iv ((ps.getD k Pxy.z).frm)) (i := k) (j := 0) (Y.arg hlv) (by rw [List.length_map]; omega) rfl (Tryz.isAgg3 _) (by rw [bp Pxy.z]; rfl))
   | 5, _, _ =>
    intro w Y
    exact OpV.g (al rfl)
   | 6, _, _ =>
    intro w Y
    exact OpV.g ((aN (sT := 32) (Y.arg hkv) rfl rfl (Tryz.runUnderlying32 _)).asi (m' := (ks.length : Int)) (by rw [List.length_map]))
  ·intro i hi
   exact absurd hi (by simp)
  clear Z Y
  intro  a w17 Z Y
  replace Z : Fr 216 [(167, lv), (168, iv (k : Int)), (169, slAddr lv (k * 7)), (170, slAddr lv (k * 7 + 0)), (171, iv ((ps.getD k Pxy.z).frm)), (172, kv), (173, iv (ks.length : Int)), (0, _), (2, _), (6, _), (17, _), (161, _), (162, _), (163, _), (164, _)] [] a := Z
  refine ab <| aQ (k := 7) 9 [8] (by kernel_rfl) (by kernel_rfl) (by kernel_rfl) ?_
  refine wlv Z (v_ge rfl rfl) fun a Z => wlm Z rfl fun a Z => ab ?_
  rcases Bool.eq_false_or_eq_true (decide ((ks.length : Int) ≤ (ps.getD k Pxy.z).frm)) with hb20 | hb20
  ·rw [hb20] at Z
   try simp only [qz] at hb20
   replace Z : Fr 216 [(0, kv), (2, lv), (6, Go.PW.pt w0.heap.size), (17, iv (k : Int)), (161, iv (k : Int)), (162, lv), (163, iv (ps.length : Int)), (164, .bool true), (167, lv), (168, iv (k : Int)), (169, slAddr lv (k * 7)), (170, slAddr lv (k * 7 + 0)), (171, iv ((ps.getD k Pxy.z).frm)), (172, kv), (173, iv (ks.length : Int)), (174, .bool true), (175, .bool true)] [] a := Z.pick [0, 2, 6, 17, 161, 162, 163, 164, 167, 168, 169, 170, 171, 172, 173, 174, 175]
   refine dL (k := 9) 28 [13, 27] Z (by kernel_rfl) (by kernel_rfl) (by kernel_rfl) (by rfl) fun a Z => ?_
   replace Z : Fr 216 [(176, undef), (177, undef), (178, undef), (179, undef), (180, undef), (181, undef), (182, undef), (183, undef), (184, undef), (185, undef), (186, undef), (187, undef), (188, undef), (189, undef), (190, undef), (191, undef), (192, undef), (193, undef), (194, undef), (0, kv), (2, lv), (6, Go.PW.pt w0.heap.size), (17, iv (k : Int)), (161, iv (k : Int)), (162, lv), (163, iv (ps.length : Int)), (164, .bool true), (167, lv), (168, iv (k : Int)), (169, slAddr lv (k * 7)), (170, slAddr lv (k * 7 + 0)), (171, iv ((ps.getD k Pxy.z).frm)), (172, kv), (173, iv (ks.length : Int)), (174, .bool true), (175, .bool true)] [] a := Z
   refine aQ (k := 28) 30 [29] (by kernel_rfl) (by kernel_rfl) (by kernel_rfl) ?_
   refine wln Z fun a Z => wlv Z (az rfl rfl) fun a Z => ab ?_
   refine aZ (by kernel_rfl) ?_
   refine hK56 _ _ ?_
   replace Z : Fr 216 [(0, _), (2, _), (6, _), (17, _), (196, _)] [] a := Z.pick [0, 2, 6, 17, 196]
   refine aL Z rfl ?_
   refine aa fun K57 hK57 => wlm Z rfl fun a Z => wla Z rfl fun a Z => wla Z rfl fun a Z => ab (hK57 _ _ ?_)
   refine aw ?_
   refine ao Z Tryz.results16 (ah rfl (ah rfl ag)) ?_
   exact ⟨by rw [cU hwp hch hscn (by rw [hsb]; first | exact eR hkx hp0.1 (by omega) | exact fl hkx hp0.1 (by omega) (by simpa using hb20))]; rfl, Y.ext⟩
  rw [hb20] at Z
  try simp only [qz] at hb20
  refine aX (k := 9) 28 [13, 27] Z (by kernel_rfl) (by kernel_rfl) (by kernel_rfl) (by rfl) ?_
  replace Z : Fr 216 [(0, _), (2, _), (6, _), (17, _), (161, _), (162, _), (163, _), (164, _), (167, _), (168, _), (169, _), (170, _), (171, _), (172, _), (173, _), (174, _), (175, _)] [] a := Z.pick [0, 2, 6, 17, 161, 162, 163, 164, 167, 168, 169, 170, 171, 172, 173, 174, 175]
  refine aB [] (fun i => match i with | _ => fun _ _ => False) 19 [[], [], [0, 1], [2], [3], [], [], [], [6, 7], [8], [9], [5, 10], [11], [], [], [13, 14], [15], [16], [12, 17]] [lv, iv (k : Int), slAddr lv (k * 7), slAddr lv (k * 7 + 6), sv ((ps.getD k Pxy.z).sig), kv, lv, iv (k : Int), slAddr lv (k * 7), slAddr lv (k * 7 + 0), iv ((ps.getD k Pxy.z).frm), slAddr kv (((ps.getD k Pxy.z).frm.toNat) * 1), sv (ks.getD ((ps.getD k Pxy.z).frm.toNat) []), lv, iv (k : Int), slAddr lv (k * 7), .agg #[iv ((ps.getD k Pxy.z).frm), iv ((ps.getD k Pxy.z).to), iv ((ps.getD k Pxy.z).rf), iv ((ps.getD k Pxy.z).rt), iv ((ps.getD k Pxy.z).sf), iv ((ps.getD k Pxy.z).st), sv ((ps.getD k Pxy.z).sig)], sv ((ps.getD k Pxy.z).content), sv (sealH (ks.getD ((ps.getD k Pxy.z).frm.toNat) []) ((ps.getD k Pxy.z).content))] Z Y (by kernel_rfl) (by kernel_rfl) (by kernel_rfl) ?_ ?_ ?_
  ·intro i hi hiq
   match i, hi, hiq with
   | 0, _, _ =>
    intro w Y
    exact OpV.g (al rfl)
   | 1, _, _ =>
    intro w Y
    exact OpV.g (al rfl)
   | 2, _, _ =>
    intro w Y
    exact OpV.g ((ak (i := (k : Int)) (sT := 31) (Y.arg hlv) rfl rfl (Tryz.runUnderlying31 _) (Tryz.sizeOf40 _) (by omega) (by rw [List.length_map]; omega)).as (v' := slAddr lv (k * 7)) rfl)
   | 3, _, _ =>
    intro w Y
    exact OpV.g (bj (k := k * 7) (j := 6) (Y.arg hlv) (i := k) (by rw [List.length_map]; omega) rfl (fun _ _ => by kernel_rfl))
   | 4, _, _ =>
    intro w Y
    exact OpV.g (aC (u := sv ((ps.getD k Pxy.z).sig)) (i := k) (j := 6) (Y.arg hlv) (by rw [List.length_map]; omega) rfl (Tryz.isAgg9 _) (by rw [bp Pxy.z]; rfl))
   | 5, _, _ =>
    intro w Y
    exact OpV.g (al rfl)
   | 6, _, _ =>
    intro w Y
    exact OpV.g (al rfl)
   | 7, _, _ =>
    intro w Y
    exact OpV.g (al rfl)
   | 8, _, _ =>
    intro w Y
    exact OpV.g ((ak (i := (k : Int)) (sT := 31) (Y.arg hlv) rfl rfl (Tryz.runUnderlying31 _) (Tryz.sizeOf40 _) (by omega) (by rw [List.length_map]; omega)).as (v' := slAddr lv (k * 7)) rfl)
   | 9, _, _ =>
    intro w Y
    exact OpV.g (bj (k := k * 7) (j := 0) (Y.arg hlv) (i := k) (by rw [List.length_map]; omega) rfl (fun _ _ => by kernel_rfl))
   | 10, _, _ =>
    intro w Y
    exact OpV.g (aC (u := iv ((ps.getD k Pxy.z).frm)) (i := k) (j := 0) (Y.arg hlv) (by rw [List.length_map]; omega) rfl (Tryz.isAgg3 _) (by rw [bp Pxy.z]; rfl))
   | 11, _, _ =>
    intro w Y
    exact OpV.g ((ak (i := (ps.getD k Pxy.z).frm) (sT := 32) (Y.arg hkv) rfl rfl (Tryz.runUnderlying32 _) (Tryz.sizeOf9 _) (by omega) (by rw [List.length_map]; omega)).as (v' := slAddr kv (((ps.getD k Pxy.z).frm.toNat) * 1)) (by rw [show ((ps.getD k Pxy.z).frm).toNat = (ps.getD k Pxy.z).frm.toNat from by omega]))
   | 12, _, _ =>
    intro w Y
    exact OpV.g (aC (u := sv (ks.getD ((ps.getD k Pxy.z).frm.toNat) [])) (i := ((ps.getD k Pxy.z).frm.toNat)) (j := 0) (Y.arg hkv) (by rw [List.length_map]; omega) rfl (Tryz.isAgg9 _) (by rw [bp ([] : By)]; rfl))
   | 13, _, _ =>
    intro w Y
    exact OpV.g (al rfl)
   | 14, _, _ =>
    intro w Y
    exact OpV.g (al rfl)
   | 15, _, _ =>
    intro w Y
    exact OpV.g ((ak (i := (k : Int)) (sT := 31) (Y.arg hlv) rfl rfl (Tryz.runUnderlying31 _) (Tryz.sizeOf40 _) (by omega) (by rw [List.length_map]; omega)).as (v' := slAddr lv (k * 7)) rfl)
   | 16, _, _ =>
    intro w Y
    exact OpV.g ((bO (Y.arg hlv) (i := k) (by rw [List.length_map]; omega) rfl (Tryz.isAgg40 _) (Tryz.sizeOf40 _)).as (v' := .agg #[iv ((ps.getD k Pxy.z).frm), iv ((ps.getD k Pxy.z).to), iv ((ps.getD k Pxy.z).rf), iv ((ps.getD k Pxy.z).rt), iv ((ps.getD k Pxy.z).sf), iv ((ps.getD k Pxy.z).st), sv ((ps.getD k Pxy.z).sig)]) (by rw [bp Pxy.z]; rfl))
   | 17, _, _ =>
    intro w Y
    exact br Tryz.call38 rfl (eQ (ps.getD k Pxy.z) _ (Pxy.smalls_of hpk))
   | 18, _, _ =>
    intro w Y
    exact br Tryz.call71 rfl (eW (ks.getD ((ps.getD k Pxy.z).frm.toNat) []) ((ps.getD k Pxy.z).content) _ (by have := hk32 _ (bR (d := []) (by omega : ((ps.getD k Pxy.z).frm.toNat) < ks.length)); omega) (Nat.le_trans (kl _) (by decide)))
   | i + 19, h, _ => exact absurd h (by omega)
  ·intro i hi
   exact absurd hi (by simp)
  clear Z Y
  intro  a w18 Z Y
  replace Z : Fr 216 [(176, lv), (177, iv (k : Int)), (178, slAddr lv (k * 7)), (179, slAddr lv (k * 7 + 6)), (180, sv ((ps.getD k Pxy.z).sig)), (181, kv), (182, lv), (183, iv (k : Int)), (184, slAddr lv (k * 7)), (185, slAddr lv (k * 7 + 0)), (186, iv ((ps.getD k Pxy.z).frm)), (187, slAddr kv (((ps.getD k Pxy.z).frm.toNat) * 1)), (188, sv (ks.getD ((ps.getD k Pxy.z).frm.toNat) [])), (189, lv), (190, iv (k : Int)), (191, slAddr lv (k * 7)), (192, .agg #[iv ((ps.getD k Pxy.z).frm), iv ((ps.getD k Pxy.z).to), iv ((ps.getD k Pxy.z).rf), iv ((ps.getD k Pxy.z).rt), iv ((ps.getD k Pxy.z).sf), iv ((ps.getD k Pxy.z).st), sv ((ps.getD k Pxy.z).sig)]), (193, sv ((ps.getD k Pxy.z).content)), (194, sv (sealH (ks.getD ((ps.getD k Pxy.z).frm.toNat) []) ((ps.getD k Pxy.z).content))), (0, _), (2, _), (6, _), (17, _), (161, _), (162, _), (163, _), (164, _), (167, _), (168, _), (169, _), (170, _), (171, _), (172, _), (173, _), (174, _), (175, _)] [] a := Z
  refine ab <| aQ (k := 28) 30 [29] (by kernel_rfl) (by kernel_rfl) (by kernel_rfl) ?_
  refine wly Z (lQ rfl rfl) fun a Z => wlv Z (au rfl rfl) fun a Z => ab ?_
  refine aZ (by kernel_rfl) ?_
  refine hK56 _ _ ?_
  replace Z : Fr 216 [(0, _), (2, _), (6, _), (17, _), (196, _)] [] a := Z.pick [0, 2, 6, 17, 196]
  refine ay Z rfl (fun hc21 => ?_) (fun hc21 => ?_)
  ·rw [hc21] at Z
   try simp only [qz] at hc21
   refine aa fun K58 hK58 => wlm Z rfl fun a Z => wla Z rfl fun a Z => wla Z rfl fun a Z => ab (hK58 _ _ ?_)
   refine aw ?_
   refine ao Z Tryz.results16 (ah rfl (ah rfl ag)) ?_
   exact ⟨by rw [cU hwp hch hscn (by rw [hsb]; first | exact eR hkx hp0.1 (by omega) | exact fl hkx hp0.1 (by omega) (by simpa using hc21))]; rfl, Y.ext⟩
  rw [hc21] at Z
  try simp only [qz] at hc21
  refine ax ?_
  refine hK55 _ _ ?_
  refine am <| wlm Z rfl fun a Z => wlv Z (aT rfl rfl ⟨by omega, by omega⟩) fun a Z => wla Z rfl fun a Z => ab ?_
  refine ⟨_, ?_, k + 1, rfl, (by omega), (by rw [hsb]; exact iF hkx hp0.1 (by omega) (by simpa using hc21)), Z.pick [0, 2, 6, 17], Y.select [0] (by decide)⟩
  omega
 rw [hc19] at Z
 try simp only [qz] at hc19
 have hke : k = ps.length := by omega
 rw [hke, List.drop_length] at hsb
 refine aP ?_
 refine hK51 _ _ ?_
 refine ai fun K59 hK59 => ai fun K60 hK60 => aM (by kernel_rfl) (aO (by kernel_rfl) fun w19 hxz => ?_)
 replace Y := Y.grow hxz
 refine aX (k := 0) 4 [1, 3] Z (by kernel_rfl) (by kernel_rfl) (by kernel_rfl) (by rfl) ?_
 replace Z : Fr 216 [(0, _), (2, _), (6, _), (17, _), (161, _), (162, _), (163, _), (164, _)] [] a := Z.pick [0, 2, 6, 17, 161, 162, 163, 164]
 refine aB [] (fun i => match i with | _ => fun _ _ => False) 4 [[], [0], [], [2]] [Go.PW.pt w0.heap.size, iv x.signer, kv, iv (ks.length : Int)] Z Y (by kernel_rfl) (by kernel_rfl) (by kernel_rfl) ?_ ?_ ?_
 ·intro i hi hiq
  match i, hi, hiq with
  | 0, _, _ =>
   intro w Y
   exact OpV.g (ac (v := Go.PW.pt w0.heap.size) rfl (by kernel_rfl))
  | 1, _, _ =>
   intro w Y
   exact OpV.g (ae (Y.get (k := 0) rfl) rfl (Tryz.isAgg3 _) rfl)
  | 2, _, _ =>
   intro w Y
   exact OpV.g (al rfl)
  | 3, _, _ =>
   intro w Y
   exact OpV.g ((aN (sT := 32) (Y.arg hkv) rfl rfl (Tryz.runUnderlying32 _)).asi (m' := (ks.length : Int)) (by rw [List.length_map]))
 ·intro i hi
  exact absurd hi (by simp)
 clear Z Y
 intro  a w20 Z Y
 replace Z : Fr 216 [(198, Go.PW.pt w0.heap.size), (199, iv x.signer), (200, kv), (201, iv (ks.length : Int)), (0, _), (2, _), (6, _), (17, _), (161, _), (162, _), (163, _), (164, _)] [] a := Z
 refine ab <| aQ (k := 4) 6 [5] (by kernel_rfl) (by kernel_rfl) (by kernel_rfl) ?_
 refine wlv Z (v_ge rfl rfl) fun a Z => wlm Z rfl fun a Z => ab ?_
 rcases Bool.eq_false_or_eq_true (decide ((ks.length : Int) ≤ x.signer)) with hb22 | hb22
 ·rw [hb22] at Z
  try simp only [qz] at hb22
  replace Z : Fr 216 [(0, kv), (2, lv), (6, Go.PW.pt w0.heap.size), (17, iv (k : Int)), (161, iv (k : Int)), (162, lv), (163, iv (ps.length : Int)), (164, .bool false), (198, Go.PW.pt w0.heap.size), (199, iv x.signer), (200, kv), (201, iv (ks.length : Int)), (202, .bool true), (203, .bool true)] [] a := Z.pick [0, 2, 6, 17, 161, 162, 163, 164, 198, 199, 200, 201, 202, 203]
  refine dL (k := 6) 16 [7, 15] Z (by kernel_rfl) (by kernel_rfl) (by kernel_rfl) (by rfl) fun a Z => ?_
  replace Z : Fr 216 [(204, undef), (205, undef), (206, undef), (207, undef), (208, undef), (209, undef), (210, undef), (211, undef), (212, undef), (213, undef), (0, kv), (2, lv), (6, Go.PW.pt w0.heap.size), (17, iv (k : Int)), (161, iv (k : Int)), (162, lv), (163, iv (ps.length : Int)), (164, .bool false), (198, Go.PW.pt w0.heap.size), (199, iv x.signer), (200, kv), (201, iv (ks.length : Int)), (202, .bool true), (203, .bool true)] [] a := Z
  refine aQ (k := 16) 18 [17] (by kernel_rfl) (by kernel_rfl) (by kernel_rfl) ?_
  refine wln Z fun a Z => wlv Z (az rfl rfl) fun a Z => ab ?_
  refine aZ (by kernel_rfl) ?_
  refine hK60 _ _ ?_
  replace Z : Fr 216 [(215, _)] [] a := Z.pick [215]
  replace Y : St No w0 [] w20 := Y.mask [false]
  refine aL Z rfl ?_
  refine aa fun K61 hK61 => wla Z rfl fun a Z => wla Z rfl fun a Z => ab (hK61 _ _ ?_)
  refine aw ?_
  refine ao Z Tryz.results16 (ah rfl (ah rfl ag)) ?_
  exact ⟨by rw [cU hwp hch hscn (by rw [hsb]; first | exact eu (Wsh.ok_signer hxo).1 (by omega) | exact eo (Wsh.ok_signer hxo).1 (by omega) (by simpa using hb22))]; rfl, Y.ext⟩
 rw [hb22] at Z
 try simp only [qz] at hb22
 refine aX (k := 6) 16 [7, 15] Z (by kernel_rfl) (by kernel_rfl) (by kernel_rfl) (by rfl) ?_
 replace Z : Fr 216 [(0, _), (2, _), (6, _), (17, _), (161, _), (162, _), (163, _), (164, _), (198, _), (199, _), (200, _), (201, _), (202, _), (203, _)] [] a := Z.pick [0, 2, 6, 17, 161, 162, 163, 164, 198, 199, 200, 201, 202, 203]
 refine aB [] (fun i => match i with | _ => fun _ _ => False) 10 [[], [0], [], [], [3], [2, 4], [5], [], [7], [6, 8]] [.pointer (some ⟨w0.heap.size, 8, none⟩), sv x.sig, kv, Go.PW.pt w0.heap.size, iv x.signer, slAddr kv (x.signer.toNat * 1), sv (ks.getD x.signer.toNat []), .agg #[iv x.signer, iv x.holder, iv x.rf, iv x.rt, iv x.carrier, iv x.serial, iv x.sf, iv x.st, sv x.sig], sv x.content, sv (sealH (ks.getD x.signer.toNat []) x.content)] Z Y (by kernel_rfl) (by kernel_rfl) (by kernel_rfl) ?_ ?_ ?_
 ·intro i hi hiq
  match i, hi, hiq with
  | 0, _, _ =>
   intro w Y
   exact OpV.g (ac (v := .pointer (some ⟨w0.heap.size, 8, none⟩)) rfl (by kernel_rfl))
  | 1, _, _ =>
   intro w Y
   exact OpV.g (ae (Y.get (k := 0) rfl) rfl (Tryz.isAgg9 _) rfl)
  | 2, _, _ =>
   intro w Y
   exact OpV.g (al rfl)
  | 3, _, _ =>
   intro w Y
   exact OpV.g (ac (v := Go.PW.pt w0.heap.size) rfl (by kernel_rfl))
  | 4, _, _ =>
   intro w Y
   exact OpV.g (ae (Y.get (k := 0) rfl) rfl (Tryz.isAgg3 _) rfl)
  | 5, _, _ =>
   intro w Y
   exact OpV.g ((ak (i := x.signer) (sT := 32) (Y.arg hkv) rfl rfl (Tryz.runUnderlying32 _) (Tryz.sizeOf9 _) (by omega) (by rw [List.length_map]; omega)).as (v' := slAddr kv (x.signer.toNat * 1)) (by rw [show (x.signer).toNat = x.signer.toNat from by omega]))
  | 6, _, _ =>
   intro w Y
   exact OpV.g (aC (u := sv (ks.getD x.signer.toNat [])) (i := x.signer.toNat) (j := 0) (Y.arg hkv) (by rw [List.length_map]; omega) rfl (Tryz.isAgg9 _) (by rw [bp ([] : By)]; rfl))
  | 7, _, _ =>
   intro w Y
   exact OpV.g (ar (Y.get (k := 0) rfl) rfl (Tryz.isAgg30 _) (Tryz.sizeOf30 _))
  | 8, _, _ =>
   intro w Y
   exact br Tryz.call37 rfl (eO x _ (Wsh.smalls_of hxo))
  | 9, _, _ =>
   intro w Y
   exact br Tryz.call71 rfl (eW (ks.getD x.signer.toNat []) x.content _ (by have := hk32 _ (bR (d := []) (by omega : x.signer.toNat < ks.length)); omega) (Nat.le_trans (gT _) (by decide)))
 ·intro i hi
  exact absurd hi (by simp)
 clear Z Y
 intro  a w21 Z Y
 replace Z : Fr 216 [(204, .pointer (some ⟨w0.heap.size, 8, none⟩)), (205, sv x.sig), (206, kv), (207, Go.PW.pt w0.heap.size), (208, iv x.signer), (209, slAddr kv (x.signer.toNat * 1)), (210, sv (ks.getD x.signer.toNat [])), (211, .agg #[iv x.signer, iv x.holder, iv x.rf, iv x.rt, iv x.carrier, iv x.serial, iv x.sf, iv x.st, sv x.sig]), (212, sv x.content), (213, sv (sealH (ks.getD x.signer.toNat []) x.content)), (0, _), (2, _), (6, _), (17, _), (161, _), (162, _), (163, _), (164, _), (198, _), (199, _), (200, _), (201, _), (202, _), (203, _)] [] a := Z
 refine ab <| aQ (k := 16) 18 [17] (by kernel_rfl) (by kernel_rfl) (by kernel_rfl) ?_
 refine wly Z (lQ rfl rfl) fun a Z => wlv Z (au rfl rfl) fun a Z => ab ?_
 refine aZ (by kernel_rfl) ?_
 refine hK60 _ _ ?_
 replace Z : Fr 216 [(215, _)] [] a := Z.pick [215]
 replace Y : St No w0 [] w21 := Y.mask [false]
 refine ay Z rfl (fun hc23 => ?_) (fun hc23 => ?_)
 ·rw [hc23] at Z
  try simp only [qz] at hc23
  refine aa fun K62 hK62 => wla Z rfl fun a Z => wla Z rfl fun a Z => ab (hK62 _ _ ?_)
  refine aw ?_
  refine ao Z Tryz.results16 (ah rfl (ah rfl ag)) ?_
  exact ⟨by rw [cU hwp hch hscn (by rw [hsb]; first | exact eu (Wsh.ok_signer hxo).1 (by omega) | exact eo (Wsh.ok_signer hxo).1 (by omega) (by simpa using hc23))]; rfl, Y.ext⟩
 rw [hc23] at Z
 try simp only [qz] at hc23
 refine ax ?_
 refine hK59 _ _ ?_
 refine aa fun K63 hK63 => wla Z rfl fun a Z => wla Z rfl fun a Z => ab (hK63 _ _ ?_)
 refine aw ?_
 refine ao Z Tryz.results16 (ah rfl (ah rfl ag)) ?_
 exact ⟨by rw [e8 hwp hch hscn (by rw [hsb]; exact iZ (Wsh.ok_signer hxo).1 (by omega) (by simpa using hc23))]; rfl, Y.ext⟩
theorem mn (kv lv : Value) (ks : List By) (x : Wsh) (ps : List Pxy) (number t : Int) (w0 : World) (hkv : SlAt w0 kv 1 (ks.map fun s => [sv s])) (hlv : SlAt w0 lv 7 (ps.map Pxy.cells)) :
  Ret Tryz.prog 18 #[kv, .agg #[iv x.signer, iv x.holder, iv x.rf, iv x.rt, iv x.carrier, iv x.serial, iv x.sf, iv x.st, sv x.sig], lv, iv number, iv t] w0 fun v w => v = .bool (validH ks x ps number t) ∧ Ext No w0 w := by
 refine aF Tryz.func18 rfl Tryz.ntmps18 (lb rfl) fun a Z => ?_
 replace Z : Fr 24 [(0, _), (1, _), (2, _), (3, _), (4, _)] [] a := Z
 replace Y : St No w0 [] w0 := St.init w0
 refine aa fun K1 hK1 => aY Z Y (by decide) rfl (cs := [iv x.signer, iv x.holder, iv x.rf, iv x.rt, iv x.carrier, iv x.serial, iv x.sf, iv x.st, sv x.sig]) rfl ?_
 clear Z Y
 intro a w1 Z Y
 refine wla Z rfl fun a Z => ab (hK1 _ _ ?_)
 refine aa fun K2 hK2 => wlm Z rfl fun a Z => wlv Z (ar (Y.get (k := 0) rfl) rfl (Tryz.isAgg30 _) (Tryz.sizeOf30 _)) fun a Z => wlm Z rfl fun a Z => wlm Z rfl fun a Z => wlm Z rfl fun a Z => aA Z Y (by decide) Tryz.call16 rfl (lP kv lv ks x ps number t _ (Y.arg hkv) (Y.arg hlv)) ?_
 clear Z Y
 intro a w2 Z Y
 refine wlm Z rfl fun a Z => wlv Z (aD rfl rfl) fun a Z => wlv Z (aD rfl rfl) fun a Z => wla Z rfl fun a Z => wla Z rfl fun a Z => ab (hK2 _ _ ?_)
 replace Z : Fr 24 [(10, _), (11, _)] [] a := Z.pick [10, 11]
 replace Y : St No w0 [] w2 := Y.mask [false]
 refine aa fun K3 hK3 => wlm Z rfl fun a Z => wlv Z (v_eq rfl rfl) fun a Z => wla Z rfl fun a Z => ab (hK3 _ _ ?_)
 refine aw ?_
 refine ao Z Tryz.results18 (ah rfl ag) ?_
 exact ⟨by rfl, Y.ext⟩
end Go.Proofs.YtmmfieceinmloaaGreatDoor
namespace Go.Proofs.YtmmfieceinmloaaGreatDoor
open Go.RowKit Go.PW
set_option linter.unusedVariables false
set_option linter.unusedSimpArgs false
set_option maxRecDepth 4000
def exY : Pxy := ⟨0, 0, 0, 0, 0, 0, []⟩
def sgW (key : By) (x : Wsh) : Wsh × Int := if key.length = 32 ∧ x.ok = true then (x.sealed key, 0) else (exZ, 150)
def sgP (key : By) (x : Pxy) : Pxy × Int := if key.length = 32 ∧ x.ok = true then (x.sealed key, 0) else (exY, 150)
theorem pJ {key : By} {x : Wsh} (h : key.length = 32) (h2 : x.ok = true) : sgW key x = (x.sealed key, 0) := if_pos ⟨h, h2⟩
theorem lG {key : By} {x : Wsh} (h : ¬ (key.length = 32 ∧ x.ok = true)) : sgW key x = (exZ, 150) := if_neg h
theorem pL {key : By} {x : Pxy} (h : key.length = 32) (h2 : x.ok = true) : sgP key x = (x.sealed key, 0) := if_pos ⟨h, h2⟩
theorem lB {key : By} {x : Pxy} (h : ¬ (key.length = 32 ∧ x.ok = true)) : sgP key x = (exY, 150) := if_neg h
theorem ib (key : By) (x : Wsh) (w0 : World) (hk : ¬ key.length = 32) :
  Ret Tryz.prog 23 #[sv key, .agg #[iv x.signer, iv x.holder, iv x.rf, iv x.rt, iv x.carrier, iv x.serial, iv x.sf, iv x.st, sv x.sig]] w0 fun v w => v = .tuple #[.agg #[iv 0, iv 0, iv 0, iv 0, iv 0, iv 0, iv 0, iv 0, .string (⟨#[]⟩)], iv 150] ∧ Ext No w0 w := by
 refine aF Tryz.func23 rfl Tryz.ntmps23 (lb rfl) fun a Z => ?_
 replace Z : Fr 21 [(0, _), (1, _)] [] a := Z
 replace Y : St No w0 [] w0 := St.init w0
 refine aa fun K1 hK1 => aY Z Y (by decide) rfl (cs := [iv x.signer, iv x.holder, iv x.rf, iv x.rt, iv x.carrier, iv x.serial, iv x.sf, iv x.st, sv x.sig]) rfl ?_
 clear Z Y
 intro a w1 Z Y
 refine aK Z Y (by decide) (Tryz.zeroValue30 _) (cs := [iv 0, iv 0, iv 0, iv 0, iv 0, iv 0, iv 0, iv 0, .string (⟨#[]⟩)]) rfl ?_
 clear Z Y
 intro a w2 Z Y
 refine wla Z rfl fun a Z => ab (hK1 _ _ ?_)
 refine ai fun K2 hK2 => aa fun K3 hK3 => wlm Z rfl fun a Z => wlv Z (bD rfl rfl (Tryz.runUnderlying9 _)) fun a Z => wlv Z ((v_ne rfl rfl).asb (b' := true) (by simp; omega)) fun a Z => wlm Z rfl fun a Z => wln Z fun a Z => wln Z fun a Z => ?_
 refine wln Z fun a Z => wlv Z (az rfl rfl) fun a Z => ab (hK3 _ _ ?_)
 replace Z : Fr 21 [(0, _), (3, _), (4, _), (5, _), (13, _)] [] a := Z.pick [0, 3, 4, 5, 13]
 refine aL Z rfl ?_
 refine aa fun K4 hK4 => wlv Z (bC (v := .agg #[iv 0, iv 0, iv 0, iv 0, iv 0, iv 0, iv 0, iv 0, .string (⟨#[]⟩)]) rfl (by kernel_rfl)) fun a Z => ap 0 Z Y rfl rfl rfl (Tryz.sizeOf30 _) rfl (lb rfl) (ds := [iv 0, iv 0, iv 0, iv 0, iv 0, iv 0, iv 0, iv 0, .string (⟨#[]⟩)]) rfl rfl ?_
 clear Z Y
 intro a w3 Z Y
 refine wla Z rfl fun a Z => ab (hK4 _ _ ?_)
 refine aw ?_
 refine ao Z Tryz.results23 (aj rfl (ba (Y.get (k := 0) rfl) (Tryz.isAgg30 _) (Tryz.sizeOf30 _)) (ah rfl ag)) ?_
 exact ⟨by rfl, Y.ext⟩
theorem i6 (key : By) (x : Wsh) (w0 : World) (hk : ¬ key.length = 32) :
  Ret Tryz.prog 22 #[sv key, .agg #[iv x.signer, iv x.holder, iv x.rf, iv x.rt, iv x.carrier, iv x.serial, iv x.sf, iv x.st, sv x.sig]] w0 fun v w => v = .tuple #[.agg #[iv 0, iv 0, iv 0, iv 0, iv 0, iv 0, iv 0, iv 0, .string (⟨#[]⟩)], iv 150] ∧ Ext No w0 w := by
 refine aF Tryz.func22 rfl Tryz.ntmps22 (lb rfl) fun a Z => ?_
 replace Z : Fr 20 [(0, _), (1, _)] [] a := Z
 replace Y : St No w0 [] w0 := St.init w0
 refine aa fun K1 hK1 => aY Z Y (by decide) rfl (cs := [iv x.signer, iv x.holder, iv x.rf, iv x.rt, iv x.carrier, iv x.serial, iv x.sf, iv x.st, sv x.sig]) rfl ?_
 clear Z Y
 intro a w1 Z Y
 refine aK Z Y (by decide) (Tryz.zeroValue30 _) (cs := [iv 0, iv 0, iv 0, iv 0, iv 0, iv 0, iv 0, iv 0, .string (⟨#[]⟩)]) rfl ?_
 clear Z Y
 intro a w2 Z Y
 refine wla Z rfl fun a Z => ab (hK1 _ _ ?_)
 refine ai fun K2 hK2 => aa fun K3 hK3 => wlm Z rfl fun a Z => aA Z Y (by decide) Tryz.call56 rfl (dh key _) ?_
 clear Z Y
 intro a w3 Z Y
 refine wlv Z (bS rfl) fun a Z => wlm Z rfl fun a Z => ?_
 rcases Bool.eq_false_or_eq_true (!(decide ((key.length : Int) = 32))) with hb1 | hb1
 ·rw [hb1] at Z
  try simp only [qz] at hb1
  refine wln Z fun a Z => wln Z fun a Z => wln Z fun a Z => wlv Z (az rfl rfl) fun a Z => ab (hK3 _ _ ?_)
  replace Z : Fr 20 [(0, _), (3, _), (4, _), (5, _), (13, _)] [] a := Z.pick [0, 3, 4, 5, 13]
  refine aL Z rfl ?_
  refine aa fun K4 hK4 => wlv Z (bC (v := .agg #[iv 0, iv 0, iv 0, iv 0, iv 0, iv 0, iv 0, iv 0, .string (⟨#[]⟩)]) rfl (by kernel_rfl)) fun a Z => ap 0 Z Y rfl rfl rfl (Tryz.sizeOf30 _) rfl (lb rfl) (ds := [iv 0, iv 0, iv 0, iv 0, iv 0, iv 0, iv 0, iv 0, .string (⟨#[]⟩)]) rfl rfl ?_
  clear Z Y
  intro a w4 Z Y
  refine wla Z rfl fun a Z => ab (hK4 _ _ ?_)
  refine aw ?_
  refine ao Z Tryz.results22 (aj rfl (ba (Y.get (k := 0) rfl) (Tryz.isAgg30 _) (Tryz.sizeOf30 _)) (ah rfl ag)) ?_
  exact ⟨by rfl, Y.ext⟩
 rw [hb1] at Z
 try simp only [qz] at hb1
 exfalso; omega
theorem o7 (key : By) (x : Wsh) (w0 : World)  : Ret Tryz.prog 23 #[sv key, .agg #[iv x.signer, iv x.holder, iv x.rf, iv x.rt, iv x.carrier, iv x.serial, iv x.sf, iv x.st, sv x.sig]] w0 fun v w => v = .tuple #[.agg #[iv ((sgW key x).1.signer), iv ((sgW key x).1.holder), iv ((sgW key x).1.rf), iv ((sgW key x).1.rt), iv ((sgW key x).1.carrier), iv ((sgW key x).1.serial), iv ((sgW key x).1.sf), iv ((sgW key x).1.st), sv ((sgW key x).1.sig)], iv (sgW key x).2] ∧ Ext No w0 w := by
 by_cases hk : key.length = 32
 ·cases hx : x.ok with
  | true => rw [pJ hk hx]; exact (dQ key x w0 hk hx).mono fun v w h => h
  | false => rw [lG (fun h => by rw [hx] at h; cases h.2)]; exact (ie key x w0 hk hx).mono fun v w h => h
 ·rw [lG (fun h => hk h.1)]; exact (ib key x w0 hk).mono fun v w h => h
theorem sgwish (key : By) (x : Wsh) (w0 : World) (hk0 : (blk 0 (kOf.map wv) 239).ok w0) : Ret Tryz.prog 22 #[sv key, .agg #[iv x.signer, iv x.holder, iv x.rf, iv x.rt, iv x.carrier, iv x.serial, iv x.sf, iv x.st, sv x.sig]] w0 fun v w => v = .tuple #[.agg #[iv ((sgW key x).1.signer), iv ((sgW key x).1.holder), iv ((sgW key x).1.rf), iv ((sgW key x).1.rt), iv ((sgW key x).1.carrier), iv ((sgW key x).1.serial), iv ((sgW key x).1.sf), iv ((sgW key x).1.st), sv ((sgW key x).1.sig)], iv (sgW key x).2] ∧ Ext No w0 w := by
 by_cases hk : key.length = 32
 ·cases hx : x.ok with
  | true => rw [pJ hk hx]; exact (fK key x w0 hk hx hk0).mono fun v w h => h
  | false => rw [lG (fun h => by rw [hx] at h; cases h.2)]; exact (jj key x w0 hk hx hk0).mono fun v w h => h
 ·rw [lG (fun h => hk h.1)]; exact (i6 key x w0 hk).mono fun v w h => h
theorem gI (key : By) (x : Pxy) (w0 : World) (hk : ¬ key.length = 32) :
  Ret Tryz.prog 25 #[sv key, .agg #[iv x.frm, iv x.to, iv x.rf, iv x.rt, iv x.sf, iv x.st, sv x.sig]] w0 fun v w => v = .tuple #[.agg #[iv 0, iv 0, iv 0, iv 0, iv 0, iv 0, .string (⟨#[]⟩)], iv 150] ∧ Ext No w0 w := by
 refine aF Tryz.func25 rfl Tryz.ntmps25 (lb rfl) fun a Z => ?_
 replace Z : Fr 21 [(0, _), (1, _)] [] a := Z
 replace Y : St No w0 [] w0 := St.init w0
 refine aa fun K1 hK1 => aY Z Y (by decide) rfl (cs := [iv x.frm, iv x.to, iv x.rf, iv x.rt, iv x.sf, iv x.st, sv x.sig]) rfl ?_
 clear Z Y
 intro a w1 Z Y
 refine aK Z Y (by decide) (Tryz.zeroValue40 _) (cs := [iv 0, iv 0, iv 0, iv 0, iv 0, iv 0, .string (⟨#[]⟩)]) rfl ?_
 clear Z Y
 intro a w2 Z Y
 refine wla Z rfl fun a Z => ab (hK1 _ _ ?_)
 refine ai fun K2 hK2 => aa fun K3 hK3 => wlm Z rfl fun a Z => wlv Z (bD rfl rfl (Tryz.runUnderlying9 _)) fun a Z => wlv Z ((v_ne rfl rfl).asb (b' := true) (by simp; omega)) fun a Z => wlm Z rfl fun a Z => wln Z fun a Z => wln Z fun a Z => ?_
 refine wln Z fun a Z => wlv Z (az rfl rfl) fun a Z => ab (hK3 _ _ ?_)
 replace Z : Fr 21 [(0, _), (3, _), (4, _), (5, _), (13, _)] [] a := Z.pick [0, 3, 4, 5, 13]
 refine aL Z rfl ?_
 refine aa fun K4 hK4 => wlv Z (bC (v := .agg #[iv 0, iv 0, iv 0, iv 0, iv 0, iv 0, .string (⟨#[]⟩)]) rfl (by kernel_rfl)) fun a Z => ap 0 Z Y rfl rfl rfl (Tryz.sizeOf40 _) rfl (lb rfl) (ds := [iv 0, iv 0, iv 0, iv 0, iv 0, iv 0, .string (⟨#[]⟩)]) rfl rfl ?_
 clear Z Y
 intro a w3 Z Y
 refine wla Z rfl fun a Z => ab (hK4 _ _ ?_)
 refine aw ?_
 refine ao Z Tryz.results25 (aj rfl (ba (Y.get (k := 0) rfl) (Tryz.isAgg40 _) (Tryz.sizeOf40 _)) (ah rfl ag)) ?_
 exact ⟨by rfl, Y.ext⟩
theorem il (key : By) (x : Pxy) (w0 : World) (hk : ¬ key.length = 32) :
  Ret Tryz.prog 24 #[sv key, .agg #[iv x.frm, iv x.to, iv x.rf, iv x.rt, iv x.sf, iv x.st, sv x.sig]] w0 fun v w => v = .tuple #[.agg #[iv 0, iv 0, iv 0, iv 0, iv 0, iv 0, .string (⟨#[]⟩)], iv 150] ∧ Ext No w0 w := by
 refine aF Tryz.func24 rfl Tryz.ntmps24 (lb rfl) fun a Z => ?_
 replace Z : Fr 20 [(0, _), (1, _)] [] a := Z
 replace Y : St No w0 [] w0 := St.init w0
 refine aa fun K1 hK1 => aY Z Y (by decide) rfl (cs := [iv x.frm, iv x.to, iv x.rf, iv x.rt, iv x.sf, iv x.st, sv x.sig]) rfl ?_
 clear Z Y
 intro a w1 Z Y
 refine aK Z Y (by decide) (Tryz.zeroValue40 _) (cs := [iv 0, iv 0, iv 0, iv 0, iv 0, iv 0, .string (⟨#[]⟩)]) rfl ?_
 clear Z Y
 intro a w2 Z Y
 refine wla Z rfl fun a Z => ab (hK1 _ _ ?_)
 refine ai fun K2 hK2 => aa fun K3 hK3 => wlm Z rfl fun a Z => aA Z Y (by decide) Tryz.call56 rfl (dh key _) ?_
 clear Z Y
 intro a w3 Z Y
 refine wlv Z (bS rfl) fun a Z => wlm Z rfl fun a Z => ?_
 rcases Bool.eq_false_or_eq_true (!(decide ((key.length : Int) = 32))) with hb1 | hb1
 ·rw [hb1] at Z
  try simp only [qz] at hb1
  refine wln Z fun a Z => wln Z fun a Z => wln Z fun a Z => wlv Z (az rfl rfl) fun a Z => ab (hK3 _ _ ?_)
  replace Z : Fr 20 [(0, _), (3, _), (4, _), (5, _), (13, _)] [] a := Z.pick [0, 3, 4, 5, 13]
  refine aL Z rfl ?_
  refine aa fun K4 hK4 => wlv Z (bC (v := .agg #[iv 0, iv 0, iv 0, iv 0, iv 0, iv 0, .string (⟨#[]⟩)]) rfl (by kernel_rfl)) fun a Z => ap 0 Z Y rfl rfl rfl (Tryz.sizeOf40 _) rfl (lb rfl) (ds := [iv 0, iv 0, iv 0, iv 0, iv 0, iv 0, .string (⟨#[]⟩)]) rfl rfl ?_
  clear Z Y
  intro a w4 Z Y
  refine wla Z rfl fun a Z => ab (hK4 _ _ ?_)
  refine aw ?_
  refine ao Z Tryz.results24 (aj rfl (ba (Y.get (k := 0) rfl) (Tryz.isAgg40 _) (Tryz.sizeOf40 _)) (ah rfl ag)) ?_
  exact ⟨by rfl, Y.ext⟩
 rw [hb1] at Z
 try simp only [qz] at hb1
 exfalso; omega
theorem ne (key : By) (x : Pxy) (w0 : World)  : Ret Tryz.prog 25 #[sv key, .agg #[iv x.frm, iv x.to, iv x.rf, iv x.rt, iv x.sf, iv x.st, sv x.sig]] w0 fun v w => v = .tuple #[.agg #[iv ((sgP key x).1.frm), iv ((sgP key x).1.to), iv ((sgP key x).1.rf), iv ((sgP key x).1.rt), iv ((sgP key x).1.sf), iv ((sgP key x).1.st), sv ((sgP key x).1.sig)], iv (sgP key x).2] ∧ Ext No w0 w := by
 by_cases hk : key.length = 32
 ·cases hx : x.ok with
  | true => rw [pL hk hx]; exact (ez key x w0 hk hx).mono fun v w h => h
  | false => rw [lB (fun h => by rw [hx] at h; cases h.2)]; exact (gJ key x w0 hk hx).mono fun v w h => h
 ·rw [lB (fun h => hk h.1)]; exact (gI key x w0 hk).mono fun v w h => h
theorem py (key : By) (x : Pxy) (w0 : World) (hk0 : (blk 0 (kOf.map wv) 239).ok w0) : Ret Tryz.prog 24 #[sv key, .agg #[iv x.frm, iv x.to, iv x.rf, iv x.rt, iv x.sf, iv x.st, sv x.sig]] w0 fun v w => v = .tuple #[.agg #[iv ((sgP key x).1.frm), iv ((sgP key x).1.to), iv ((sgP key x).1.rf), iv ((sgP key x).1.rt), iv ((sgP key x).1.sf), iv ((sgP key x).1.st), sv ((sgP key x).1.sig)], iv (sgP key x).2] ∧ Ext No w0 w := by
 by_cases hk : key.length = 32
 ·cases hx : x.ok with
  | true => rw [pL hk hx]; exact (fo key x w0 hk hx hk0).mono fun v w h => h
  | false => rw [lB (fun h => by rw [hx] at h; cases h.2)]; exact (ii key x w0 hk hx hk0).mono fun v w h => h
 ·rw [lB (fun h => hk h.1)]; exact (il key x w0 hk).mono fun v w h => h
def leastH (ks : List By) (k : Nat) : List By := (ks.take k).map fun s => s.take 33
theorem cq (ks : List By) (k : Nat) : (leastH ks k).length = min k ks.length := by simp [leastH]
theorem lf {xs : List By} {k : Nat} (hk : k < xs.length) : leastH xs (k + 1) = leastH xs k ++ [(xs.getD k []).take (min (xs.getD k []).length 33)] := by
 unfold leastH
 rw [List.take_succ_eq_append_getElem hk, List.map_append]
 have : xs.getD k [] = xs[k] := by simp [List.getD_eq_getElem?_getD, List.getElem?_eq_getElem hk]
 rw [this]
 simp [List.take_eq_take_iff, Nat.min_comm]
theorem j1 (lv : Value) (xs : List By) (w0 : World) (hlv : SlAt w0 lv 1 (xs.map fun s => [sv s])) :
  Ret Tryz.prog 14 #[lv] w0 (MemR w0 (fun v : Value => v) (fun v => [own v 9 1 ((leastH xs 5).map fun s => [sv s])]) (fun _ => True)) := by
 have hnb := hlv.le
 rw [List.length_map] at hnb
 refine aF Tryz.func14 rfl Tryz.ntmps14 (lb rfl) fun a Z => ?_
 replace Z : Fr 30 [(0, _)] [] a := Z
 replace Y : St No w0 [] w0 := St.init w0
 refine aa fun K1 hK1 => wla Z rfl fun a Z => ab (hK1 _ _ ?_)
 refine aa fun K2 hK2 => wla Z rfl fun a Z => ab (hK2 _ _ ?_)
 refine ai fun K3 hK3 => aa fun K4 hK4 => wla Z rfl fun a Z => ab (hK4 _ _ ?_)
 refine aq ?_
 replace Y : St No w0 (own (.slice none 0 0) 9 1 ((leastH xs 0).map fun s => [sv s]) :: []) w0 := Y.nil_own
 refine aW (fun m a w => ∃ (k : Nat) (v : Value), m = xs.length - k ∧ (k ≤ xs.length) ∧ (k ≤ 5) ∧ Fr 30 [(0, lv), (2, .slice none 0 0), (4, iv (k : Int)), (3, v)] [] a ∧ St No w0 [own v 9 1 ((leastH xs k).map fun s => [sv s])] w) _ ⟨0, .slice none 0 0, rfl, Nat.zero_le _, Nat.zero_le _, Z.pick [0, 2, 4, 3], Y.select [0] (by decide)⟩ ?_
 rintro _ a w1 ⟨k, v, rfl, hk, hkm, Z, Y⟩
 refine ai fun K5 hK5 => aa fun K6 hK6 => wlm Z rfl fun a Z => wlm Z rfl fun a Z => wlv Z ((aN (sT := 32) (Y.arg hlv) rfl rfl (Tryz.runUnderlying32 _)).asi (m' := (xs.length : Int)) (by rw [List.length_map])) fun a Z => wlv Z (v_lt rfl rfl) fun a Z => wlm Z rfl fun a Z => ?_
 rcases Bool.eq_false_or_eq_true (decide ((k : Int) < (xs.length : Int))) with hb1 | hb1
 ·rw [hb1] at Z
  try simp only [qz] at hb1
  refine wly Z (al rfl) fun a Z => wly Z (v_lt rfl rfl) fun a Z => wlv Z (az rfl rfl) fun a Z => ab (hK6 _ _ ?_)
  replace Z : Fr 30 [(0, _), (2, _), (4, _), (3, _), (12, _)] [] a := Z.pick [0, 2, 4, 3, 12]
  refine ay Z rfl (fun hc2 => ?_) (fun hc2 => ?_)
  ·rw [hc2] at Z
   try simp only [qz] at hc2
   refine ax ?_
   refine hK5 _ _ ?_
   refine ai fun K7 hK7 => aq ?_
   refine aM (by kernel_rfl) (aO (by kernel_rfl) fun w2 hxz => ?_)
   replace Y := Y.grow hxz
   refine aX (k := 0) 13 [0, 12] Z (by kernel_rfl) (by kernel_rfl) (by kernel_rfl) (by rfl) ?_
   replace Z : Fr 30 [(0, _), (2, _), (4, _), (3, _), (12, _)] [] a := Z.pick [0, 2, 4, 3, 12]
   refine aB [12] (fun i => match i with | 12 => pm (fun b : Nat => .slice (some ⟨b, 0, none⟩) 1 1) (fun b => [own (.slice (some ⟨b, 0, none⟩) 1 1) 9 1 [[sv ((xs.getD k []).take (min (xs.getD k []).length 33))]]]) (fun _ => True) | _ => fun _ _ => False) 13 [[], [], [], [1, 2], [3], [], [], [5, 6], [7], [8], [9], [4, 10], [11]] [v, lv, iv (k : Int), slAddr lv (k * 1), sv (xs.getD k []), lv, iv (k : Int), slAddr lv (k * 1), sv (xs.getD k []), iv ((xs.getD k []).length : Int), iv (min ((xs.getD k []).length : Int) 33), sv ((xs.getD k []).take (min (xs.getD k []).length 33)), undef] Z Y (by kernel_rfl) (by kernel_rfl) (by kernel_rfl) ?_ ?_ ?_
   ·intro i hi hiq
    match i, hi, hiq with
    | 0, _, _ =>
     intro w Y
     exact OpV.g (al rfl)
    | 1, _, _ =>
     intro w Y
     exact OpV.g (al rfl)
    | 2, _, _ =>
     intro w Y
     exact OpV.g (al rfl)
    | 3, _, _ =>
     intro w Y
     exact OpV.g ((ak (i := (k : Int)) (sT := 32) (Y.arg hlv) rfl rfl (Tryz.runUnderlying32 _) (Tryz.sizeOf9 _) (by omega) (by rw [List.length_map]; omega)).as (v' := slAddr lv (k * 1)) rfl)
    | 4, _, _ =>
     intro w Y
     exact OpV.g (aC (u := sv (xs.getD k [])) (i := k) (j := 0) (Y.arg hlv) (by rw [List.length_map]; omega) rfl (Tryz.isAgg9 _) (by rw [bp ([] : By)]; rfl))
    | 5, _, _ =>
     intro w Y
     exact OpV.g (al rfl)
    | 6, _, _ =>
     intro w Y
     exact OpV.g (al rfl)
    | 7, _, _ =>
     intro w Y
     exact OpV.g ((ak (i := (k : Int)) (sT := 32) (Y.arg hlv) rfl rfl (Tryz.runUnderlying32 _) (Tryz.sizeOf9 _) (by omega) (by rw [List.length_map]; omega)).as (v' := slAddr lv (k * 1)) rfl)
    | 8, _, _ =>
     intro w Y
     exact OpV.g (aC (u := sv (xs.getD k [])) (i := k) (j := 0) (Y.arg hlv) (by rw [List.length_map]; omega) rfl (Tryz.isAgg9 _) (by rw [bp ([] : By)]; rfl))
    | 9, _, _ =>
     intro w Y
     exact OpV.g (bD rfl rfl (Tryz.runUnderlying9 _))
    | 10, _, _ =>
     intro w Y
     exact OpV.g (kZ rfl rfl)
    | 11, _, _ =>
     intro w Y
     exact OpV.g ((jS (xs := xs.getD k []) (l := 0) (h := (min (xs.getD k []).length 33)) rfl rfl rfl Tryz.underlying9 (.inl ⟨rfl, rfl⟩) (.inr (by rw [show (min ((xs.getD k []).length : Int) 33 : Int) = (((min (xs.getD k []).length 33) : Nat) : Int) from by omega] <;> rfl)) (by omega) (by first | omega | exact Nat.min_le_left _ _)).as (v' := sv ((xs.getD k []).take (min (xs.getD k []).length 33))) rfl)
    | 12, _, h => exact absurd (by simp) h
    | i + 13, h, _ => exact absurd h (by omega)
   ·intro i hi
    simp only [List.mem_cons, List.not_mem_nil, or_false] at hi
    subst hi
    ·intro w Y
     exact bU (E := 9) (sz := 1) rfl [[sv ((xs.getD k []).take (min (xs.getD k []).length 33))]] (fun _ => by kernel_rfl) (by simp) rfl (by decide)
   clear Z Y
   rintro _ _ ⟨b3, rfl, -, rfl⟩ a w3 Z Y
   replace Z : Fr 30 [(15, v), (16, lv), (17, iv (k : Int)), (18, slAddr lv (k * 1)), (19, sv (xs.getD k [])), (20, lv), (21, iv (k : Int)), (22, slAddr lv (k * 1)), (23, sv (xs.getD k [])), (24, iv ((xs.getD k []).length : Int)), (25, iv (min ((xs.getD k []).length : Int) 33)), (26, sv ((xs.getD k []).take (min (xs.getD k []).length 33))), (27, _), (0, _), (2, _), (4, _), (3, _), (12, _)] [] a := Z
   replace Y : St No w0 [_, _] w3 := Y
   refine ab <| aQ (k := 13) 15 [14] (by kernel_rfl) (by kernel_rfl) (by kernel_rfl) ?_
   refine bF (i := 1) (sT := 32) (inf := Tryz.t9) (z := .string (⟨#[]⟩)) (b := 0) (off := 0) (m := 0) (c := 0) rfl rfl rfl (Y.ownAt (i := 0) rfl) (by simp) Tryz.underlying32 rfl rfl rfl rfl (by decide) (by simp [Value.oneCell', yv, wv, sv]) (by have hby : Tryz.t9.bytes = 16 := rfl; rw [List.length_map, cq]; simp only [big, hby, List.length_cons, List.length_nil]; omega) (by have hby : Tryz.t9.bytes = 16 := rfl; rw [List.length_map, cq]; simp only [big, hby, List.length_cons, List.length_nil]; omega) (by decide) Z Y fun a w4 s4 Z Y _ => wla Z rfl fun a Z => ab ?_
   refine aZ (by kernel_rfl) ?_
   refine hK7 _ _ ?_
   replace Z : Fr 30 [(0, _), (2, _), (4, _), (3, _)] [] a := Z.pick [0, 2, 4, 3]
   replace Y : St No w0 [_] w4 := Y.mask [false, true]
   refine am <| wlm Z rfl fun a Z => wlv Z (aT rfl rfl ⟨by omega, by omega⟩) fun a Z => wla Z rfl fun a Z => ab ?_
   rw [show ((leastH xs k).map fun s => [sv s]) ++ ([[sv ((xs.getD k []).take (min (xs.getD k []).length 33))]]) = ((leastH xs (k + 1)).map fun s => [sv s]) from by rw [lf (by omega)]; simp] at Y
   refine ⟨_, ?_, k + 1, s4, rfl, (by omega), (by omega), Z.pick [0, 2, 4, 3], Y.select [0] (by decide)⟩
   omega
  rw [hc2] at Z
  try simp only [qz] at hc2
  refine aP ?_
  refine hK3 _ _ ?_
  refine aa fun K8 hK8 => wlm Z rfl fun a Z => wla Z rfl fun a Z => ab (hK8 _ _ ?_)
  refine aw ?_
  refine ao Z Tryz.results14 (ah rfl ag) ?_
  have hfe : leastH xs 5 = leastH xs k := by unfold leastH; congr 1; rw [List.take_eq_take_iff]; omega
  exact ⟨v, rfl, trivial, Y.ext, St.out (E := [own v 9 1 ((leastH xs 5).map fun s => [sv s])]) (H := []) (by rw [hfe]; exact Y)⟩
 rw [hb1] at Z
 try simp only [qz] at hb1
 refine wln Z fun a Z => wln Z fun a Z => wlv Z (au rfl rfl) fun a Z => ab (hK6 _ _ ?_)
 replace Z : Fr 30 [(0, _), (2, _), (4, _), (3, _), (12, _)] [] a := Z.pick [0, 2, 4, 3, 12]
 refine bE Z rfl ?_
 refine aP ?_
 refine hK3 _ _ ?_
 refine aa fun K9 hK9 => wlm Z rfl fun a Z => wla Z rfl fun a Z => ab (hK9 _ _ ?_)
 refine aw ?_
 refine ao Z Tryz.results14 (ah rfl ag) ?_
 have hfe : leastH xs 5 = leastH xs k := by unfold leastH; congr 1; rw [List.take_eq_take_iff]; omega
 exact ⟨v, rfl, trivial, Y.ext, St.out (E := [own v 9 1 ((leastH xs 5).map fun s => [sv s])]) (H := []) (by rw [hfe]; exact Y)⟩
end Go.Proofs.YtmmfieceinmloaaGreatDoor
namespace Go.Proofs.YtmmfieceinmloaaGreatDoor
open Go.RowKit Go.PW
set_option linter.unusedVariables false
set_option linter.unusedSimpArgs false
set_option maxRecDepth 4000
theorem gl {l : List (List Value)} (h : ∀ e ∈ l, ∃ p : Pxy, e = p.cells) : ∀ e ∈ l, ∀ u ∈ e, u.oneCell' = true := by
 intro e he u hu
 obtain ⟨p, rfl⟩ := h e he
 simp only [Pxy.cells, List.mem_cons, List.not_mem_nil, or_false] at hu
 rcases hu with rfl | rfl | rfl | rfl | rfl | rfl | rfl <;> rfl
theorem ja {a n c : Int} {w0 : World} (h : pickI a n = c) (ha : i64 a) (hn : 0 < n ∧ n ≤ 9223372036854775807) : Ret Tryz.prog 11 #[iv a, iv n] w0 fun v w => v = iv c ∧ Ext No w0 w := by
 subst h; exact nH a n w0 ha hn
theorem cJ {w : World} {v : Value} {sz : Nat} {els : List (List Value)} (h : SlAt w v sz els) : ∃ a n c, v = .slice a n c := by
 rcases h.2.2 with ⟨rfl, _⟩ | ⟨b, off, cap, rfl, _⟩
 ·exact ⟨_, _, _, rfl⟩
 ·exact ⟨_, _, _, rfl⟩
theorem oo {kv lv : Value} {ks : List By} {x : Wsh} {ps : List Pxy} {n t re ix : Int} {w0 : World} (hkv : SlAt w0 kv 1 (ks.map fun s => [sv s])) (hlv : SlAt w0 lv 7 (ps.map Pxy.cells)) (h : whyH ks x ps n t = (re, ix)) :
  Ret Tryz.prog 16 #[kv, .agg #[iv x.signer, iv x.holder, iv x.rf, iv x.rt, iv x.carrier, iv x.serial, iv x.sf, iv x.st, sv x.sig], lv, iv n, iv t] w0 fun v w => v = .tuple #[iv re, iv ix] ∧ Ext No w0 w := by
 have := lP kv lv ks x ps n t w0 hkv hlv
 rw [h] at this
 exact this
theorem mz {kv lv : Value} {ks : List By} {x : Wsh} {ps : List Pxy} {n t : Int} {b : Bool} {w0 : World} (hkv : SlAt w0 kv 1 (ks.map fun s => [sv s])) (hlv : SlAt w0 lv 7 (ps.map Pxy.cells)) (h : validH ks x ps n t = b) :
  Ret Tryz.prog 18 #[kv, .agg #[iv x.signer, iv x.holder, iv x.rf, iv x.rt, iv x.carrier, iv x.serial, iv x.sf, iv x.st, sv x.sig], lv, iv n, iv t] w0 fun v w => v = .bool b ∧ Ext No w0 w := by
 have := mn kv lv ks x ps n t w0 hkv hlv
 rw [h] at this
 exact this
theorem mV {lv : Value} {x : Wsh} {ps : List Pxy} {b : Bool} {w0 : World} (hlv : SlAt w0 lv 7 (ps.map Pxy.cells)) (h : bI x ps = b) : Ret Tryz.prog 19 #[.agg #[iv x.signer, iv x.holder, iv x.rf, iv x.rt, iv x.carrier, iv x.serial, iv x.sf, iv x.st, sv x.sig], lv] w0 fun v w => v = .bool b ∧ Ext No w0 w := by
 have := i4 x lv ps w0 hlv
 rw [gG, h] at this
 exact this
theorem kP {lv : Value} {x : Wsh} {ps : List Pxy} {b : Bool} {w0 : World} (hlv : SlAt w0 lv 7 (ps.map Pxy.cells)) (h : bI x ps = b) : Ret Tryz.prog 20 #[.agg #[iv x.signer, iv x.holder, iv x.rf, iv x.rt, iv x.carrier, iv x.serial, iv x.sf, iv x.st, sv x.sig], lv] w0 fun v w => v = .bool b ∧ Ext No w0 w := by
 have := lu x lv ps w0 hlv
 rw [h] at this
 exact this
theorem qd {key : By} {x : Wsh} {z : Wsh × Int} {w0 : World} (h : sgW key x = z) (hk0 : (blk 0 (kOf.map wv) 239).ok w0) : Ret Tryz.prog 22 #[sv key, .agg #[iv x.signer, iv x.holder, iv x.rf, iv x.rt, iv x.carrier, iv x.serial, iv x.sf, iv x.st, sv x.sig]] w0 fun v w => v = .tuple #[.agg #[iv z.1.signer, iv z.1.holder, iv z.1.rf, iv z.1.rt, iv z.1.carrier, iv z.1.serial, iv z.1.sf, iv z.1.st, sv z.1.sig], iv z.2] ∧ Ext No w0 w := by subst h; exact sgwish key x w0 hk0
theorem pp {key : By} {x : Wsh} {z : Wsh × Int} {w0 : World} (h : sgW key x = z) : Ret Tryz.prog 23 #[sv key, .agg #[iv x.signer, iv x.holder, iv x.rf, iv x.rt, iv x.carrier, iv x.serial, iv x.sf, iv x.st, sv x.sig]] w0 fun v w => v = .tuple #[.agg #[iv z.1.signer, iv z.1.holder, iv z.1.rf, iv z.1.rt, iv z.1.carrier, iv z.1.serial, iv z.1.sf, iv z.1.st, sv z.1.sig], iv z.2] ∧ Ext No w0 w := by subst h; exact o7 key x w0
theorem pO {key : By} {x : Pxy} {z : Pxy × Int} {w0 : World} (h : sgP key x = z) (hk0 : (blk 0 (kOf.map wv) 239).ok w0) : Ret Tryz.prog 24 #[sv key, .agg #[iv x.frm, iv x.to, iv x.rf, iv x.rt, iv x.sf, iv x.st, sv x.sig]] w0 fun v w => v = .tuple #[.agg #[iv z.1.frm, iv z.1.to, iv z.1.rf, iv z.1.rt, iv z.1.sf, iv z.1.st, sv z.1.sig], iv z.2] ∧ Ext No w0 w := by subst h; exact py key x w0 hk0
theorem oI {key : By} {x : Pxy} {z : Pxy × Int} {w0 : World} (h : sgP key x = z) : Ret Tryz.prog 25 #[sv key, .agg #[iv x.frm, iv x.to, iv x.rf, iv x.rt, iv x.sf, iv x.st, sv x.sig]] w0 fun v w => v = .tuple #[.agg #[iv z.1.frm, iv z.1.to, iv z.1.rf, iv z.1.rt, iv z.1.sf, iv z.1.st, sv z.1.sig], iv z.2] ∧ Ext No w0 w := by subst h; exact ne key x w0
set_option maxHeartbeats 4000000 in
theorem jd (holder r0 r1 s0 s1 carrier serial : Int) (cv : Value) (ys : List Cin) (how n at_ number t : Int) (o : Wsh) (rv kx : Value) (rs : List Pxy) (ks2 : List By) (w0 : World) (hcv : SlAt w0 cv 5 (ys.map Cin.cells)) (hys : ∀ y ∈ ys, y.wt) (h0 : i64 holder) (h1 : i64 r0) (h2 : i64 r1) (h3 : i64 s0) (h4 : i64 s1) (h5 : i64 carrier) (h6 : i64 serial) (hk0 : (blk 0 (kOf.map wv) 239).ok w0) (h7 : i64 how) (h8 : i64 n) (h9 : i64 at_) (h12 : i64 number) (h13 : i64 t) (hrv : SlAt w0 rv 7 (rs.map Pxy.cells)) (hkx : SlAt w0 kx 1 (ks2.map fun s => [sv s])) :
  Ret Tryz.prog 3 #[.agg #[iv holder, iv r0, iv r1, iv s0, iv s1, iv carrier, iv serial, cv], iv how, iv n, iv at_, .agg #[iv o.signer, iv o.holder, iv o.rf, iv o.rt, iv o.carrier, iv o.serial, iv o.sf, iv o.st, sv o.sig], rv, iv number, iv t, kx] w0 fun v w => v = .bool true ∧ Ext No w0 w := by
 obtain ⟨x, hx⟩ : ∃ x, madeW holder r0 r1 s0 s1 carrier serial ys = x := ⟨_, rfl⟩
 obtain ⟨ps, hps⟩ : ∃ ps, madeL holder r0 r1 s0 s1 ys = ps := ⟨_, rfl⟩
 have hmk : Mk x ps := by rw [← hx, ← hps]; exact oY _ _ _ _ _ _ _ _
 have hxo := hmk.ok
 have hxd := Wsh.ok_bnd hxo
 have hxg := hmk.sgn
 have hpl := hmk.len
 have hk10 := fD
 have h7a := h7.1
 have h7b := h7.2
 obtain ⟨bw, hbw⟩ : ∃ bw, bentW x how n = bw := ⟨_, rfl⟩
 obtain ⟨pn, hpn⟩ : ∃ z, pickI number 1100 = z := ⟨_, rfl⟩
 obtain ⟨pt, hpt⟩ : ∃ z, pickI t 1100 = z := ⟨_, rfl⟩
 have hpn1 := bd number (n := 1100) (by omega)
 have hpt1 := bd t (n := 1100) (by omega)
 obtain ⟨q11, hq11⟩ : ∃ q : Nat, pickI at_ 11 = (q : Int) := ⟨(pickI at_ 11).toNat, (Int.toNat_of_nonneg (bd at_ (by omega)).1).symm⟩
 have hq1 := bd at_ (n := 11) (by omega)
 refine aF Tryz.func3 rfl Tryz.ntmps3 (lb rfl) fun a Z => ?_
 replace Z : Fr 290 [(0, _), (1, _), (2, _), (3, _), (4, _), (5, _), (6, _), (7, _), (8, _)] [] a := Z
 replace Y : St No w0 [] w0 := St.init w0
 refine aa fun K1 hK1 => aY Z Y (by decide) rfl (cs := [iv holder, iv r0, iv r1, iv s0, iv s1, iv carrier, iv serial, cv]) rfl ?_
 clear Z Y
 intro a w1 Z Y
 refine aY Z Y (by decide) rfl (cs := [iv o.signer, iv o.holder, iv o.rf, iv o.rt, iv o.carrier, iv o.serial, iv o.sf, iv o.st, sv o.sig]) rfl ?_
 clear Z Y
 intro a w2 Z Y
 refine wla Z rfl fun a Z => ab (hK1 _ _ ?_)
 refine aa fun K2 hK2 => aA Z Y (by decide) Tryz.call8 rfl (pk _ (Y.keepb hk0)) ?_
 clear Z Y
 intro a w3 Z Y
 refine wla Z rfl fun a Z => ab (hK2 _ _ ?_)
 refine ai fun K3 hK3 => aa fun K4 hK4 => wlm Z rfl fun a Z => wlv Z ((bS rfl).asb (b' := false) rfl) fun a Z => ab (hK4 _ _ ?_)
 refine bE Z rfl ?_
 refine ax ?_
 refine hK3 _ _ ?_
 refine aa fun K5 hK5 => wlv Z (ar (Y.get (k := 1) rfl) rfl (Tryz.isAgg25 _) (Tryz.sizeOf25 _)) fun a Z => ch Z Y (by decide) Tryz.call9 rfl (pW hx hps (Y.arg hcv) hys h0 h1 h2 h3 h4 h5 h6) ?_
 clear Z Y
 intro a w4 x2 hp Z Y
 revert x2 hp Z Y; rintro pv1 hp Z Y
 clear hp
 replace Y : St No w0 [own pv1 40 7 (ps.map Pxy.cells), blk w1.heap.size [iv o.signer, iv o.holder, iv o.rf, iv o.rt, iv o.carrier, iv o.serial, iv o.sf, iv o.st, sv o.sig] 30, blk w0.heap.size [iv holder, iv r0, iv r1, iv s0, iv s1, iv carrier, iv serial, cv] 25] w4 := Y
 refine wlm Z rfl fun a Z => wlv Z (aD rfl rfl) fun a Z => wlv Z (aD rfl rfl) fun a Z => aK Z Y (by decide) (Tryz.zeroValue30 _) (cs := [iv 0, iv 0, iv 0, iv 0, iv 0, iv 0, iv 0, iv 0, .string (⟨#[]⟩)]) rfl ?_
 clear Z Y
 intro a w5 Z Y
 refine ap 0 Z Y rfl rfl rfl (Tryz.sizeOf30 _) rfl (lb rfl) (ds := [iv x.signer, iv x.holder, iv x.rf, iv x.rt, iv x.carrier, iv x.serial, iv x.sf, iv x.st, sv x.sig]) rfl rfl ?_
 clear Z Y
 intro a w6 Z Y
 refine wla Z rfl fun a Z => ab (hK5 _ _ ?_)
 replace Z : Fr 290 [(1, _), (2, _), (3, _), (5, _), (6, _), (7, _), (8, _), (13, _), (18, _), (19, _), (20, _), (21, _)] [] a := Z.pick [1, 2, 3, 5, 6, 7, 8, 13, 18, 19, 20, 21]
 replace Y : St No w0 [_, _, _] w6 := Y.mask [true, true, true, false]
 refine aa fun K6 hK6 => wlv Z (ar (Y.get (k := 0) rfl) rfl (Tryz.isAgg30 _) (Tryz.sizeOf30 _)) fun a Z => wlm Z rfl fun a Z => wlm Z rfl fun a Z => aA Z Y (by decide) Tryz.call10 rfl (qi hbw h7 (by omega) (by omega)) ?_
 clear Z Y
 intro a w7 Z Y
 refine wlm Z rfl fun a Z => wlv Z (aD rfl rfl) fun a Z => wlv Z (aD rfl rfl) fun a Z => aK Z Y (by decide) (Tryz.zeroValue30 _) (cs := [iv 0, iv 0, iv 0, iv 0, iv 0, iv 0, iv 0, iv 0, .string (⟨#[]⟩)]) rfl ?_
 clear Z Y
 intro a w8 Z Y
 refine ap 0 Z Y rfl rfl rfl (Tryz.sizeOf30 _) rfl (lb rfl) (ds := [iv bw.signer, iv bw.holder, iv bw.rf, iv bw.rt, iv bw.carrier, iv bw.serial, iv bw.sf, iv bw.st, sv bw.sig]) rfl rfl ?_
 clear Z Y
 intro a w9 Z Y
 refine wla Z rfl fun a Z => ab (hK6 _ _ ?_)
 replace Z : Fr 290 [(1, _), (2, _), (3, _), (5, _), (6, _), (7, _), (8, _), (13, _), (18, _), (19, _), (20, _), (21, _), (22, _)] [] a := Z.pick [1, 2, 3, 5, 6, 7, 8, 13, 18, 19, 20, 21, 22]
 refine aa fun K7 hK7 => aG (E := 40) (sz := 7) rfl [] (by kernel_rfl) (by simp) rfl (by decide) (by decide) Z Y ?_
 clear Z Y
 intro a w10 Z Y
 refine wlm Z rfl fun a Z => eC (i := 0) (sT := 31) (inf := Tryz.t40) (z := .agg #[iv 0, iv 0, iv 0, iv 0, iv 0, iv 0, .string (⟨#[]⟩)]) rfl rfl rfl (Y.ownAt (i := 3) rfl) Tryz.underlying31 rfl rfl rfl rfl (by decide) (by exact gl (by intro e he; first | (obtain ⟨p, _, rfl⟩ := List.mem_map.1 he; exact ⟨p, rfl⟩) | (obtain ⟨p, _, rfl⟩ := List.mem_map.1 (List.mem_of_mem_take he); exact ⟨p, rfl⟩) | (obtain ⟨p, _, rfl⟩ := List.mem_map.1 (List.mem_of_mem_drop he); exact ⟨p, rfl⟩))) (by have hby : Tryz.t40.bytes = 64 := rfl; have hbs : Tryz.t9.bytes = 16 := rfl; simp only [big, hby, hbs, List.length_append, List.length_map, List.length_cons, List.length_nil, cq]; omega) (by have hby : Tryz.t40.bytes = 64 := rfl; have hbs : Tryz.t9.bytes = 16 := rfl; simp only [big, hby, hbs, List.length_append, List.length_map, List.length_cons, List.length_nil, cq]; omega) (by decide) Z Y ?_
 clear Z Y
 intro a w11 s3 Z Y
 replace Y : St No w0 [own s3 40 7 ((ps).map Pxy.cells), blk w7.heap.size [iv bw.signer, iv bw.holder, iv bw.rf, iv bw.rt, iv bw.carrier, iv bw.serial, iv bw.sf, iv bw.st, sv bw.sig] 30, blk w4.heap.size [iv x.signer, iv x.holder, iv x.rf, iv x.rt, iv x.carrier, iv x.serial, iv x.sf, iv x.st, sv x.sig] 30, own pv1 40 7 (ps.map Pxy.cells), blk w1.heap.size [iv o.signer, iv o.holder, iv o.rf, iv o.rt, iv o.carrier, iv o.serial, iv o.sf, iv o.st, sv o.sig] 30] w11 := by simpa using Y
 refine wla Z rfl fun a Z => ab (hK7 _ _ ?_)
 refine ai fun K8 hK8 => aa fun K9 hK9 => wlm Z rfl fun a Z => wlv Z ((aN (sT := 31) (Y.ownAt (i := 0) rfl) rfl rfl (Tryz.runUnderlying31 _)).asi (m' := (ps.length : Int)) (by rw [List.length_map])) fun a Z => wlv Z (v_gt rfl rfl) fun a Z => ab (hK9 _ _ ?_)
 refine gc (fun a w => ∃ (ms : List Pxy), (ms.length = ps.length) ∧ Fr 290 [(3, iv at_), (5, rv), (6, iv number), (7, iv t), (8, kx), (13, Go.PW.pt w1.heap.size), (18, .bool false), (19, .bool true), (20, Go.PW.pt w4.heap.size), (21, pv1), (22, Go.PW.pt w7.heap.size), (24, s3)] [] a ∧ St No w0 [own s3 40 7 ((ms).map Pxy.cells), blk w7.heap.size [iv bw.signer, iv bw.holder, iv bw.rf, iv bw.rt, iv bw.carrier, iv bw.serial, iv bw.sf, iv bw.st, sv bw.sig] 30, blk w4.heap.size [iv x.signer, iv x.holder, iv x.rf, iv x.rt, iv x.carrier, iv x.serial, iv x.sf, iv x.st, sv x.sig] 30, own pv1 40 7 (ps.map Pxy.cells), blk w1.heap.size [iv o.signer, iv o.holder, iv o.rf, iv o.rt, iv o.carrier, iv o.serial, iv o.sf, iv o.st, sv o.sig] 30] w) ?_ ?_
 ·refine ay Z rfl (fun hc4 => ?_) (fun hc4 => ?_)
  ·rw [hc4] at Z
   try simp only [qz] at hc4
   obtain ⟨kk, hkk⟩ : ∃ kk : Nat, pickI at_ (ps.length : Int) = (kk : Int) := ⟨(pickI at_ (ps.length : Int)).toNat, (Int.toNat_of_nonneg (bd at_ (by omega)).1).symm⟩
   have hkb : kk < ps.length := by have := (bd at_ (n := (ps.length : Int)) (by omega)).2; omega
   have hmem := bR (d := Pxy.z) hkb
   obtain ⟨hpe1, hpe2, -, hpe4⟩ := hmk.each hmem
   have hpe5 := Pxy.ok_bnd hpe4
   obtain ⟨bq, hbq⟩ : ∃ bq, bentP (ps.getD kk Pxy.z) how n = bq := ⟨_, rfl⟩
   have hgq : (ps.set kk bq).getD kk Pxy.z = bq := by rw [List.getD_eq_getElem?_getD, List.getElem?_set_self hkb]; rfl
   refine aa fun K10 hK10 => wlm Z rfl fun a Z => wlm Z rfl fun a Z => wlv Z ((aN (sT := 31) (Y.ownAt (i := 0) rfl) rfl rfl (Tryz.runUnderlying31 _)).asi (m' := (ps.length : Int)) (by rw [List.length_map])) fun a Z => aA Z Y (by decide) Tryz.call11 rfl (ja hkk h9 (by omega)) ?_
   clear Z Y
   intro a w12 Z Y
   refine wla Z rfl fun a Z => ab (hK10 _ _ ?_)
   replace Z : Fr 290 [(1, _), (2, _), (3, _), (5, _), (6, _), (7, _), (8, _), (13, _), (18, _), (19, _), (20, _), (21, _), (22, _), (24, _), (25, _)] [] a := Z.pick [1, 2, 3, 5, 6, 7, 8, 13, 18, 19, 20, 21, 22, 24, 25]
   refine am <| wlm Z rfl fun a Z => wlm Z rfl fun a Z => wlm Z rfl fun a Z => wlm Z rfl fun a Z => wlv Z ((ak (i := (kk : Int)) (sT := 31) (Y.ownAt (i := 0) rfl) rfl rfl (Tryz.runUnderlying31 _) (Tryz.sizeOf40 _) (by omega) (by rw [List.length_map]; first | omega | (rw [List.length_set]; omega))).as (v' := slAddr s3 (kk * 7)) rfl) fun a Z => wlv Z ((bO (Y.ownAt (i := 0) rfl) (i := kk) (by rw [List.length_map]; first | omega | (rw [List.length_set]; omega)) rfl (Tryz.isAgg40 _) (Tryz.sizeOf40 _)).as (v' := .agg #[iv ((ps.getD kk Pxy.z).frm), iv ((ps.getD kk Pxy.z).to), iv ((ps.getD kk Pxy.z).rf), iv ((ps.getD kk Pxy.z).rt), iv ((ps.getD kk Pxy.z).sf), iv ((ps.getD kk Pxy.z).st), sv ((ps.getD kk Pxy.z).sig)]) (by rw [bp Pxy.z]; rfl)) fun a Z => wlm Z rfl fun a Z => wlm Z rfl fun a Z => aA Z Y (by decide) Tryz.call12 rfl (pf hbq h7 (by omega) (by omega)) ?_
   clear Z Y
   intro a w13 Z Y
   refine wlm Z rfl fun a Z => wlv Z (aD rfl rfl) fun a Z => wlv Z (aD rfl rfl) fun a Z => wlv Z ((ak (i := (kk : Int)) (sT := 31) (Y.ownAt (i := 0) rfl) rfl rfl (Tryz.runUnderlying31 _) (Tryz.sizeOf40 _) (by omega) (by rw [List.length_map]; first | omega | (rw [List.length_set]; omega))).as (v' := slAddr s3 (kk * 7)) rfl) fun a Z => fH (k := kk) (us := [iv bq.frm, iv bq.to, iv bq.rf, iv bq.rt, iv bq.sf, iv bq.st, sv bq.sig]) 0 Z Y rfl rfl rfl (by rw [List.length_map]; first | omega | (rw [List.length_set]; omega)) (by omega) (Tryz.sizeOf40 _) rfl (by first | rfl | simp [Value.oneCell', yv, wv, sv]) rfl rfl ?_
   clear Z Y
   intro a w14 Z Y
   refine ab ?_
   replace Y : St No w0 [own s3 40 7 ((ps.set kk bq).map Pxy.cells), blk w7.heap.size [iv bw.signer, iv bw.holder, iv bw.rf, iv bw.rt, iv bw.carrier, iv bw.serial, iv bw.sf, iv bw.st, sv bw.sig] 30, blk w4.heap.size [iv x.signer, iv x.holder, iv x.rf, iv x.rt, iv x.carrier, iv x.serial, iv x.sf, iv x.st, sv x.sig] 30, own pv1 40 7 (ps.map Pxy.cells), blk w1.heap.size [iv o.signer, iv o.holder, iv o.rf, iv o.rt, iv o.carrier, iv o.serial, iv o.sf, iv o.st, sv o.sig] 30] w14 := by rw [List.map_set]; exact Y
   exact ⟨ps.set kk bq, (by rw [List.length_set]), Z.pick [3, 5, 6, 7, 8, 13, 18, 19, 20, 21, 22, 24], Y.select [0, 1, 2, 3, 4] (by decide)⟩
  rw [hc4] at Z
  try simp only [qz] at hc4
  refine ax ?_
  exact ⟨ps, rfl, Z.pick [3, 5, 6, 7, 8, 13, 18, 19, 20, 21, 22, 24], Y.select [0, 1, 2, 3, 4] (by decide)⟩
 rintro a w15 ⟨ms, hml, Z, Y⟩
 refine hK8 _ _ ?_
 refine ai fun K11 hK11 => aM (by kernel_rfl) (aO (by kernel_rfl) fun w16 hxz => ?_)
 replace Y := Y.grow hxz
 refine aX (k := 0) 17 [0, 1, 6, 11, 16] Z (by kernel_rfl) (by kernel_rfl) (by kernel_rfl) (by rfl) ?_
 replace Z : Fr 290 [(3, _), (5, _), (6, _), (7, _), (8, _), (13, _), (18, _), (19, _), (20, _), (21, _), (22, _), (24, _)] [] a := Z.pick [3, 5, 6, 7, 8, 13, 18, 19, 20, 21, 22, 24]
 refine fS 12 14 16 (fun v => own v 40 7 ([])) (fun v => own v 40 7 (([]) ++ ((ps).map Pxy.cells))) (fun v => own v 40 7 ((([]) ++ ((ps).map Pxy.cells)) ++ ((ps).map Pxy.cells))) 17 [[], [], [], [], [3], [4], [2, 5], [], [], [8], [9], [7, 10], [], [], [12, 13], [], [14, 15]] (fun i => match i with | 0 => pv (pv1) | 1 => pv (s3) | 2 => pv (rv) | 3 => pv (rv) | 4 => pv (iv (rs.length : Int)) | 5 => pv (iv (min (rs.length : Int) 5)) | 6 => pv ((cut rv 7 0 (min rs.length 5) (slCap rv))) | 7 => pv (pv1) | 8 => pv (pv1) | 9 => pv (iv (ps.length : Int)) | 10 => pv (iv ((ps.length : Int) / 2)) | 11 => pv ((cut pv1 7 0 (ps.length / 2) (slCap pv1))) | 12 => fun v E => E = [] | 13 => pv (pv1) | 14 => fun v E => E = [] | 15 => pv (pv1) | 16 => fun v E => E = [] | _ => fun _ _ => False) Z Y (by kernel_rfl) (by kernel_rfl) (by kernel_rfl) (by decide) (by decide) (by decide) (by decide) ?_ ?_ ?_ ?_ ?_ ?_
 ·intro i v E h
  match i, h with
  | 0, _ => exact by decide
  | 1, _ => exact by decide
  | 2, _ => exact by decide
  | 3, _ => exact by decide
  | 4, _ => exact by decide
  | 5, _ => exact by decide
  | 6, _ => exact by decide
  | 7, _ => exact by decide
  | 8, _ => exact by decide
  | 9, _ => exact by decide
  | 10, _ => exact by decide
  | 11, _ => exact by decide
  | 12, _ => exact by decide
  | 13, _ => exact by decide
  | 14, _ => exact by decide
  | 15, _ => exact by decide
  | 16, _ => exact by decide
  | i + 17, h => exact h.elim
 ·intro i hi h0 h1 h2 e
  match i, hi, h0, h1, h2 with
  | 0, _, _, _, _ =>
   intro w Y
   exact OpV.g (al rfl)
  | 1, _, _, _, _ =>
   intro w Y
   exact OpV.g (al rfl)
  | 2, _, _, _, _ =>
   intro w Y
   exact OpV.g (al rfl)
  | 3, _, _, _, _ =>
   intro w Y
   exact OpV.g (al rfl)
  | 4, _, _, _, _ =>
   rintro _ _ ⟨rfl, rfl⟩
   intro w Y
   exact OpV.g ((aN (sT := 31) (Y.arg hrv) rfl rfl (Tryz.runUnderlying31 _)).asi (m' := (rs.length : Int)) (by rw [List.length_map]))
  | 5, _, _, _, _ =>
   rintro _ _ ⟨rfl, rfl⟩
   intro w Y
   exact OpV.g (kZ rfl rfl)
  | 6, _, _, _, _ =>
   rintro _ _ ⟨rfl, rfl⟩ _ _ ⟨rfl, rfl⟩
   intro w Y
   exact OpV.g (dS (l := 0) (h := (min rs.length 5)) (Y.arg hrv) rfl rfl rfl Tryz.underlying31 (by kernel_rfl) (.inl ⟨rfl, rfl⟩) (.inr (by rw [show (min (rs.length : Int) 5 : Int) = (((min rs.length 5) : Nat) : Int) from by omega] <;> rfl)) (Nat.zero_le _) (by first | (rw [List.length_map]; omega) | (simp <;> omega)))
  | 7, _, _, _, _ =>
   intro w Y
   exact OpV.g (al rfl)
  | 8, _, _, _, _ =>
   intro w Y
   exact OpV.g (al rfl)
  | 9, _, _, _, _ =>
   rintro _ _ ⟨rfl, rfl⟩
   intro w Y
   exact OpV.g ((aN (sT := 31) (Y.ownAt (i := 4) rfl) rfl rfl (Tryz.runUnderlying31 _)).asi (m' := (ps.length : Int)) (by rw [List.length_map]))
  | 10, _, _, _, _ =>
   rintro _ _ ⟨rfl, rfl⟩
   intro w Y
   exact OpV.g (v_quo rfl rfl (by omega) (by omega) (by omega))
  | 11, _, _, _, _ =>
   rintro _ _ ⟨rfl, rfl⟩ _ _ ⟨rfl, rfl⟩
   intro w Y
   exact OpV.g (dS (l := 0) (h := (ps.length / 2)) (Y.ownAt (i := 4) rfl) rfl rfl rfl Tryz.underlying31 (by kernel_rfl) (.inl ⟨rfl, rfl⟩) (.inr (by rw [show ((ps.length : Int) / 2 : Int) = (((ps.length / 2) : Nat) : Int) from by omega] <;> rfl)) (Nat.zero_le _) (by first | (rw [List.length_map]; omega) | (simp <;> omega)))
  | 12, _, h, _, _ => exact absurd rfl h
  | 13, _, _, _, _ =>
   intro w Y
   exact OpV.g (al rfl)
  | 14, _, _, h, _ => exact absurd rfl h
  | 15, _, _, _, _ =>
   intro w Y
   exact OpV.g (al rfl)
  | 16, _, _, _, h => exact absurd rfl h
  | i + 17, h, _, _, _ => exact absurd h (by omega)
 ·intro w Y
  exact OpR.to_own (f := fun b : Nat => .slice (some ⟨b, 0, none⟩) 0 0) (e := fun v => own v 40 7 []) (bU (E := 40) (sz := 7) rfl [] (fun _ => by kernel_rfl) (by simp) rfl (by decide)) (fun v => rfl)
 ·rintro s5 _ rfl _ _ ⟨rfl, rfl⟩
  intro w Y
  replace Y : St No w0 (own s5 40 7 ([]) :: _) w := Y
  exact (dJ (Y.get (k := 0) rfl) rfl rfl (Y.ownAt (i := 4) rfl) Tryz.underlying31 (inf := Tryz.t40) (z := .agg #[iv 0, iv 0, iv 0, iv 0, iv 0, iv 0, .string (⟨#[]⟩)]) rfl rfl rfl rfl (by decide) (by exact gl (by intro e he; first | (obtain ⟨p, _, rfl⟩ := List.mem_map.1 he; exact ⟨p, rfl⟩) | (obtain ⟨p, _, rfl⟩ := List.mem_map.1 (List.mem_of_mem_take he); exact ⟨p, rfl⟩) | (obtain ⟨p, _, rfl⟩ := List.mem_map.1 (List.mem_of_mem_drop he); exact ⟨p, rfl⟩))) (by have hby : Tryz.t40.bytes = 64 := rfl; have hbs : Tryz.t9.bytes = 16 := rfl; simp only [big, hby, hbs, List.length_append, List.length_map, List.length_cons, List.length_nil, cq]; omega) (by have hby : Tryz.t40.bytes = 64 := rfl; have hbs : Tryz.t9.bytes = 16 := rfl; simp only [big, hby, hbs, List.length_append, List.length_map, List.length_cons, List.length_nil, cq]; omega)).mono fun v w' ⟨h1, h2, h3⟩ => ⟨h1, h2, h3, rfl⟩
 ·rintro s6 _ rfl _ _ ⟨rfl, rfl⟩
  intro w Y
  replace Y : St No w0 (own s6 40 7 (([]) ++ ((ps).map Pxy.cells)) :: _) w := Y
  exact (dJ (Y.get (k := 0) rfl) rfl rfl (Y.ownAt (i := 4) rfl) Tryz.underlying31 (inf := Tryz.t40) (z := .agg #[iv 0, iv 0, iv 0, iv 0, iv 0, iv 0, .string (⟨#[]⟩)]) rfl rfl rfl rfl (by decide) (by exact gl (by intro e he; first | (obtain ⟨p, _, rfl⟩ := List.mem_map.1 he; exact ⟨p, rfl⟩) | (obtain ⟨p, _, rfl⟩ := List.mem_map.1 (List.mem_of_mem_take he); exact ⟨p, rfl⟩) | (obtain ⟨p, _, rfl⟩ := List.mem_map.1 (List.mem_of_mem_drop he); exact ⟨p, rfl⟩))) (by have hby : Tryz.t40.bytes = 64 := rfl; have hbs : Tryz.t9.bytes = 16 := rfl; simp only [big, hby, hbs, List.length_append, List.length_map, List.length_cons, List.length_nil, cq]; omega) (by have hby : Tryz.t40.bytes = 64 := rfl; have hbs : Tryz.t9.bytes = 16 := rfl; simp only [big, hby, hbs, List.length_append, List.length_map, List.length_cons, List.length_nil, cq]; omega)).mono fun v w' ⟨h1, h2, h3⟩ => ⟨h1, h2, h3, rfl⟩
 clear Z Y
 rintro vq _ _ ⟨⟨rfl, rfl⟩, -⟩ _ _ ⟨⟨rfl, rfl⟩, -⟩ _ _ ⟨⟨rfl, rfl⟩, -⟩ _ _ ⟨⟨rfl, rfl⟩, -⟩ _ _ ⟨⟨rfl, rfl⟩, -⟩ _ _ ⟨⟨rfl, rfl⟩, -⟩ _ _ ⟨⟨rfl, rfl⟩, -⟩ _ _ ⟨⟨rfl, rfl⟩, -⟩ _ _ ⟨⟨rfl, rfl⟩, -⟩ _ _ ⟨⟨rfl, rfl⟩, -⟩ _ _ ⟨⟨rfl, rfl⟩, -⟩ _ _ ⟨⟨rfl, rfl⟩, -⟩ s5 _ ⟨rfl, -⟩ _ _ ⟨⟨rfl, rfl⟩, -⟩ s6 _ ⟨rfl, -⟩ _ _ ⟨⟨rfl, rfl⟩, -⟩ s7 _ ⟨rfl, hvq⟩ a w17 Z Y
 obtain rfl := hvq rfl
 replace Z : Fr 290 [(88, _), (89, _), (90, _), (91, _), (92, _), (93, _), (94, _), (95, _), (96, _), (97, _), (98, _), (99, _), (100, _), (101, _), (102, _), (103, _), (104, _), (3, _), (5, _), (6, _), (7, _), (8, _), (13, _), (18, _), (19, _), (20, _), (21, _), (22, _), (24, _)] [] a := Z
 replace Y : St No w0 [own s7 40 7 ((([]) ++ ((ps).map Pxy.cells)) ++ ((ps).map Pxy.cells)), own s3 40 7 ((ms).map Pxy.cells), blk w7.heap.size [iv bw.signer, iv bw.holder, iv bw.rf, iv bw.rt, iv bw.carrier, iv bw.serial, iv bw.sf, iv bw.st, sv bw.sig] 30, blk w4.heap.size [iv x.signer, iv x.holder, iv x.rf, iv x.rt, iv x.carrier, iv x.serial, iv x.sf, iv x.st, sv x.sig] 30, own pv1 40 7 (ps.map Pxy.cells), blk w1.heap.size [iv o.signer, iv o.holder, iv o.rf, iv o.rt, iv o.carrier, iv o.serial, iv o.sf, iv o.st, sv o.sig] 30] w17 := Y
 refine ab <| aQ (k := 17) 19 [18] (by kernel_rfl) (by kernel_rfl) (by kernel_rfl) ?_
 refine aG (E := 31) (sz := 1) rfl [[pv1], [s3], [(cut rv 7 0 (min rs.length 5) (slCap rv))], [(cut pv1 7 0 (ps.length / 2) (slCap pv1))], [s7]] (by obtain ⟨_, _, _, e0_⟩ := cJ (Y.ownAt (i := 4) rfl); obtain ⟨_, _, _, e1_⟩ := cJ (Y.ownAt (i := 1) rfl); obtain ⟨_, _, _, e2_⟩ := cJ (Y.arg hrv); obtain ⟨_, _, _, e3_⟩ := cJ (Y.ownAt (i := 0) rfl); rw [e0_, e1_, e2_, e3_]; kernel_rfl) (by simp) rfl (by decide) (by decide) Z Y ?_
 clear Z Y
 intro a w18 Z Y
 refine wla Z rfl fun a Z => ab ?_
 refine aZ (by kernel_rfl) ?_
 refine hK11 _ _ ?_
 replace Z : Fr 290 [(3, _), (6, _), (7, _), (8, _), (13, _), (18, _), (19, _), (20, _), (22, _), (24, _), (26, _)] [] a := Z.pick [3, 6, 7, 8, 13, 18, 19, 20, 22, 24, 26]
 refine ai fun K12 hK12 => ?_
 replace Y : St No w0 [own (.slice (some ⟨w17.heap.size, 0, none⟩) 5 5) 31 1 ([[pv1], [s3], [(cut rv 7 0 (min rs.length 5) (slCap rv))], [(cut pv1 7 0 (ps.length / 2) (slCap pv1))], [s7]]), own s7 40 7 ((ps ++ ps).map Pxy.cells), own s3 40 7 ((ms).map Pxy.cells), blk w7.heap.size [iv bw.signer, iv bw.holder, iv bw.rf, iv bw.rt, iv bw.carrier, iv bw.serial, iv bw.sf, iv bw.st, sv bw.sig] 30, blk w4.heap.size [iv x.signer, iv x.holder, iv x.rf, iv x.rt, iv x.carrier, iv x.serial, iv x.sf, iv x.st, sv x.sig] 30, own pv1 40 7 (ps.map Pxy.cells), blk w1.heap.size [iv o.signer, iv o.holder, iv o.rf, iv o.rt, iv o.carrier, iv o.serial, iv o.sf, iv o.st, sv o.sig] 30] w18 := by simpa using Y
 refine aa fun K13 hK13 => wlv Z (ar (Y.get (k := 4) rfl) rfl (Tryz.isAgg30 _) (Tryz.sizeOf30 _)) fun a Z => wlv Z (ar (Y.get (k := 3) rfl) rfl (Tryz.isAgg30 _) (Tryz.sizeOf30 _)) fun a Z => wlv Z (ar (Y.get (k := 6) rfl) rfl (Tryz.isAgg30 _) (Tryz.sizeOf30 _)) fun a Z => aG (E := 30) (sz := 9) rfl [[iv x.signer, iv x.holder, iv x.rf, iv x.rt, iv x.carrier, iv x.serial, iv x.sf, iv x.st, sv x.sig], [iv bw.signer, iv bw.holder, iv bw.rf, iv bw.rt, iv bw.carrier, iv bw.serial, iv bw.sf, iv bw.st, sv bw.sig], [iv o.signer, iv o.holder, iv o.rf, iv o.rt, iv o.carrier, iv o.serial, iv o.sf, iv o.st, sv o.sig]] (by kernel_rfl) (by simp) rfl (by decide) (by decide) Z Y ?_
 clear Z Y
 intro a w19 Z Y
 refine wlv Z ((aN (sT := 44) (Y.ownAt (i := 0) rfl) rfl rfl (Tryz.runUnderlying44 _)).asi (m' := 3) (by rfl)) fun a Z => wlm Z rfl fun a Z => ab (hK13 _ _ ?_)
 refine aq ?_
 obtain ⟨zs, hzs⟩ : ∃ zs : List Wsh, zs = [x, bw, o] := ⟨_, rfl⟩
 have hzl : zs.length = 3 := by rw [hzs]; rfl
 replace Y : St No w0 [own (.slice (some ⟨w18.heap.size, 0, none⟩) 3 3) 30 9 ((zs).map Wsh.cells), own (.slice (some ⟨w17.heap.size, 0, none⟩) 5 5) 31 1 ([[pv1], [s3], [(cut rv 7 0 (min rs.length 5) (slCap rv))], [(cut pv1 7 0 (ps.length / 2) (slCap pv1))], [s7]]), own s7 40 7 ((ps ++ ps).map Pxy.cells), own s3 40 7 ((ms).map Pxy.cells), blk w7.heap.size [iv bw.signer, iv bw.holder, iv bw.rf, iv bw.rt, iv bw.carrier, iv bw.serial, iv bw.sf, iv bw.st, sv bw.sig] 30, blk w4.heap.size [iv x.signer, iv x.holder, iv x.rf, iv x.rt, iv x.carrier, iv x.serial, iv x.sf, iv x.st, sv x.sig] 30, own pv1 40 7 (ps.map Pxy.cells), blk w1.heap.size [iv o.signer, iv o.holder, iv o.rf, iv o.rt, iv o.carrier, iv o.serial, iv o.sf, iv o.st, sv o.sig] 30] w19 := by rw [hzs]; exact Y
 obtain ⟨lls, hlls⟩ : ∃ lls : List Value, lls = [pv1, s3, (cut rv 7 0 (min rs.length 5) (slCap rv)), (cut pv1 7 0 (ps.length / 2) (slCap pv1)), s7] := ⟨_, rfl⟩
 have hlll : lls.length = 5 := by rw [hlls]; rfl
 replace Y : St No w0 [own (.slice (some ⟨w18.heap.size, 0, none⟩) 3 3) 30 9 ((zs).map Wsh.cells), own (.slice (some ⟨w17.heap.size, 0, none⟩) 5 5) 31 1 ((lls).map fun z : Value => [z]), own s7 40 7 ((ps ++ ps).map Pxy.cells), own s3 40 7 ((ms).map Pxy.cells), blk w7.heap.size [iv bw.signer, iv bw.holder, iv bw.rf, iv bw.rt, iv bw.carrier, iv bw.serial, iv bw.sf, iv bw.st, sv bw.sig] 30, blk w4.heap.size [iv x.signer, iv x.holder, iv x.rf, iv x.rt, iv x.carrier, iv x.serial, iv x.sf, iv x.st, sv x.sig] 30, own pv1 40 7 (ps.map Pxy.cells), blk w1.heap.size [iv o.signer, iv o.holder, iv o.rf, iv o.rt, iv o.carrier, iv o.serial, iv o.sf, iv o.st, sv o.sig] 30] w19 := by rw [hlls]; exact Y
 obtain ⟨pss, hpss⟩ : ∃ pss : List (List Pxy), pss = [ps, ms, rs.take (min rs.length 5), ps.take (ps.length / 2), ps ++ ps] := ⟨_, rfl⟩
 have hls : ∀ j, j < 5 → SlAt w19 (lls.getD j (.slice none 0 0)) 7 ((pss.getD j []).map Pxy.cells) := by
  intro j hj
  rcases j with _ | _ | _ | _ | _ | j
  ·exact (by rw [hlls, hpss]; exact (Y.ownAt (i := 6) rfl))
  ·exact (by rw [hlls, hpss]; exact (Y.ownAt (i := 3) rfl))
  ·exact (by rw [hlls, hpss]; exact ((Y.arg hrv).cut0 (h := (min rs.length 5)) (by first | omega | (rw [List.length_reverse]; omega) | simp | (simp; omega))))
  ·exact (by rw [hlls, hpss]; exact ((Y.ownAt (i := 6) rfl).cut0 (h := (ps.length / 2)) (by first | omega | (rw [List.length_reverse]; omega) | simp | (simp; omega))))
  ·exact (by rw [hlls, hpss]; exact (Y.ownAt (i := 2) rfl))
  ·omega
 have huz8 := Y
 have hfz8_0 : SlAt w19 (.slice (some ⟨w18.heap.size, 0, none⟩) 3 3) 9 ((zs).map Wsh.cells) := Y.ownAt (i := 0) rfl
 have hfz8_1 : SlAt w19 (.slice (some ⟨w17.heap.size, 0, none⟩) 5 5) 1 ((lls).map fun z : Value => [z]) := Y.ownAt (i := 1) rfl
 have hfz8_2 : SlAt w19 s7 7 ((ps ++ ps).map Pxy.cells) := Y.ownAt (i := 2) rfl
 have hfz8_3 : SlAt w19 s3 7 ((ms).map Pxy.cells) := Y.ownAt (i := 3) rfl
 have hfz8_4 : (blk w7.heap.size [iv bw.signer, iv bw.holder, iv bw.rf, iv bw.rt, iv bw.carrier, iv bw.serial, iv bw.sf, iv bw.st, sv bw.sig] 30).ok w19 := Y.get (k := 4) rfl
 have hfz8_5 : (blk w4.heap.size [iv x.signer, iv x.holder, iv x.rf, iv x.rt, iv x.carrier, iv x.serial, iv x.sf, iv x.st, sv x.sig] 30).ok w19 := Y.get (k := 5) rfl
 have hfz8_6 : SlAt w19 pv1 7 (ps.map Pxy.cells) := Y.ownAt (i := 6) rfl
 have hfz8_7 : (blk w1.heap.size [iv o.signer, iv o.holder, iv o.rf, iv o.rt, iv o.carrier, iv o.serial, iv o.sf, iv o.st, sv o.sig] 30).ok w19 := Y.get (k := 7) rfl
 have hsz8_8 : SlAt w19 kx 1 ((ks2).map fun s => [sv s]) := (Y.arg hkx)
 have hk0z8 := hk0
 have hk0 := Y.keepb hk0
 replace Y : St No w19 [] w19 := St.init w19
 refine aW (fun m a w => ∃ (k0 : Nat), m = 3 - k0 ∧ (k0 ≤ 3) ∧ Fr 290 [(3, iv at_), (6, iv number), (7, iv t), (8, kx), (19, .bool true), (20, Go.PW.pt w4.heap.size), (24, s3), (26, (.slice (some ⟨w17.heap.size, 0, none⟩) 5 5)), (109, (.slice (some ⟨w18.heap.size, 0, none⟩) 3 3)), (110, iv 3), (111, iv (k0 : Int))] [] a ∧ St No w19 [] w) _ ⟨0, rfl, Nat.zero_le _, Z.pick [3, 6, 7, 8, 19, 20, 24, 26, 109, 110, 111], Y.select [] (by decide)⟩ ?_
 rintro _ a w20 ⟨k0, rfl, hk0x, Z, Y⟩
 refine aa fun K14 hK14 => wlv Z (v_lt rfl rfl) fun a Z => ab (hK14 _ _ ?_)
 refine ai fun K15 hK15 => ?_
 refine ay Z rfl (fun hc9 => ?_) (fun hc9 => ?_)
 ·rw [hc9] at Z
  try simp only [qz] at hc9
  refine ax ?_
  refine hK15 _ _ ?_
  refine ai fun K16 hK16 => aq ?_
  refine aa fun K17 hK17 => wlv Z ((ak (i := (k0 : Int)) (sT := 44) (Y.arg hfz8_0) rfl rfl (Tryz.runUnderlying44 _) (Tryz.sizeOf30 _) (by omega) (by rw [List.length_map]; first | omega | (rw [List.length_set]; omega))).as (v' := slAddr (.slice (some ⟨w18.heap.size, 0, none⟩) 3 3) (k0 * 9)) rfl) fun a Z => wlv Z ((bO (Y.arg hfz8_0) (i := k0) (by rw [List.length_map]; first | omega | (rw [List.length_set]; omega)) rfl (Tryz.isAgg30 _) (Tryz.sizeOf30 _)).as (v' := .agg #[iv ((zs.getD k0 exZ).signer), iv ((zs.getD k0 exZ).holder), iv ((zs.getD k0 exZ).rf), iv ((zs.getD k0 exZ).rt), iv ((zs.getD k0 exZ).carrier), iv ((zs.getD k0 exZ).serial), iv ((zs.getD k0 exZ).sf), iv ((zs.getD k0 exZ).st), sv ((zs.getD k0 exZ).sig)]) (by rw [bp exZ]; rfl)) fun a Z => aK Z Y (by decide) (Tryz.zeroValue30 _) (cs := [iv 0, iv 0, iv 0, iv 0, iv 0, iv 0, iv 0, iv 0, .string (⟨#[]⟩)]) rfl ?_
  clear Z Y
  intro a w21 Z Y
  refine ap 0 Z Y rfl rfl rfl (Tryz.sizeOf30 _) rfl (lb rfl) (ds := [iv ((zs.getD k0 exZ).signer), iv ((zs.getD k0 exZ).holder), iv ((zs.getD k0 exZ).rf), iv ((zs.getD k0 exZ).rt), iv ((zs.getD k0 exZ).carrier), iv ((zs.getD k0 exZ).serial), iv ((zs.getD k0 exZ).sf), iv ((zs.getD k0 exZ).st), sv ((zs.getD k0 exZ).sig)]) rfl rfl ?_
  clear Z Y
  intro a w22 Z Y
  refine ab (hK17 _ _ ?_)
  refine ai fun K18 hK18 => aa fun K19 hK19 => wlm Z rfl fun a Z => wlv Z ((aN (sT := 43) (Y.arg hfz8_1) rfl rfl (Tryz.runUnderlying43 _)).asi (m' := 5) (by rw [List.length_map, hlll]; rfl)) fun a Z => wlm Z rfl fun a Z => ab (hK19 _ _ ?_)
  refine aq <| aW (fun m a w => ∃ (k2 : Nat), m = 5 - k2 ∧ (k2 ≤ 5) ∧ Fr 290 [(3, iv at_), (6, iv number), (7, iv t), (8, kx), (19, .bool true), (20, Go.PW.pt w4.heap.size), (24, s3), (26, (.slice (some ⟨w17.heap.size, 0, none⟩) 5 5)), (109, (.slice (some ⟨w18.heap.size, 0, none⟩) 3 3)), (110, iv 3), (111, iv (k0 : Int)), (28, Go.PW.pt w20.heap.size), (115, (.slice (some ⟨w17.heap.size, 0, none⟩) 5 5)), (116, iv 5), (117, iv (k2 : Int))] [] a ∧ St No w19 [blk w20.heap.size [iv ((zs.getD k0 exZ).signer), iv ((zs.getD k0 exZ).holder), iv ((zs.getD k0 exZ).rf), iv ((zs.getD k0 exZ).rt), iv ((zs.getD k0 exZ).carrier), iv ((zs.getD k0 exZ).serial), iv ((zs.getD k0 exZ).sf), iv ((zs.getD k0 exZ).st), sv ((zs.getD k0 exZ).sig)] 30] w) _ ⟨0, rfl, Nat.zero_le _, Z.pick [3, 6, 7, 8, 19, 20, 24, 26, 109, 110, 111, 28, 115, 116, 117], Y.select [0] (by decide)⟩ ?_
  rintro _ a w23 ⟨k2, rfl, hk2, Z, Y⟩
  refine aa fun K20 hK20 => wlv Z (v_lt rfl rfl) fun a Z => ab (hK20 _ _ ?_)
  refine ai fun K21 hK21 => ?_
  refine ay Z rfl (fun hc10 => ?_) (fun hc10 => ?_)
  ·rw [hc10] at Z
   try simp only [qz] at hc10
   refine ax ?_
   refine hK21 _ _ ?_
   refine ai fun K22 hK22 => aq ?_
   refine aa fun K23 hK23 => wlv Z ((ak (i := (k2 : Int)) (sT := 43) (Y.arg hfz8_1) rfl rfl (Tryz.runUnderlying43 _) (Tryz.sizeOf31 _) (by omega) (by rw [List.length_map]; first | omega | (rw [List.length_set]; omega))).as (v' := slAddr (.slice (some ⟨w17.heap.size, 0, none⟩) 5 5) (k2 * 1)) rfl) fun a Z => wlv Z (aC (u := (lls.getD k2 (.slice none 0 0))) (i := k2) (j := 0) (Y.arg hfz8_1) (by rw [List.length_map]; first | omega | (rw [List.length_set]; omega)) rfl (Tryz.isAgg31 _) (by rw [bp (.slice none 0 0)]; rfl)) fun a Z => wla Z rfl fun a Z => ab (hK23 _ _ ?_)
   refine ai fun K24 hK24 => aa fun K25 hK25 => ch Z Y (by decide) Tryz.call13 rfl (fW _) ?_
   clear Z Y
   intro a w24 x12 hp Z Y
   revert x12 hp Z Y; rintro kv11 hp Z Y
   clear hp
   replace Y : St No w19 [own kv11 9 1 (keysH.map fun s => [sv s]), blk w20.heap.size [iv ((zs.getD k0 exZ).signer), iv ((zs.getD k0 exZ).holder), iv ((zs.getD k0 exZ).rf), iv ((zs.getD k0 exZ).rt), iv ((zs.getD k0 exZ).carrier), iv ((zs.getD k0 exZ).serial), iv ((zs.getD k0 exZ).sf), iv ((zs.getD k0 exZ).st), sv ((zs.getD k0 exZ).sig)] 30] w24 := Y
   refine wlm Z rfl fun a Z => ch Z Y (by decide) Tryz.call14 rfl (j1 kx ks2 _ (Y.arg hsz8_8)) ?_
   clear Z Y
   intro a w25 x14 hp Z Y
   revert x14 hp Z Y; rintro qv13 hp Z Y
   clear hp
   replace Y : St No w19 [own qv13 9 1 ((leastH ks2 5).map fun s => [sv s]), own kv11 9 1 (keysH.map fun s => [sv s]), blk w20.heap.size [iv ((zs.getD k0 exZ).signer), iv ((zs.getD k0 exZ).holder), iv ((zs.getD k0 exZ).rf), iv ((zs.getD k0 exZ).rt), iv ((zs.getD k0 exZ).carrier), iv ((zs.getD k0 exZ).serial), iv ((zs.getD k0 exZ).sf), iv ((zs.getD k0 exZ).st), sv ((zs.getD k0 exZ).sig)] 30] w25 := Y
   refine ch Z Y (by decide) Tryz.call13 rfl (fW _) ?_
   clear Z Y
   intro a w26 x16 hp Z Y
   revert x16 hp Z Y; rintro kv15 hp Z Y
   clear hp
   replace Y : St No w19 [own kv15 9 1 (keysH.map fun s => [sv s]), own qv13 9 1 ((leastH ks2 5).map fun s => [sv s]), own kv11 9 1 (keysH.map fun s => [sv s]), blk w20.heap.size [iv ((zs.getD k0 exZ).signer), iv ((zs.getD k0 exZ).holder), iv ((zs.getD k0 exZ).rf), iv ((zs.getD k0 exZ).rt), iv ((zs.getD k0 exZ).carrier), iv ((zs.getD k0 exZ).serial), iv ((zs.getD k0 exZ).sf), iv ((zs.getD k0 exZ).st), sv ((zs.getD k0 exZ).sig)] 30] w26 := Y
   refine wlm Z rfl fun a Z => aA Z Y (by decide) Tryz.call11 rfl (ja hq11 h9 (by omega)) ?_
   clear Z Y
   intro a w27 Z Y
   refine wlv Z (dS (l := 0) (h := q11) (Y.ownAt (i := 0) rfl) rfl rfl rfl Tryz.underlying32 (by kernel_rfl) (.inl ⟨rfl, rfl⟩) (.inr rfl) (Nat.zero_le _) (by first | (rw [List.length_map]; omega) | (simp <;> omega))) fun a Z => aG (E := 32) (sz := 1) rfl [[kv11], [qv13], [(cut kv15 1 0 q11 (slCap kv15))]] (by obtain ⟨_, _, _, e0_⟩ := cJ (Y.ownAt (i := 2) rfl); obtain ⟨_, _, _, e1_⟩ := cJ (Y.ownAt (i := 1) rfl); obtain ⟨_, _, _, e2_⟩ := cJ (Y.ownAt (i := 0) rfl); rw [e0_, e1_, e2_]; kernel_rfl) (by simp) rfl (by decide) (by decide) Z Y ?_
   clear Z Y
   intro a w28 Z Y
   refine wlv Z ((aN (sT := 47) (Y.ownAt (i := 0) rfl) rfl rfl (Tryz.runUnderlying47 _)).asi (m' := 3) (by rfl)) fun a Z => wlm Z rfl fun a Z => ab (hK25 _ _ ?_)
   replace Z : Fr 290 [(3, _), (6, _), (7, _), (8, _), (19, _), (20, _), (24, _), (26, _), (109, _), (110, _), (111, _), (28, _), (115, _), (116, _), (117, _), (30, _), (128, _), (129, _), (130, _)] [] a := Z.pick [3, 6, 7, 8, 19, 20, 24, 26, 109, 110, 111, 28, 115, 116, 117, 30, 128, 129, 130]
   refine aq ?_
   obtain ⟨kvs, hkvs⟩ : ∃ kvs : List Value, kvs = [kv11, qv13, (cut kv15 1 0 q11 (slCap kv15))] := ⟨_, rfl⟩
   have hkvl : kvs.length = 3 := by rw [hkvs]; rfl
   replace Y : St No w19 [own (.slice (some ⟨w27.heap.size, 0, none⟩) 3 3) 32 1 ((kvs).map fun z : Value => [z]), own kv15 9 1 (keysH.map fun s => [sv s]), own qv13 9 1 ((leastH ks2 5).map fun s => [sv s]), own kv11 9 1 (keysH.map fun s => [sv s]), blk w20.heap.size [iv ((zs.getD k0 exZ).signer), iv ((zs.getD k0 exZ).holder), iv ((zs.getD k0 exZ).rf), iv ((zs.getD k0 exZ).rt), iv ((zs.getD k0 exZ).carrier), iv ((zs.getD k0 exZ).serial), iv ((zs.getD k0 exZ).sf), iv ((zs.getD k0 exZ).st), sv ((zs.getD k0 exZ).sig)] 30] w28 := by rw [hkvs]; exact Y
   obtain ⟨kss, hkss⟩ : ∃ kss : List (List By), kss = [keysH, leastH ks2 5, keysH.take q11] := ⟨_, rfl⟩
   have hks : ∀ j, j < 3 → SlAt w28 (kvs.getD j (.slice none 0 0)) 1 ((kss.getD j []).map fun s => [sv s]) := by
    intro j hj
    rcases j with _ | _ | _ | j
    ·exact (by rw [hkvs, hkss]; exact (Y.ownAt (i := 3) rfl))
    ·exact (by rw [hkvs, hkss]; exact (Y.ownAt (i := 2) rfl))
    ·exact (by rw [hkvs, hkss]; exact ((Y.ownAt (i := 1) rfl).cut0 (h := q11) (by first | omega | (rw [List.length_reverse]; omega) | simp | (simp; omega))))
    ·omega
   have huz17 := Y
   have hfz17_0 : SlAt w28 (.slice (some ⟨w27.heap.size, 0, none⟩) 3 3) 1 ((kvs).map fun z : Value => [z]) := Y.ownAt (i := 0) rfl
   have hfz17_1 : SlAt w28 kv15 1 (keysH.map fun s => [sv s]) := Y.ownAt (i := 1) rfl
   have hfz17_2 : SlAt w28 qv13 1 ((leastH ks2 5).map fun s => [sv s]) := Y.ownAt (i := 2) rfl
   have hfz17_3 : SlAt w28 kv11 1 (keysH.map fun s => [sv s]) := Y.ownAt (i := 3) rfl
   have hfz17_4 : (blk w20.heap.size [iv ((zs.getD k0 exZ).signer), iv ((zs.getD k0 exZ).holder), iv ((zs.getD k0 exZ).rf), iv ((zs.getD k0 exZ).rt), iv ((zs.getD k0 exZ).carrier), iv ((zs.getD k0 exZ).serial), iv ((zs.getD k0 exZ).sf), iv ((zs.getD k0 exZ).st), sv ((zs.getD k0 exZ).sig)] 30).ok w28 := Y.get (k := 4) rfl
   have hgz17_0 := Y.keepb hfz8_4
   have hgz17_1 := Y.keepb hfz8_5
   have hgz17_2 := Y.keepb hfz8_7
   have hsz17_8 : SlAt w28 kx 1 ((ks2).map fun s => [sv s]) := (Y.arg hsz8_8)
   have hsz17_24 : SlAt w28 s3 7 ((ms).map Pxy.cells) := (Y.arg hfz8_3)
   have hsz17_26 : SlAt w28 (.slice (some ⟨w17.heap.size, 0, none⟩) 5 5) 1 ((lls).map fun z : Value => [z]) := (Y.arg hfz8_1)
   have hsz17_109 : SlAt w28 (.slice (some ⟨w18.heap.size, 0, none⟩) 3 3) 9 ((zs).map Wsh.cells) := (Y.arg hfz8_0)
   have hsz17_30 : SlAt w28 (lls.getD k2 (.slice none 0 0)) 7 ((pss.getD k2 []).map Pxy.cells) := (Y.arg (hls k2 (by omega)))
   have hk0z17 := hk0
   have hk0 := Y.keepb hk0
   replace Y : St No w28 [] w28 := St.init w28
   refine aW (fun m a w => ∃ (k4 : Nat), m = 3 - k4 ∧ (k4 ≤ 3) ∧ Fr 290 [(3, iv at_), (6, iv number), (7, iv t), (8, kx), (19, .bool true), (20, Go.PW.pt w4.heap.size), (24, s3), (26, (.slice (some ⟨w17.heap.size, 0, none⟩) 5 5)), (109, (.slice (some ⟨w18.heap.size, 0, none⟩) 3 3)), (110, iv 3), (111, iv (k0 : Int)), (28, Go.PW.pt w20.heap.size), (115, (.slice (some ⟨w17.heap.size, 0, none⟩) 5 5)), (116, iv 5), (117, iv (k2 : Int)), (30, (lls.getD k2 (.slice none 0 0))), (128, (.slice (some ⟨w27.heap.size, 0, none⟩) 3 3)), (129, iv 3), (130, iv (k4 : Int))] [] a ∧ St No w28 [] w) _ ⟨0, rfl, Nat.zero_le _, Z.pick [3, 6, 7, 8, 19, 20, 24, 26, 109, 110, 111, 28, 115, 116, 117, 30, 128, 129, 130], Y.select [] (by decide)⟩ ?_
   rintro _ a w29 ⟨k4, rfl, hk4, Z, Y⟩
   refine aa fun K26 hK26 => wlv Z (v_lt rfl rfl) fun a Z => ab (hK26 _ _ ?_)
   refine ai fun K27 hK27 => ?_
   refine ay Z rfl (fun hc18 => ?_) (fun hc18 => ?_)
   ·rw [hc18] at Z
    try simp only [qz] at hc18
    refine ax ?_
    refine hK27 _ _ ?_
    refine ai fun K28 hK28 => aq ?_
    refine aa fun K29 hK29 => wlv Z ((ak (i := (k4 : Int)) (sT := 47) (Y.arg hfz17_0) rfl rfl (Tryz.runUnderlying47 _) (Tryz.sizeOf32 _) (by omega) (by rw [List.length_map]; first | omega | (rw [List.length_set]; omega))).as (v' := slAddr (.slice (some ⟨w27.heap.size, 0, none⟩) 3 3) (k4 * 1)) rfl) fun a Z => wlv Z (aC (u := (kvs.getD k4 (.slice none 0 0))) (i := k4) (j := 0) (Y.arg hfz17_0) (by rw [List.length_map]; first | omega | (rw [List.length_set]; omega)) rfl (Tryz.isAgg32 _) (by rw [bp (.slice none 0 0)]; rfl)) fun a Z => wla Z rfl fun a Z => ab (hK29 _ _ ?_)
    refine ai fun K30 hK30 => aM (by kernel_rfl) ?_
    replace Z : Fr 290 [(3, _), (6, _), (7, _), (8, _), (19, _), (20, _), (24, _), (26, _), (109, _), (110, _), (111, _), (28, _), (115, _), (116, _), (117, _), (30, _), (128, _), (129, _), (130, _), (131, _), (132, _), (133, _), (32, _)] [] a := Z.pick [3, 6, 7, 8, 19, 20, 24, 26, 109, 110, 111, 28, 115, 116, 117, 30, 128, 129, 130, 131, 132, 133, 32]
    refine aB [25] (fun i => match i with | 25 => pm (fun b : Nat => .slice (some ⟨b, 0, none⟩) 3 3) (fun b => [own (.slice (some ⟨b, 0, none⟩) 3 3) 22 2 [[iv number, iv t], [iv ((x.rf + pn) - 10), iv ((x.sf + pt) - 10)], [iv ((zs.getD k0 exZ).rf), iv ((zs.getD k0 exZ).sf)]]]) (fun _ => True) | _ => fun _ _ => False) 28 [[], [], [0, 1], [], [3], [4], [], [6], [5, 7], [8], [], [10], [11], [], [13], [12, 14], [15], [9, 16], [], [18], [19], [], [21], [22], [20, 23], [2, 17, 24], [25], []] [iv number, iv t, .agg #[iv number, iv t], .pointer (some ⟨w4.heap.size, 2, none⟩), .pointer (some ⟨w4.heap.size, 2, none⟩), iv x.rf, iv number, iv pn, iv (x.rf + pn), iv ((x.rf + pn) - 10), .pointer (some ⟨w4.heap.size, 6, none⟩), .pointer (some ⟨w4.heap.size, 6, none⟩), iv x.sf, iv t, iv pt, iv (x.sf + pt), iv ((x.sf + pt) - 10), .agg #[iv ((x.rf + pn) - 10), iv ((x.sf + pt) - 10)], .pointer (some ⟨w20.heap.size, 2, none⟩), .pointer (some ⟨w20.heap.size, 2, none⟩), iv ((zs.getD k0 exZ).rf), .pointer (some ⟨w20.heap.size, 6, none⟩), .pointer (some ⟨w20.heap.size, 6, none⟩), iv ((zs.getD k0 exZ).sf), .agg #[iv ((zs.getD k0 exZ).rf), iv ((zs.getD k0 exZ).sf)], undef, iv 3, iv 0] Z Y (by kernel_rfl) (by kernel_rfl) (by kernel_rfl) ?_ ?_ ?_
    ·intro i hi hiq
     match i, hi, hiq with
     | 0, _, _ =>
      intro w Y
      exact OpV.g (al rfl)
     | 1, _, _ =>
      intro w Y
      exact OpV.g (al rfl)
     | 2, _, _ =>
      intro w Y
      exact OpV.g (bC (v := .agg #[iv number, iv t]) rfl (by kernel_rfl))
     | 3, _, _ =>
      intro w Y
      exact OpV.g (ac (v := .pointer (some ⟨w4.heap.size, 2, none⟩)) rfl (by kernel_rfl))
     | 4, _, _ =>
      intro w Y
      exact OpV.g (ac (v := .pointer (some ⟨w4.heap.size, 2, none⟩)) rfl (by kernel_rfl))
     | 5, _, _ =>
      intro w Y
      exact OpV.g (ae (Y.keepb hgz17_1) rfl (Tryz.isAgg3 _) rfl)
     | 6, _, _ =>
      intro w Y
      exact OpV.g (al rfl)
     | 7, _, _ =>
      intro w Y
      exact br Tryz.call11 rfl (ja hpn h12 (by omega))
     | 8, _, _ =>
      intro w Y
      exact OpV.g (aT rfl rfl ⟨by omega, by omega⟩)
     | 9, _, _ =>
      intro w Y
      exact OpV.g (cc rfl rfl ⟨by omega, by omega⟩)
     | 10, _, _ =>
      intro w Y
      exact OpV.g (ac (v := .pointer (some ⟨w4.heap.size, 6, none⟩)) rfl (by kernel_rfl))
     | 11, _, _ =>
      intro w Y
      exact OpV.g (ac (v := .pointer (some ⟨w4.heap.size, 6, none⟩)) rfl (by kernel_rfl))
     | 12, _, _ =>
      intro w Y
      exact OpV.g (ae (Y.keepb hgz17_1) rfl (Tryz.isAgg3 _) rfl)
     | 13, _, _ =>
      intro w Y
      exact OpV.g (al rfl)
     | 14, _, _ =>
      intro w Y
      exact br Tryz.call11 rfl (ja hpt h13 (by omega))
     | 15, _, _ =>
      intro w Y
      exact OpV.g (aT rfl rfl ⟨by omega, by omega⟩)
     | 16, _, _ =>
      intro w Y
      exact OpV.g (cc rfl rfl ⟨by omega, by omega⟩)
     | 17, _, _ =>
      intro w Y
      exact OpV.g (bC (v := .agg #[iv ((x.rf + pn) - 10), iv ((x.sf + pt) - 10)]) rfl (by kernel_rfl))
     | 18, _, _ =>
      intro w Y
      exact OpV.g (ac (v := .pointer (some ⟨w20.heap.size, 2, none⟩)) rfl (by kernel_rfl))
     | 19, _, _ =>
      intro w Y
      exact OpV.g (ac (v := .pointer (some ⟨w20.heap.size, 2, none⟩)) rfl (by kernel_rfl))
     | 20, _, _ =>
      intro w Y
      exact OpV.g (ae (Y.keepb hfz17_4) rfl (Tryz.isAgg3 _) rfl)
     | 21, _, _ =>
      intro w Y
      exact OpV.g (ac (v := .pointer (some ⟨w20.heap.size, 6, none⟩)) rfl (by kernel_rfl))
     | 22, _, _ =>
      intro w Y
      exact OpV.g (ac (v := .pointer (some ⟨w20.heap.size, 6, none⟩)) rfl (by kernel_rfl))
     | 23, _, _ =>
      intro w Y
      exact OpV.g (ae (Y.keepb hfz17_4) rfl (Tryz.isAgg3 _) rfl)
     | 24, _, _ =>
      intro w Y
      exact OpV.g (bC (v := .agg #[iv ((zs.getD k0 exZ).rf), iv ((zs.getD k0 exZ).sf)]) rfl (by kernel_rfl))
     | 25, _, h => exact absurd (by simp) h
     | 26, _, _ =>
      rintro _ _ ⟨b19, rfl, -, rfl⟩
      intro w Y
      exact OpV.g ((aN (sT := 48) (Y.ownAt (i := 0) rfl) rfl rfl (Tryz.runUnderlying48 _)).asi (m' := 3) (by rfl))
     | 27, _, _ =>
      intro w Y
      exact OpV.g (al rfl)
     | i + 28, h, _ => exact absurd h (by omega)
    ·intro i hi
     simp only [List.mem_cons, List.not_mem_nil, or_false] at hi
     subst hi
     ·intro w Y
      exact bU (E := 22) (sz := 2) rfl [[iv number, iv t], [iv ((x.rf + pn) - 10), iv ((x.sf + pt) - 10)], [iv ((zs.getD k0 exZ).rf), iv ((zs.getD k0 exZ).sf)]] (fun _ => by kernel_rfl) (by simp) rfl (by decide)
    clear Z Y
    rintro _ _ ⟨b19, rfl, -, rfl⟩ a w30 Z Y
    replace Z : Fr 290 [(134, iv number), (135, iv t), (136, .agg #[iv number, iv t]), (137, .pointer (some ⟨w4.heap.size, 2, none⟩)), (138, .pointer (some ⟨w4.heap.size, 2, none⟩)), (139, iv x.rf), (140, iv number), (141, iv pn), (142, iv (x.rf + pn)), (143, iv ((x.rf + pn) - 10)), (144, .pointer (some ⟨w4.heap.size, 6, none⟩)), (145, .pointer (some ⟨w4.heap.size, 6, none⟩)), (146, iv x.sf), (147, iv t), (148, iv pt), (149, iv (x.sf + pt)), (150, iv ((x.sf + pt) - 10)), (151, .agg #[iv ((x.rf + pn) - 10), iv ((x.sf + pt) - 10)]), (152, .pointer (some ⟨w20.heap.size, 2, none⟩)), (153, .pointer (some ⟨w20.heap.size, 2, none⟩)), (154, iv ((zs.getD k0 exZ).rf)), (155, .pointer (some ⟨w20.heap.size, 6, none⟩)), (156, .pointer (some ⟨w20.heap.size, 6, none⟩)), (157, iv ((zs.getD k0 exZ).sf)), (158, .agg #[iv ((zs.getD k0 exZ).rf), iv ((zs.getD k0 exZ).sf)]), (159, _), (160, iv 3), (161, iv 0), (3, _), (6, _), (7, _), (8, _), (19, _), (20, _), (24, _), (26, _), (109, _), (110, _), (111, _), (28, _), (115, _), (116, _), (117, _), (30, _), (128, _), (129, _), (130, _), (131, _), (132, _), (133, _), (32, _)] [] a := Z
    replace Y : St No w28 [_] w30 := Y
    refine ab ?_
    refine hK30 _ _ ?_
    replace Z : Fr 290 [(3, _), (6, _), (7, _), (8, _), (19, _), (20, _), (24, _), (26, _), (109, _), (110, _), (111, _), (28, _), (115, _), (116, _), (117, _), (30, _), (128, _), (129, _), (130, _), (32, _), (159, _), (160, _), (161, _)] [] a := Z.pick [3, 6, 7, 8, 19, 20, 24, 26, 109, 110, 111, 28, 115, 116, 117, 30, 128, 129, 130, 32, 159, 160, 161]
    refine aq ?_
    obtain ⟨ws, hws⟩ : ∃ ws : List (Int × Int), ws = [(number, t), (x.rf + pn - 10, x.sf + pt - 10), ((zs.getD k0 exZ).rf, (zs.getD k0 exZ).sf)] := ⟨_, rfl⟩
    have hwl : ws.length = 3 := by rw [hws]; rfl
    replace Y : St No w28 [own (.slice (some ⟨b19, 0, none⟩) 3 3) 22 2 ((ws).map fun z : Int × Int => [iv z.1, iv z.2])] w30 := by rw [hws]; exact Y
    refine aW (fun m a w => ∃ (k6 : Nat), m = 3 - k6 ∧ (k6 ≤ 3) ∧ Fr 290 [(3, iv at_), (6, iv number), (7, iv t), (8, kx), (19, .bool true), (20, Go.PW.pt w4.heap.size), (24, s3), (26, (.slice (some ⟨w17.heap.size, 0, none⟩) 5 5)), (109, (.slice (some ⟨w18.heap.size, 0, none⟩) 3 3)), (110, iv 3), (111, iv (k0 : Int)), (28, Go.PW.pt w20.heap.size), (115, (.slice (some ⟨w17.heap.size, 0, none⟩) 5 5)), (116, iv 5), (117, iv (k2 : Int)), (30, (lls.getD k2 (.slice none 0 0))), (128, (.slice (some ⟨w27.heap.size, 0, none⟩) 3 3)), (129, iv 3), (130, iv (k4 : Int)), (32, (kvs.getD k4 (.slice none 0 0))), (159, (.slice (some ⟨b19, 0, none⟩) 3 3)), (160, iv 3), (161, iv (k6 : Int))] [] a ∧ St No w28 [own (.slice (some ⟨b19, 0, none⟩) 3 3) 22 2 ((ws).map fun z : Int × Int => [iv z.1, iv z.2])] w) _ ⟨0, rfl, Nat.zero_le _, Z.pick [3, 6, 7, 8, 19, 20, 24, 26, 109, 110, 111, 28, 115, 116, 117, 30, 128, 129, 130, 32, 159, 160, 161], Y.select [0] (by decide)⟩ ?_
    rintro _ a w31 ⟨k6, rfl, hk6, Z, Y⟩
    refine aa fun K31 hK31 => wlv Z (v_lt rfl rfl) fun a Z => ab (hK31 _ _ ?_)
    refine ai fun K32 hK32 => ?_
    refine ay Z rfl (fun hc20 => ?_) (fun hc20 => ?_)
    ·rw [hc20] at Z
     try simp only [qz] at hc20
     refine ax ?_
     refine hK32 _ _ ?_
     refine ai fun K33 hK33 => aq ?_
     refine aa fun K34 hK34 => wlv Z ((ak (i := (k6 : Int)) (sT := 48) (Y.ownAt (i := 0) rfl) rfl rfl (Tryz.runUnderlying48 _) (Tryz.sizeOf22 _) (by omega) (by rw [List.length_map]; first | omega | (rw [List.length_set]; omega))).as (v' := slAddr (.slice (some ⟨b19, 0, none⟩) 3 3) (k6 * 2)) rfl) fun a Z => wlv Z ((bO (Y.ownAt (i := 0) rfl) (i := k6) (by rw [List.length_map]; first | omega | (rw [List.length_set]; omega)) rfl (Tryz.isAgg22 _) (Tryz.sizeOf22 _)).as (v' := .agg #[iv ((ws.getD k6 (0, 0)).1), iv ((ws.getD k6 (0, 0)).2)]) (by rw [bp ((0 : Int), (0 : Int))])) fun a Z => aK Z Y (by decide) (Tryz.zeroValue22 _) (cs := [iv 0, iv 0]) rfl ?_
     clear Z Y
     intro a w32 Z Y
     refine ap 0 Z Y rfl rfl rfl (Tryz.sizeOf22 _) rfl (lb rfl) (ds := [iv ((ws.getD k6 (0, 0)).1), iv ((ws.getD k6 (0, 0)).2)]) rfl rfl ?_
     clear Z Y
     intro a w33 Z Y
     refine ab (hK34 _ _ ?_)
     obtain ⟨re, ix, hre⟩ : ∃ re ix, whyH (kss.getD k4 []) (zs.getD k0 exZ) (pss.getD k2 []) (ws.getD k6 (0, 0)).1 (ws.getD k6 (0, 0)).2 = (re, ix) := ⟨_, _, rfl⟩
     obtain ⟨vb, hvb⟩ : ∃ b, validH (kss.getD k4 []) (zs.getD k0 exZ) (pss.getD k2 []) (ws.getD k6 (0, 0)).1 (ws.getD k6 (0, 0)).2 = b := ⟨_, rfl⟩
     refine aa fun K35 hK35 => wlm Z rfl fun a Z => wlv Z (ar (Y.keepb hfz17_4) rfl (Tryz.isAgg30 _) (Tryz.sizeOf30 _)) fun a Z => wlm Z rfl fun a Z => wlv Z (aR (v := Go.PW.pt w31.heap.size) rfl rfl (by kernel_rfl)) fun a Z => wlv Z (ae (Y.get (k := 0) rfl) rfl (Tryz.isAgg3 _) rfl) fun a Z => wlv Z (aR (v := .pointer (some ⟨w31.heap.size, 1, none⟩)) rfl rfl (by kernel_rfl)) fun a Z => wlv Z (ae (Y.get (k := 0) rfl) rfl (Tryz.isAgg3 _) rfl) fun a Z => ?_
     refine aA Z Y (by decide) Tryz.call15 rfl (ni (Y.arg (hks k4 (by omega))) (Y.arg hsz17_30) (Y.keepb hk0) hre) ?_
     clear Z Y
     intro a w34 Z Y
     refine wlm Z rfl fun a Z => wlv Z (aD rfl rfl) fun a Z => wlv Z (aD rfl rfl) fun a Z => wla Z rfl fun a Z => wla Z rfl fun a Z => ab (hK35 _ _ ?_)
     replace Z : Fr 290 [(3, _), (6, _), (7, _), (8, _), (19, _), (20, _), (24, _), (26, _), (109, _), (110, _), (111, _), (28, _), (115, _), (116, _), (117, _), (30, _), (128, _), (129, _), (130, _), (32, _), (159, _), (160, _), (161, _), (34, _), (35, _), (36, _)] [] a := Z.pick [3, 6, 7, 8, 19, 20, 24, 26, 109, 110, 111, 28, 115, 116, 117, 30, 128, 129, 130, 32, 159, 160, 161, 34, 35, 36]
     refine aa fun K36 hK36 => wlm Z rfl fun a Z => wlv Z (ar (Y.keepb hfz17_4) rfl (Tryz.isAgg30 _) (Tryz.sizeOf30 _)) fun a Z => wlm Z rfl fun a Z => wlv Z (aR (v := Go.PW.pt w31.heap.size) rfl rfl (by kernel_rfl)) fun a Z => wlv Z (ae (Y.get (k := 0) rfl) rfl (Tryz.isAgg3 _) rfl) fun a Z => wlv Z (aR (v := .pointer (some ⟨w31.heap.size, 1, none⟩)) rfl rfl (by kernel_rfl)) fun a Z => wlv Z (ae (Y.get (k := 0) rfl) rfl (Tryz.isAgg3 _) rfl) fun a Z => ?_
     refine aA Z Y (by decide) Tryz.call16 rfl (oo (Y.arg (hks k4 (by omega))) (Y.arg hsz17_30) hre) ?_
     clear Z Y
     intro a w35 Z Y
     refine wlm Z rfl fun a Z => wlv Z (aD rfl rfl) fun a Z => wlv Z (aD rfl rfl) fun a Z => wla Z rfl fun a Z => wla Z rfl fun a Z => ab (hK36 _ _ ?_)
     replace Z : Fr 290 [(3, _), (6, _), (7, _), (8, _), (19, _), (20, _), (24, _), (26, _), (109, _), (110, _), (111, _), (28, _), (115, _), (116, _), (117, _), (30, _), (128, _), (129, _), (130, _), (32, _), (159, _), (160, _), (161, _), (34, _), (35, _), (36, _), (37, _), (38, _)] [] a := Z.pick [3, 6, 7, 8, 19, 20, 24, 26, 109, 110, 111, 28, 115, 116, 117, 30, 128, 129, 130, 32, 159, 160, 161, 34, 35, 36, 37, 38]
     refine ai fun K37 hK37 => aM (by kernel_rfl) (aO (by kernel_rfl) fun w36 hxz => ?_)
     replace Y := Y.grow hxz
     refine aX (k := 0) 2 [0, 1] Z (by kernel_rfl) (by kernel_rfl) (by kernel_rfl) (by rfl) ?_
     replace Z : Fr 290 [(3, _), (6, _), (7, _), (8, _), (19, _), (20, _), (24, _), (26, _), (109, _), (110, _), (111, _), (28, _), (115, _), (116, _), (117, _), (30, _), (128, _), (129, _), (130, _), (32, _), (159, _), (160, _), (161, _), (34, _), (35, _), (36, _), (37, _), (38, _)] [] a := Z.pick [3, 6, 7, 8, 19, 20, 24, 26, 109, 110, 111, 28, 115, 116, 117, 30, 128, 129, 130, 32, 159, 160, 161, 34, 35, 36, 37, 38]
     refine aB [] (fun i => match i with | _ => fun _ _ => False) 2 [[], []] [iv re, iv re] Z Y (by kernel_rfl) (by kernel_rfl) (by kernel_rfl) ?_ ?_ ?_
     ·intro i hi hiq
      match i, hi, hiq with
      | 0, _, _ =>
       intro w Y
       exact OpV.g (al rfl)
      | 1, _, _ =>
       intro w Y
       exact OpV.g (al rfl)
     ·intro i hi
      exact absurd hi (by simp)
     clear Z Y
     intro  a w37 Z Y
     replace Z : Fr 290 [(187, iv re), (188, iv re), (3, _), (6, _), (7, _), (8, _), (19, _), (20, _), (24, _), (26, _), (109, _), (110, _), (111, _), (28, _), (115, _), (116, _), (117, _), (30, _), (128, _), (129, _), (130, _), (32, _), (159, _), (160, _), (161, _), (34, _), (35, _), (36, _), (37, _), (38, _)] [] a := Z
     refine ab <| aQ (k := 2) 4 [3] (by kernel_rfl) (by kernel_rfl) (by kernel_rfl) ?_
     refine wlv Z ((v_ne rfl rfl).asb (b' := false) (by simp)) fun a Z => wlm Z rfl fun a Z => ab ?_
     refine aX (k := 4) 6 [4, 5] Z (by kernel_rfl) (by kernel_rfl) (by kernel_rfl) (by rfl) ?_
     replace Z : Fr 290 [(3, _), (6, _), (7, _), (8, _), (19, _), (20, _), (24, _), (26, _), (109, _), (110, _), (111, _), (28, _), (115, _), (116, _), (117, _), (30, _), (128, _), (129, _), (130, _), (32, _), (159, _), (160, _), (161, _), (34, _), (35, _), (36, _), (37, _), (38, _), (187, _), (188, _), (189, _), (190, _)] [] a := Z.pick [3, 6, 7, 8, 19, 20, 24, 26, 109, 110, 111, 28, 115, 116, 117, 30, 128, 129, 130, 32, 159, 160, 161, 34, 35, 36, 37, 38, 187, 188, 189, 190]
     refine aB [] (fun i => match i with | _ => fun _ _ => False) 2 [[], []] [iv ix, iv ix] Z Y (by kernel_rfl) (by kernel_rfl) (by kernel_rfl) ?_ ?_ ?_
     ·intro i hi hiq
      match i, hi, hiq with
      | 0, _, _ =>
       intro w Y
       exact OpV.g (al rfl)
      | 1, _, _ =>
       intro w Y
       exact OpV.g (al rfl)
     ·intro i hi
      exact absurd hi (by simp)
     clear Z Y
     intro  a w38 Z Y
     replace Z : Fr 290 [(191, iv ix), (192, iv ix), (3, _), (6, _), (7, _), (8, _), (19, _), (20, _), (24, _), (26, _), (109, _), (110, _), (111, _), (28, _), (115, _), (116, _), (117, _), (30, _), (128, _), (129, _), (130, _), (32, _), (159, _), (160, _), (161, _), (34, _), (35, _), (36, _), (37, _), (38, _), (187, _), (188, _), (189, _), (190, _)] [] a := Z
     refine ab <| aQ (k := 6) 9 [8] (by kernel_rfl) (by kernel_rfl) (by kernel_rfl) ?_
     refine wly Z ((v_ne rfl rfl).asb (b' := false) (by simp)) fun a Z => wlv Z (au rfl rfl) fun a Z => wlm Z rfl fun a Z => ab ?_
     refine aX (k := 9) 24 [16, 17, 18, 19, 21, 23] Z (by kernel_rfl) (by kernel_rfl) (by kernel_rfl) (by rfl) ?_
     replace Z : Fr 290 [(3, _), (6, _), (7, _), (8, _), (19, _), (20, _), (24, _), (26, _), (109, _), (110, _), (111, _), (28, _), (115, _), (116, _), (117, _), (30, _), (128, _), (129, _), (130, _), (32, _), (159, _), (160, _), (161, _), (34, _), (35, _), (36, _), (37, _), (38, _), (187, _), (188, _), (189, _), (190, _), (191, _), (192, _), (193, _), (194, _), (195, _)] [] a := Z.pick [3, 6, 7, 8, 19, 20, 24, 26, 109, 110, 111, 28, 115, 116, 117, 30, 128, 129, 130, 32, 159, 160, 161, 34, 35, 36, 37, 38, 187, 188, 189, 190, 191, 192, 193, 194, 195]
     refine aB [] (fun i => match i with | _ => fun _ _ => False) 15 [[], [], [], [], [3], [], [5], [0, 1, 2, 4, 6], [], [], [], [], [11], [], [13]] [(kvs.getD k4 (.slice none 0 0)), .agg #[iv ((zs.getD k0 exZ).signer), iv ((zs.getD k0 exZ).holder), iv ((zs.getD k0 exZ).rf), iv ((zs.getD k0 exZ).rt), iv ((zs.getD k0 exZ).carrier), iv ((zs.getD k0 exZ).serial), iv ((zs.getD k0 exZ).sf), iv ((zs.getD k0 exZ).st), sv ((zs.getD k0 exZ).sig)], (lls.getD k2 (.slice none 0 0)), Go.PW.pt w31.heap.size, iv ((ws.getD k6 (0, 0)).1), .pointer (some ⟨w31.heap.size, 1, none⟩), iv ((ws.getD k6 (0, 0)).2), .bool vb, (kvs.getD k4 (.slice none 0 0)), .agg #[iv ((zs.getD k0 exZ).signer), iv ((zs.getD k0 exZ).holder), iv ((zs.getD k0 exZ).rf), iv ((zs.getD k0 exZ).rt), iv ((zs.getD k0 exZ).carrier), iv ((zs.getD k0 exZ).serial), iv ((zs.getD k0 exZ).sf), iv ((zs.getD k0 exZ).st), sv ((zs.getD k0 exZ).sig)], (lls.getD k2 (.slice none 0 0)), Go.PW.pt w31.heap.size, iv ((ws.getD k6 (0, 0)).1), .pointer (some ⟨w31.heap.size, 1, none⟩), iv ((ws.getD k6 (0, 0)).2)] Z Y (by kernel_rfl) (by kernel_rfl) (by kernel_rfl) ?_ ?_ ?_
     ·intro i hi hiq
      match i, hi, hiq with
      | 0, _, _ =>
       intro w Y
       exact OpV.g (al rfl)
      | 1, _, _ =>
       intro w Y
       exact OpV.g (ar (Y.keepb hfz17_4) rfl (Tryz.isAgg30 _) (Tryz.sizeOf30 _))
      | 2, _, _ =>
       intro w Y
       exact OpV.g (al rfl)
      | 3, _, _ =>
       intro w Y
       exact OpV.g (aR (v := Go.PW.pt w31.heap.size) rfl rfl (by kernel_rfl))
      | 4, _, _ =>
       intro w Y
       exact OpV.g (ae (Y.get (k := 0) rfl) rfl (Tryz.isAgg3 _) rfl)
      | 5, _, _ =>
       intro w Y
       exact OpV.g (aR (v := .pointer (some ⟨w31.heap.size, 1, none⟩)) rfl rfl (by kernel_rfl))
      | 6, _, _ =>
       intro w Y
       exact OpV.g (ae (Y.get (k := 0) rfl) rfl (Tryz.isAgg3 _) rfl)
      | 7, _, _ =>
       intro w Y
       exact br Tryz.call17 rfl (jR (Y.arg (hks k4 (by omega))) (Y.arg hsz17_30) (Y.keepb hk0) hvb)
      | 8, _, _ =>
       intro w Y
       exact OpV.g (al rfl)
      | 9, _, _ =>
       intro w Y
       exact OpV.g (ar (Y.keepb hfz17_4) rfl (Tryz.isAgg30 _) (Tryz.sizeOf30 _))
      | 10, _, _ =>
       intro w Y
       exact OpV.g (al rfl)
      | 11, _, _ =>
       intro w Y
       exact OpV.g (aR (v := Go.PW.pt w31.heap.size) rfl rfl (by kernel_rfl))
      | 12, _, _ =>
       intro w Y
       exact OpV.g (ae (Y.get (k := 0) rfl) rfl (Tryz.isAgg3 _) rfl)
      | 13, _, _ =>
       intro w Y
       exact OpV.g (aR (v := .pointer (some ⟨w31.heap.size, 1, none⟩)) rfl rfl (by kernel_rfl))
      | 14, _, _ =>
       intro w Y
       exact OpV.g (ae (Y.get (k := 0) rfl) rfl (Tryz.isAgg3 _) rfl)
      | i + 15, h, _ => exact absurd h (by omega)
     ·intro i hi
      exact absurd hi (by simp)
     clear Z Y
     intro  a w39 Z Y
     replace Z : Fr 290 [(196, (kvs.getD k4 (.slice none 0 0))), (197, .agg #[iv ((zs.getD k0 exZ).signer), iv ((zs.getD k0 exZ).holder), iv ((zs.getD k0 exZ).rf), iv ((zs.getD k0 exZ).rt), iv ((zs.getD k0 exZ).carrier), iv ((zs.getD k0 exZ).serial), iv ((zs.getD k0 exZ).sf), iv ((zs.getD k0 exZ).st), sv ((zs.getD k0 exZ).sig)]), (198, (lls.getD k2 (.slice none 0 0))), (199, Go.PW.pt w31.heap.size), (200, iv ((ws.getD k6 (0, 0)).1)), (201, .pointer (some ⟨w31.heap.size, 1, none⟩)), (202, iv ((ws.getD k6 (0, 0)).2)), (203, .bool vb), (204, (kvs.getD k4 (.slice none 0 0))), (205, .agg #[iv ((zs.getD k0 exZ).signer), iv ((zs.getD k0 exZ).holder), iv ((zs.getD k0 exZ).rf), iv ((zs.getD k0 exZ).rt), iv ((zs.getD k0 exZ).carrier), iv ((zs.getD k0 exZ).serial), iv ((zs.getD k0 exZ).sf), iv ((zs.getD k0 exZ).st), sv ((zs.getD k0 exZ).sig)]), (206, (lls.getD k2 (.slice none 0 0))), (207, Go.PW.pt w31.heap.size), (208, iv ((ws.getD k6 (0, 0)).1)), (209, .pointer (some ⟨w31.heap.size, 1, none⟩)), (210, iv ((ws.getD k6 (0, 0)).2)), (3, _), (6, _), (7, _), (8, _), (19, _), (20, _), (24, _), (26, _), (109, _), (110, _), (111, _), (28, _), (115, _), (116, _), (117, _), (30, _), (128, _), (129, _), (130, _), (32, _), (159, _), (160, _), (161, _), (34, _), (35, _), (36, _), (37, _), (38, _), (187, _), (188, _), (189, _), (190, _), (191, _), (192, _), (193, _), (194, _), (195, _)] [] a := Z
     refine ab <| aQ (k := 24) 27 [26] (by kernel_rfl) (by kernel_rfl) (by kernel_rfl) ?_
     refine aJ Z Y (by decide) rfl (by decide) rfl Tryz.call18 rfl (mz (Y.arg (hks k4 (by omega))) (Y.arg hsz17_30) hvb) ?_
     clear Z Y
     intro a w40 Z Y
     refine wly Z ((iS rfl rfl Tryz.underlying4).asb (b' := false) (by simp)) fun a Z => wlv Z (au rfl rfl) fun a Z => ab ?_
     refine aZ (by kernel_rfl) ?_
     refine hK37 _ _ ?_
     replace Z : Fr 290 [(3, _), (6, _), (7, _), (8, _), (19, _), (20, _), (24, _), (26, _), (109, _), (110, _), (111, _), (28, _), (115, _), (116, _), (117, _), (30, _), (128, _), (129, _), (130, _), (32, _), (159, _), (160, _), (161, _), (213, _)] [] a := Z.pick [3, 6, 7, 8, 19, 20, 24, 26, 109, 110, 111, 28, 115, 116, 117, 30, 128, 129, 130, 32, 159, 160, 161, 213]
     replace Y : St No w28 [_] w40 := Y.mask [false, true]
     refine bE Z rfl ?_
     refine ax ?_
     refine hK33 _ _ ?_
     refine am <| wlv Z (aT rfl rfl ⟨by omega, by omega⟩) fun a Z => wlm Z rfl fun a Z => ab ?_
     refine ⟨_, ?_, k6 + 1, rfl, (by omega), Z.pick [3, 6, 7, 8, 19, 20, 24, 26, 109, 110, 111, 28, 115, 116, 117, 30, 128, 129, 130, 32, 159, 160, 161], Y.select [0] (by decide)⟩
     omega
    rw [hc20] at Z
    try simp only [qz] at hc20
    refine aP ?_
    refine hK28 _ _ ?_
    refine am <| wlv Z (aT rfl rfl ⟨by omega, by omega⟩) fun a Z => wlm Z rfl fun a Z => ab ?_
    refine ⟨_, ?_, k4 + 1, rfl, (by omega), Z.pick [3, 6, 7, 8, 19, 20, 24, 26, 109, 110, 111, 28, 115, 116, 117, 30, 128, 129, 130], Y.select [] (by decide)⟩
    omega
   rw [hc18] at Z
   try simp only [qz] at hc18
   refine aP ?_
   replace Y : St No w19 [own (.slice (some ⟨w27.heap.size, 0, none⟩) 3 3) 32 1 ((kvs).map fun z : Value => [z]), own kv15 9 1 (keysH.map fun s => [sv s]), own qv13 9 1 ((leastH ks2 5).map fun s => [sv s]), own kv11 9 1 (keysH.map fun s => [sv s]), blk w20.heap.size [iv ((zs.getD k0 exZ).signer), iv ((zs.getD k0 exZ).holder), iv ((zs.getD k0 exZ).rf), iv ((zs.getD k0 exZ).rt), iv ((zs.getD k0 exZ).carrier), iv ((zs.getD k0 exZ).serial), iv ((zs.getD k0 exZ).sf), iv ((zs.getD k0 exZ).st), sv ((zs.getD k0 exZ).sig)] 30] w29 := huz17.grow Y.ext
   have hk0 := hk0z17
   refine hK24 _ _ ?_
   refine ai fun K38 hK38 => ?_
   obtain ⟨fb, hfb⟩ : ∃ b, bI (zs.getD k0 exZ) (pss.getD k2 []) = b := ⟨_, rfl⟩
   refine aM (by kernel_rfl) (aO (by kernel_rfl) fun w41 hxz => ?_)
   replace Y := Y.grow hxz
   refine aX (k := 0) 5 [2, 3, 4] Z (by kernel_rfl) (by kernel_rfl) (by kernel_rfl) (by rfl) ?_
   replace Z : Fr 290 [(3, _), (6, _), (7, _), (8, _), (19, _), (20, _), (24, _), (26, _), (109, _), (110, _), (111, _), (28, _), (115, _), (116, _), (117, _), (30, _), (128, _), (129, _), (130, _), (131, _)] [] a := Z.pick [3, 6, 7, 8, 19, 20, 24, 26, 109, 110, 111, 28, 115, 116, 117, 30, 128, 129, 130, 131]
   refine aB [] (fun i => match i with | _ => fun _ _ => False) 5 [[], [], [0, 1], [], []] [.agg #[iv ((zs.getD k0 exZ).signer), iv ((zs.getD k0 exZ).holder), iv ((zs.getD k0 exZ).rf), iv ((zs.getD k0 exZ).rt), iv ((zs.getD k0 exZ).carrier), iv ((zs.getD k0 exZ).serial), iv ((zs.getD k0 exZ).sf), iv ((zs.getD k0 exZ).st), sv ((zs.getD k0 exZ).sig)], (lls.getD k2 (.slice none 0 0)), .bool fb, .agg #[iv ((zs.getD k0 exZ).signer), iv ((zs.getD k0 exZ).holder), iv ((zs.getD k0 exZ).rf), iv ((zs.getD k0 exZ).rt), iv ((zs.getD k0 exZ).carrier), iv ((zs.getD k0 exZ).serial), iv ((zs.getD k0 exZ).sf), iv ((zs.getD k0 exZ).st), sv ((zs.getD k0 exZ).sig)], (lls.getD k2 (.slice none 0 0))] Z Y (by kernel_rfl) (by kernel_rfl) (by kernel_rfl) ?_ ?_ ?_
   ·intro i hi hiq
    match i, hi, hiq with
    | 0, _, _ =>
     intro w Y
     exact OpV.g (ar (Y.get (k := 4) rfl) rfl (Tryz.isAgg30 _) (Tryz.sizeOf30 _))
    | 1, _, _ =>
     intro w Y
     exact OpV.g (al rfl)
    | 2, _, _ =>
     intro w Y
     exact br Tryz.call19 rfl (mV (Y.arg (hls k2 (by omega))) hfb)
    | 3, _, _ =>
     intro w Y
     exact OpV.g (ar (Y.get (k := 4) rfl) rfl (Tryz.isAgg30 _) (Tryz.sizeOf30 _))
    | 4, _, _ =>
     intro w Y
     exact OpV.g (al rfl)
   ·intro i hi
    exact absurd hi (by simp)
   clear Z Y
   intro  a w42 Z Y
   replace Z : Fr 290 [(216, .agg #[iv ((zs.getD k0 exZ).signer), iv ((zs.getD k0 exZ).holder), iv ((zs.getD k0 exZ).rf), iv ((zs.getD k0 exZ).rt), iv ((zs.getD k0 exZ).carrier), iv ((zs.getD k0 exZ).serial), iv ((zs.getD k0 exZ).sf), iv ((zs.getD k0 exZ).st), sv ((zs.getD k0 exZ).sig)]), (217, (lls.getD k2 (.slice none 0 0))), (218, .bool fb), (219, .agg #[iv ((zs.getD k0 exZ).signer), iv ((zs.getD k0 exZ).holder), iv ((zs.getD k0 exZ).rf), iv ((zs.getD k0 exZ).rt), iv ((zs.getD k0 exZ).carrier), iv ((zs.getD k0 exZ).serial), iv ((zs.getD k0 exZ).sf), iv ((zs.getD k0 exZ).st), sv ((zs.getD k0 exZ).sig)]), (220, (lls.getD k2 (.slice none 0 0))), (3, _), (6, _), (7, _), (8, _), (19, _), (20, _), (24, _), (26, _), (109, _), (110, _), (111, _), (28, _), (115, _), (116, _), (117, _), (30, _), (128, _), (129, _), (130, _), (131, _)] [] a := Z
   refine ab <| aQ (k := 5) 7 [6] (by kernel_rfl) (by kernel_rfl) (by kernel_rfl) ?_
   refine aA Z Y (by decide) Tryz.call20 rfl (kP (Y.arg (hls k2 (by omega))) hfb) ?_
   clear Z Y
   intro a w43 Z Y
   refine wlv Z ((iS rfl rfl Tryz.underlying4).asb (b' := false) (by simp)) fun a Z => ab ?_
   refine aZ (by kernel_rfl) ?_
   refine hK38 _ _ ?_
   replace Z : Fr 290 [(3, _), (6, _), (7, _), (8, _), (19, _), (20, _), (24, _), (26, _), (109, _), (110, _), (111, _), (28, _), (115, _), (116, _), (117, _), (222, _)] [] a := Z.pick [3, 6, 7, 8, 19, 20, 24, 26, 109, 110, 111, 28, 115, 116, 117, 222]
   replace Y : St No w19 [_] w43 := Y.mask [false, false, false, false, true]
   refine bE Z rfl ?_
   refine ax ?_
   refine hK22 _ _ ?_
   refine am <| wlv Z (aT rfl rfl ⟨by omega, by omega⟩) fun a Z => wlm Z rfl fun a Z => ab ?_
   refine ⟨_, ?_, k2 + 1, rfl, (by omega), Z.pick [3, 6, 7, 8, 19, 20, 24, 26, 109, 110, 111, 28, 115, 116, 117], Y.select [0] (by decide)⟩
   omega
  rw [hc10] at Z
  try simp only [qz] at hc10
  refine aP ?_
  refine hK18 _ _ ?_
  refine aa fun K39 hK39 => wlm Z rfl fun a Z => ch Z Y (by decide) Tryz.call14 rfl (j1 kx ks2 _ (Y.arg hsz8_8)) ?_
  clear Z Y
  intro a w44 x22 hp Z Y
  revert x22 hp Z Y; rintro qv21 hp Z Y
  clear hp
  replace Y : St No w19 [own qv21 9 1 ((leastH ks2 5).map fun s => [sv s]), blk w20.heap.size [iv ((zs.getD k0 exZ).signer), iv ((zs.getD k0 exZ).holder), iv ((zs.getD k0 exZ).rf), iv ((zs.getD k0 exZ).rt), iv ((zs.getD k0 exZ).carrier), iv ((zs.getD k0 exZ).serial), iv ((zs.getD k0 exZ).sf), iv ((zs.getD k0 exZ).st), sv ((zs.getD k0 exZ).sig)] 30] w44 := Y
  refine wlm Z rfl fun a Z => aA Z Y (by decide) Tryz.call21 rfl (dB at_ _) ?_
  clear Z Y
  intro a w45 Z Y
  refine aG (E := 9) (sz := 1) rfl [[sv (keyH at_)]] (by kernel_rfl) (by simp) rfl (by decide) (by decide) Z Y ?_
  clear Z Y
  intro a w46 Z Y
  refine bF (i := 1) (sT := 32) (inf := Tryz.t9) (z := .string (⟨#[]⟩)) (b := 0) (off := 0) (m := 0) (c := 0) rfl rfl rfl (Y.ownAt (i := 0) rfl) (by simp) Tryz.underlying32 rfl rfl rfl rfl (by decide) (by simp [Value.oneCell', yv, wv, sv]) (by have hby : Tryz.t40.bytes = 64 := rfl; have hbs : Tryz.t9.bytes = 16 := rfl; simp only [big, hby, hbs, List.length_append, List.length_map, List.length_cons, List.length_nil, cq]; omega) (by have hby : Tryz.t40.bytes = 64 := rfl; have hbs : Tryz.t9.bytes = 16 := rfl; simp only [big, hby, hbs, List.length_append, List.length_map, List.length_cons, List.length_nil, cq]; omega) (by decide) Z Y fun a w47 s23 Z Y _ => ?_
  replace Y : St No w19 [own (.slice (some ⟨w45.heap.size, 0, none⟩) 1 1) 9 1 ([[sv (keyH at_)]]), own s23 9 1 ((leastH ks2 5 ++ [keyH at_]).map fun s => [sv s]), blk w20.heap.size [iv ((zs.getD k0 exZ).signer), iv ((zs.getD k0 exZ).holder), iv ((zs.getD k0 exZ).rf), iv ((zs.getD k0 exZ).rt), iv ((zs.getD k0 exZ).carrier), iv ((zs.getD k0 exZ).serial), iv ((zs.getD k0 exZ).sf), iv ((zs.getD k0 exZ).st), sv ((zs.getD k0 exZ).sig)] 30] w47 := by rw [List.map_append]; exact Y
  refine wlv Z ((aN (sT := 32) (Y.ownAt (i := 1) rfl) rfl rfl (Tryz.runUnderlying32 _)).asi (m' := ((leastH ks2 5 ++ [keyH at_]).length : Int)) (by rw [List.length_map])) fun a Z => wlm Z rfl fun a Z => ab (hK39 _ _ ?_)
  replace Z : Fr 290 [(3, _), (6, _), (7, _), (8, _), (19, _), (20, _), (24, _), (26, _), (109, _), (110, _), (111, _), (28, _), (229, _), (230, _), (231, _)] [] a := Z.pick [3, 6, 7, 8, 19, 20, 24, 26, 109, 110, 111, 28, 229, 230, 231]
  replace Y : St No w19 [_, _] w47 := Y.mask [false, true, true]
  refine aq ?_
  obtain ⟨kq, hkq⟩ : ∃ kq, leastH ks2 5 ++ [keyH at_] = kq := ⟨_, rfl⟩
  have hkql : kq.length ≤ 6 := by rw [← hkq, List.length_append, cq]; simp only [List.length_cons, List.length_nil]; omega
  rw [hkq] at Y
  replace Z := Z
  rw [hkq] at Z
  refine aW (fun m a w => ∃ (k8 : Nat), m = kq.length - k8 ∧ (k8 ≤ kq.length) ∧ Fr 290 [(3, iv at_), (6, iv number), (7, iv t), (8, kx), (19, .bool true), (20, Go.PW.pt w4.heap.size), (24, s3), (26, (.slice (some ⟨w17.heap.size, 0, none⟩) 5 5)), (109, (.slice (some ⟨w18.heap.size, 0, none⟩) 3 3)), (110, iv 3), (111, iv (k0 : Int)), (28, Go.PW.pt w20.heap.size), (229, s23), (230, iv (kq.length : Int)), (231, iv (k8 : Int))] [] a ∧ St No w19 [own s23 9 1 ((kq).map fun s => [sv s]), blk w20.heap.size [iv ((zs.getD k0 exZ).signer), iv ((zs.getD k0 exZ).holder), iv ((zs.getD k0 exZ).rf), iv ((zs.getD k0 exZ).rt), iv ((zs.getD k0 exZ).carrier), iv ((zs.getD k0 exZ).serial), iv ((zs.getD k0 exZ).sf), iv ((zs.getD k0 exZ).st), sv ((zs.getD k0 exZ).sig)] 30] w) _ ⟨0, rfl, Nat.zero_le _, Z.pick [3, 6, 7, 8, 19, 20, 24, 26, 109, 110, 111, 28, 229, 230, 231], Y.select [0, 1] (by decide)⟩ ?_
  rintro _ a w48 ⟨k8, rfl, hk8, Z, Y⟩
  refine aa fun K40 hK40 => wlv Z (v_lt rfl rfl) fun a Z => ab (hK40 _ _ ?_)
  refine ai fun K41 hK41 => ?_
  refine ay Z rfl (fun hc24 => ?_) (fun hc24 => ?_)
  ·rw [hc24] at Z
   try simp only [qz] at hc24
   refine ax ?_
   refine hK41 _ _ ?_
   refine ai fun K42 hK42 => aq ?_
   refine aa fun K43 hK43 => wlv Z ((ak (i := (k8 : Int)) (sT := 32) (Y.ownAt (i := 0) rfl) rfl rfl (Tryz.runUnderlying32 _) (Tryz.sizeOf9 _) (by omega) (by rw [List.length_map]; first | omega | (rw [List.length_set]; omega))).as (v' := slAddr s23 (k8 * 1)) rfl) fun a Z => wlv Z (aC (u := sv (kq.getD k8 [])) (i := k8) (j := 0) (Y.ownAt (i := 0) rfl) (by rw [List.length_map]; first | omega | (rw [List.length_set]; omega)) rfl (Tryz.isAgg9 _) (by rw [bp ([] : By)]; rfl)) fun a Z => wla Z rfl fun a Z => ab (hK43 _ _ ?_)
   obtain ⟨sw, hsw⟩ : ∃ z, sgW (kq.getD k8 []) (zs.getD k0 exZ) = z := ⟨_, rfl⟩
   refine aa fun K44 hK44 => wlm Z rfl fun a Z => wlv Z (ar (Y.get (k := 1) rfl) rfl (Tryz.isAgg30 _) (Tryz.sizeOf30 _)) fun a Z => aA Z Y (by decide) Tryz.call22 rfl (qd hsw (Y.keepb hk0)) ?_
   clear Z Y
   intro a w49 Z Y
   refine wlm Z rfl fun a Z => wlv Z (aD rfl rfl) fun a Z => wlv Z (aD rfl rfl) fun a Z => aK Z Y (by decide) (Tryz.zeroValue30 _) (cs := [iv 0, iv 0, iv 0, iv 0, iv 0, iv 0, iv 0, iv 0, .string (⟨#[]⟩)]) rfl ?_
   clear Z Y
   intro a w50 Z Y
   refine ap 0 Z Y rfl rfl rfl (Tryz.sizeOf30 _) rfl (lb rfl) (ds := [iv sw.1.signer, iv sw.1.holder, iv sw.1.rf, iv sw.1.rt, iv sw.1.carrier, iv sw.1.serial, iv sw.1.sf, iv sw.1.st, sv sw.1.sig]) rfl rfl ?_
   clear Z Y
   intro a w51 Z Y
   refine wla Z rfl fun a Z => ab (hK44 _ _ ?_)
   replace Z : Fr 290 [(3, _), (6, _), (7, _), (8, _), (19, _), (20, _), (24, _), (26, _), (109, _), (110, _), (111, _), (28, _), (229, _), (230, _), (231, _), (40, _), (41, _), (42, _)] [] a := Z.pick [3, 6, 7, 8, 19, 20, 24, 26, 109, 110, 111, 28, 229, 230, 231, 40, 41, 42]
   refine aa fun K45 hK45 => wlm Z rfl fun a Z => wlv Z (ar (Y.get (k := 2) rfl) rfl (Tryz.isAgg30 _) (Tryz.sizeOf30 _)) fun a Z => aA Z Y (by decide) Tryz.call23 rfl (pp hsw) ?_
   clear Z Y
   intro a w52 Z Y
   refine wlm Z rfl fun a Z => wlv Z (aD rfl rfl) fun a Z => wlv Z (aD rfl rfl) fun a Z => aK Z Y (by decide) (Tryz.zeroValue30 _) (cs := [iv 0, iv 0, iv 0, iv 0, iv 0, iv 0, iv 0, iv 0, .string (⟨#[]⟩)]) rfl ?_
   clear Z Y
   intro a w53 Z Y
   refine ap 0 Z Y rfl rfl rfl (Tryz.sizeOf30 _) rfl (lb rfl) (ds := [iv sw.1.signer, iv sw.1.holder, iv sw.1.rf, iv sw.1.rt, iv sw.1.carrier, iv sw.1.serial, iv sw.1.sf, iv sw.1.st, sv sw.1.sig]) rfl rfl ?_
   clear Z Y
   intro a w54 Z Y
   refine wla Z rfl fun a Z => ab (hK45 _ _ ?_)
   replace Z : Fr 290 [(3, _), (6, _), (7, _), (8, _), (19, _), (20, _), (24, _), (26, _), (109, _), (110, _), (111, _), (28, _), (229, _), (230, _), (231, _), (40, _), (41, _), (42, _), (43, _), (44, _)] [] a := Z.pick [3, 6, 7, 8, 19, 20, 24, 26, 109, 110, 111, 28, 229, 230, 231, 40, 41, 42, 43, 44]
   refine ai fun K46 hK46 => aa fun K47 hK47 => wlv Z (ar (Y.get (k := 1) rfl) rfl (Tryz.isAgg30 _) (Tryz.sizeOf30 _)) fun a Z => wlv Z (ar (Y.get (k := 0) rfl) rfl (Tryz.isAgg30 _) (Tryz.sizeOf30 _)) fun a Z => wlv Z ((ek rfl rfl (by kernel_rfl) (eqWsh sw.1.signer sw.1.holder sw.1.rf sw.1.rt sw.1.carrier sw.1.serial sw.1.sf sw.1.st sw.1.sig sw.1.signer sw.1.holder sw.1.rf sw.1.rt sw.1.carrier sw.1.serial sw.1.sf sw.1.st sw.1.sig _)).asb (b' := false) (by simp)) fun a Z => wlm Z rfl fun a Z => wly Z (al rfl) fun a Z => wly Z (al rfl) fun a Z => wly Z ((v_ne rfl rfl).asb (b' := false) (by simp)) fun a Z => wlv Z (au rfl rfl) fun a Z => ab (hK47 _ _ ?_)
   replace Z : Fr 290 [(3, _), (6, _), (7, _), (8, _), (19, _), (20, _), (24, _), (26, _), (109, _), (110, _), (111, _), (28, _), (229, _), (230, _), (231, _), (40, _), (254, _)] [] a := Z.pick [3, 6, 7, 8, 19, 20, 24, 26, 109, 110, 111, 28, 229, 230, 231, 40, 254]
   replace Y : St No w19 [_, _] w54 := Y.mask [false, false, true, true]
   refine bE Z rfl ?_
   refine ax ?_
   refine hK46 _ _ ?_
   refine aa fun K48 hK48 => wla Z rfl fun a Z => ab (hK48 _ _ ?_)
   refine aq <| aW (fun m a w => ∃ (k10 : Nat), m = ms.length - k10 ∧ (k10 ≤ ms.length) ∧ Fr 290 [(3, iv at_), (6, iv number), (7, iv t), (8, kx), (19, .bool true), (20, Go.PW.pt w4.heap.size), (24, s3), (26, (.slice (some ⟨w17.heap.size, 0, none⟩) 5 5)), (109, (.slice (some ⟨w18.heap.size, 0, none⟩) 3 3)), (110, iv 3), (111, iv (k0 : Int)), (28, Go.PW.pt w20.heap.size), (229, s23), (230, iv (kq.length : Int)), (231, iv (k8 : Int)), (40, sv (kq.getD k8 [])), (45, iv (k10 : Int))] [] a ∧ St No w19 [own s23 9 1 ((kq).map fun s => [sv s]), blk w20.heap.size [iv ((zs.getD k0 exZ).signer), iv ((zs.getD k0 exZ).holder), iv ((zs.getD k0 exZ).rf), iv ((zs.getD k0 exZ).rt), iv ((zs.getD k0 exZ).carrier), iv ((zs.getD k0 exZ).serial), iv ((zs.getD k0 exZ).sf), iv ((zs.getD k0 exZ).st), sv ((zs.getD k0 exZ).sig)] 30] w) _ ⟨0, rfl, Nat.zero_le _, Z.pick [3, 6, 7, 8, 19, 20, 24, 26, 109, 110, 111, 28, 229, 230, 231, 40, 45], Y.select [0, 1] (by decide)⟩ ?_
   rintro _ a w55 ⟨k10, rfl, hk10, Z, Y⟩
   refine ai fun K49 hK49 => aa fun K50 hK50 => wlm Z rfl fun a Z => wlm Z rfl fun a Z => wlv Z ((aN (sT := 31) (Y.arg hfz8_3) rfl rfl (Tryz.runUnderlying31 _)).asi (m' := (ms.length : Int)) (by rw [List.length_map])) fun a Z => wlv Z (v_lt rfl rfl) fun a Z => ab (hK50 _ _ ?_)
   refine ay Z rfl (fun hc25 => ?_) (fun hc25 => ?_)
   ·rw [hc25] at Z
    try simp only [qz] at hc25
    refine ax ?_
    refine hK49 _ _ ?_
    refine ai fun K51 hK51 => aq ?_
    obtain ⟨sp, hsp⟩ : ∃ z, sgP (kq.getD k8 []) (ms.getD k10 Pxy.z) = z := ⟨_, rfl⟩
    refine aa fun K52 hK52 => wlm Z rfl fun a Z => wlm Z rfl fun a Z => wlm Z rfl fun a Z => wlv Z ((ak (i := (k10 : Int)) (sT := 31) (Y.arg hfz8_3) rfl rfl (Tryz.runUnderlying31 _) (Tryz.sizeOf40 _) (by omega) (by rw [List.length_map]; first | omega | (rw [List.length_set]; omega))).as (v' := slAddr s3 (k10 * 7)) rfl) fun a Z => wlv Z ((bO (Y.arg hfz8_3) (i := k10) (by rw [List.length_map]; first | omega | (rw [List.length_set]; omega)) rfl (Tryz.isAgg40 _) (Tryz.sizeOf40 _)).as (v' := .agg #[iv ((ms.getD k10 Pxy.z).frm), iv ((ms.getD k10 Pxy.z).to), iv ((ms.getD k10 Pxy.z).rf), iv ((ms.getD k10 Pxy.z).rt), iv ((ms.getD k10 Pxy.z).sf), iv ((ms.getD k10 Pxy.z).st), sv ((ms.getD k10 Pxy.z).sig)]) (by rw [bp Pxy.z]; rfl)) fun a Z => aA Z Y (by decide) Tryz.call24 rfl (pO hsp (Y.keepb hk0)) ?_
    clear Z Y
    intro a w56 Z Y
    refine wlm Z rfl fun a Z => wlv Z (aD rfl rfl) fun a Z => wlv Z (aD rfl rfl) fun a Z => aK Z Y (by decide) (Tryz.zeroValue40 _) (cs := [iv 0, iv 0, iv 0, iv 0, iv 0, iv 0, .string (⟨#[]⟩)]) rfl ?_
    clear Z Y
    intro a w57 Z Y
    refine ap 0 Z Y rfl rfl rfl (Tryz.sizeOf40 _) rfl (lb rfl) (ds := [iv sp.1.frm, iv sp.1.to, iv sp.1.rf, iv sp.1.rt, iv sp.1.sf, iv sp.1.st, sv sp.1.sig]) rfl rfl ?_
    clear Z Y
    intro a w58 Z Y
    refine wla Z rfl fun a Z => ab (hK52 _ _ ?_)
    replace Z : Fr 290 [(3, _), (6, _), (7, _), (8, _), (19, _), (20, _), (24, _), (26, _), (109, _), (110, _), (111, _), (28, _), (229, _), (230, _), (231, _), (40, _), (45, _), (46, _), (47, _)] [] a := Z.pick [3, 6, 7, 8, 19, 20, 24, 26, 109, 110, 111, 28, 229, 230, 231, 40, 45, 46, 47]
    refine aa fun K53 hK53 => wlm Z rfl fun a Z => wlm Z rfl fun a Z => wlm Z rfl fun a Z => wlv Z ((ak (i := (k10 : Int)) (sT := 31) (Y.arg hfz8_3) rfl rfl (Tryz.runUnderlying31 _) (Tryz.sizeOf40 _) (by omega) (by rw [List.length_map]; first | omega | (rw [List.length_set]; omega))).as (v' := slAddr s3 (k10 * 7)) rfl) fun a Z => wlv Z ((bO (Y.arg hfz8_3) (i := k10) (by rw [List.length_map]; first | omega | (rw [List.length_set]; omega)) rfl (Tryz.isAgg40 _) (Tryz.sizeOf40 _)).as (v' := .agg #[iv ((ms.getD k10 Pxy.z).frm), iv ((ms.getD k10 Pxy.z).to), iv ((ms.getD k10 Pxy.z).rf), iv ((ms.getD k10 Pxy.z).rt), iv ((ms.getD k10 Pxy.z).sf), iv ((ms.getD k10 Pxy.z).st), sv ((ms.getD k10 Pxy.z).sig)]) (by rw [bp Pxy.z]; rfl)) fun a Z => aA Z Y (by decide) Tryz.call25 rfl (oI hsp) ?_
    clear Z Y
    intro a w59 Z Y
    refine wlm Z rfl fun a Z => wlv Z (aD rfl rfl) fun a Z => wlv Z (aD rfl rfl) fun a Z => aK Z Y (by decide) (Tryz.zeroValue40 _) (cs := [iv 0, iv 0, iv 0, iv 0, iv 0, iv 0, .string (⟨#[]⟩)]) rfl ?_
    clear Z Y
    intro a w60 Z Y
    refine ap 0 Z Y rfl rfl rfl (Tryz.sizeOf40 _) rfl (lb rfl) (ds := [iv sp.1.frm, iv sp.1.to, iv sp.1.rf, iv sp.1.rt, iv sp.1.sf, iv sp.1.st, sv sp.1.sig]) rfl rfl ?_
    clear Z Y
    intro a w61 Z Y
    refine wla Z rfl fun a Z => ab (hK53 _ _ ?_)
    replace Z : Fr 290 [(3, _), (6, _), (7, _), (8, _), (19, _), (20, _), (24, _), (26, _), (109, _), (110, _), (111, _), (28, _), (229, _), (230, _), (231, _), (40, _), (45, _), (46, _), (47, _), (48, _), (49, _)] [] a := Z.pick [3, 6, 7, 8, 19, 20, 24, 26, 109, 110, 111, 28, 229, 230, 231, 40, 45, 46, 47, 48, 49]
    refine aa fun K54 hK54 => wlv Z (ar (Y.get (k := 1) rfl) rfl (Tryz.isAgg40 _) (Tryz.sizeOf40 _)) fun a Z => wlv Z (ar (Y.get (k := 0) rfl) rfl (Tryz.isAgg40 _) (Tryz.sizeOf40 _)) fun a Z => wlv Z ((ek rfl rfl (by kernel_rfl) (eqPxy sp.1.frm sp.1.to sp.1.rf sp.1.rt sp.1.sf sp.1.st sp.1.sig sp.1.frm sp.1.to sp.1.rf sp.1.rt sp.1.sf sp.1.st sp.1.sig _)).asb (b' := false) (by simp)) fun a Z => wlm Z rfl fun a Z => wly Z (al rfl) fun a Z => wly Z (al rfl) fun a Z => wly Z ((v_ne rfl rfl).asb (b' := false) (by simp)) fun a Z => wlv Z (au rfl rfl) fun a Z => ab (hK54 _ _ ?_)
    replace Z : Fr 290 [(3, _), (6, _), (7, _), (8, _), (19, _), (20, _), (24, _), (26, _), (109, _), (110, _), (111, _), (28, _), (229, _), (230, _), (231, _), (40, _), (45, _), (286, _)] [] a := Z.pick [3, 6, 7, 8, 19, 20, 24, 26, 109, 110, 111, 28, 229, 230, 231, 40, 45, 286]
    replace Y : St No w19 [_, _] w61 := Y.mask [false, false, true, true]
    refine bE Z rfl ?_
    refine ax ?_
    refine hK51 _ _ ?_
    refine am <| wlm Z rfl fun a Z => wlv Z (aT rfl rfl ⟨by omega, by omega⟩) fun a Z => wla Z rfl fun a Z => ab ?_
    refine ⟨_, ?_, k10 + 1, rfl, (by omega), Z.pick [3, 6, 7, 8, 19, 20, 24, 26, 109, 110, 111, 28, 229, 230, 231, 40, 45], Y.select [0, 1] (by decide)⟩
    omega
   rw [hc25] at Z
   try simp only [qz] at hc25
   refine aP ?_
   refine hK42 _ _ ?_
   refine am <| wlv Z (aT rfl rfl ⟨by omega, by omega⟩) fun a Z => wlm Z rfl fun a Z => ab ?_
   refine ⟨_, ?_, k8 + 1, rfl, (by omega), Z.pick [3, 6, 7, 8, 19, 20, 24, 26, 109, 110, 111, 28, 229, 230, 231], Y.select [0, 1] (by decide)⟩
   omega
  rw [hc24] at Z
  try simp only [qz] at hc24
  refine aP ?_
  refine hK16 _ _ ?_
  refine am <| wlv Z (aT rfl rfl ⟨by omega, by omega⟩) fun a Z => wlm Z rfl fun a Z => ab ?_
  refine ⟨_, ?_, k0 + 1, rfl, (by omega), Z.pick [3, 6, 7, 8, 19, 20, 24, 26, 109, 110, 111], Y.select [] (by decide)⟩
  omega
 rw [hc9] at Z
 try simp only [qz] at hc9
 refine aP ?_
 replace Y : St No w0 [own (.slice (some ⟨w18.heap.size, 0, none⟩) 3 3) 30 9 ((zs).map Wsh.cells), own (.slice (some ⟨w17.heap.size, 0, none⟩) 5 5) 31 1 ((lls).map fun z : Value => [z]), own s7 40 7 ((ps ++ ps).map Pxy.cells), own s3 40 7 ((ms).map Pxy.cells), blk w7.heap.size [iv bw.signer, iv bw.holder, iv bw.rf, iv bw.rt, iv bw.carrier, iv bw.serial, iv bw.sf, iv bw.st, sv bw.sig] 30, blk w4.heap.size [iv x.signer, iv x.holder, iv x.rf, iv x.rt, iv x.carrier, iv x.serial, iv x.sf, iv x.st, sv x.sig] 30, own pv1 40 7 (ps.map Pxy.cells), blk w1.heap.size [iv o.signer, iv o.holder, iv o.rf, iv o.rt, iv o.carrier, iv o.serial, iv o.sf, iv o.st, sv o.sig] 30] w20 := huz8.grow Y.ext
 have hk0 := hk0z8
 refine hK12 _ _ ?_
 refine aa fun K55 hK55 => wlm Z rfl fun a Z => wla Z rfl fun a Z => ab (hK55 _ _ ?_)
 replace Z : Fr 290 [(18, _)] [] a := Z.pick [18]
 replace Y : St No w0 [_, _, _] w20 := Y.mask [false, false, true, true, false, false, true, false]
 refine aw ?_
 refine ao Z Tryz.results3 (ah rfl ag) ?_
 exact ⟨by rfl, Y.ext⟩
end Go.Proofs.YtmmfieceinmloaaGreatDoor
namespace Go.Proofs.YtmmfieceinmloaaGreatDoor
open Go.RowKit Go.PW
set_option linter.unusedVariables false
set_option linter.unusedSimpArgs false
set_option maxRecDepth 4000
open Go.ChangeShapes Go.WideShapes Go.ChangeAt
section
variable {H : Type} {enc : TypeId × Value → H} {W : World} {base b0 : Nat} {sp : Nat → Bool} {hd : Bool} {v : Value} {d : DataW H} {ps : List MemPlace} {r : Reach}
theorem kh {fuel : Nat} {cs : List Value} {x : DataW H × List MemPlace} (hl : cs.length = 2) (hw : Wt Tryz.prog 27 x.1) (h : DataW.trod enc Tryz.prog W base sp hd fuel 27 cs = some x) :
  ∃ (n0 : Int) (n1 : Int), cs = [iv n0, iv n1] ∧ (i64 n0) ∧ (i64 n1) := by
 obtain ⟨c0, c1, rfl⟩ := len2 hl
 obtain ⟨m0, z0, h0, w0⟩ := bo 0 _ Tryz.underlying27 hw h rfl
 have k0 : Tryz.prog.cellsOf 3 = 1 := by kernel_rfl
 replace h0 : DataW.trod enc Tryz.prog W base sp hd m0 3 [c0] = some z0 := by rw [show [c0] = ([c0, c1].drop 0).take (Tryz.prog.cellsOf 3) from by rw [k0]; rfl]; exact h0
 obtain ⟨m1, z1, h1, w1⟩ := bo 1 _ Tryz.underlying27 hw h rfl
 have k1 : Tryz.prog.cellsOf 3 = 1 := by kernel_rfl
 replace h1 : DataW.trod enc Tryz.prog W base sp hd m1 3 [c1] = some z1 := by rw [show [c1] = ([c0, c1].drop 1).take (Tryz.prog.cellsOf 3) from by rw [k1]; rfl]; exact h1
 obtain ⟨n0, e0, f0⟩ := cj Tryz.underlying3 h0
 obtain rfl : c0 = iv n0 := by simpa using e0
 obtain ⟨n1, e1, f1⟩ := cj Tryz.underlying3 h1
 obtain rfl : c1 = iv n1 := by simpa using e1
 exact ⟨n0, n1, rfl, f0, f1⟩
theorem jC {fuel : Nat} {cs : List Value} {x : DataW H × List MemPlace} (hl : cs.length = 2) (hw : Wt Tryz.prog 28 x.1) (h : DataW.trod enc Tryz.prog W base sp hd fuel 28 cs = some x) :
  ∃ (n0 : Int) (n1 : Int), cs = [iv n0, iv n1] ∧ (i64 n0) ∧ (i64 n1) := by
 obtain ⟨c0, c1, rfl⟩ := len2 hl
 obtain ⟨m0, z0, h0, w0⟩ := bo 0 _ Tryz.underlying28 hw h rfl
 have k0 : Tryz.prog.cellsOf 3 = 1 := by kernel_rfl
 replace h0 : DataW.trod enc Tryz.prog W base sp hd m0 3 [c0] = some z0 := by rw [show [c0] = ([c0, c1].drop 0).take (Tryz.prog.cellsOf 3) from by rw [k0]; rfl]; exact h0
 obtain ⟨m1, z1, h1, w1⟩ := bo 1 _ Tryz.underlying28 hw h rfl
 have k1 : Tryz.prog.cellsOf 3 = 1 := by kernel_rfl
 replace h1 : DataW.trod enc Tryz.prog W base sp hd m1 3 [c1] = some z1 := by rw [show [c1] = ([c0, c1].drop 1).take (Tryz.prog.cellsOf 3) from by rw [k1]; rfl]; exact h1
 obtain ⟨n0, e0, f0⟩ := cj Tryz.underlying3 h0
 obtain rfl : c0 = iv n0 := by simpa using e0
 obtain ⟨n1, e1, f1⟩ := cj Tryz.underlying3 h1
 obtain rfl : c1 = iv n1 := by simpa using e1
 exact ⟨n0, n1, rfl, f0, f1⟩
theorem len9 {α : Type} {l : List α} (h : l.length = 9) : ∃ a0 a1 a2 a3 a4 a5 a6 a7 a8, l = [a0, a1, a2, a3, a4, a5, a6, a7, a8] := by
 match l, h with
 | [a0, a1, a2, a3, a4, a5, a6, a7, a8], _ => exact ⟨_, _, _, _, _, _, _, _, _, rfl⟩
theorem nN {fuel : Nat} {cs : List Value} {x : DataW H × List MemPlace} (hl : cs.length = 9) (hw : Wt Tryz.prog 30 x.1) (h : DataW.trod enc Tryz.prog W base sp hd fuel 30 cs = some x) :
  ∃ (n0 : Int) (n1 : Int) (n2 : Int) (n3 : Int) (n4 : Int) (n5 : Int) (n6 : Int) (n7 : Int) (s8 : By), cs = [iv n0, iv n1, iv n2, iv n3, iv n4, iv n5, iv n6, iv n7, sv s8] ∧ (i64 n0) ∧ (i64 n1) ∧ (i64 n2) ∧ (i64 n3) ∧ (i64 n4) ∧ (i64 n5) ∧ (i64 n6) ∧ (i64 n7) ∧ (s8.length ≤ 140737488355328) := by
 obtain ⟨c0, c1, c2, c3, c4, c5, c6, c7, c8, rfl⟩ := len9 hl
 obtain ⟨m0, z0, h0, w0⟩ := bo 0 _ Tryz.underlying30 hw h rfl
 have k0 : Tryz.prog.cellsOf 3 = 1 := by kernel_rfl
 replace h0 : DataW.trod enc Tryz.prog W base sp hd m0 3 [c0] = some z0 := by rw [show [c0] = ([c0, c1, c2, c3, c4, c5, c6, c7, c8].drop 0).take (Tryz.prog.cellsOf 3) from by rw [k0]; rfl]; exact h0
 obtain ⟨m1, z1, h1, w1⟩ := bo 1 _ Tryz.underlying30 hw h rfl
 have k1 : Tryz.prog.cellsOf 3 = 1 := by kernel_rfl
 replace h1 : DataW.trod enc Tryz.prog W base sp hd m1 3 [c1] = some z1 := by rw [show [c1] = ([c0, c1, c2, c3, c4, c5, c6, c7, c8].drop 1).take (Tryz.prog.cellsOf 3) from by rw [k1]; rfl]; exact h1
 obtain ⟨m2, z2, h2, w2⟩ := bo 2 _ Tryz.underlying30 hw h rfl
 have k2 : Tryz.prog.cellsOf 27 = 2 := by kernel_rfl
 replace h2 : DataW.trod enc Tryz.prog W base sp hd m2 27 [c2, c3] = some z2 := by rw [show [c2, c3] = ([c0, c1, c2, c3, c4, c5, c6, c7, c8].drop 2).take (Tryz.prog.cellsOf 27) from by rw [k2]; rfl]; exact h2
 obtain ⟨m3, z3, h3, w3⟩ := bo 3 _ Tryz.underlying30 hw h rfl
 have k3 : Tryz.prog.cellsOf 3 = 1 := by kernel_rfl
 replace h3 : DataW.trod enc Tryz.prog W base sp hd m3 3 [c4] = some z3 := by rw [show [c4] = ([c0, c1, c2, c3, c4, c5, c6, c7, c8].drop 4).take (Tryz.prog.cellsOf 3) from by rw [k3]; rfl]; exact h3
 obtain ⟨m4, z4, h4, w4⟩ := bo 4 _ Tryz.underlying30 hw h rfl
 have k4 : Tryz.prog.cellsOf 3 = 1 := by kernel_rfl
 replace h4 : DataW.trod enc Tryz.prog W base sp hd m4 3 [c5] = some z4 := by rw [show [c5] = ([c0, c1, c2, c3, c4, c5, c6, c7, c8].drop 5).take (Tryz.prog.cellsOf 3) from by rw [k4]; rfl]; exact h4
 obtain ⟨m5, z5, h5, w5⟩ := bo 5 _ Tryz.underlying30 hw h rfl
 have k5 : Tryz.prog.cellsOf 28 = 2 := by kernel_rfl
 replace h5 : DataW.trod enc Tryz.prog W base sp hd m5 28 [c6, c7] = some z5 := by rw [show [c6, c7] = ([c0, c1, c2, c3, c4, c5, c6, c7, c8].drop 6).take (Tryz.prog.cellsOf 28) from by rw [k5]; rfl]; exact h5
 obtain ⟨m6, z6, h6, w6⟩ := bo 6 _ Tryz.underlying30 hw h rfl
 have k6 : Tryz.prog.cellsOf 9 = 1 := by kernel_rfl
 replace h6 : DataW.trod enc Tryz.prog W base sp hd m6 9 [c8] = some z6 := by rw [show [c8] = ([c0, c1, c2, c3, c4, c5, c6, c7, c8].drop 8).take (Tryz.prog.cellsOf 9) from by rw [k6]; rfl]; exact h6
 obtain ⟨n0, e0, f0⟩ := cj Tryz.underlying3 h0
 obtain rfl : c0 = iv n0 := by simpa using e0
 obtain ⟨n1, e1, f1⟩ := cj Tryz.underlying3 h1
 obtain rfl : c1 = iv n1 := by simpa using e1
 obtain ⟨n2, n3, e2, f2_0, f2_1⟩ := kh rfl w2 h2
 simp only [List.cons.injEq, and_true] at e2
 obtain ⟨rfl, rfl⟩ := e2
 obtain ⟨n4, e3, f3⟩ := cj Tryz.underlying3 h3
 obtain rfl : c4 = iv n4 := by simpa using e3
 obtain ⟨n5, e4, f4⟩ := cj Tryz.underlying3 h4
 obtain rfl : c5 = iv n5 := by simpa using e4
 obtain ⟨n6, n7, e5, f5_0, f5_1⟩ := jC rfl w5 h5
 simp only [List.cons.injEq, and_true] at e5
 obtain ⟨rfl, rfl⟩ := e5
 obtain ⟨s8, e6, f6⟩ := gq Tryz.underlying9 w6 h6
 obtain rfl : c8 = sv s8 := by simpa using e6
 exact ⟨n0, n1, n2, n3, n4, n5, n6, n7, s8, rfl, f0, f1, f2_0, f2_1, f3, f4, f5_0, f5_1, f6⟩
theorem lz (hval : Value.okWide Tryz.prog W r b0 30 v) (hw : Wt Tryz.prog 30 d) (hd0 : DataW.Trod enc Tryz.prog W base sp hd 30 v d ps) :
  ∃ (n0 : Int) (n1 : Int) (n2 : Int) (n3 : Int) (n4 : Int) (n5 : Int) (n6 : Int) (n7 : Int) (s8 : By), v = .agg #[iv n0, iv n1, iv n2, iv n3, iv n4, iv n5, iv n6, iv n7, sv s8] ∧ (i64 n0) ∧ (i64 n1) ∧ (i64 n2) ∧ (i64 n3) ∧ (i64 n4) ∧ (i64 n5) ∧ (i64 n6) ∧ (i64 n7) ∧ (s8.length ≤ 140737488355328) := by
 obtain ⟨csA, rfl, hsz, hrow⟩ := fL (by kernel_rfl) hval
 obtain ⟨fuel, hf⟩ := hd0
 have hc : Tryz.prog.cellsOf 30 = 9 := by kernel_rfl
 obtain ⟨n0, n1, n2, n3, n4, n5, n6, n7, s8, he, g0, g1, g2, g3, g4, g5, g6, g7, g8⟩ := nN (cs := csA.toList) (by rw [Array.length_toList, hsz, hc]) hw hf
 obtain rfl : csA = #[iv n0, iv n1, iv n2, iv n3, iv n4, iv n5, iv n6, iv n7, sv s8] := by
  have he2 : csA.toList = [iv n0, iv n1, iv n2, iv n3, iv n4, iv n5, iv n6, iv n7, sv s8] := he
  cases csA; simp only at he2; rw [he2]
 exact ⟨n0, n1, n2, n3, n4, n5, n6, n7, s8, rfl, g0, g1, g2, g3, g4, g5, g6, g7, g8⟩
theorem len7 {α : Type} {l : List α} (h : l.length = 7) : ∃ a0 a1 a2 a3 a4 a5 a6, l = [a0, a1, a2, a3, a4, a5, a6] := by
 match l, h with
 | [a0, a1, a2, a3, a4, a5, a6], _ => exact ⟨_, _, _, _, _, _, _, rfl⟩
theorem oc {fuel : Nat} {cs : List Value} {x : DataW H × List MemPlace} (hl : cs.length = 7) (hw : Wt Tryz.prog 40 x.1) (h : DataW.trod enc Tryz.prog W base sp hd fuel 40 cs = some x) :
  ∃ (n0 : Int) (n1 : Int) (n2 : Int) (n3 : Int) (n4 : Int) (n5 : Int) (s6 : By), cs = [iv n0, iv n1, iv n2, iv n3, iv n4, iv n5, sv s6] ∧ (i64 n0) ∧ (i64 n1) ∧ (i64 n2) ∧ (i64 n3) ∧ (i64 n4) ∧ (i64 n5) ∧ (s6.length ≤ 140737488355328) := by
 obtain ⟨c0, c1, c2, c3, c4, c5, c6, rfl⟩ := len7 hl
 obtain ⟨m0, z0, h0, w0⟩ := bo 0 _ Tryz.underlying40 hw h rfl
 have k0 : Tryz.prog.cellsOf 3 = 1 := by kernel_rfl
 replace h0 : DataW.trod enc Tryz.prog W base sp hd m0 3 [c0] = some z0 := by rw [show [c0] = ([c0, c1, c2, c3, c4, c5, c6].drop 0).take (Tryz.prog.cellsOf 3) from by rw [k0]; rfl]; exact h0
 obtain ⟨m1, z1, h1, w1⟩ := bo 1 _ Tryz.underlying40 hw h rfl
 have k1 : Tryz.prog.cellsOf 3 = 1 := by kernel_rfl
 replace h1 : DataW.trod enc Tryz.prog W base sp hd m1 3 [c1] = some z1 := by rw [show [c1] = ([c0, c1, c2, c3, c4, c5, c6].drop 1).take (Tryz.prog.cellsOf 3) from by rw [k1]; rfl]; exact h1
 obtain ⟨m2, z2, h2, w2⟩ := bo 2 _ Tryz.underlying40 hw h rfl
 have k2 : Tryz.prog.cellsOf 27 = 2 := by kernel_rfl
 replace h2 : DataW.trod enc Tryz.prog W base sp hd m2 27 [c2, c3] = some z2 := by rw [show [c2, c3] = ([c0, c1, c2, c3, c4, c5, c6].drop 2).take (Tryz.prog.cellsOf 27) from by rw [k2]; rfl]; exact h2
 obtain ⟨m3, z3, h3, w3⟩ := bo 3 _ Tryz.underlying40 hw h rfl
 have k3 : Tryz.prog.cellsOf 28 = 2 := by kernel_rfl
 replace h3 : DataW.trod enc Tryz.prog W base sp hd m3 28 [c4, c5] = some z3 := by rw [show [c4, c5] = ([c0, c1, c2, c3, c4, c5, c6].drop 4).take (Tryz.prog.cellsOf 28) from by rw [k3]; rfl]; exact h3
 obtain ⟨m4, z4, h4, w4⟩ := bo 4 _ Tryz.underlying40 hw h rfl
 have k4 : Tryz.prog.cellsOf 9 = 1 := by kernel_rfl
 replace h4 : DataW.trod enc Tryz.prog W base sp hd m4 9 [c6] = some z4 := by rw [show [c6] = ([c0, c1, c2, c3, c4, c5, c6].drop 6).take (Tryz.prog.cellsOf 9) from by rw [k4]; rfl]; exact h4
 obtain ⟨n0, e0, f0⟩ := cj Tryz.underlying3 h0
 obtain rfl : c0 = iv n0 := by simpa using e0
 obtain ⟨n1, e1, f1⟩ := cj Tryz.underlying3 h1
 obtain rfl : c1 = iv n1 := by simpa using e1
 obtain ⟨n2, n3, e2, f2_0, f2_1⟩ := kh rfl w2 h2
 simp only [List.cons.injEq, and_true] at e2
 obtain ⟨rfl, rfl⟩ := e2
 obtain ⟨n4, n5, e3, f3_0, f3_1⟩ := jC rfl w3 h3
 simp only [List.cons.injEq, and_true] at e3
 obtain ⟨rfl, rfl⟩ := e3
 obtain ⟨s6, e4, f4⟩ := gq Tryz.underlying9 w4 h4
 obtain rfl : c6 = sv s6 := by simpa using e4
 exact ⟨n0, n1, n2, n3, n4, n5, s6, rfl, f0, f1, f2_0, f2_1, f3_0, f3_1, f4⟩
theorem mN {fuel : Nat} {v : Value} {x : DataW H × List MemPlace} (hok : Cell.okWide Tryz.prog W r b0 31 v) (hw : Wt Tryz.prog 31 x.1) (h : DataW.trod enc Tryz.prog W base sp hd fuel 31 [v] = some x) :
  ∃ xs : List Pxy, SlAt W v 7 (xs.map Pxy.cells) ∧ ∀ a ∈ xs, True := by
 obtain ⟨els, h1, h2⟩ := jp 7 Tryz.underlying31 (by kernel_rfl) (by decide) (of_decide_eq_true (by kernel_rfl)) hok hw h
 exact lr (f := Pxy.cells) (q := fun a => True) h1 fun i hi => by
  obtain ⟨n, y, hy, hwy⟩ := h2 i hi
  obtain ⟨n0, n1, n2, n3, n4, n5, s6, he, hf⟩ := oc (h1.1 _ (List.getElem_mem hi)) hwy hy
  exact ⟨⟨n0, n1, n2, n3, n4, n5, s6⟩, he, trivial⟩
theorem kX (hval : Value.okWide Tryz.prog W r b0 31 v) (hw : Wt Tryz.prog 31 d) (hd0 : DataW.Trod enc Tryz.prog W base sp hd 31 v d ps) :
  ∃ xs : List Pxy, SlAt W v 7 (xs.map Pxy.cells) ∧ ∀ a ∈ xs, True := by
 obtain ⟨fuel, hf⟩ := hd0
 have hcs : v.cells.toList = [v] := by
  rcases dU (by rw [Tryz.underlying31]) hval with h
  have : ∃ a n c, v = .slice a n c := by
   unfold Cell.okWide Cell.ok at h
   rw [Tryz.underlying31] at h
   cases v <;> simp_all
  obtain ⟨a, n, c, rfl⟩ := this
  rfl
 rw [hcs] at hf
 exact mN (dU (by rw [Tryz.underlying31]) hval) hw hf
theorem mE {fuel : Nat} {v : Value} {x : DataW H × List MemPlace} (hok : Cell.okWide Tryz.prog W r b0 32 v) (hw : Wt Tryz.prog 32 x.1) (h : DataW.trod enc Tryz.prog W base sp hd fuel 32 [v] = some x) :
  ∃ xs : List By, SlAt W v 1 (xs.map (fun s : By => [sv s])) ∧ ∀ a ∈ xs, True := by
 obtain ⟨els, h1, h2⟩ := jp 1 Tryz.underlying32 (by kernel_rfl) (by decide) (of_decide_eq_true (by kernel_rfl)) hok hw h
 exact lr (f := fun s : By => [sv s]) (q := fun a => True) h1 fun i hi => by
  obtain ⟨n, y, hy, hwy⟩ := h2 i hi
  obtain ⟨s0, he, f0⟩ := gq Tryz.underlying9 hwy hy
  exact ⟨s0, he, trivial⟩
theorem ky (hval : Value.okWide Tryz.prog W r b0 32 v) (hw : Wt Tryz.prog 32 d) (hd0 : DataW.Trod enc Tryz.prog W base sp hd 32 v d ps) :
  ∃ xs : List By, SlAt W v 1 (xs.map (fun s : By => [sv s])) ∧ ∀ a ∈ xs, True := by
 obtain ⟨fuel, hf⟩ := hd0
 have hcs : v.cells.toList = [v] := by
  rcases dU (by rw [Tryz.underlying32]) hval with h
  have : ∃ a n c, v = .slice a n c := by
   unfold Cell.okWide Cell.ok at h
   rw [Tryz.underlying32] at h
   cases v <;> simp_all
  obtain ⟨a, n, c, rfl⟩ := this
  rfl
 rw [hcs] at hf
 exact mE (dU (by rw [Tryz.underlying32]) hval) hw hf
end
end Go.Proofs.YtmmfieceinmloaaGreatDoor
