/- Texts joined: WshD, BldA, BldB, WshE, WshF, WshG, WshH, WshI, WshJ, WshR, WshK, Rdr, WshL, WshM, WshN, WshO, WshS, WshT, WshU, WshV, Open, Laid, Door, RefV, SgnA. -/
import Derived.Test.YtmmfieceinmloaaGreatDoorPVC
import Derived.Test.YtmmfieceinmloaaGreatDoorPVB
import Derived.Laws.StructEq
import Derived.Test.YtmmfieceinmloaaGreatDoorPVA
import Derived.LaidMore
import Derived.OpenShut
import Derived.Stop.Joined
import Derived.SevenTiedAt
import Derived.ChangeMaps5
import Derived.Test.YtmmfieceinmloaaGreatDoorRows
namespace Go.Proofs.YtmmfieceinmloaaGreatDoor
open Go.RowKit Go.PW
set_option linter.unusedVariables false
set_option linter.unusedSimpArgs false
set_option maxRecDepth 4000
theorem cC {P : Program} {w : World} {d : Nat} {xs ys : Array Value} {f : Field} {fs : List Field} {a b : Value} {r r' : Bool} (hn : f.name ≠ "_") (h1 : (part f.type xs f.offset).run P w = .ok a w) (h2 : (part f.type ys f.offset).run P w = .ok b w)
  (h3 : (Op.equalIn d f.type a b).run P w = .ok r w) (h4 : (Op.eqFields d xs ys fs).run P w = .ok r' w) : (Op.eqFields d xs ys (f :: fs)).run P w = .ok (r && r') w := by
 simp only [Op.eqFields, hn, ne_eq, not_false_eq_true, if_true, Sem.run_bind, h1, h2, h3, Result.andThen_ok]
 cases r
 ·simp
 ·simpa using h4
theorem i9 {P : Program} {w : World} {d : Nat} {xs ys : Array Value} : (Op.eqFields d xs ys []).run P w = .ok true w := by simp [Op.eqFields]
theorem eqI {w : World} (d : Nat) (a b : Int) : (Op.equalIn (d + 1) 3 (iv a) (iv b)).run Tryz.prog w = .ok (decide (a = b)) w := by
 rw [run_equalIn_int w d 3 .i64 .i64 a b Tryz.underlying3]; congr 1
theorem eqS {w : World} (d : Nat) (a b : By) : (Op.equalIn (d + 1) 9 (sv a) (sv b)).run Tryz.prog w = .ok (decide (a = b)) w := by
 unfold sv
 rw [run_equalIn_string w d 9 _ _ Tryz.underlying9, ByteArray.toList_mk, ByteArray.toList_mk]; congr 1
 rw [Bool.eq_iff_iff]; simp
theorem nI {w : World} (d : Nat) (a0 a1 c0 c1 : Int) : (Op.equalIn (d + 1 + 1) 27 (.agg #[iv a0, iv a1]) (.agg #[iv c0, iv c1])).run Tryz.prog w = .ok (decide (a0 = c0) && (decide (a1 = c1) && true)) w := by
 rw [run_equalIn_struct w (d + 1) 27 _ _ (by kernel_rfl) (by kernel_rfl)]
 simp only [Program.fieldsOf, Tryz.underlying27]
 refine cC (a := iv a0) (b := iv c0) (r := decide (a0 = c0)) (by decide) (by simp [part, Tryz.isAgg3, sv]) (by simp [part, Tryz.isAgg3, sv]) (eqI _ _ _) ?_
 refine cC (a := iv a1) (b := iv c1) (r := decide (a1 = c1)) (by decide) (by simp [part, Tryz.isAgg3, sv]) (by simp [part, Tryz.isAgg3, sv]) (eqI _ _ _) ?_
 exact i9
theorem nR {w : World} (d : Nat) (a0 a1 c0 c1 : Int) : (Op.equalIn (d + 1 + 1) 28 (.agg #[iv a0, iv a1]) (.agg #[iv c0, iv c1])).run Tryz.prog w = .ok (decide (a0 = c0) && (decide (a1 = c1) && true)) w := by
 rw [run_equalIn_struct w (d + 1) 28 _ _ (by kernel_rfl) (by kernel_rfl)]
 simp only [Program.fieldsOf, Tryz.underlying28]
 refine cC (a := iv a0) (b := iv c0) (r := decide (a0 = c0)) (by decide) (by simp [part, Tryz.isAgg3, sv]) (by simp [part, Tryz.isAgg3, sv]) (eqI _ _ _) ?_
 refine cC (a := iv a1) (b := iv c1) (r := decide (a1 = c1)) (by decide) (by simp [part, Tryz.isAgg3, sv]) (by simp [part, Tryz.isAgg3, sv]) (eqI _ _ _) ?_
 exact i9
theorem eqWsh (a0 a1 a2 a3 a4 a5 a6 a7 : Int) (a8 : By) (c0 c1 c2 c3 c4 c5 c6 c7 : Int) (c8 : By) (w : World) : (Op.equal 30 (.agg #[iv a0, iv a1, iv a2, iv a3, iv a4, iv a5, iv a6, iv a7, sv a8]) (.agg #[iv c0, iv c1, iv c2, iv c3, iv c4, iv c5, iv c6, iv c7, sv c8])).run Tryz.prog w = .ok (decide (Wsh.mk a0 a1 a2 a3 a4 a5 a6 a7 a8 = Wsh.mk c0 c1 c2 c3 c4 c5 c6 c7 c8)) w := by
 have e : decide (Wsh.mk a0 a1 a2 a3 a4 a5 a6 a7 a8 = Wsh.mk c0 c1 c2 c3 c4 c5 c6 c7 c8) = (decide (a0 = c0) && (decide (a1 = c1) && ((decide (a2 = c2) && (decide (a3 = c3) && true)) && (decide (a4 = c4) && (decide (a5 = c5) && ((decide (a6 = c6) && (decide (a7 = c7) && true)) && (decide (a8 = c8) && true))))))) := by
  rw [Bool.eq_iff_iff]; simp [and_assoc]
 rw [e]
 unfold Op.equal Op.maxDepth
 obtain ⟨dd, hd⟩ : ∃ dd, 10000 = dd + 1 + 1 + 1 := ⟨9997, rfl⟩
 rw [hd, run_equalIn_struct w (dd + 1 + 1) 30 _ _ (by kernel_rfl) (by kernel_rfl)]
 simp only [Program.fieldsOf, Tryz.underlying30]
 refine cC (a := iv a0) (b := iv c0) (r := decide (a0 = c0)) (by decide) (by simp [part, Tryz.isAgg3, sv]) (by simp [part, Tryz.isAgg3, sv]) (eqI _ _ _) ?_
 refine cC (a := iv a1) (b := iv c1) (r := decide (a1 = c1)) (by decide) (by simp [part, Tryz.isAgg3, sv]) (by simp [part, Tryz.isAgg3, sv]) (eqI _ _ _) ?_
 refine cC (a := .agg #[iv a2, iv a3]) (b := .agg #[iv c2, iv c3]) (r := (decide (a2 = c2) && (decide (a3 = c3) && true))) (by decide) (by simp [part, Tryz.isAgg27, Tryz.sizeOf27]) (by simp [part, Tryz.isAgg27, Tryz.sizeOf27]) (nI _ _ _ _ _) ?_
 refine cC (a := iv a4) (b := iv c4) (r := decide (a4 = c4)) (by decide) (by simp [part, Tryz.isAgg3, sv]) (by simp [part, Tryz.isAgg3, sv]) (eqI _ _ _) ?_
 refine cC (a := iv a5) (b := iv c5) (r := decide (a5 = c5)) (by decide) (by simp [part, Tryz.isAgg3, sv]) (by simp [part, Tryz.isAgg3, sv]) (eqI _ _ _) ?_
 refine cC (a := .agg #[iv a6, iv a7]) (b := .agg #[iv c6, iv c7]) (r := (decide (a6 = c6) && (decide (a7 = c7) && true))) (by decide) (by simp [part, Tryz.isAgg28, Tryz.sizeOf28]) (by simp [part, Tryz.isAgg28, Tryz.sizeOf28]) (nR _ _ _ _ _) ?_
 refine cC (a := sv a8) (b := sv c8) (r := decide (a8 = c8)) (by decide) (by simp [part, Tryz.isAgg9, sv]) (by simp [part, Tryz.isAgg9, sv]) (eqS _ _ _) ?_
 exact i9
def bentW (x : Wsh) (how n : Int) : Wsh :=
 if pickI how 9 = 0 then { x with signer := n } else if pickI how 9 = 1 then { x with holder := n } else if pickI how 9 = 2 then { x with rf := n } else if pickI how 9 = 3 then { x with rt := n } else
 if pickI how 9 = 4 then { x with carrier := n } else if pickI how 9 = 5 then { x with serial := n } else if pickI how 9 = 6 then { x with sf := n } else if pickI how 9 = 7 then { x with st := n } else { x with rt := x.rt + 1 }
set_option maxHeartbeats 4000000 in
theorem nB (x : Wsh) (how n : Int) (w0 : World) (hh : -9223372036854775808 ≤ how ∧ how ≤ 9223372036854775807) (hx : x.rt < 9223372036854775807) (hx2 : -9223372036854775808 ≤ x.rt) :
  Ret Tryz.prog 10 #[.agg #[iv x.signer, iv x.holder, iv x.rf, iv x.rt, iv x.carrier, iv x.serial, iv x.sf, iv x.st, sv x.sig], iv how, iv n] w0 fun v w => v = .tuple #[.agg (bentW x how n).cells.toArray, .bool (!(decide (bentW x how n = x)))] ∧ Ext No w0 w := by
 refine aD Tryz.func10 rfl Tryz.ntmps10 (lb rfl) fun a Z => ?_
 replace Z : Fr 58 [(0, _), (1, _), (2, _)] [] a := Z
 replace Y : St No w0 [] w0 := St.init w0
 refine aa fun K1 hK1 => aN Z Y (by decide) rfl (cs := [iv x.signer, iv x.holder, iv x.rf, iv x.rt, iv x.carrier, iv x.serial, iv x.sf, iv x.st, sv x.sig]) rfl ?_
 clear Z Y
 intro a w1 Z Y
 refine aI Z Y (by decide) (Tryz.zeroValue30 _) (cs := [iv 0, iv 0, iv 0, iv 0, iv 0, iv 0, iv 0, iv 0, .string (⟨#[]⟩)]) rfl ?_
 clear Z Y
 intro a w2 Z Y
 refine wla Z rfl fun a Z => ab (hK1 _ _ <| aa fun K2 hK2 => ?_)
 refine wlv Z (ao (Y.get (k := 1) rfl) rfl (Tryz.isAgg30 _) (Tryz.sizeOf30 _)) fun a Z => aI Z Y (by decide) (Tryz.zeroValue30 _) (cs := [iv 0, iv 0, iv 0, iv 0, iv 0, iv 0, iv 0, iv 0, .string (⟨#[]⟩)]) rfl ?_
 clear Z Y
 intro a w3 Z Y
 refine ap 0 Z Y rfl rfl rfl (Tryz.sizeOf30 _) rfl (lb rfl) (ds := [iv x.signer, iv x.holder, iv x.rf, iv x.rt, iv x.carrier, iv x.serial, iv x.sf, iv x.st, sv x.sig]) rfl rfl ?_
 clear Z Y
 intro a w4 Z Y
 refine ab (hK2 _ _ <| ai fun K3 hK3 => ?_)
 refine aa fun K4 hK4 => wlm Z rfl fun a Z => az Z Y (by decide) Tryz.call53 rfl (cj how 9 _ (by first | assumption | omega) (by omega)) ?_
 clear Z Y
 intro a w5 Z Y
 refine ab (hK4 _ _ ?_)
 refine fj (fun a w => ∃ (o : Wsh), (bentW x how n = o) ∧ Fr 58 [(3, pq w0.heap.size), (6, pq w1.heap.size), (7, .bool false), (8, pq w2.heap.size)] [] a ∧ St No w0 [blk w2.heap.size [iv o.signer, iv o.holder, iv o.rf, iv o.rt, iv o.carrier, iv o.serial, iv o.sf, iv o.st, sv o.sig] 30, blk w1.heap.size [iv 0, iv 0, iv 0, iv 0, iv 0, iv 0, iv 0, iv 0, .string (⟨#[]⟩)] 30, blk w0.heap.size [iv x.signer, iv x.holder, iv x.rf, iv x.rt, iv x.carrier, iv x.serial, iv x.sf, iv x.st, sv x.sig] 30] w) ?_ ?_
 ·refine ax <| aa fun K5 hK5 => wlv Z (v_eq rfl rfl) fun a Z => wla Z rfl fun a Z => ab (hK5 _ _ ?_)
  refine aB Z rfl (fun hc1 => ?_) (fun hc1 => ?_)
  ·rw [hc1] at Z
   try simp only [qz] at hc1
   refine ar <| wlm Z rfl fun a Z => wlv Z (ac (v := pq w2.heap.size) rfl (by kernel_rfl)) fun a Z => ap 0 Z Y rfl rfl rfl (Tryz.sizeOf3 _) rfl (lb rfl) (ds := [iv n, iv x.holder, iv x.rf, iv x.rt, iv x.carrier, iv x.serial, iv x.sf, iv x.st, sv x.sig]) rfl rfl ?_
   clear Z Y
   intro a w6 Z Y
   refine ab ?_
   exact ⟨⟨n, x.holder, x.rf, x.rt, x.carrier, x.serial, x.sf, x.st, x.sig⟩, (by unfold bentW; simp [hc1]), Z.pick [3, 6, 7, 8], Y.select [0, 1, 2] (by decide)⟩
  rw [hc1] at Z
  try simp only [qz] at hc1
  refine aa fun K6 hK6 => wlv Z (v_eq rfl rfl) fun a Z => wla Z rfl fun a Z => ab (hK6 _ _ ?_)
  replace Z : Fr 58 [(2, _), (3, _), (6, _), (7, _), (8, _), (11, _), (22, _)] [] a := Z.pick [2, 3, 6, 7, 8, 11, 22]
  refine aB Z rfl (fun hc2 => ?_) (fun hc2 => ?_)
  ·rw [hc2] at Z
   try simp only [qz] at hc2
   refine ar <| wlm Z rfl fun a Z => wlv Z (ac (v := .pointer (some ⟨w2.heap.size, 1, none⟩)) rfl (by kernel_rfl)) fun a Z => ap 0 Z Y rfl rfl rfl (Tryz.sizeOf3 _) rfl (lb rfl) (ds := [iv x.signer, iv n, iv x.rf, iv x.rt, iv x.carrier, iv x.serial, iv x.sf, iv x.st, sv x.sig]) rfl rfl ?_
   clear Z Y
   intro a w7 Z Y
   refine ab ?_
   exact ⟨⟨x.signer, n, x.rf, x.rt, x.carrier, x.serial, x.sf, x.st, x.sig⟩, (by unfold bentW; simp [hc1, hc2]), Z.pick [3, 6, 7, 8], Y.select [0, 1, 2] (by decide)⟩
  rw [hc2] at Z
  try simp only [qz] at hc2
  refine aa fun K7 hK7 => wlv Z (v_eq rfl rfl) fun a Z => wla Z rfl fun a Z => ab (hK7 _ _ ?_)
  refine aB Z rfl (fun hc3 => ?_) (fun hc3 => ?_)
  ·rw [hc3] at Z
   try simp only [qz] at hc3
   refine ar <| wlm Z rfl fun a Z => wlv Z (ac (v := .pointer (some ⟨w2.heap.size, 2, none⟩)) rfl (by kernel_rfl)) fun a Z => wlv Z (ac (v := .pointer (some ⟨w2.heap.size, 2, none⟩)) rfl (by kernel_rfl)) fun a Z => ap 0 Z Y rfl rfl rfl (Tryz.sizeOf3 _) rfl (lb rfl) (ds := [iv x.signer, iv x.holder, iv n, iv x.rt, iv x.carrier, iv x.serial, iv x.sf, iv x.st, sv x.sig]) rfl rfl ?_
   clear Z Y
   intro a w8 Z Y
   refine ab ?_
   exact ⟨⟨x.signer, x.holder, n, x.rt, x.carrier, x.serial, x.sf, x.st, x.sig⟩, (by unfold bentW; simp [hc1, hc2, hc3]), Z.pick [3, 6, 7, 8], Y.select [0, 1, 2] (by decide)⟩
  rw [hc3] at Z
  try simp only [qz] at hc3
  refine aa fun K8 hK8 => wlv Z (v_eq rfl rfl) fun a Z => wla Z rfl fun a Z => ab (hK8 _ _ ?_)
  refine aB Z rfl (fun hc4 => ?_) (fun hc4 => ?_)
  ·rw [hc4] at Z
   try simp only [qz] at hc4
   refine ar <| wlm Z rfl fun a Z => wlv Z (ac (v := .pointer (some ⟨w2.heap.size, 2, none⟩)) rfl (by kernel_rfl)) fun a Z => wlv Z (ac (v := .pointer (some ⟨w2.heap.size, 3, none⟩)) rfl (by kernel_rfl)) fun a Z => ap 0 Z Y rfl rfl rfl (Tryz.sizeOf3 _) rfl (lb rfl) (ds := [iv x.signer, iv x.holder, iv x.rf, iv n, iv x.carrier, iv x.serial, iv x.sf, iv x.st, sv x.sig]) rfl rfl ?_
   clear Z Y
   intro a w9 Z Y
   refine ab ?_
   exact ⟨⟨x.signer, x.holder, x.rf, n, x.carrier, x.serial, x.sf, x.st, x.sig⟩, (by unfold bentW; simp [hc1, hc2, hc3, hc4]), Z.pick [3, 6, 7, 8], Y.select [0, 1, 2] (by decide)⟩
  rw [hc4] at Z
  try simp only [qz] at hc4
  refine aa fun K9 hK9 => wlv Z (v_eq rfl rfl) fun a Z => wla Z rfl fun a Z => ab (hK9 _ _ ?_)
  replace Z : Fr 58 [(2, _), (3, _), (6, _), (7, _), (8, _), (11, _), (36, _)] [] a := Z.pick [2, 3, 6, 7, 8, 11, 36]
  refine aB Z rfl (fun hc5 => ?_) (fun hc5 => ?_)
  ·rw [hc5] at Z
   try simp only [qz] at hc5
   refine ar <| wlm Z rfl fun a Z => wlv Z (ac (v := .pointer (some ⟨w2.heap.size, 4, none⟩)) rfl (by kernel_rfl)) fun a Z => ap 0 Z Y rfl rfl rfl (Tryz.sizeOf3 _) rfl (lb rfl) (ds := [iv x.signer, iv x.holder, iv x.rf, iv x.rt, iv n, iv x.serial, iv x.sf, iv x.st, sv x.sig]) rfl rfl ?_
   clear Z Y
   intro a w10 Z Y
   refine ab ?_
   exact ⟨⟨x.signer, x.holder, x.rf, x.rt, n, x.serial, x.sf, x.st, x.sig⟩, (by unfold bentW; simp [hc1, hc2, hc3, hc4, hc5]), Z.pick [3, 6, 7, 8], Y.select [0, 1, 2] (by decide)⟩
  rw [hc5] at Z
  try simp only [qz] at hc5
  refine aa fun K10 hK10 => wlv Z (v_eq rfl rfl) fun a Z => wla Z rfl fun a Z => ab (hK10 _ _ ?_)
  refine aB Z rfl (fun hc6 => ?_) (fun hc6 => ?_)
  ·rw [hc6] at Z
   try simp only [qz] at hc6
   refine ar <| wlm Z rfl fun a Z => wlv Z (ac (v := .pointer (some ⟨w2.heap.size, 5, none⟩)) rfl (by kernel_rfl)) fun a Z => ap 0 Z Y rfl rfl rfl (Tryz.sizeOf3 _) rfl (lb rfl) (ds := [iv x.signer, iv x.holder, iv x.rf, iv x.rt, iv x.carrier, iv n, iv x.sf, iv x.st, sv x.sig]) rfl rfl ?_
   clear Z Y
   intro a w11 Z Y
   refine ab ?_
   exact ⟨⟨x.signer, x.holder, x.rf, x.rt, x.carrier, n, x.sf, x.st, x.sig⟩, (by unfold bentW; simp [hc1, hc2, hc3, hc4, hc5, hc6]), Z.pick [3, 6, 7, 8], Y.select [0, 1, 2] (by decide)⟩
  rw [hc6] at Z
  try simp only [qz] at hc6
  refine aa fun K11 hK11 => wlv Z (v_eq rfl rfl) fun a Z => wla Z rfl fun a Z => ab (hK11 _ _ ?_)
  refine aB Z rfl (fun hc7 => ?_) (fun hc7 => ?_)
  ·rw [hc7] at Z
   try simp only [qz] at hc7
   refine ar <| wlm Z rfl fun a Z => wlv Z (ac (v := .pointer (some ⟨w2.heap.size, 6, none⟩)) rfl (by kernel_rfl)) fun a Z => wlv Z (ac (v := .pointer (some ⟨w2.heap.size, 6, none⟩)) rfl (by kernel_rfl)) fun a Z => ap 0 Z Y rfl rfl rfl (Tryz.sizeOf3 _) rfl (lb rfl) (ds := [iv x.signer, iv x.holder, iv x.rf, iv x.rt, iv x.carrier, iv x.serial, iv n, iv x.st, sv x.sig]) rfl rfl ?_
   clear Z Y
   intro a w12 Z Y
   refine ab ?_
   exact ⟨⟨x.signer, x.holder, x.rf, x.rt, x.carrier, x.serial, n, x.st, x.sig⟩, (by unfold bentW; simp [hc1, hc2, hc3, hc4, hc5, hc6, hc7]), Z.pick [3, 6, 7, 8], Y.select [0, 1, 2] (by decide)⟩
  rw [hc7] at Z
  try simp only [qz] at hc7
  refine aa fun K12 hK12 => wlv Z (v_eq rfl rfl) fun a Z => wla Z rfl fun a Z => ab (hK12 _ _ ?_)
  replace Z : Fr 58 [(2, _), (3, _), (6, _), (7, _), (8, _), (49, _)] [] a := Z.pick [2, 3, 6, 7, 8, 49]
  refine aB Z rfl (fun hc8 => ?_) (fun hc8 => ?_)
  ·rw [hc8] at Z
   try simp only [qz] at hc8
   refine ar <| wlm Z rfl fun a Z => wlv Z (ac (v := .pointer (some ⟨w2.heap.size, 6, none⟩)) rfl (by kernel_rfl)) fun a Z => wlv Z (ac (v := .pointer (some ⟨w2.heap.size, 7, none⟩)) rfl (by kernel_rfl)) fun a Z => ap 0 Z Y rfl rfl rfl (Tryz.sizeOf3 _) rfl (lb rfl) (ds := [iv x.signer, iv x.holder, iv x.rf, iv x.rt, iv x.carrier, iv x.serial, iv x.sf, iv n, sv x.sig]) rfl rfl ?_
   clear Z Y
   intro a w13 Z Y
   refine ab ?_
   exact ⟨⟨x.signer, x.holder, x.rf, x.rt, x.carrier, x.serial, x.sf, n, x.sig⟩, (by unfold bentW; simp [hc1, hc2, hc3, hc4, hc5, hc6, hc7, hc8]), Z.pick [3, 6, 7, 8], Y.select [0, 1, 2] (by decide)⟩
  rw [hc8] at Z
  try simp only [qz] at hc8
  refine ar <| wlv Z (ac (v := .pointer (some ⟨w2.heap.size, 2, none⟩)) rfl (by kernel_rfl)) fun a Z => wlv Z (ac (v := .pointer (some ⟨w2.heap.size, 3, none⟩)) rfl (by kernel_rfl)) fun a Z => wlv Z (ae (Y.get (k := 0) rfl) rfl (Tryz.isAgg3 _) rfl) fun a Z => wlv Z (aM rfl rfl ⟨by omega, by omega⟩) fun a Z => wlv Z (ac (v := .pointer (some ⟨w2.heap.size, 2, none⟩)) rfl (by kernel_rfl)) fun a Z => wlv Z (ac (v := .pointer (some ⟨w2.heap.size, 3, none⟩)) rfl (by kernel_rfl)) fun a Z => ?_
  refine ap 0 Z Y rfl rfl rfl (Tryz.sizeOf3 _) rfl (lb rfl) (ds := [iv x.signer, iv x.holder, iv x.rf, iv (x.rt + 1), iv x.carrier, iv x.serial, iv x.sf, iv x.st, sv x.sig]) rfl rfl ?_
  clear Z Y
  intro a w14 Z Y
  refine ab ?_
  exact ⟨⟨x.signer, x.holder, x.rf, x.rt + 1, x.carrier, x.serial, x.sf, x.st, x.sig⟩, (by unfold bentW; simp [hc1, hc2, hc3, hc4, hc5, hc6, hc7, hc8]), Z.pick [3, 6, 7, 8], Y.select [0, 1, 2] (by decide)⟩
 rintro a w15 ⟨o, ho, Z, Y⟩
 refine hK3 _ _ <| ai fun K13 hK13 => aK (by kernel_rfl) (aO (by kernel_rfl) fun w16 hxz => ?_)
 replace Y := Y.grow hxz
 refine aV (k := 0) 5 [3, 4] Z (by kernel_rfl) (by kernel_rfl) (by kernel_rfl) (by rfl) ?_
 replace Z : Fr 58 [(3, _), (6, _), (7, _), (8, _)] [] a := Z.pick [3, 6, 7, 8]
 replace Y : St No w0 [blk w1.heap.size [iv 0, iv 0, iv 0, iv 0, iv 0, iv 0, iv 0, iv 0, .string (⟨#[]⟩)] 30, blk w2.heap.size [iv o.signer, iv o.holder, iv o.rf, iv o.rt, iv o.carrier, iv o.serial, iv o.sf, iv o.st, sv o.sig] 30, blk w0.heap.size [iv x.signer, iv x.holder, iv x.rf, iv x.rt, iv x.carrier, iv x.serial, iv x.sf, iv x.st, sv x.sig] 30] w16 := Y.select [1, 0, 2] (by decide)
 refine gW [4] (fun q => if q = 4 then blk w1.heap.size [iv 0, iv 0, iv 0, iv 0, iv 0, iv 0, iv 0, iv 0, .string (⟨#[]⟩)] 30 else join []) (fun q => if q = 4 then blk w1.heap.size [iv o.signer, iv o.holder, iv o.rf, iv o.rt, iv o.carrier, iv o.serial, iv o.sf, iv o.st, sv o.sig] 30 else join []) 5 [[], [], [], [1, 2], [0]] (fun i => match i with | 0 => pv (.agg #[iv o.signer, iv o.holder, iv o.rf, iv o.rt, iv o.carrier, iv o.serial, iv o.sf, iv o.st, sv o.sig]) | 1 => pv (.agg #[iv o.signer, iv o.holder, iv o.rf, iv o.rt, iv o.carrier, iv o.serial, iv o.sf, iv o.st, sv o.sig]) | 2 => pv (.agg #[iv x.signer, iv x.holder, iv x.rf, iv x.rt, iv x.carrier, iv x.serial, iv x.sf, iv x.st, sv x.sig]) | 3 => pv (.bool (!(decide (o = x)))) | 4 => fun v E => v = undef ∧ E = [] | _ => fun _ _ => False) (by intro q; by_cases h4 : q = 4; (subst h4; rfl); simp only [h4, if_false]) Z (H := [blk w2.heap.size [iv o.signer, iv o.holder, iv o.rf, iv o.rt, iv o.carrier, iv o.serial, iv o.sf, iv o.st, sv o.sig] 30, blk w0.heap.size [iv x.signer, iv x.holder, iv x.rf, iv x.rt, iv x.carrier, iv x.serial, iv x.sf, iv x.st, sv x.sig] 30]) Y (by kernel_rfl) (by kernel_rfl) (by kernel_rfl) (by kernel_rfl) (by decide) (by decide) ?_ ?_ ?_ ?_ ?_ ?_
 ·intro i v E h
  match i, h with
  | 0, _ => exact by decide
  | 1, _ => exact by decide
  | 2, _ => exact by decide
  | 3, _ => exact by decide
  | 4, _ => exact by decide
  | i + 5, h => exact h.elim
 ·intro q v E hq h
  simp only [List.mem_cons, List.not_mem_nil, or_false] at hq
  rcases hq with rfl <;> exact h
 ·intro q hq
  simp only [List.mem_cons, List.not_mem_nil, or_false] at hq
  rcases hq with rfl <;> exact ⟨rfl, rfl⟩
 ·intro i hi hiq e
  match i, hi, hiq with
  | 0, _, _ =>
   intro w Y
   exact OpV.g (ao (Y.get (k := 1) rfl) rfl (Tryz.isAgg30 _) (Tryz.sizeOf30 _))
  | 1, _, _ =>
   intro w Y
   exact OpV.g (ao (Y.get (k := 1) rfl) rfl (Tryz.isAgg30 _) (Tryz.sizeOf30 _))
  | 2, _, _ =>
   intro w Y
   exact OpV.g (ao (Y.get (k := 2) rfl) rfl (Tryz.isAgg30 _) (Tryz.sizeOf30 _))
  | 3, _, _ =>
   rintro _ _ ⟨rfl, rfl⟩ _ _ ⟨rfl, rfl⟩
   intro w Y
   exact OpV.g ((jq rfl rfl (by kernel_rfl) (eqWsh o.signer o.holder o.rf o.rt o.carrier o.serial o.sf o.st o.sig x.signer x.holder x.rf x.rt x.carrier x.serial x.sf x.st x.sig _)).asb (b' := !(decide (o = x))) (by rfl))
  | 4, _, h => exact absurd (by decide) h
 ·intro q hq
  simp only [List.mem_cons, List.not_mem_nil, or_false] at hq
  rcases hq with rfl
  ·rintro _ _ ⟨rfl, rfl⟩
   intro w h
   exact dp (cs := [iv 0, iv 0, iv 0, iv 0, iv 0, iv 0, iv 0, iv 0, .string (⟨#[]⟩)]) (ds := [iv o.signer, iv o.holder, iv o.rf, iv o.rt, iv o.carrier, iv o.serial, iv o.sf, iv o.st, sv o.sig]) rfl rfl h (Tryz.sizeOf30 _) rfl (lb rfl) rfl
 clear Z Y
 rintro _ _ ⟨rfl, rfl⟩ _ _ ⟨rfl, rfl⟩ _ _ ⟨rfl, rfl⟩ _ _ ⟨rfl, rfl⟩ a w17 Z Y
 replace Z : Fr 58 [(54, _), (55, _), (56, _), (57, _), (3, _), (6, _), (7, _), (8, _)] [] a := Z
 replace Y : St No w0 [blk w1.heap.size [iv o.signer, iv o.holder, iv o.rf, iv o.rt, iv o.carrier, iv o.serial, iv o.sf, iv o.st, sv o.sig] 30, blk w2.heap.size [iv o.signer, iv o.holder, iv o.rf, iv o.rt, iv o.carrier, iv o.serial, iv o.sf, iv o.st, sv o.sig] 30, blk w0.heap.size [iv x.signer, iv x.holder, iv x.rf, iv x.rt, iv x.carrier, iv x.serial, iv x.sf, iv x.st, sv x.sig] 30] w17 := Y
 refine ab <| aP (k := 5) 6 [5] (by kernel_rfl) (by kernel_rfl) (by kernel_rfl) ?_
 refine wla Z rfl fun a Z => ab <| bd (by kernel_rfl) ?_
 refine hK13 _ _ ?_
 replace Z : Fr 58 [(6, _), (7, _)] [] a := Z.pick [6, 7]
 replace Y : St No w0 [_] w17 := Y.mask [true, false, false]
 refine aq ?_
 refine ak Z Tryz.results10 (aE rfl (bW (Y.get (k := 0) rfl) (Tryz.isAgg30 _) (Tryz.sizeOf30 _)) (ah rfl ag)) ?_
 rw [ho]
 exact ⟨rfl, Y.ext⟩
def bM (key s : By) : List By := [[0] ++ s, [1] ++ key ++ leafH sha s]
theorem iw (key s : By) (w0 : World) (hk : key.length ≤ 30000000) (hs : s.length ≤ 30000000) :
  Ret Tryz.prog 36 #[sv key, sv s] w0 (MemR w0 (fun v : Value => v) (fun v => [own v 9 1 ((bM key s).map fun s => [sv s])]) (fun _ => True)) := by
 refine aD Tryz.func36 rfl Tryz.ntmps36 (lb rfl) fun a Z => ?_
 replace Z : Fr 13 [(0, _), (1, _)] [] a := Z
 replace Y : St No w0 [] w0 := St.init w0
 refine aa fun K1 hK1 => wla Z rfl fun a Z => ab (hK1 _ _ <| aa fun K2 hK2 => ?_)
 refine wlm Z rfl fun a Z => wlv Z (ew rfl rfl (by (simp only [List.length_append, List.length_cons, List.length_nil, dQ dW]); omega)) fun a Z => wlm Z rfl fun a Z => wlv Z (ew rfl rfl (by (simp only [List.length_append, List.length_cons, List.length_nil, dQ dW]); omega)) fun a Z => wlm Z rfl fun a Z => az Z Y (by decide) Tryz.call92 rfl (kc s _ (by omega)) ?_
 clear Z Y
 intro a w1 Z Y
 refine wlv Z (ew rfl rfl (by (simp only [List.length_append, List.length_cons, List.length_nil, dQ dW]); omega)) fun a Z => aH (E := 9) (sz := 1) rfl [[sv (([0]) ++ s)], [sv ((([1]) ++ key) ++ (leafH sha s))]] (by kernel_rfl) (by simp) rfl (by decide) (by decide) Z Y ?_
 clear Z Y
 intro a w2 Z Y
 refine wla Z rfl fun a Z => ab (hK2 _ _ ?_)
 replace Z : Fr 13 [(4, _)] [] a := Z.pick [4]
 refine aq ?_
 refine ak Z Tryz.results36 (ah rfl ag) ?_
 exact ⟨(.slice (some ⟨w1.heap.size, 0, none⟩) 2 2), rfl, trivial, Y.ext, St.out (E := [own (.slice (some ⟨w1.heap.size, 0, none⟩) 2 2) 9 1 ((bM key s).map fun s => [sv s])]) (H := []) Y⟩
def collB (s t : By) : Bool := !decide (s = t) && decide (sha s = sha t)
def collH (xs ys : List By) : Bool := xs.any fun s => ys.any fun t => collB s t
theorem fG {xs ys : List By} {i j : Nat} (hi : i < xs.length) (hj : j < ys.length) (h : collB (xs.getD i []) (ys.getD j []) = true) : collH xs ys = true :=
 List.any_eq_true.2 ⟨_, cd hi, List.any_eq_true.2 ⟨_, cd hj, h⟩⟩
theorem kq {xs ys : List By} (h : ∀ i, i < xs.length → ∀ j, j < ys.length → collB (xs.getD i []) (ys.getD j []) = false) : collH xs ys = false := by
 rw [Bool.eq_false_iff]
 intro hc
 obtain ⟨s, hs, h2⟩ := List.any_eq_true.1 hc
 obtain ⟨t, ht, h3⟩ := List.any_eq_true.1 h2
 obtain ⟨i, hi, rfl⟩ := List.getElem_of_mem hs
 obtain ⟨j, hj, rfl⟩ := List.getElem_of_mem ht
 have := h i hi j hj
 rw [List.getD_eq_getElem?_getD, List.getD_eq_getElem?_getD, List.getElem?_eq_getElem hi, List.getElem?_eq_getElem hj] at this
 simp only [Option.getD_some] at this
 rw [this] at h3; cases h3
theorem nW {ys : List By} {j : Nat} (h : j < ys.length) : (ys.map sha).getD j [] = sha (ys.getD j []) := by
 rw [List.getD_eq_getElem?_getD, List.getElem?_map, List.getElem?_eq_getElem h, List.getD_eq_getElem?_getD, List.getElem?_eq_getElem h]; rfl
set_option maxHeartbeats 4000000 in
theorem jy (av bv : Value) (xs ys : List By) (w0 : World) (hav : SlAt w0 av 1 ((xs).map fun s => [sv s])) (hbv : SlAt w0 bv 1 ((ys).map fun s => [sv s])) (hxs : ∀ s ∈ xs, s.length ≤ 100000000) (hys : ∀ s ∈ ys, s.length ≤ 100000000) (hyn : ys.length ≤ 1000) :
  Ret Tryz.prog 35 #[av, bv] w0 fun v w => v = .bool (collH xs ys) ∧ Ext No w0 w := by
 have hxb := hav.2.1
 simp only [List.length_map, big] at hxb
 refine aD Tryz.func35 rfl Tryz.ntmps35 (lb rfl) fun a Z => ?_
 replace Z : Fr 58 [(0, _), (1, _)] [] a := Z
 replace Y : St No w0 [] w0 := St.init w0
 refine aa fun K1 hK1 => wla Z rfl fun a Z => ab (hK1 _ _ <| aa fun K2 hK2 => ?_)
 refine wla Z rfl fun a Z => ab (hK2 _ _ <| ai fun K3 hK3 => ?_)
 refine aa fun K4 hK4 => wla Z rfl fun a Z => ab (hK4 _ _ <| ax ?_)
 replace Y : St No w0 [own (.slice none 0 0) 9 1 (((ys.take 0).map sha).map fun s => [sv s])] w0 := Y.nil_own
 refine bf (fun m a w => ∃ (k : Nat) (vs : Value), m = ys.length - k ∧ (k ≤ ys.length) ∧ Fr 58 [(0, av), (1, bv), (4, .bool false), (5, vs), (6, iv (k : Int))] [] a ∧ St No w0 [own vs 9 1 (((ys.take k).map sha).map fun s => [sv s])] w) _ ⟨0, .slice none 0 0, rfl, Nat.zero_le _, Z.pick [0, 1, 4, 5, 6], Y.select [0] (by decide)⟩ ?_
 rintro _ a w1 ⟨k, vs, rfl, hk, Z, Y⟩
 refine ai fun K5 hK5 => aa fun K6 hK6 => wlm Z rfl fun a Z => wlm Z rfl fun a Z => wlv Z ((aY (sT := 32) (Y.arg hbv) rfl rfl (Tryz.runUnderlying32 _)).asi (m' := (ys.length : Int)) (by rw [List.length_map])) fun a Z => wlv Z (v_lt rfl rfl) fun a Z => ab (hK6 _ _ ?_)
 refine aB Z rfl (fun hc1 => ?_) (fun hc1 => ?_)
 ·rw [hc1] at Z
  try simp only [qz, Bool.and_eq_true, Bool.or_eq_true, Bool.and_eq_false_iff, Bool.or_eq_false_iff] at hc1
  refine ay <| hK5 _ _ <| ai fun K7 hK7 => ax <| ar <| wlm Z rfl fun a Z => wlm Z rfl fun a Z => wlm Z rfl fun a Z => wlv Z ((am (i := (k : Int)) (sT := 32) (Y.arg hbv) rfl rfl (Tryz.runUnderlying32 _) (Tryz.sizeOf9 _) (by omega) (by first | (rw [List.length_map]; omega) | (rw [List.length_map, List.length_map]; omega))).as (v' := slAddr bv (k * 1)) rfl) fun a Z => ?_
  refine wlv Z (aC (u := sv (ys.getD k [])) (i := k) (j := 0) (Y.arg hbv) (by first | (rw [List.length_map]; omega) | (rw [List.length_map, List.length_map]; omega)) rfl (Tryz.isAgg9 _) (by rw [ca []]; rfl)) fun a Z => az Z Y (by decide) Tryz.call91 rfl (gc (ys.getD k []) _ (by first | exact hxs _ (cd (by omega)) | exact hys _ (cd (by omega)))) ?_
  clear Z Y
  intro a w2 Z Y
  refine aH (E := 9) (sz := 1) rfl [[sv (sha (ys.getD k []))]] (by kernel_rfl) (by simp) rfl (by decide) (by decide) Z Y ?_
  clear Z Y
  intro a w3 Z Y
  refine bL (i := 1) (sT := 32) (inf := Tryz.t9) (z := .string (⟨#[]⟩)) (b := 0) (off := 0) (m := 0) (c := 0) rfl rfl rfl (Y.ownAt (i := 0) rfl) (by simp) Tryz.underlying32 rfl rfl rfl rfl (by decide) (by simp [Value.oneCell', yv, wv, sv]) (by have hby : Tryz.t9.bytes = 16 := rfl; simp [big, hby] <;> omega) (by have hby : Tryz.t9.bytes = 16 := rfl; simp [big, hby] <;> omega) (by decide) Z Y fun a w4 s2 Z Y _ => ?_
  rw [show (((ys.take k).map sha).map fun s => [sv s]) ++ ([[sv (sha (ys.getD k []))]]) = (((ys.take (k + 1)).map sha).map fun s => [sv s]) from by rw [cE [] (by omega)]; simp] at Y
  refine wla Z rfl fun a Z => ab <| hK7 _ _ ?_
  replace Z : Fr 58 [(0, _), (1, _), (4, _), (6, _), (5, _)] [] a := Z.pick [0, 1, 4, 6, 5]
  replace Y : St No w0 [_] w4 := Y.mask [false, true]
  refine ar <| wlm Z rfl fun a Z => wlv Z (aM rfl rfl ⟨by omega, by omega⟩) fun a Z => wla Z rfl fun a Z => ab ?_
  refine ⟨_, ?_, k + 1, s2, rfl, (by omega), Z.pick [0, 1, 4, 5, 6], Y.select [0] (by decide)⟩
  omega
 rw [hc1] at Z
 try simp only [qz, Bool.and_eq_true, Bool.or_eq_true, Bool.and_eq_false_iff, Bool.or_eq_false_iff] at hc1
 obtain rfl : k = ys.length := by omega
 rw [List.take_length] at Y
 refine aS <| hK3 _ _ <| ai fun K8 hK8 => aa fun K9 hK9 => wla Z rfl fun a Z => ab (hK9 _ _ <| ax ?_)
 refine bf (fun m a w => ∃ (x : Nat), m = xs.length - x ∧ (x ≤ xs.length) ∧ (∀ i, i < x → ∀ j, j < ys.length → collB (xs.getD i []) (ys.getD j []) = false) ∧ Fr 58 [(0, av), (1, bv), (5, vs), (7, iv (x : Int))] [] a ∧ St No w0 [own vs 9 1 ((ys.map sha).map fun s => [sv s])] w) _ ⟨0, rfl, Nat.zero_le _, (fun i h => absurd h (Nat.not_lt_zero _)), Z.pick [0, 1, 5, 7], Y.select [0] (by decide)⟩ ?_
 rintro _ a w5 ⟨x, rfl, hx, hno, Z, Y⟩
 refine ai fun K10 hK10 => aa fun K11 hK11 => wlm Z rfl fun a Z => wlm Z rfl fun a Z => wlv Z ((aY (sT := 32) (Y.arg hav) rfl rfl (Tryz.runUnderlying32 _)).asi (m' := (xs.length : Int)) (by rw [List.length_map])) fun a Z => wlv Z (v_lt rfl rfl) fun a Z => ab (hK11 _ _ ?_)
 refine aB Z rfl (fun hc3 => ?_) (fun hc3 => ?_)
 ·rw [hc3] at Z
  try simp only [qz, Bool.and_eq_true, Bool.or_eq_true, Bool.and_eq_false_iff, Bool.or_eq_false_iff] at hc3
  have hxl : x < xs.length := by omega
  refine ay <| hK10 _ _ <| ai fun K12 hK12 => ax <| aa fun K13 hK13 => wlm Z rfl fun a Z => wlm Z rfl fun a Z => wlv Z ((am (i := (x : Int)) (sT := 32) (Y.arg hav) rfl rfl (Tryz.runUnderlying32 _) (Tryz.sizeOf9 _) (by omega) (by first | (rw [List.length_map]; omega) | (rw [List.length_map, List.length_map]; omega))).as (v' := slAddr av (x * 1)) rfl) fun a Z => ?_
  refine wlv Z (aC (u := sv (xs.getD x [])) (i := x) (j := 0) (Y.arg hav) (by first | (rw [List.length_map]; omega) | (rw [List.length_map, List.length_map]; omega)) rfl (Tryz.isAgg9 _) (by rw [ca []]; rfl)) fun a Z => az Z Y (by decide) Tryz.call91 rfl (gc (xs.getD x []) _ (by first | exact hxs _ (cd (by omega)) | exact hys _ (cd (by omega)))) ?_
  clear Z Y
  intro a w6 Z Y
  refine wla Z rfl fun a Z => ab (hK13 _ _ ?_)
  replace Z : Fr 58 [(0, _), (1, _), (5, _), (7, _), (8, _)] [] a := Z.pick [0, 1, 5, 7, 8]
  refine aa fun K14 hK14 => wla Z rfl fun a Z => ab (hK14 _ _ <| ax ?_)
  refine bf (fun m a w => ∃ (y : Nat), m = ys.length - y ∧ (y ≤ ys.length) ∧ (∀ j, j < y → collB (xs.getD x []) (ys.getD j []) = false) ∧ Fr 58 [(0, av), (1, bv), (5, vs), (7, iv (x : Int)), (8, sv (sha (xs.getD x []))), (9, iv (y : Int))] [] a ∧ St No w0 [own vs 9 1 ((ys.map sha).map fun s => [sv s])] w) _ ⟨0, rfl, Nat.zero_le _, (fun i h => absurd h (Nat.not_lt_zero _)), Z.pick [0, 1, 5, 7, 8, 9], Y.select [0] (by decide)⟩ ?_
  rintro _ a w7 ⟨y, rfl, hy, hno2, Z, Y⟩
  refine ai fun K15 hK15 => aa fun K16 hK16 => wlm Z rfl fun a Z => wlm Z rfl fun a Z => wlv Z ((aY (sT := 32) (Y.arg hbv) rfl rfl (Tryz.runUnderlying32 _)).asi (m' := (ys.length : Int)) (by rw [List.length_map])) fun a Z => wlv Z (v_lt rfl rfl) fun a Z => ab (hK16 _ _ ?_)
  refine aB Z rfl (fun hc4 => ?_) (fun hc4 => ?_)
  ·rw [hc4] at Z
   try simp only [qz, Bool.and_eq_true, Bool.or_eq_true, Bool.and_eq_false_iff, Bool.or_eq_false_iff] at hc4
   have hyl : y < ys.length := by omega
   refine ay <| hK15 _ _ <| ai fun K17 hK17 => ax <| ai fun K18 hK18 => aK (by kernel_rfl) (aO (by kernel_rfl) fun w8 hxz => ?_)
   replace Y := Y.grow hxz
   refine aV (k := 0) 8 [3, 7] Z (by kernel_rfl) (by kernel_rfl) (by kernel_rfl) (by rfl) ?_
   replace Z : Fr 58 [(0, _), (1, _), (5, _), (7, _), (8, _), (9, _), (35, _), (36, _), (37, _), (38, _)] [] a := Z.pick [0, 1, 5, 7, 8, 9, 35, 36, 37, 38]
   refine aL [] (fun i => match i with | _ => fun _ _ => False) 8 [[], [], [0, 1], [2], [], [], [4, 5], [6]] [av, iv (x : Int), slAddr av (x * 1), sv (xs.getD x []), bv, iv (y : Int), slAddr bv (y * 1), sv (ys.getD y [])] Z Y (by kernel_rfl) (by kernel_rfl) (by kernel_rfl) ?_ ?_ ?_
   ·intro i hi hiq
    match i, hi, hiq with
    | 0, _, _ =>
     intro w Y
     exact OpV.g (aj rfl)
    | 1, _, _ =>
     intro w Y
     exact OpV.g (aj rfl)
    | 2, _, _ =>
     intro w Y
     exact OpV.g ((am (i := (x : Int)) (sT := 32) (Y.arg hav) rfl rfl (Tryz.runUnderlying32 _) (Tryz.sizeOf9 _) (by omega) (by first | (rw [List.length_map]; omega) | (rw [List.length_map, List.length_map]; omega))).as (v' := slAddr av (x * 1)) rfl)
    | 3, _, _ =>
     intro w Y
     exact OpV.g (aC (u := sv (xs.getD x [])) (i := x) (j := 0) (Y.arg hav) (by first | (rw [List.length_map]; omega) | (rw [List.length_map, List.length_map]; omega)) rfl (Tryz.isAgg9 _) (by rw [ca []]; rfl))
    | 4, _, _ =>
     intro w Y
     exact OpV.g (aj rfl)
    | 5, _, _ =>
     intro w Y
     exact OpV.g (aj rfl)
    | 6, _, _ =>
     intro w Y
     exact OpV.g ((am (i := (y : Int)) (sT := 32) (Y.arg hbv) rfl rfl (Tryz.runUnderlying32 _) (Tryz.sizeOf9 _) (by omega) (by first | (rw [List.length_map]; omega) | (rw [List.length_map, List.length_map]; omega))).as (v' := slAddr bv (y * 1)) rfl)
    | 7, _, _ =>
     intro w Y
     exact OpV.g (aC (u := sv (ys.getD y [])) (i := y) (j := 0) (Y.arg hbv) (by first | (rw [List.length_map]; omega) | (rw [List.length_map, List.length_map]; omega)) rfl (Tryz.isAgg9 _) (by rw [ca []]; rfl))
   ·intro i hi
    exact absurd hi (by simp)
   clear Z Y
   intro  a w9 Z Y
   replace Z : Fr 58 [(41, av), (42, iv (x : Int)), (43, slAddr av (x * 1)), (44, sv (xs.getD x [])), (45, bv), (46, iv (y : Int)), (47, slAddr bv (y * 1)), (48, sv (ys.getD y [])), (0, _), (1, _), (5, _), (7, _), (8, _), (9, _), (35, _), (36, _), (37, _), (38, _)] [] a := Z
   refine ab <| aP (k := 8) 10 [9] (by kernel_rfl) (by kernel_rfl) (by kernel_rfl) ?_
   refine wlv Z (mn rfl rfl) fun a Z => wlm Z rfl fun a Z => ab ?_
   rcases Bool.eq_false_or_eq_true (!decide (xs.getD x [] = ys.getD y [])) with hb5 | hb5
   ·rw [hb5] at Z
    try simp only [qz] at hb5
    refine aV (k := 10) 15 [10, 14] Z (by kernel_rfl) (by kernel_rfl) (by kernel_rfl) (by rfl) ?_
    replace Z : Fr 58 [(0, _), (1, _), (5, _), (7, _), (8, _), (9, _), (35, _), (36, _), (37, _), (38, _), (41, _), (42, _), (43, _), (44, _), (45, _), (46, _), (47, _), (48, _), (49, _), (50, _)] [] a := Z.pick [0, 1, 5, 7, 8, 9, 35, 36, 37, 38, 41, 42, 43, 44, 45, 46, 47, 48, 49, 50]
    refine aL [] (fun i => match i with | _ => fun _ _ => False) 5 [[], [], [], [1, 2], [3]] [sv (sha (xs.getD x [])), vs, iv (y : Int), slAddr vs (y * 1), sv (sha (ys.getD y []))] Z Y (by kernel_rfl) (by kernel_rfl) (by kernel_rfl) ?_ ?_ ?_
    ·intro i hi hiq
     match i, hi, hiq with
     | 0, _, _ =>
      intro w Y
      exact OpV.g (aj rfl)
     | 1, _, _ =>
      intro w Y
      exact OpV.g (aj rfl)
     | 2, _, _ =>
      intro w Y
      exact OpV.g (aj rfl)
     | 3, _, _ =>
      intro w Y
      exact OpV.g ((am (i := (y : Int)) (sT := 32) (Y.ownAt (i := 0) rfl) rfl rfl (Tryz.runUnderlying32 _) (Tryz.sizeOf9 _) (by omega) (by first | (rw [List.length_map]; omega) | (rw [List.length_map, List.length_map]; omega))).as (v' := slAddr vs (y * 1)) rfl)
     | 4, _, _ =>
      intro w Y
      exact OpV.g (aC (u := sv (sha (ys.getD y []))) (i := y) (j := 0) (Y.ownAt (i := 0) rfl) (by first | (rw [List.length_map]; omega) | (rw [List.length_map, List.length_map]; omega)) rfl (Tryz.isAgg9 _) (by rw [ca [], nW (by omega)]; rfl))
    ·intro i hi
     exact absurd hi (by simp)
    clear Z Y
    intro  a w10 Z Y
    replace Z : Fr 58 [(51, sv (sha (xs.getD x []))), (52, vs), (53, iv (y : Int)), (54, slAddr vs (y * 1)), (55, sv (sha (ys.getD y []))), (0, _), (1, _), (5, _), (7, _), (8, _), (9, _), (35, _), (36, _), (37, _), (38, _), (41, _), (42, _), (43, _), (44, _), (45, _), (46, _), (47, _), (48, _), (49, _), (50, _)] [] a := Z
    refine ab <| aP (k := 15) 17 [16] (by kernel_rfl) (by kernel_rfl) (by kernel_rfl) ?_
    refine wly Z (v_seq rfl rfl) fun a Z => wlv Z (aw rfl rfl) fun a Z => ab <| bd (by kernel_rfl) ?_
    refine hK18 _ _ ?_
    replace Z : Fr 58 [(0, _), (1, _), (5, _), (7, _), (8, _), (9, _), (57, _)] [] a := Z.pick [0, 1, 5, 7, 8, 9, 57]
    refine aB Z rfl (fun hc6 => ?_) (fun hc6 => ?_)
    ·rw [hc6] at Z
     try simp only [qz, Bool.and_eq_true, Bool.or_eq_true, Bool.and_eq_false_iff, Bool.or_eq_false_iff] at hc6
     refine aa fun K19 hK19 => wla Z rfl fun a Z => ab (hK19 _ _ <| aq ?_)
     refine ak Z Tryz.results35 (ah rfl ag) ?_
     exact ⟨by simp only [retv]; congr 1; exact (fG hxl hyl (by unfold collB; simp [-List.getD_eq_getElem?_getD, hb5, hc6])).symm, Y.ext⟩
    rw [hc6] at Z
    try simp only [qz, Bool.and_eq_true, Bool.or_eq_true, Bool.and_eq_false_iff, Bool.or_eq_false_iff] at hc6
    refine ay <| hK17 _ _ <| ar <| wlm Z rfl fun a Z => wlv Z (aM rfl rfl ⟨by omega, by omega⟩) fun a Z => wla Z rfl fun a Z => ab ?_
    refine ⟨_, ?_, y + 1, rfl, (by omega), (fun j h => by rcases Nat.lt_succ_iff_lt_or_eq.1 h with h | rfl; exact hno2 j h; unfold collB; simp [-List.getD_eq_getElem?_getD, hc6]), Z.pick [0, 1, 5, 7, 8, 9], Y.select [0] (by decide)⟩
    omega
   rw [hb5] at Z
   try simp only [qz] at hb5
   replace Z : Fr 58 [(0, av), (1, bv), (5, vs), (7, iv (x : Int)), (8, sv (sha (xs.getD x []))), (9, iv (y : Int)), (35, iv (y : Int)), (36, bv), (37, iv (ys.length : Int)), (38, .bool true), (41, av), (42, iv (x : Int)), (43, slAddr av (x * 1)), (44, sv (xs.getD x [])), (45, bv), (46, iv (y : Int)), (47, slAddr bv (y * 1)), (48, sv (ys.getD y [])), (49, .bool false), (50, .bool false)] [] a := Z.pick [0, 1, 5, 7, 8, 9, 35, 36, 37, 38, 41, 42, 43, 44, 45, 46, 47, 48, 49, 50]
   refine fg (k := 10) 15 [10, 14] Z (by kernel_rfl) (by kernel_rfl) (by kernel_rfl) (by rfl) fun a Z => ?_
   replace Z : Fr 58 [(51, undef), (52, undef), (53, undef), (54, undef), (55, undef), (0, av), (1, bv), (5, vs), (7, iv (x : Int)), (8, sv (sha (xs.getD x []))), (9, iv (y : Int)), (35, iv (y : Int)), (36, bv), (37, iv (ys.length : Int)), (38, .bool true), (41, av), (42, iv (x : Int)), (43, slAddr av (x * 1)), (44, sv (xs.getD x [])), (45, bv), (46, iv (y : Int)), (47, slAddr bv (y * 1)), (48, sv (ys.getD y [])), (49, .bool false), (50, .bool false)] [] a := Z
   refine aP (k := 15) 17 [16] (by kernel_rfl) (by kernel_rfl) (by kernel_rfl) ?_
   refine wln Z fun a Z => wlv Z (au rfl rfl) fun a Z => ab <| bd (by kernel_rfl) ?_
   refine hK18 _ _ ?_
   replace Z : Fr 58 [(0, _), (1, _), (5, _), (7, _), (8, _), (9, _), (57, _)] [] a := Z.pick [0, 1, 5, 7, 8, 9, 57]
   refine bj Z rfl ?_
   refine ay <| hK17 _ _ <| ar <| wlm Z rfl fun a Z => wlv Z (aM rfl rfl ⟨by omega, by omega⟩) fun a Z => wla Z rfl fun a Z => ab ?_
   refine ⟨_, ?_, y + 1, rfl, (by omega), (fun j h => by rcases Nat.lt_succ_iff_lt_or_eq.1 h with h | rfl; exact hno2 j h; unfold collB; simp [-List.getD_eq_getElem?_getD, hb5]), Z.pick [0, 1, 5, 7, 8, 9], Y.select [0] (by decide)⟩
   omega
  rw [hc4] at Z
  try simp only [qz, Bool.and_eq_true, Bool.or_eq_true, Bool.and_eq_false_iff, Bool.or_eq_false_iff] at hc4
  refine aS <| hK12 _ _ <| ar <| wlm Z rfl fun a Z => wlv Z (aM rfl rfl ⟨by omega, by omega⟩) fun a Z => wla Z rfl fun a Z => ab ?_
  refine ⟨_, ?_, x + 1, rfl, (by omega), (fun i h => by rcases Nat.lt_succ_iff_lt_or_eq.1 h with h | rfl; exact hno i h; exact fun j hj => hno2 j (by omega)), Z.pick [0, 1, 5, 7], Y.select [0] (by decide)⟩
  omega
 rw [hc3] at Z
 try simp only [qz, Bool.and_eq_true, Bool.or_eq_true, Bool.and_eq_false_iff, Bool.or_eq_false_iff] at hc3
 refine aS <| hK8 _ _ <| aa fun K20 hK20 => wla Z rfl fun a Z => ab (hK20 _ _ ?_)
 replace Z : Fr 58 [(4, _)] [] a := Z.pick [4]
 refine aq ?_
 refine ak Z Tryz.results35 (ah rfl ag) ?_
 exact ⟨by simp only [retv]; congr 1; exact (kq fun i h => hno i (by omega)).symm, Y.ext⟩
end Go.Proofs.YtmmfieceinmloaaGreatDoor
namespace Go.Proofs.YtmmfieceinmloaaGreatDoor
open Go.RowKit Go.PW
set_option linter.unusedVariables false
set_option linter.unusedSimpArgs false
set_option maxRecDepth 4000
def bld (T : TypeId) (b : Nat) (ad v : Value) (bs : By) : Ent := join [blk b [ad, v] T, own v 5 1 ((bs).map fun b => [yv b])]
theorem gO {M : Nat → Prop} {w0 w : World} {T : TypeId} {b : Nat} {ad v : Value} {bs : By} {H : List Ent} (h : St M w0 (bld T b ad v bs :: H) w) : St M w0 ([blk b [ad, v] T, own v 5 1 ((bs).map fun b => [yv b])] ++ H) w := St.unjoin _ _ h
theorem jP (T : TypeId) (b : Nat) (v : Value) (w0 : World) (hlie : liesAt Tryz.prog Tryz.prog.depth T (2 / Tryz.prog.cellsOf T) 0 131 1 = true) (hb : (blk b [.pointer none, v] T).ok w0) :
  Ret Tryz.prog 126 #[pq b] w0 fun u w => u = .tuple #[] ∧ Ext (· = b) w0 w ∧ (blk b [pq b, v] T).ok w := by
 refine aD Tryz.func126 rfl Tryz.ntmps126 (lb rfl) fun a Z => ?_
 replace Z : Fr 20 [(0, _)] [] a := Z
 replace Y : St (· = b) w0 [blk b [.pointer none, v] T] w0 := St.one hb
 refine aa fun K1 hK1 => wlm Z rfl fun a Z => wlv Z (aQ rfl) fun a Z => wlv Z (ac (v := pq b) rfl (by kernel_rfl)) fun a Z => wlv Z (ae (Y.get (k := 0) rfl) rfl (Tryz.isAgg129 _) rfl) fun a Z => wlv Z (ol rfl rfl Tryz.underlying129) fun a Z => ab (hK1 _ _ ?_)
 refine aX Z rfl ?_
 refine ar <| wlm Z rfl fun a Z => wlm Z rfl fun a Z => wlv Z (kF (j := Tryz.t131) (Y.get (k := 0) rfl) rfl Tryz.underlying129 Tryz.underlying216 rfl rfl (by simp)) fun a Z => wlv Z (kW Tryz.func147 (by kernel_rfl) (by kernel_rfl) (by kernel_rfl) (by kernel_rfl) rfl) fun a Z => wlv Z (je (j := Tryz.t131) (Y.get (k := 0) rfl) rfl Tryz.underlying216 Tryz.underlying129 rfl hlie) fun a Z => wlv Z (aQ rfl) fun a Z => wlv Z (ac (v := pq b) rfl (by kernel_rfl)) fun a Z => ?_
 refine ap 0 Z Y rfl rfl rfl (Tryz.sizeOf129 _) rfl (lb rfl) (ds := [pq b, v]) rfl rfl ?_
 clear Z Y
 intro a w2 Z Y
 refine ab ?_
 refine cP Z Tryz.results126 ag ?_
 exact ⟨rfl, Y.ext, Y.get (k := 0) rfl⟩
theorem kE (T : TypeId) (b : Nat) (v : Value) (w0 : World) (hlie : liesAt Tryz.prog Tryz.prog.depth T (2 / Tryz.prog.cellsOf T) 0 131 1 = true) (hb : (blk b [pq b, v] T).ok w0) :
  Ret Tryz.prog 126 #[pq b] w0 fun u w => u = .tuple #[] ∧ Ext (· = b) w0 w ∧ (blk b [pq b, v] T).ok w := by
 refine aD Tryz.func126 rfl Tryz.ntmps126 (lb rfl) fun a Z => ?_
 replace Z : Fr 20 [(0, _)] [] a := Z
 replace Y : St (· = b) w0 [blk b [pq b, v] T] w0 := St.one hb
 refine aa fun K1 hK1 => wlm Z rfl fun a Z => wlv Z (aQ rfl) fun a Z => wlv Z (ac (v := pq b) rfl (by kernel_rfl)) fun a Z => wlv Z (ae (Y.get (k := 0) rfl) rfl (Tryz.isAgg129 _) rfl) fun a Z => wlv Z (mR rfl rfl Tryz.underlying129) fun a Z => ab (hK1 _ _ ?_)
 refine bj Z rfl ?_
 refine aa fun K2 hK2 => wlm Z rfl fun a Z => wlv Z (aQ rfl) fun a Z => wlv Z (ac (v := pq b) rfl (by kernel_rfl)) fun a Z => wlv Z (ae (Y.get (k := 0) rfl) rfl (Tryz.isAgg129 _) rfl) fun a Z => wlm Z rfl fun a Z => wlv Z (nn (j := Tryz.t131) rfl rfl Tryz.underlying129 rfl) fun a Z => ab (hK2 _ _ ?_)
 replace Z : Fr 20 [(19, _)] [] a := Z.pick [19]
 refine bj Z rfl ?_
 refine ay ?_
 refine cP Z Tryz.results126 ag ?_
 exact ⟨rfl, Y.ext, Y.get (k := 0) rfl⟩
theorem kG {M : Nat → Prop} {w0 : World} (T : TypeId) (b : Nat) (v : Value) (bs : By) (s : By) (ws : World) (hlie : liesAt Tryz.prog Tryz.prog.depth T (2 / Tryz.prog.cellsOf T) 0 131 1 = true) (hne : s ≠ []) (hbn : bs.length + s.length ≤ 1000000000) (Y : St M w0 [bld T b (.pointer none) v bs] ws) :
  Ret Tryz.prog 78 #[pq b, sv s] ws fun u w => u = .tuple #[iv (s.length : Int), .nilIface] ∧ ∃ v2, St M w0 [bld T b (pq b) v2 (bs ++ s)] w := by
 refine aD Tryz.func78 rfl Tryz.ntmps78 (lb rfl) fun a Z => ?_
 replace Z : Fr 19 [(0, _), (1, _)] [] a := Z
 replace Y : St M w0 [blk b [.pointer none, v] T, own v 5 1 ((bs).map fun b => [yv b])] ws := gO Y
 refine aa fun K1 hK1 => wla Z rfl fun a Z => wla Z rfl fun a Z => ab (hK1 _ _ <| aa fun K2 hK2 => ?_)
 refine wlm Z rfl fun a Z => gK 0 Z Y (by decide) Tryz.call126 rfl rfl (jP T b _ _ hlie (Y.get (k := 0) rfl)) rfl ?_
 clear Z Y
 intro a w1 Z Y
 refine ab (hK2 _ _ <| aa fun K3 hK3 => ?_)
 refine wlm Z rfl fun a Z => wlm Z rfl fun a Z => wlv Z (aQ rfl) fun a Z => wlv Z (ac (v := .pointer (some ⟨b, 1, none⟩)) rfl (by kernel_rfl)) fun a Z => wlv Z (ae (Y.get (k := 0) rfl) rfl (Tryz.isAgg62 _) rfl) fun a Z => wlm Z rfl fun a Z => eQ (i := 1) (sT := 62) (uT := 9) (inf := Tryz.t5) (bs := bs) (s := s) rfl rfl rfl hne Tryz.underlying62 Tryz.underlying9 rfl rfl rfl rfl (by omega) (by decide) Z Y ?_
 clear Z Y
 intro a w2 s1 Z Y
 refine wlv Z (aQ rfl) fun a Z => wlv Z (ac (v := .pointer (some ⟨b, 1, none⟩)) rfl (by kernel_rfl)) fun a Z => cJ 0 Z Y (Y.ownAt (i := 1) rfl) rfl rfl rfl (Tryz.sizeOf62 _) (lb rfl) (ds := [pq b, s1]) rfl rfl ?_
 clear Z Y
 intro a w3 Z Y
 refine ab (hK3 _ _ ?_)
 replace Z : Fr 19 [(1, _), (4, _), (5, _)] [] a := Z.pick [1, 4, 5]
 refine aa fun K4 hK4 => wlm Z rfl fun a Z => wlv Z (cM rfl rfl (Tryz.runUnderlying9 _)) fun a Z => wla Z rfl fun a Z => wla Z rfl fun a Z => ab (hK4 _ _ <| aq ?_)
 refine ak Z Tryz.results78 (ah rfl (ah rfl ag)) ?_
 replace Y : St M w0 [blk b [pq b, s1] T, own s1 5 1 ((bs ++ s).map fun b => [yv b])] _ := Y.select [0, 1] (by decide)
 exact ⟨rfl, s1, St.join [blk b [pq b, s1] T, own s1 5 1 ((bs ++ s).map fun b => [yv b])] [] Y⟩
theorem lE {M : Nat → Prop} {w0 : World} (T : TypeId) (b : Nat) (v : Value) (bs : By) (s : By) (ws : World) (hlie : liesAt Tryz.prog Tryz.prog.depth T (2 / Tryz.prog.cellsOf T) 0 131 1 = true) (hne : s ≠ []) (hbn : bs.length + s.length ≤ 1000000000) (Y : St M w0 [bld T b (pq b) v bs] ws) :
  Ret Tryz.prog 78 #[pq b, sv s] ws fun u w => u = .tuple #[iv (s.length : Int), .nilIface] ∧ ∃ v2, St M w0 [bld T b (pq b) v2 (bs ++ s)] w := by
 refine aD Tryz.func78 rfl Tryz.ntmps78 (lb rfl) fun a Z => ?_
 replace Z : Fr 19 [(0, _), (1, _)] [] a := Z
 replace Y : St M w0 [blk b [pq b, v] T, own v 5 1 ((bs).map fun b => [yv b])] ws := gO Y
 refine aa fun K1 hK1 => wla Z rfl fun a Z => wla Z rfl fun a Z => ab (hK1 _ _ <| aa fun K2 hK2 => ?_)
 refine wlm Z rfl fun a Z => gK 0 Z Y (by decide) Tryz.call126 rfl rfl (kE T b _ _ hlie (Y.get (k := 0) rfl)) rfl ?_
 clear Z Y
 intro a w1 Z Y
 refine ab (hK2 _ _ <| aa fun K3 hK3 => ?_)
 refine wlm Z rfl fun a Z => wlm Z rfl fun a Z => wlv Z (aQ rfl) fun a Z => wlv Z (ac (v := .pointer (some ⟨b, 1, none⟩)) rfl (by kernel_rfl)) fun a Z => wlv Z (ae (Y.get (k := 0) rfl) rfl (Tryz.isAgg62 _) rfl) fun a Z => wlm Z rfl fun a Z => eQ (i := 1) (sT := 62) (uT := 9) (inf := Tryz.t5) (bs := bs) (s := s) rfl rfl rfl hne Tryz.underlying62 Tryz.underlying9 rfl rfl rfl rfl (by omega) (by decide) Z Y ?_
 clear Z Y
 intro a w2 s1 Z Y
 refine wlv Z (aQ rfl) fun a Z => wlv Z (ac (v := .pointer (some ⟨b, 1, none⟩)) rfl (by kernel_rfl)) fun a Z => cJ 0 Z Y (Y.ownAt (i := 1) rfl) rfl rfl rfl (Tryz.sizeOf62 _) (lb rfl) (ds := [pq b, s1]) rfl rfl ?_
 clear Z Y
 intro a w3 Z Y
 refine ab (hK3 _ _ ?_)
 replace Z : Fr 19 [(1, _), (4, _), (5, _)] [] a := Z.pick [1, 4, 5]
 refine aa fun K4 hK4 => wlm Z rfl fun a Z => wlv Z (cM rfl rfl (Tryz.runUnderlying9 _)) fun a Z => wla Z rfl fun a Z => wla Z rfl fun a Z => ab (hK4 _ _ <| aq ?_)
 refine ak Z Tryz.results78 (ah rfl (ah rfl ag)) ?_
 replace Y : St M w0 [blk b [pq b, s1] T, own s1 5 1 ((bs ++ s).map fun b => [yv b])] _ := Y.select [0, 1] (by decide)
 exact ⟨rfl, s1, St.join [blk b [pq b, s1] T, own s1 5 1 ((bs ++ s).map fun b => [yv b])] [] Y⟩
theorem nS {w : World} {E : TypeId} {v : Value} {bs : By} (h : (own v E 1 ((bs).map fun b => [yv b])).ok w) (hne : bs ≠ []) : ∃ g cap, v = .slice (some ⟨g, 0, none⟩) bs.length cap ∧ cap ≠ 0 := by
 obtain ⟨h1, h2, h3, h4⟩ := h
 have hn : bs.length ≠ 0 := by simpa using hne
 rcases h4 with ⟨_, h0⟩ | ⟨g, cap, cur, fz, hv, _, _, hnc, _⟩
 ·rw [List.length_map] at h0; exact absurd h0 hn
 ·rw [List.length_map] at hv hnc; exact ⟨g, cap, hv, by omega⟩
theorem jG {M : Nat → Prop} {w0 : World} (T : TypeId) (b g cap : Nat) (bs : By) (ws : World) (hne : bs ≠ []) (hcap : cap ≠ 0) (Y : St M w0 [blk b [pq b, .slice (some ⟨g, 0, none⟩) bs.length cap] T, own (.slice (some ⟨g, 0, none⟩) bs.length cap) 5 1 ((bs).map fun b => [yv b])] ws) :
  Ret Tryz.prog 79 #[pq b] ws fun u w => u = sv bs ∧ St M w0 [blk b [pq b, .slice (some ⟨g, 0, none⟩) bs.length cap] T] w := by
 refine aD Tryz.func79 rfl Tryz.ntmps79 (lb rfl) fun a Z => ?_
 replace Z : Fr 14 [(0, _)] [] a := Z
 skip
 refine aa fun K1 hK1 => wla Z rfl fun a Z => ab (hK1 _ _ <| ai fun K2 hK2 => ?_)
 refine aK (by kernel_rfl) ?_
 replace Z : Fr 14 [(0, _), (2, _)] [] a := Z.pick [0, 2]
 replace Y : St M w0 (own (.slice (some ⟨g, 0, none⟩) bs.length cap) 5 1 ((bs).map fun b => [yv b]) :: [blk b [pq b, .slice (some ⟨g, 0, none⟩) bs.length cap] T]) ws := Y.front (i := 1) rfl
 refine eS 10 (own (.slice (some ⟨g, 0, none⟩) bs.length cap) 5 1 ((bs).map fun b => [yv b])) (fun _ => sl (.slice (some ⟨g, 0, none⟩) bs.length cap) 1 ((bs).map fun b => [yv b])) 11 [[], [0], [1], [2], [3], [], [5], [6], [7], [8], [4, 9]] (fun i => match i with | 0 => pv (pq b) | 1 => pv (pq b) | 2 => pv (.pointer (some ⟨b, 1, none⟩)) | 3 => pv (.slice (some ⟨g, 0, none⟩) bs.length cap) | 4 => pv (pq g) | 5 => pv (pq b) | 6 => pv (pq b) | 7 => pv (.pointer (some ⟨b, 1, none⟩)) | 8 => pv (.slice (some ⟨g, 0, none⟩) bs.length cap) | 9 => pv (iv (bs.length : Int)) | 10 => fun v E => v = sv bs ∧ E = [] | _ => fun _ _ => False) Z Y (by kernel_rfl) (by kernel_rfl) (by kernel_rfl) (by decide) ?_ ?_ ?_ ?_
 ·intro i v E h
  match i, h with
  | 0, _ => exact by decide
  | 1, _ => exact by decide
  | 2, _ => exact by decide
  | 3, _ => exact by decide
  | 4, _ => exact by decide
  | 5, _ => exact by decide
  | 6, _ => exact by decide
  | 7, _ => exact by decide
  | 8, _ => exact by decide
  | 9, _ => exact by decide
  | 10, _ => exact by decide
  | i + 11, h => exact h.elim
 ·intro i hi hiq e
  match i, hi, hiq with
  | 0, _, _ =>
   intro w Y
   exact OpV.g (aj rfl)
  | 1, _, _ =>
   rintro _ _ ⟨rfl, rfl⟩
   intro w Y
   exact OpV.g (aQ rfl)
  | 2, _, _ =>
   rintro _ _ ⟨rfl, rfl⟩
   intro w Y
   exact OpV.g (ac (v := .pointer (some ⟨b, 1, none⟩)) rfl (by kernel_rfl))
  | 3, _, _ =>
   rintro _ _ ⟨rfl, rfl⟩
   intro w Y
   exact OpV.g (ae (Y.get (k := 1) rfl) rfl (Tryz.isAgg62 _) rfl)
  | 4, _, _ =>
   rintro _ _ ⟨rfl, rfl⟩
   intro w Y
   exact OpV.g (jl rfl hcap)
  | 5, _, _ =>
   intro w Y
   exact OpV.g (aj rfl)
  | 6, _, _ =>
   rintro _ _ ⟨rfl, rfl⟩
   intro w Y
   exact OpV.g (aQ rfl)
  | 7, _, _ =>
   rintro _ _ ⟨rfl, rfl⟩
   intro w Y
   exact OpV.g (ac (v := .pointer (some ⟨b, 1, none⟩)) rfl (by kernel_rfl))
  | 8, _, _ =>
   rintro _ _ ⟨rfl, rfl⟩
   intro w Y
   exact OpV.g (ae (Y.get (k := 1) rfl) rfl (Tryz.isAgg62 _) rfl)
  | 9, _, _ =>
   rintro _ _ ⟨rfl, rfl⟩
   intro w Y
   exact OpV.g ((dk (v := iv (bs.length : Int)) (vs := [.slice (some ⟨g, 0, none⟩) bs.length cap]) (by simp [evs]; rfl) (by simp [builtin, Builtin.len_, Tryz.runUnderlying62]; rfl)).as rfl)
  | 10, _, h => exact absurd rfl h
 ·rintro _ _ ⟨rfl, rfl⟩ _ _ ⟨rfl, rfl⟩
  intro w Y
  exact (gB (Y.get (k := 0) rfl) hne rfl rfl Tryz.underlying188 (by kernel_rfl)).mono fun v w' ⟨h1, h2, h3, h4⟩ => ⟨h2, h3, h4, ⟨h1, rfl⟩⟩
 clear Z Y
 rintro vq _ _ ⟨⟨rfl, rfl⟩, -⟩ _ _ ⟨⟨rfl, rfl⟩, -⟩ _ _ ⟨⟨rfl, rfl⟩, -⟩ _ _ ⟨⟨rfl, rfl⟩, -⟩ _ _ ⟨⟨rfl, rfl⟩, -⟩ _ _ ⟨⟨rfl, rfl⟩, -⟩ _ _ ⟨⟨rfl, rfl⟩, -⟩ _ _ ⟨⟨rfl, rfl⟩, -⟩ _ _ ⟨⟨rfl, rfl⟩, -⟩ _ _ ⟨⟨rfl, rfl⟩, -⟩ _ _ ⟨⟨rfl, rfl⟩, -⟩ a w1 Z Y
 replace Z : Fr 14 [(3, _), (4, _), (5, _), (6, _), (7, _), (8, _), (9, _), (10, _), (11, _), (12, _), (13, _), (0, _), (2, _)] [] a := Z
 replace Y : St M w0 [(fun _ => sl (.slice (some ⟨g, 0, none⟩) bs.length cap) 1 ((bs).map fun b => [yv b])) vq, blk b [pq b, .slice (some ⟨g, 0, none⟩) bs.length cap] T] w1 := Y
 refine wla Z rfl fun a Z => ab <| hK2 _ _ ?_
 replace Z : Fr 14 [(2, _)] [] a := Z.pick [2]
 refine aq ?_
 refine ak Z Tryz.results79 (ah rfl ag) ?_
 exact ⟨rfl, Y.select [1] (by decide)⟩
theorem ko {M : Nat → Prop} {w0 : World} (T : TypeId) (b : Nat) (v : Value) (bs : By) (ws : World) (hne : bs ≠ []) (Y : St M w0 [bld T b (pq b) v bs] ws) :
  Ret Tryz.prog 79 #[pq b] ws fun u w => u = sv bs ∧ St M w0 [blk b [pq b, v] T] w := by
 have Y : St M w0 [blk b [pq b, v] T, own v 5 1 ((bs).map fun b => [yv b])] ws := gO Y
 obtain ⟨g, cap, rfl, hcap⟩ := nS (Y.get (k := 1) rfl) hne
 exact jG T b g cap bs ws hne hcap Y
end Go.Proofs.YtmmfieceinmloaaGreatDoor
namespace Go.Proofs.YtmmfieceinmloaaGreatDoor
open Go.RowKit Go.PW
set_option linter.unusedVariables false
set_option linter.unusedSimpArgs false
set_option maxRecDepth 4000
theorem mG {M : Nat → Prop} {w0 : World} (T : TypeId) (b : Nat) (ad v : Value) (bs s : By) (ws : World) (hlie : liesAt Tryz.prog Tryz.prog.depth T (2 / Tryz.prog.cellsOf T) 0 131 1 = true) (had : ad = .pointer none ∨ ad = pq b) (hne : s ≠ []) (hbn : bs.length + s.length ≤ 1000000000) (Y : St M w0 [bld T b ad v bs] ws) :
  Ret Tryz.prog 78 #[pq b, sv s] ws fun u w => u = .tuple #[iv (s.length : Int), .nilIface] ∧ ∃ v2, St M w0 [bld T b (pq b) v2 (bs ++ s)] w := by
 rcases had with rfl | rfl
 ·exact kG T b v bs s ws hlie hne hbn Y
 ·exact lE T b v bs s ws hlie hne hbn Y
theorem n9 (n : Int) : putI n ≠ [] := fun h => by have := (ex n).1; rw [h] at this; simp at this
theorem gg {M : Nat → Prop} {w0 : World} (T : TypeId) (b : Nat) (ad v lv : Value) (bs : By) (ns : List Int) (ws : World) (hlie : liesAt Tryz.prog Tryz.prog.depth T (2 / Tryz.prog.cellsOf T) 0 131 1 = true) (had : ad = .pointer none ∨ ad = pq b) (hns : smalls ns) (hnn : ns ≠ []) (hbn : bs.length + 9 * ns.length ≤ 1000000000) (Y : St M w0 [bld T b (ad) v bs, own lv 3 1 ((ns).map fun n => [iv n])] ws) :
  Ret Tryz.prog 77 #[pq b, lv] ws fun u w => u = .tuple #[] ∧ ∃ v2, St M w0 [bld T b (pq b) v2 (bs ++ puts ns)] w := by
 refine aD Tryz.func77 rfl Tryz.ntmps77 (lb rfl) fun a Z => ?_
 replace Z : Fr 25 [(0, _), (1, _)] [] a := Z
 skip
 refine aa fun K1 hK1 => wlm Z rfl fun a Z => wlv Z ((aY (sT := 88) (Y.ownAt (i := 1) rfl) rfl rfl (Tryz.runUnderlying88 _)).asi (m' := (ns.length : Int)) (by rw [List.length_map])) fun a Z => wlm Z rfl fun a Z => ab (hK1 _ _ <| ax ?_)
 replace Y : St M w0 [bld T b ad v (bs ++ puts (ns.take 0)), own lv 3 1 ((ns).map fun n => [iv n])] ws := by rw [show bs ++ puts (ns.take 0) = bs from by simp [puts]]; exact Y
 refine bf (fun m a w => ∃ (k : Nat) (ad : Value) (v : Value), m = ns.length - k ∧ (k ≤ ns.length) ∧ (ad = .pointer none ∨ ad = pq b) ∧ (0 < k → ad = pq b) ∧ Fr 25 [(0, pq b), (8, lv), (9, iv (ns.length : Int)), (10, iv (k : Int))] [] a ∧ St M w0 [bld T b (ad) v (bs ++ puts (ns.take k)), own lv 3 1 ((ns).map fun n => [iv n])] w) _ ⟨0, ad, v, rfl, Nat.zero_le _, had, (fun h => absurd h (Nat.lt_irrefl 0)), Z.pick [0, 8, 9, 10], Y⟩ ?_
 rintro _ a w1 ⟨k, ad, v, rfl, hk, had, hak, Z, Y⟩
 refine aa fun K2 hK2 => wlv Z (v_lt rfl rfl) fun a Z => ab (hK2 _ _ <| ai fun K3 hK3 => ?_)
 refine aB Z rfl (fun hc1 => ?_) (fun hc1 => ?_)
 ·rw [hc1] at Z
  try simp only [qz] at hc1
  refine ay <| hK3 _ _ <| ai fun K4 hK4 => ax <| aa fun K5 hK5 => wlv Z ((am (i := (k : Int)) (sT := 88) (Y.ownAt (i := 1) rfl) rfl rfl (Tryz.runUnderlying88 _) (Tryz.sizeOf3 _) (by omega) (by rw [List.length_map]; omega)).as (v' := slAddr lv (k * 1)) rfl) fun a Z => wlv Z (aC (u := iv (ns.getD k 0)) (i := k) (j := 0) (Y.ownAt (i := 1) rfl) (by rw [List.length_map]; omega) rfl (Tryz.isAgg3 _) (by rw [ca (0 : Int)]; rfl)) fun a Z => wla Z rfl fun a Z => ?_
  refine ab (hK5 _ _ <| aa fun K6 hK6 => ?_)
  refine wlm Z rfl fun a Z => az Z Y (by decide) Tryz.call125 rfl (lM (ns.getD k 0) _ (hns _ (cd (by omega)))) ?_
  clear Z Y
  intro a w2 Z Y
  refine wlm Z rfl fun a Z => wlv Z (aA rfl rfl) fun a Z => wlv Z (aA rfl rfl) fun a Z => wla Z rfl fun a Z => wla Z rfl fun a Z => ab (hK6 _ _ ?_)
  replace Z : Fr 25 [(0, _), (8, _), (9, _), (10, _), (6, _)] [] a := Z.pick [0, 8, 9, 10, 6]
  refine ar <| wlm Z rfl fun a Z => wlv Z (aQ rfl) fun a Z => wlv Z (ac (v := pq b) rfl (by kernel_rfl)) fun a Z => wlm Z rfl fun a Z => dK (R := fun u e' => u = .tuple #[iv ((putI (ns.getD k 0)).length : Int), .nilIface] ∧ ∃ v2, e' = bld T b (pq b) v2 ((bs ++ puts (ns.take k)) ++ (putI (ns.getD k 0)))) 0 Z Y rfl (by decide) Tryz.call78 rfl (fun h => (mG T b _ _ _ _ _ hlie (had) (n9 _) (by have h1 := eo (ns.take k); have h2 := (ex (ns.getD k 0)).2; rw [List.length_take] at h1; rw [List.length_append]; omega) h).mono fun u w ⟨h1, v2, h2⟩ => ⟨_, ⟨h1, v2, rfl⟩, h2⟩) ?_
  clear Z Y
  rintro a w3 _ _ ⟨rfl, v2, rfl⟩ Z Y
  replace Y : St M w0 [bld T b (pq b) v2 ((bs ++ puts (ns.take k)) ++ (putI (ns.getD k 0))), own lv 3 1 ((ns).map fun n => [iv n])] w3 := Y
  refine ab <| hK4 _ _ ?_
  replace Z : Fr 25 [(0, _), (8, _), (9, _), (10, _)] [] a := Z.pick [0, 8, 9, 10]
  refine ar <| wlv Z (aM rfl rfl ⟨by omega, by omega⟩) fun a Z => wlm Z rfl fun a Z => ab ?_
  replace Y : St M w0 [bld T b (pq b) v2 (bs ++ puts (ns.take (k + 1))), own lv 3 1 ((ns).map fun n => [iv n])] w3 := by rw [show bs ++ puts (ns.take (k + 1)) = (bs ++ puts (ns.take k)) ++ (putI (ns.getD k 0)) from by rw [cE 0 (by omega), iu, List.append_assoc]]; exact Y
  refine ⟨_, ?_, k + 1, pq b, v2, rfl, (by omega), (.inr rfl), (fun _ => rfl), Z.pick [0, 8, 9, 10], Y⟩
  omega
 rw [hc1] at Z
 try simp only [qz] at hc1
 obtain rfl : k = ns.length := by omega
 rw [List.take_length] at Y
 obtain rfl := hak (List.length_pos_iff.2 hnn)
 refine aS ?_
 refine cP Z Tryz.results77 ag ?_
 exact ⟨rfl, _, Y.select [0] (by decide)⟩
theorem m5 {M : Nat → Prop} {w0 : World} (T : TypeId) (b : Nat) (ad v : Value) (bs : By) (x : Wsh) (ws : World) (hlie : liesAt Tryz.prog Tryz.prog.depth T (2 / Tryz.prog.cellsOf T) 0 131 1 = true) (had : ad = .pointer none ∨ ad = pq b) (hx : smalls x.nums) (hbn : bs.length ≤ 1000000) (Y : St M w0 [bld T b (ad) v bs] ws) :
  Ret Tryz.prog 67 #[pq b, .agg #[iv x.signer, iv x.holder, iv x.rf, iv x.rt, iv x.carrier, iv x.serial, iv x.sf, iv x.st, sv x.sig]] ws fun u w => u = .tuple #[] ∧ ∃ v2, St M w0 [bld T b (pq b) v2 (bs ++ x.content)] w := by
 refine aD Tryz.func67 rfl Tryz.ntmps67 (lb rfl) fun a Z => ?_
 replace Z : Fr 27 [(0, _), (1, _)] [] a := Z
 skip
 refine aa fun K1 hK1 => aN Z Y (by decide) rfl (cs := [iv x.signer, iv x.holder, iv x.rf, iv x.rt, iv x.carrier, iv x.serial, iv x.sf, iv x.st, sv x.sig]) rfl ?_
 clear Z Y
 intro a w1 Z Y
 refine ab (hK1 _ _ <| ar ?_)
 refine wlm Z rfl fun a Z => wlv Z (ac (v := pq ws.heap.size) rfl (by kernel_rfl)) fun a Z => wlv Z (ae (Y.get (k := 0) rfl) rfl (Tryz.isAgg3 _) rfl) fun a Z => wlv Z (ac (v := .pointer (some ⟨ws.heap.size, 1, none⟩)) rfl (by kernel_rfl)) fun a Z => wlv Z (ae (Y.get (k := 0) rfl) rfl (Tryz.isAgg3 _) rfl) fun a Z => wlv Z (ac (v := .pointer (some ⟨ws.heap.size, 2, none⟩)) rfl (by kernel_rfl)) fun a Z => wlv Z (ac (v := .pointer (some ⟨ws.heap.size, 2, none⟩)) rfl (by kernel_rfl)) fun a Z => ?_
 refine wlv Z (ae (Y.get (k := 0) rfl) rfl (Tryz.isAgg3 _) rfl) fun a Z => wlv Z (ac (v := .pointer (some ⟨ws.heap.size, 2, none⟩)) rfl (by kernel_rfl)) fun a Z => wlv Z (ac (v := .pointer (some ⟨ws.heap.size, 3, none⟩)) rfl (by kernel_rfl)) fun a Z => wlv Z (ae (Y.get (k := 0) rfl) rfl (Tryz.isAgg3 _) rfl) fun a Z => wlv Z (ac (v := .pointer (some ⟨ws.heap.size, 4, none⟩)) rfl (by kernel_rfl)) fun a Z => wlv Z (ae (Y.get (k := 0) rfl) rfl (Tryz.isAgg3 _) rfl) fun a Z => wlv Z (ac (v := .pointer (some ⟨ws.heap.size, 5, none⟩)) rfl (by kernel_rfl)) fun a Z => ?_
 refine wlv Z (ae (Y.get (k := 0) rfl) rfl (Tryz.isAgg3 _) rfl) fun a Z => wlv Z (ac (v := .pointer (some ⟨ws.heap.size, 6, none⟩)) rfl (by kernel_rfl)) fun a Z => wlv Z (ac (v := .pointer (some ⟨ws.heap.size, 6, none⟩)) rfl (by kernel_rfl)) fun a Z => wlv Z (ae (Y.get (k := 0) rfl) rfl (Tryz.isAgg3 _) rfl) fun a Z => wlv Z (ac (v := .pointer (some ⟨ws.heap.size, 6, none⟩)) rfl (by kernel_rfl)) fun a Z => wlv Z (ac (v := .pointer (some ⟨ws.heap.size, 7, none⟩)) rfl (by kernel_rfl)) fun a Z => wlv Z (ae (Y.get (k := 0) rfl) rfl (Tryz.isAgg3 _) rfl) fun a Z => ?_
 refine aH (E := 3) (sz := 1) rfl [[iv 1], [iv x.signer], [iv x.holder], [iv x.rf], [iv x.rt], [iv x.carrier], [iv x.serial], [iv x.sf], [iv x.st]] (by kernel_rfl) (by simp) rfl (by decide) (by decide) Z Y ?_
 clear Z Y
 intro a w2 Z Y
 replace Y : St M w0 [bld T b (ad) v bs, own (.slice (some ⟨w1.heap.size, 0, none⟩) 9 9) 3 1 ([[iv 1], [iv x.signer], [iv x.holder], [iv x.rf], [iv x.rt], [iv x.carrier], [iv x.serial], [iv x.sf], [iv x.st]]), blk ws.heap.size [iv x.signer, iv x.holder, iv x.rf, iv x.rt, iv x.carrier, iv x.serial, iv x.sf, iv x.st, sv x.sig] 30] w2 := Y.select [2, 0, 1] (by decide)
 replace Y := St.join [bld T b (ad) v bs, own (.slice (some ⟨w1.heap.size, 0, none⟩) 9 9) 3 1 ([[iv 1], [iv x.signer], [iv x.holder], [iv x.rf], [iv x.rt], [iv x.carrier], [iv x.serial], [iv x.sf], [iv x.st]])] [blk ws.heap.size [iv x.signer, iv x.holder, iv x.rf, iv x.rt, iv x.carrier, iv x.serial, iv x.sf, iv x.st, sv x.sig] 30] Y
 refine dK (R := fun u e' => u = .tuple #[] ∧ ∃ v2, e' = bld T b (pq b) v2 (bs ++ puts [1, x.signer, x.holder, x.rf, x.rt, x.carrier, x.serial, x.sf, x.st])) 0 Z Y rfl (by decide) Tryz.call77 rfl (fun h => (gg T b _ _ _ _ [1, x.signer, x.holder, x.rf, x.rt, x.carrier, x.serial, x.sf, x.st] _ hlie (had) (hx) (by simp) (by simp <;> omega) (St.unjoin [bld T b (ad) v bs, own (.slice (some ⟨w1.heap.size, 0, none⟩) 9 9) 3 1 ([[iv 1], [iv x.signer], [iv x.holder], [iv x.rf], [iv x.rt], [iv x.carrier], [iv x.serial], [iv x.sf], [iv x.st]])] [] h)).mono fun u w ⟨h1, v2, h2⟩ => ⟨_, ⟨h1, v2, rfl⟩, h2⟩) ?_
 clear Z Y
 rintro a w3 _ _ ⟨rfl, v1, rfl⟩ Z Y
 replace Y : St M w0 [bld T b (pq b) v1 (bs ++ puts [1, x.signer, x.holder, x.rf, x.rt, x.carrier, x.serial, x.sf, x.st]), blk ws.heap.size [iv x.signer, iv x.holder, iv x.rf, iv x.rt, iv x.carrier, iv x.serial, iv x.sf, iv x.st, sv x.sig] 30] w3 := Y
 refine ab ?_
 refine cP Z Tryz.results67 ag ?_
 exact ⟨rfl, _, Y.select [0] (by decide)⟩
theorem lr {M : Nat → Prop} {w0 : World} (T : TypeId) (b : Nat) (ad v : Value) (bs : By) (x : Pxy) (ws : World) (hlie : liesAt Tryz.prog Tryz.prog.depth T (2 / Tryz.prog.cellsOf T) 0 131 1 = true) (had : ad = .pointer none ∨ ad = pq b) (hx : smalls x.nums) (hbn : bs.length ≤ 1000000) (Y : St M w0 [bld T b (ad) v bs] ws) :
  Ret Tryz.prog 65 #[pq b, .agg #[iv x.frm, iv x.to, iv x.rf, iv x.rt, iv x.sf, iv x.st, sv x.sig]] ws fun u w => u = .tuple #[] ∧ ∃ v2, St M w0 [bld T b (pq b) v2 (bs ++ x.content)] w := by
 refine aD Tryz.func65 rfl Tryz.ntmps65 (lb rfl) fun a Z => ?_
 replace Z : Fr 23 [(0, _), (1, _)] [] a := Z
 skip
 refine aa fun K1 hK1 => aN Z Y (by decide) rfl (cs := [iv x.frm, iv x.to, iv x.rf, iv x.rt, iv x.sf, iv x.st, sv x.sig]) rfl ?_
 clear Z Y
 intro a w1 Z Y
 refine ab (hK1 _ _ <| ar ?_)
 refine wlm Z rfl fun a Z => wlv Z (ac (v := pq ws.heap.size) rfl (by kernel_rfl)) fun a Z => wlv Z (ae (Y.get (k := 0) rfl) rfl (Tryz.isAgg3 _) rfl) fun a Z => wlv Z (ac (v := .pointer (some ⟨ws.heap.size, 1, none⟩)) rfl (by kernel_rfl)) fun a Z => wlv Z (ae (Y.get (k := 0) rfl) rfl (Tryz.isAgg3 _) rfl) fun a Z => wlv Z (ac (v := .pointer (some ⟨ws.heap.size, 2, none⟩)) rfl (by kernel_rfl)) fun a Z => wlv Z (ac (v := .pointer (some ⟨ws.heap.size, 2, none⟩)) rfl (by kernel_rfl)) fun a Z => ?_
 refine wlv Z (ae (Y.get (k := 0) rfl) rfl (Tryz.isAgg3 _) rfl) fun a Z => wlv Z (ac (v := .pointer (some ⟨ws.heap.size, 2, none⟩)) rfl (by kernel_rfl)) fun a Z => wlv Z (ac (v := .pointer (some ⟨ws.heap.size, 3, none⟩)) rfl (by kernel_rfl)) fun a Z => wlv Z (ae (Y.get (k := 0) rfl) rfl (Tryz.isAgg3 _) rfl) fun a Z => wlv Z (ac (v := .pointer (some ⟨ws.heap.size, 4, none⟩)) rfl (by kernel_rfl)) fun a Z => wlv Z (ac (v := .pointer (some ⟨ws.heap.size, 4, none⟩)) rfl (by kernel_rfl)) fun a Z => wlv Z (ae (Y.get (k := 0) rfl) rfl (Tryz.isAgg3 _) rfl) fun a Z => ?_
 refine wlv Z (ac (v := .pointer (some ⟨ws.heap.size, 4, none⟩)) rfl (by kernel_rfl)) fun a Z => wlv Z (ac (v := .pointer (some ⟨ws.heap.size, 5, none⟩)) rfl (by kernel_rfl)) fun a Z => wlv Z (ae (Y.get (k := 0) rfl) rfl (Tryz.isAgg3 _) rfl) fun a Z => aH (E := 3) (sz := 1) rfl [[iv 2], [iv x.frm], [iv x.to], [iv x.rf], [iv x.rt], [iv x.sf], [iv x.st]] (by kernel_rfl) (by simp) rfl (by decide) (by decide) Z Y ?_
 clear Z Y
 intro a w2 Z Y
 replace Y : St M w0 [bld T b (ad) v bs, own (.slice (some ⟨w1.heap.size, 0, none⟩) 7 7) 3 1 ([[iv 2], [iv x.frm], [iv x.to], [iv x.rf], [iv x.rt], [iv x.sf], [iv x.st]]), blk ws.heap.size [iv x.frm, iv x.to, iv x.rf, iv x.rt, iv x.sf, iv x.st, sv x.sig] 40] w2 := Y.select [2, 0, 1] (by decide)
 replace Y := St.join [bld T b (ad) v bs, own (.slice (some ⟨w1.heap.size, 0, none⟩) 7 7) 3 1 ([[iv 2], [iv x.frm], [iv x.to], [iv x.rf], [iv x.rt], [iv x.sf], [iv x.st]])] [blk ws.heap.size [iv x.frm, iv x.to, iv x.rf, iv x.rt, iv x.sf, iv x.st, sv x.sig] 40] Y
 refine dK (R := fun u e' => u = .tuple #[] ∧ ∃ v2, e' = bld T b (pq b) v2 (bs ++ puts [2, x.frm, x.to, x.rf, x.rt, x.sf, x.st])) 0 Z Y rfl (by decide) Tryz.call77 rfl (fun h => (gg T b _ _ _ _ [2, x.frm, x.to, x.rf, x.rt, x.sf, x.st] _ hlie (had) (hx) (by simp) (by simp <;> omega) (St.unjoin [bld T b (ad) v bs, own (.slice (some ⟨w1.heap.size, 0, none⟩) 7 7) 3 1 ([[iv 2], [iv x.frm], [iv x.to], [iv x.rf], [iv x.rt], [iv x.sf], [iv x.st]])] [] h)).mono fun u w ⟨h1, v2, h2⟩ => ⟨_, ⟨h1, v2, rfl⟩, h2⟩) ?_
 clear Z Y
 rintro a w3 _ _ ⟨rfl, v1, rfl⟩ Z Y
 replace Y : St M w0 [bld T b (pq b) v1 (bs ++ puts [2, x.frm, x.to, x.rf, x.rt, x.sf, x.st]), blk ws.heap.size [iv x.frm, iv x.to, iv x.rf, iv x.rt, iv x.sf, iv x.st, sv x.sig] 40] w3 := Y
 refine ab ?_
 refine cP Z Tryz.results65 ag ?_
 exact ⟨rfl, _, Y.select [0] (by decide)⟩
theorem nG {M : Nat → Prop} {w0 : World} (key content : By) (g : FuncId) (caps : List Value) (ec : Ent) (ws : World) (hen : ∀ args w, (callFunc g args).run Tryz.prog w = .ok (.enter g args) w)
  (hc : ∀ {M : Nat → Prop} {w0 : World} (b : Nat) (v : Value) (ws : World), St M w0 [bld 133 b (.pointer none) v [], ec] ws → Ret Tryz.prog g ([pq b] ++ caps).toArray ws fun u w => u = .tuple #[] ∧ ∃ v2, St M w0 [bld 133 b (pq b) v2 content, ec] w)
  (hne : content ≠ []) (hkl : key.length ≤ 40000000) (hcl : content.length ≤ 40000000) (Y : St M w0 [blk 0 (kOf.map wv) 239, ec] ws) :
  Ret Tryz.prog 63 #[sv key, .func (.func g) #[] caps.toArray] ws fun u w => u = sv (sealH key content) ∧ St M w0 [blk 0 (kOf.map wv) 239, ec] w := by
 refine aD Tryz.func63 rfl Tryz.ntmps63 (lb rfl) fun a Z => ?_
 replace Z : Fr 13 [(0, _), (1, _)] [] a := Z
 skip
 refine aa fun K1 hK1 => wla Z rfl fun a Z => ab (hK1 _ _ <| aa fun K2 hK2 => ?_)
 refine aI Z Y (by decide) (Tryz.zeroValue133 _) (cs := [.pointer none, .slice none 0 0]) rfl ?_
 clear Z Y
 intro a w1 Z Y
 refine ab (hK2 _ _ <| aa fun K3 hK3 => ?_)
 refine wlm Z rfl fun a Z => ?_
 replace Y : St M w0 (own (.slice none 0 0) 5 1 [] :: [blk ws.heap.size [.pointer none, .slice none 0 0] 133, blk 0 (kOf.map wv) 239, ec]) w1 := Y.nil_own
 replace Y : St M w0 [blk ws.heap.size [.pointer none, .slice none 0 0] 133, own (.slice none 0 0) 5 1 ([]), ec, blk 0 (kOf.map wv) 239] w1 := Y.select [1, 0, 3, 2] (by decide)
 replace Y : St M w0 ([bld 133 (ws.heap.size) (.pointer none) (.slice none 0 0) [], ec] ++ [blk 0 (kOf.map wv) 239]) w1 := St.join [blk ws.heap.size [.pointer none, .slice none 0 0] 133, own (.slice none 0 0) 5 1 ([])] [ec, blk 0 (kOf.map wv) 239] Y
 replace Y := St.join _ _ Y
 refine l9 (R := fun u e' => u = .tuple #[] ∧ ∃ v2, e' = join [bld 133 (ws.heap.size) (pq ws.heap.size) v2 content, ec]) 0 Z Y rfl (by decide) rfl hen rfl (fun h => (hc (ws.heap.size) _ _ (St.unjoin [bld 133 (ws.heap.size) (.pointer none) (.slice none 0 0) [], ec] [] h)).mono fun u w ⟨h1, v2, h2⟩ => ⟨_, ⟨h1, v2, rfl⟩, St.join _ [] h2⟩) ?_
 clear Z Y
 rintro a w2 _ _ ⟨rfl, v1, rfl⟩ Z Y
 replace Y : St M w0 [bld 133 (ws.heap.size) (pq ws.heap.size) v1 content, ec, blk 0 (kOf.map wv) 239] w2 := St.unjoin [bld 133 (ws.heap.size) (pq ws.heap.size) v1 content, ec] [blk 0 (kOf.map wv) 239] Y
 refine ab (hK3 _ _ <| aa fun K4 hK4 => ?_)
 refine wlm Z rfl fun a Z => wlv Z (ac (v := pq ws.heap.size) rfl (by kernel_rfl)) fun a Z => dK (R := fun u e' => u = sv (content) ∧ e' = blk (ws.heap.size) [pq ws.heap.size, v1] 133) 0 Z Y rfl (by decide) Tryz.call79 rfl (fun h => (ko 133 (ws.heap.size) _ _ _ hne h).mono fun u w ⟨h1, h2⟩ => ⟨_, ⟨h1, rfl⟩, h2⟩) ?_
 clear Z Y
 rintro a w3 _ _ ⟨rfl, rfl⟩ Z Y
 replace Y : St M w0 [blk (ws.heap.size) [pq ws.heap.size, v1] 133, ec, blk 0 (kOf.map wv) 239] w3 := Y
 refine az Z Y (by decide) Tryz.call121 rfl (nX content _ (by omega) (Y.get (k := 2) rfl)) ?_
 clear Z Y
 intro a w4 Z Y
 refine az Z Y (by decide) Tryz.call120 rfl (nV key (leafH sha content) _ (by omega) (by rw [dQ dW]; decide) (Y.get (k := 2) rfl)) ?_
 clear Z Y
 intro a w5 Z Y
 refine wla Z rfl fun a Z => ab (hK4 _ _ ?_)
 replace Z : Fr 13 [(4, _)] [] a := Z.pick [4]
 refine aq ?_
 refine ak Z Tryz.results63 (ah rfl ag) ?_
 exact ⟨rfl, Y.select [2, 1] (by decide)⟩
end Go.Proofs.YtmmfieceinmloaaGreatDoor
namespace Go.Proofs.YtmmfieceinmloaaGreatDoor
open Go.RowKit Go.PW
set_option linter.unusedVariables false
set_option linter.unusedSimpArgs false
set_option maxRecDepth 4000
theorem mF (s : By) (w0 : World) :
  Ret Tryz.prog 56 #[sv s] w0 fun v w => v = .bool (decide ((s.length : Int) = 32)) ∧ Ext No w0 w := by
 refine aD Tryz.func56 rfl Tryz.ntmps56 (lb rfl) fun a Z => ?_
 replace Z : Fr 6 [(0, _)] [] a := Z
 replace Y : St No w0 [] w0 := St.init w0
 refine aa fun K1 hK1 => wla Z rfl fun a Z => ab (hK1 _ _ <| aa fun K2 hK2 => ?_)
 refine wlm Z rfl fun a Z => wlv Z (cM rfl rfl (Tryz.runUnderlying9 _)) fun a Z => wlv Z (v_eq rfl rfl) fun a Z => wla Z rfl fun a Z => ab (hK2 _ _ <| aq ?_)
 refine ak Z Tryz.results56 (ah rfl ag) ?_
 exact ⟨by rfl, Y.ext⟩
theorem ck (n lo hi : Int) (w0 : World) :
  Ret Tryz.prog 60 #[iv n, iv lo, iv hi] w0 fun v w => v = .bool (inB n lo hi) ∧ Ext No w0 w := by
 refine aD Tryz.func60 rfl Tryz.ntmps60 (lb rfl) fun a Z => ?_
 replace Z : Fr 15 [(0, _), (1, _), (2, _)] [] a := Z
 replace Y : St No w0 [] w0 := St.init w0
 refine aa fun K1 hK1 => wla Z rfl fun a Z => ab (hK1 _ _ <| aa fun K2 hK2 => ?_)
 refine wlm Z rfl fun a Z => wlm Z rfl fun a Z => wlv Z (v_le rfl rfl) fun a Z => wlm Z rfl fun a Z => ?_
 refine cz (N := 15) (df := []) 4 [(14, .bool ((decide (lo ≤ n)) && (decide (n ≤ hi)))), (0, iv n), (1, iv lo), (2, iv hi), (6, .bool false)] ?_ (fun hj => ?_)
 rotate_left
 ·rcases Bool.eq_false_or_eq_true (decide (lo ≤ n)) with hb1 | hb1
  ·rw [hb1] at Z
   have hb1b := hb1
   try simp only [qz, Bool.and_eq_true, Bool.or_eq_true, Bool.and_eq_false_iff, Bool.or_eq_false_iff] at hb1
   refine wly Z (aj rfl) fun a Z => wly Z (aj rfl) fun a Z => wly Z (v_le rfl rfl) fun a Z => wlv Z (aw rfl rfl) fun a Z => ?_
   refine hj _ ?_
   try rw [hb1b]
   exact Z.pick [14, 0, 1, 2, 6]
  rw [hb1] at Z
  have hb1b := hb1
  try simp only [qz, Bool.and_eq_true, Bool.or_eq_true, Bool.and_eq_false_iff, Bool.or_eq_false_iff] at hb1
  refine wln Z fun a Z => wln Z fun a Z => wln Z fun a Z => wlv Z (au rfl rfl) fun a Z => ?_
  refine hj _ ?_
  try rw [hb1b]
  exact Z.pick [14, 0, 1, 2, 6]
 intro a Z
 refine wla Z rfl fun a Z => ab (hK2 _ _ <| aq ?_)
 refine ak Z Tryz.results60 (ah rfl ag) ?_
 exact ⟨by rfl, Y.ext⟩
theorem gm (b d : Int) (w0 : World) :
  Ret Tryz.prog 114 #[.agg #[iv b, iv d]] w0 fun v w => v = .bool (cc b d) ∧ Ext No w0 w := by
 refine aD Tryz.func114 rfl Tryz.ntmps114 (lb rfl) fun a Z => ?_
 replace Z : Fr 18 [(0, _)] [] a := Z
 replace Y : St No w0 [] w0 := St.init w0
 refine aa fun K1 hK1 => aN Z Y (by decide) rfl (cs := [iv b, iv d]) rfl ?_
 clear Z Y
 intro a w1 Z Y
 refine wla Z rfl fun a Z => ab (hK1 _ _ <| aa fun K2 hK2 => ?_)
 refine wlv Z (ac (v := pq w0.heap.size) rfl (by kernel_rfl)) fun a Z => wlv Z (ae (Y.get (k := 0) rfl) rfl (Tryz.isAgg3 _) rfl) fun a Z => wlv Z (v_le rfl rfl) fun a Z => wlm Z rfl fun a Z => ?_
 refine cz (N := 18) (df := []) 6 [(12, .bool ((decide (0 ≤ b)) && (decide (b < d)))), (0, .agg #[iv b, iv d]), (1, pq w0.heap.size), (2, .bool false)] ?_ (fun hj => ?_)
 rotate_left
 ·rcases Bool.eq_false_or_eq_true (decide (0 ≤ b)) with hb1 | hb1
  ·rw [hb1] at Z
   have hb1b := hb1
   try simp only [qz, Bool.and_eq_true, Bool.or_eq_true, Bool.and_eq_false_iff, Bool.or_eq_false_iff] at hb1
   refine wly Z (ac (v := pq w0.heap.size) rfl (by kernel_rfl)) fun a Z => wly Z (ae (Y.get (k := 0) rfl) rfl (Tryz.isAgg3 _) rfl) fun a Z => wly Z (ac (v := .pointer (some ⟨w0.heap.size, 1, none⟩)) rfl (by kernel_rfl)) fun a Z => wly Z (ae (Y.get (k := 0) rfl) rfl (Tryz.isAgg3 _) rfl) fun a Z => wly Z (v_lt rfl rfl) fun a Z => wlv Z (aw rfl rfl) fun a Z => ?_
   refine hj _ ?_
   try rw [hb1b]
   exact Z.pick [12, 0, 1, 2]
  rw [hb1] at Z
  have hb1b := hb1
  try simp only [qz, Bool.and_eq_true, Bool.or_eq_true, Bool.and_eq_false_iff, Bool.or_eq_false_iff] at hb1
  refine wln Z fun a Z => wln Z fun a Z => wln Z fun a Z => wln Z fun a Z => wln Z fun a Z => wlv Z (au rfl rfl) fun a Z => ?_
  refine hj _ ?_
  try rw [hb1b]
  exact Z.pick [12, 0, 1, 2]
 intro a Z
 refine wlm Z rfl fun a Z => ?_
 refine cz (N := 18) (df := []) 4 [(17, .bool (((decide (0 ≤ b)) && (decide (b < d))) && (decide (d ≤ 100000000)))), (0, .agg #[iv b, iv d]), (1, pq w0.heap.size), (2, .bool false)] ?_ (fun hj => ?_)
 rotate_left
 ·rcases Bool.eq_false_or_eq_true ((decide (0 ≤ b)) && (decide (b < d))) with hb2 | hb2
  ·rw [hb2] at Z
   have hb2b := hb2
   try simp only [qz, Bool.and_eq_true, Bool.or_eq_true, Bool.and_eq_false_iff, Bool.or_eq_false_iff] at hb2
   refine wly Z (ac (v := .pointer (some ⟨w0.heap.size, 1, none⟩)) rfl (by kernel_rfl)) fun a Z => wly Z (ae (Y.get (k := 0) rfl) rfl (Tryz.isAgg3 _) rfl) fun a Z => wly Z (v_le rfl rfl) fun a Z => wlv Z (aw rfl rfl) fun a Z => ?_
   refine hj _ ?_
   try rw [hb2b]
   exact Z.pick [17, 0, 1, 2]
  rw [hb2] at Z
  have hb2b := hb2
  try simp only [qz, Bool.and_eq_true, Bool.or_eq_true, Bool.and_eq_false_iff, Bool.or_eq_false_iff] at hb2
  refine wln Z fun a Z => wln Z fun a Z => wln Z fun a Z => wlv Z (au rfl rfl) fun a Z => ?_
  refine hj _ ?_
  try rw [hb2b]
  exact Z.pick [17, 0, 1, 2]
 intro a Z
 refine wla Z rfl fun a Z => ab (hK2 _ _ <| aq ?_)
 refine ak Z Tryz.results114 (ah rfl ag) ?_
 exact ⟨by rfl, Y.ext⟩
theorem gJ (b d : Int) (w0 : World) :
  Ret Tryz.prog 115 #[.agg #[iv b, iv d]] w0 fun v w => v = .bool (cB b d) ∧ Ext No w0 w := by
 refine aD Tryz.func115 rfl Tryz.ntmps115 (lb rfl) fun a Z => ?_
 replace Z : Fr 18 [(0, _)] [] a := Z
 replace Y : St No w0 [] w0 := St.init w0
 refine aa fun K1 hK1 => aN Z Y (by decide) rfl (cs := [iv b, iv d]) rfl ?_
 clear Z Y
 intro a w1 Z Y
 refine wla Z rfl fun a Z => ab (hK1 _ _ <| aa fun K2 hK2 => ?_)
 refine wlv Z (ac (v := pq w0.heap.size) rfl (by kernel_rfl)) fun a Z => wlv Z (ae (Y.get (k := 0) rfl) rfl (Tryz.isAgg3 _) rfl) fun a Z => wlv Z (v_le rfl rfl) fun a Z => wlm Z rfl fun a Z => ?_
 refine cz (N := 18) (df := []) 6 [(12, .bool ((decide (0 ≤ b)) && (decide (b < d)))), (0, .agg #[iv b, iv d]), (1, pq w0.heap.size), (2, .bool false)] ?_ (fun hj => ?_)
 rotate_left
 ·rcases Bool.eq_false_or_eq_true (decide (0 ≤ b)) with hb1 | hb1
  ·rw [hb1] at Z
   have hb1b := hb1
   try simp only [qz, Bool.and_eq_true, Bool.or_eq_true, Bool.and_eq_false_iff, Bool.or_eq_false_iff] at hb1
   refine wly Z (ac (v := pq w0.heap.size) rfl (by kernel_rfl)) fun a Z => wly Z (ae (Y.get (k := 0) rfl) rfl (Tryz.isAgg3 _) rfl) fun a Z => wly Z (ac (v := .pointer (some ⟨w0.heap.size, 1, none⟩)) rfl (by kernel_rfl)) fun a Z => wly Z (ae (Y.get (k := 0) rfl) rfl (Tryz.isAgg3 _) rfl) fun a Z => wly Z (v_lt rfl rfl) fun a Z => wlv Z (aw rfl rfl) fun a Z => ?_
   refine hj _ ?_
   try rw [hb1b]
   exact Z.pick [12, 0, 1, 2]
  rw [hb1] at Z
  have hb1b := hb1
  try simp only [qz, Bool.and_eq_true, Bool.or_eq_true, Bool.and_eq_false_iff, Bool.or_eq_false_iff] at hb1
  refine wln Z fun a Z => wln Z fun a Z => wln Z fun a Z => wln Z fun a Z => wln Z fun a Z => wlv Z (au rfl rfl) fun a Z => ?_
  refine hj _ ?_
  try rw [hb1b]
  exact Z.pick [12, 0, 1, 2]
 intro a Z
 refine wlm Z rfl fun a Z => ?_
 refine cz (N := 18) (df := []) 4 [(17, .bool (((decide (0 ≤ b)) && (decide (b < d))) && (decide (d ≤ 10000001)))), (0, .agg #[iv b, iv d]), (1, pq w0.heap.size), (2, .bool false)] ?_ (fun hj => ?_)
 rotate_left
 ·rcases Bool.eq_false_or_eq_true ((decide (0 ≤ b)) && (decide (b < d))) with hb2 | hb2
  ·rw [hb2] at Z
   have hb2b := hb2
   try simp only [qz, Bool.and_eq_true, Bool.or_eq_true, Bool.and_eq_false_iff, Bool.or_eq_false_iff] at hb2
   refine wly Z (ac (v := .pointer (some ⟨w0.heap.size, 1, none⟩)) rfl (by kernel_rfl)) fun a Z => wly Z (ae (Y.get (k := 0) rfl) rfl (Tryz.isAgg3 _) rfl) fun a Z => wly Z (v_le rfl rfl) fun a Z => wlv Z (aw rfl rfl) fun a Z => ?_
   refine hj _ ?_
   try rw [hb2b]
   exact Z.pick [17, 0, 1, 2]
  rw [hb2] at Z
  have hb2b := hb2
  try simp only [qz, Bool.and_eq_true, Bool.or_eq_true, Bool.and_eq_false_iff, Bool.or_eq_false_iff] at hb2
  refine wln Z fun a Z => wln Z fun a Z => wln Z fun a Z => wlv Z (au rfl rfl) fun a Z => ?_
  refine hj _ ?_
  try rw [hb2b]
  exact Z.pick [17, 0, 1, 2]
 intro a Z
 refine wla Z rfl fun a Z => ab (hK2 _ _ <| aq ?_)
 refine ak Z Tryz.results115 (ah rfl ag) ?_
 exact ⟨by rfl, Y.ext⟩
set_option maxHeartbeats 4000000 in
theorem lx (x : Wsh) (w0 : World) :
  Ret Tryz.prog 58 #[.agg #[iv x.signer, iv x.holder, iv x.rf, iv x.rt, iv x.carrier, iv x.serial, iv x.sf, iv x.st, sv x.sig]] w0 fun v w => v = .bool x.ok ∧ Ext No w0 w := by
 refine aD Tryz.func58 rfl Tryz.ntmps58 (lb rfl) fun a Z => ?_
 replace Z : Fr 33 [(0, _)] [] a := Z
 replace Y : St No w0 [] w0 := St.init w0
 refine aa fun K1 hK1 => aN Z Y (by decide) rfl (cs := [iv x.signer, iv x.holder, iv x.rf, iv x.rt, iv x.carrier, iv x.serial, iv x.sf, iv x.st, sv x.sig]) rfl ?_
 clear Z Y
 intro a w1 Z Y
 refine wla Z rfl fun a Z => ab (hK1 _ _ <| aa fun K2 hK2 => ?_)
 refine wlv Z (ac (v := pq w0.heap.size) rfl (by kernel_rfl)) fun a Z => wlv Z (ae (Y.get (k := 0) rfl) rfl (Tryz.isAgg3 _) rfl) fun a Z => az Z Y (by decide) Tryz.call60 rfl (ck x.signer 0 63 _) ?_
 clear Z Y
 intro a w2 Z Y
 refine wlm Z rfl fun a Z => ?_
 rcases Bool.eq_false_or_eq_true (inB x.signer 0 63) with hb1 | hb1
 ·rw [hb1] at Z
  try simp only [qz] at hb1
  refine wly Z (ac (v := .pointer (some ⟨w0.heap.size, 1, none⟩)) rfl (by kernel_rfl)) fun a Z => wly Z (ae (Y.get (k := 0) rfl) rfl (Tryz.isAgg3 _) rfl) fun a Z => aJ Z Y (by decide) rfl (by decide) rfl Tryz.call60 rfl (ck x.holder 0 63 _) ?_
  clear Z Y
  intro a w3 Z Y
  refine wlv Z (aw rfl rfl) fun a Z => wla Z rfl fun a Z => ab (hK2 _ _ ?_)
  replace Z : Fr 33 [(1, _), (2, _), (3, _)] [] a := Z.pick [1, 2, 3]
  refine aa fun K3 hK3 => wlm Z rfl fun a Z => wlm Z rfl fun a Z => ?_
  rcases Bool.eq_false_or_eq_true (inB x.holder 0 63) with hb2 | hb2
  ·rw [hb2] at Z
   try simp only [qz] at hb2
   refine wly Z (ac (v := .pointer (some ⟨w0.heap.size, 2, none⟩)) rfl (by kernel_rfl)) fun a Z => wly Z (bO (ds := [iv x.rf, iv x.rt]) (Y.get (k := 0) rfl) rfl (Tryz.isAgg27 _) (Tryz.sizeOf27 _) rfl) fun a Z => aJ Z Y (by decide) rfl (by decide) rfl Tryz.call114 rfl (gm x.rf x.rt _) ?_
   clear Z Y
   intro a w4 Z Y
   refine wlv Z (aw rfl rfl) fun a Z => wlm Z rfl fun a Z => ?_
   rcases Bool.eq_false_or_eq_true (cc x.rf x.rt) with hb3 | hb3
   ·rw [hb3] at Z
    try simp only [qz] at hb3
    refine wly Z (ac (v := .pointer (some ⟨w0.heap.size, 4, none⟩)) rfl (by kernel_rfl)) fun a Z => wly Z (ae (Y.get (k := 0) rfl) rfl (Tryz.isAgg3 _) rfl) fun a Z => aJ Z Y (by decide) rfl (by decide) rfl Tryz.call60 rfl (ck x.carrier 0 7 _) ?_
    clear Z Y
    intro a w5 Z Y
    refine wlv Z (aw rfl rfl) fun a Z => wlm Z rfl fun a Z => ?_
    rcases Bool.eq_false_or_eq_true (inB x.carrier 0 7) with hb4 | hb4
    ·rw [hb4] at Z
     try simp only [qz] at hb4
     refine wly Z (ac (v := .pointer (some ⟨w0.heap.size, 5, none⟩)) rfl (by kernel_rfl)) fun a Z => wly Z (ae (Y.get (k := 0) rfl) rfl (Tryz.isAgg3 _) rfl) fun a Z => aJ Z Y (by decide) rfl (by decide) rfl Tryz.call60 rfl (ck x.serial 0 1000000 _) ?_
     clear Z Y
     intro a w6 Z Y
     refine wlv Z (aw rfl rfl) fun a Z => wlm Z rfl fun a Z => ?_
     rcases Bool.eq_false_or_eq_true (inB x.serial 0 1000000) with hb5 | hb5
     ·rw [hb5] at Z
      try simp only [qz] at hb5
      refine wly Z (ac (v := .pointer (some ⟨w0.heap.size, 6, none⟩)) rfl (by kernel_rfl)) fun a Z => wly Z (bO (ds := [iv x.sf, iv x.st]) (Y.get (k := 0) rfl) rfl (Tryz.isAgg28 _) (Tryz.sizeOf28 _) rfl) fun a Z => aJ Z Y (by decide) rfl (by decide) rfl Tryz.call115 rfl (gJ x.sf x.st _) ?_
      clear Z Y
      intro a w7 Z Y
      refine wlv Z (aw rfl rfl) fun a Z => wla Z rfl fun a Z => ab (hK3 _ _ ?_)
      replace Z : Fr 33 [(2, _)] [] a := Z.pick [2]
      replace Y : St No w0 [] w7 := Y.mask [false]
      refine aq ?_
      refine ak Z Tryz.results58 (ah rfl ag) ?_
      exact ⟨by simp only [retv]; unfold Wsh.ok; simp [hb1, hb2, hb3, hb4, hb5], Y.ext⟩
     rw [hb5] at Z
     try simp only [qz] at hb5
     refine wln Z fun a Z => wln Z fun a Z => wln Z fun a Z => wlv Z (au rfl rfl) fun a Z => wla Z rfl fun a Z => ab (hK3 _ _ ?_)
     replace Z : Fr 33 [(2, _)] [] a := Z.pick [2]
     replace Y : St No w0 [] w6 := Y.mask [false]
     refine aq ?_
     refine ak Z Tryz.results58 (ah rfl ag) ?_
     exact ⟨by simp only [retv]; unfold Wsh.ok; simp [hb1, hb2, hb3, hb4, hb5], Y.ext⟩
    rw [hb4] at Z
    try simp only [qz] at hb4
    refine wln Z fun a Z => wln Z fun a Z => wln Z fun a Z => wlv Z (au rfl rfl) fun a Z => wlm Z rfl fun a Z => wln Z fun a Z => wln Z fun a Z => wln Z fun a Z => ?_
    refine wlv Z (au rfl rfl) fun a Z => wla Z rfl fun a Z => ab (hK3 _ _ ?_)
    replace Z : Fr 33 [(2, _)] [] a := Z.pick [2]
    replace Y : St No w0 [] w5 := Y.mask [false]
    refine aq ?_
    refine ak Z Tryz.results58 (ah rfl ag) ?_
    exact ⟨by simp only [retv]; unfold Wsh.ok; simp [hb1, hb2, hb3, hb4], Y.ext⟩
   rw [hb3] at Z
   try simp only [qz] at hb3
   refine wln Z fun a Z => wln Z fun a Z => wln Z fun a Z => wlv Z (au rfl rfl) fun a Z => wlm Z rfl fun a Z => wln Z fun a Z => wln Z fun a Z => wln Z fun a Z => ?_
   refine wlv Z (au rfl rfl) fun a Z => wlm Z rfl fun a Z => wln Z fun a Z => wln Z fun a Z => wln Z fun a Z => wlv Z (au rfl rfl) fun a Z => wla Z rfl fun a Z => ab (hK3 _ _ ?_)
   replace Z : Fr 33 [(2, _)] [] a := Z.pick [2]
   replace Y : St No w0 [] w4 := Y.mask [false]
   refine aq ?_
   refine ak Z Tryz.results58 (ah rfl ag) ?_
   exact ⟨by simp only [retv]; unfold Wsh.ok; simp [hb1, hb2, hb3], Y.ext⟩
  rw [hb2] at Z
  try simp only [qz] at hb2
  refine wln Z fun a Z => wln Z fun a Z => wln Z fun a Z => wlv Z (au rfl rfl) fun a Z => wlm Z rfl fun a Z => wln Z fun a Z => wln Z fun a Z => wln Z fun a Z => ?_
  refine wlv Z (au rfl rfl) fun a Z => wlm Z rfl fun a Z => wln Z fun a Z => wln Z fun a Z => wln Z fun a Z => wlv Z (au rfl rfl) fun a Z => wlm Z rfl fun a Z => wln Z fun a Z => wln Z fun a Z => ?_
  refine wln Z fun a Z => wlv Z (au rfl rfl) fun a Z => wla Z rfl fun a Z => ab (hK3 _ _ ?_)
  replace Z : Fr 33 [(2, _)] [] a := Z.pick [2]
  replace Y : St No w0 [] w3 := Y.mask [false]
  refine aq ?_
  refine ak Z Tryz.results58 (ah rfl ag) ?_
  exact ⟨by simp only [retv]; unfold Wsh.ok; simp [hb1, hb2], Y.ext⟩
 rw [hb1] at Z
 try simp only [qz] at hb1
 refine wln Z fun a Z => wln Z fun a Z => wln Z fun a Z => wlv Z (au rfl rfl) fun a Z => wla Z rfl fun a Z => ab (hK2 _ _ ?_)
 replace Z : Fr 33 [(1, _), (2, _), (3, _)] [] a := Z.pick [1, 2, 3]
 refine aa fun K4 hK4 => wlm Z rfl fun a Z => wlm Z rfl fun a Z => wln Z fun a Z => wln Z fun a Z => wln Z fun a Z => wlv Z (au rfl rfl) fun a Z => wlm Z rfl fun a Z => wln Z fun a Z => ?_
 refine wln Z fun a Z => wln Z fun a Z => wlv Z (au rfl rfl) fun a Z => wlm Z rfl fun a Z => wln Z fun a Z => wln Z fun a Z => wln Z fun a Z => wlv Z (au rfl rfl) fun a Z => wlm Z rfl fun a Z => ?_
 refine wln Z fun a Z => wln Z fun a Z => wln Z fun a Z => wlv Z (au rfl rfl) fun a Z => wla Z rfl fun a Z => ab (hK4 _ _ ?_)
 replace Z : Fr 33 [(2, _)] [] a := Z.pick [2]
 replace Y : St No w0 [] w2 := Y.mask [false]
 refine aq ?_
 refine ak Z Tryz.results58 (ah rfl ag) ?_
 exact ⟨by simp only [retv]; unfold Wsh.ok; simp [hb1], Y.ext⟩
set_option maxHeartbeats 4000000 in
theorem kA (x : Pxy) (w0 : World) :
  Ret Tryz.prog 73 #[.agg #[iv x.frm, iv x.to, iv x.rf, iv x.rt, iv x.sf, iv x.st, sv x.sig]] w0 fun v w => v = .bool x.ok ∧ Ext No w0 w := by
 refine aD Tryz.func73 rfl Tryz.ntmps73 (lb rfl) fun a Z => ?_
 replace Z : Fr 30 [(0, _)] [] a := Z
 replace Y : St No w0 [] w0 := St.init w0
 refine aa fun K1 hK1 => aN Z Y (by decide) rfl (cs := [iv x.frm, iv x.to, iv x.rf, iv x.rt, iv x.sf, iv x.st, sv x.sig]) rfl ?_
 clear Z Y
 intro a w1 Z Y
 refine wla Z rfl fun a Z => ab (hK1 _ _ <| aa fun K2 hK2 => ?_)
 refine wlv Z (ac (v := pq w0.heap.size) rfl (by kernel_rfl)) fun a Z => wlv Z (ae (Y.get (k := 0) rfl) rfl (Tryz.isAgg3 _) rfl) fun a Z => az Z Y (by decide) Tryz.call60 rfl (ck x.frm 0 63 _) ?_
 clear Z Y
 intro a w2 Z Y
 refine wlm Z rfl fun a Z => ?_
 rcases Bool.eq_false_or_eq_true (inB x.frm 0 63) with hb1 | hb1
 ·rw [hb1] at Z
  try simp only [qz] at hb1
  refine wly Z (ac (v := .pointer (some ⟨w0.heap.size, 1, none⟩)) rfl (by kernel_rfl)) fun a Z => wly Z (ae (Y.get (k := 0) rfl) rfl (Tryz.isAgg3 _) rfl) fun a Z => aJ Z Y (by decide) rfl (by decide) rfl Tryz.call60 rfl (ck x.to 0 63 _) ?_
  clear Z Y
  intro a w3 Z Y
  refine wlv Z (aw rfl rfl) fun a Z => wlm Z rfl fun a Z => ?_
  rcases Bool.eq_false_or_eq_true (inB x.to 0 63) with hb2 | hb2
  ·rw [hb2] at Z
   try simp only [qz] at hb2
   refine wly Z (ac (v := pq w0.heap.size) rfl (by kernel_rfl)) fun a Z => wly Z (ae (Y.get (k := 0) rfl) rfl (Tryz.isAgg3 _) rfl) fun a Z => wly Z (ac (v := .pointer (some ⟨w0.heap.size, 1, none⟩)) rfl (by kernel_rfl)) fun a Z => wly Z (ae (Y.get (k := 0) rfl) rfl (Tryz.isAgg3 _) rfl) fun a Z => wly Z (v_ne rfl rfl) fun a Z => wlv Z (aw rfl rfl) fun a Z => wla Z rfl fun a Z => ab (hK2 _ _ ?_)
   replace Z : Fr 30 [(1, _), (2, _), (3, _)] [] a := Z.pick [1, 2, 3]
   refine aa fun K3 hK3 => wlm Z rfl fun a Z => wlm Z rfl fun a Z => ?_
   rcases Bool.eq_false_or_eq_true (!decide (x.frm = x.to)) with hb3 | hb3
   ·rw [hb3] at Z
    try simp only [qz] at hb3
    refine wly Z (ac (v := .pointer (some ⟨w0.heap.size, 2, none⟩)) rfl (by kernel_rfl)) fun a Z => wly Z (bO (ds := [iv x.rf, iv x.rt]) (Y.get (k := 0) rfl) rfl (Tryz.isAgg27 _) (Tryz.sizeOf27 _) rfl) fun a Z => aJ Z Y (by decide) rfl (by decide) rfl Tryz.call114 rfl (gm x.rf x.rt _) ?_
    clear Z Y
    intro a w4 Z Y
    refine wlv Z (aw rfl rfl) fun a Z => wlm Z rfl fun a Z => ?_
    rcases Bool.eq_false_or_eq_true (cc x.rf x.rt) with hb4 | hb4
    ·rw [hb4] at Z
     try simp only [qz] at hb4
     refine wly Z (ac (v := .pointer (some ⟨w0.heap.size, 4, none⟩)) rfl (by kernel_rfl)) fun a Z => wly Z (bO (ds := [iv x.sf, iv x.st]) (Y.get (k := 0) rfl) rfl (Tryz.isAgg28 _) (Tryz.sizeOf28 _) rfl) fun a Z => aJ Z Y (by decide) rfl (by decide) rfl Tryz.call115 rfl (gJ x.sf x.st _) ?_
     clear Z Y
     intro a w5 Z Y
     refine wlv Z (aw rfl rfl) fun a Z => wla Z rfl fun a Z => ab (hK3 _ _ ?_)
     replace Z : Fr 30 [(2, _)] [] a := Z.pick [2]
     replace Y : St No w0 [] w5 := Y.mask [false]
     refine aq ?_
     refine ak Z Tryz.results73 (ah rfl ag) ?_
     exact ⟨by simp only [retv]; unfold Pxy.ok; simp [hb1, hb2, hb3, hb4], Y.ext⟩
    rw [hb4] at Z
    try simp only [qz] at hb4
    refine wln Z fun a Z => wln Z fun a Z => wln Z fun a Z => wlv Z (au rfl rfl) fun a Z => wla Z rfl fun a Z => ab (hK3 _ _ ?_)
    replace Z : Fr 30 [(2, _)] [] a := Z.pick [2]
    replace Y : St No w0 [] w4 := Y.mask [false]
    refine aq ?_
    refine ak Z Tryz.results73 (ah rfl ag) ?_
    exact ⟨by simp only [retv]; unfold Pxy.ok; simp [hb1, hb2, hb3, hb4], Y.ext⟩
   rw [hb3] at Z
   try simp only [qz] at hb3
   refine wln Z fun a Z => wln Z fun a Z => wln Z fun a Z => wlv Z (au rfl rfl) fun a Z => wlm Z rfl fun a Z => wln Z fun a Z => wln Z fun a Z => wln Z fun a Z => ?_
   refine wlv Z (au rfl rfl) fun a Z => wla Z rfl fun a Z => ab (hK3 _ _ ?_)
   replace Z : Fr 30 [(2, _)] [] a := Z.pick [2]
   replace Y : St No w0 [] w3 := Y.mask [false]
   refine aq ?_
   refine ak Z Tryz.results73 (ah rfl ag) ?_
   exact ⟨by simp only [retv]; unfold Pxy.ok; simp [hb1, hb2, hb3], Y.ext⟩
  rw [hb2] at Z
  try simp only [qz] at hb2
  refine wln Z fun a Z => wln Z fun a Z => wln Z fun a Z => wln Z fun a Z => wln Z fun a Z => wlv Z (au rfl rfl) fun a Z => wla Z rfl fun a Z => ab (hK2 _ _ ?_)
  replace Z : Fr 30 [(1, _), (2, _), (3, _)] [] a := Z.pick [1, 2, 3]
  refine aa fun K4 hK4 => wlm Z rfl fun a Z => wlm Z rfl fun a Z => wln Z fun a Z => wln Z fun a Z => wln Z fun a Z => wlv Z (au rfl rfl) fun a Z => wlm Z rfl fun a Z => wln Z fun a Z => ?_
  refine wln Z fun a Z => wln Z fun a Z => wlv Z (au rfl rfl) fun a Z => wla Z rfl fun a Z => ab (hK4 _ _ ?_)
  replace Z : Fr 30 [(2, _)] [] a := Z.pick [2]
  replace Y : St No w0 [] w3 := Y.mask [false]
  refine aq ?_
  refine ak Z Tryz.results73 (ah rfl ag) ?_
  exact ⟨by simp only [retv]; unfold Pxy.ok; simp [hb1, hb2], Y.ext⟩
 rw [hb1] at Z
 try simp only [qz] at hb1
 refine wln Z fun a Z => wln Z fun a Z => wln Z fun a Z => wlv Z (au rfl rfl) fun a Z => wlm Z rfl fun a Z => wln Z fun a Z => wln Z fun a Z => wln Z fun a Z => ?_
 refine wln Z fun a Z => wln Z fun a Z => wlv Z (au rfl rfl) fun a Z => wla Z rfl fun a Z => ab (hK2 _ _ ?_)
 replace Z : Fr 30 [(1, _), (2, _), (3, _)] [] a := Z.pick [1, 2, 3]
 refine aa fun K5 hK5 => wlm Z rfl fun a Z => wlm Z rfl fun a Z => wln Z fun a Z => wln Z fun a Z => wln Z fun a Z => wlv Z (au rfl rfl) fun a Z => wlm Z rfl fun a Z => wln Z fun a Z => ?_
 refine wln Z fun a Z => wln Z fun a Z => wlv Z (au rfl rfl) fun a Z => wla Z rfl fun a Z => ab (hK5 _ _ ?_)
 replace Z : Fr 30 [(2, _)] [] a := Z.pick [2]
 replace Y : St No w0 [] w2 := Y.mask [false]
 refine aq ?_
 refine ak Z Tryz.results73 (ah rfl ag) ?_
 exact ⟨by simp only [retv]; unfold Pxy.ok; simp [hb1], Y.ext⟩
theorem nF {M : Nat → Prop} {w0 : World} (b bx : Nat) (v : Value) (x : Pxy) (ws : World) (hx : smalls x.nums) (Y : St M w0 [bld 133 b (.pointer none) v ([] : By), blk bx [iv x.frm, iv x.to, iv x.rf, iv x.rt, iv x.sf, iv x.st, sv x.sig] 40] ws) :
  Ret Tryz.prog 64 #[pq b, pq bx] ws fun u w => u = .tuple #[] ∧ ∃ v2, St M w0 [bld 133 b (pq b) v2 x.content, blk bx [iv x.frm, iv x.to, iv x.rf, iv x.rt, iv x.sf, iv x.st, sv x.sig] 40] w := by
 refine aD Tryz.func64 rfl Tryz.ntmps64 (lb rfl) fun a Z => ?_
 replace Z : Fr 6 [(0, _), (1, _)] [] a := Z
 skip
 refine ar <| wlm Z rfl fun a Z => wlv Z (ao (Y.get (k := 1) rfl) rfl (Tryz.isAgg40 _) (Tryz.sizeOf40 _)) fun a Z => dK (R := fun u e' => u = .tuple #[] ∧ ∃ v2, e' = bld 133 b (pq b) v2 (([] : By) ++ x.content)) 0 Z Y rfl (by decide) Tryz.call65 rfl (fun h => (lr 133 b _ _ _ x _ (by kernel_rfl) (.inl rfl) hx (by simp) h).mono fun u w ⟨h1, v2, h2⟩ => ⟨_, ⟨h1, v2, rfl⟩, h2⟩) ?_
 clear Z Y
 rintro a w1 _ _ ⟨rfl, v1, rfl⟩ Z Y
 replace Y : St M w0 [bld 133 b (pq b) v1 (([] : By) ++ x.content), blk bx [iv x.frm, iv x.to, iv x.rf, iv x.rt, iv x.sf, iv x.st, sv x.sig] 40] w1 := Y
 refine ab ?_
 refine cP Z Tryz.results64 ag ?_
 exact ⟨rfl, _, Y.select [0, 1] (by decide)⟩
theorem nA {M : Nat → Prop} {w0 : World} (b bx : Nat) (v : Value) (x : Wsh) (ws : World) (hx : smalls x.nums) (Y : St M w0 [bld 133 b (.pointer none) v ([] : By), blk bx [iv x.signer, iv x.holder, iv x.rf, iv x.rt, iv x.carrier, iv x.serial, iv x.sf, iv x.st, sv x.sig] 30] ws) :
  Ret Tryz.prog 66 #[pq b, pq bx] ws fun u w => u = .tuple #[] ∧ ∃ v2, St M w0 [bld 133 b (pq b) v2 x.content, blk bx [iv x.signer, iv x.holder, iv x.rf, iv x.rt, iv x.carrier, iv x.serial, iv x.sf, iv x.st, sv x.sig] 30] w := by
 refine aD Tryz.func66 rfl Tryz.ntmps66 (lb rfl) fun a Z => ?_
 replace Z : Fr 6 [(0, _), (1, _)] [] a := Z
 skip
 refine ar <| wlm Z rfl fun a Z => wlv Z (ao (Y.get (k := 1) rfl) rfl (Tryz.isAgg30 _) (Tryz.sizeOf30 _)) fun a Z => dK (R := fun u e' => u = .tuple #[] ∧ ∃ v2, e' = bld 133 b (pq b) v2 (([] : By) ++ x.content)) 0 Z Y rfl (by decide) Tryz.call67 rfl (fun h => (m5 133 b _ _ _ x _ (by kernel_rfl) (.inl rfl) hx (by simp) h).mono fun u w ⟨h1, v2, h2⟩ => ⟨_, ⟨h1, v2, rfl⟩, h2⟩) ?_
 clear Z Y
 rintro a w1 _ _ ⟨rfl, v1, rfl⟩ Z Y
 replace Y : St M w0 [bld 133 b (pq b) v1 (([] : By) ++ x.content), blk bx [iv x.signer, iv x.holder, iv x.rf, iv x.rt, iv x.carrier, iv x.serial, iv x.sf, iv x.st, sv x.sig] 30] w1 := Y
 refine ab ?_
 refine cP Z Tryz.results66 ag ?_
 exact ⟨rfl, _, Y.select [0, 1] (by decide)⟩
theorem kY {n : Int} {l : List Int} : puts (n :: l) ≠ [] := fun h => by
 have := (ex n).1
 simp only [puts, List.flatMap_cons, List.append_eq_nil_iff] at h
 rw [h.1] at this; simp at this
end Go.Proofs.YtmmfieceinmloaaGreatDoor
namespace Go.Proofs.YtmmfieceinmloaaGreatDoor
open Go.RowKit Go.PW
set_option linter.unusedVariables false
set_option linter.unusedSimpArgs false
set_option maxRecDepth 4000
theorem lB {M : Nat → Prop} {wb : World} {H : List Ent} {sv : Value} {els : List (List Value)} {caps : List Value} {g : FuncId} (p : Nat → Bool) (ev_ : Nat → Value) (J : Nat → Ent → Prop) (e0 : Ent) (w0 : World)
  (hen : ∀ args w, (callFunc g args).run Tryz.prog w = .ok (.enter g args) w) (hs : ∀ e w, St M wb (e :: H) w → SlAt w sv 7 els)
  (hev : ∀ k (h : k < els.length), .agg (els[k]).toArray = ev_ k) (hJ0 : J 0 e0) (Y : St M wb (e0 :: H) w0)
  (hcl : ∀ k e w, k < els.length → J k e → e.ok w → (∀ b, e.foot b → b < w.heap.size) → Ret Tryz.prog g ([ev_ k] ++ caps).toArray w fun v w' => v = .bool (p k) ∧ ∃ e', Ext e.foot w w' ∧ e'.ok w' ∧ (∀ b, e'.foot b → b < w'.heap.size ∧ (e.foot b ∨ w.heap.size ≤ b)) ∧ J (k + 1) e') :
  Ret Tryz.prog 116 #[sv, .func (.func g) #[] caps.toArray] w0 fun v w => v = iv (fstIdx p els.length) ∧ ∃ k e', J k e' ∧ St M wb (e' :: H) w := by
 have hsl := (hs _ _ Y).le
 refine aD Tryz.func116 rfl Tryz.ntmps116 (lb rfl) fun a Z => ?_
 have Z : Fr 19 [(0, _), (1, _)] [] a := Z
 refine aa fun K1 hK1 => wla Z rfl fun a Z => ab (hK1 _ _ <| ai fun K2 hK2 => ?_)
 refine aa fun K3 hK3 => wlm Z rfl fun a Z => wlv Z (aY (sT := 31) (hs _ _ Y) rfl rfl (Tryz.runUnderlying31 _)) fun a Z => wlm Z rfl fun a Z => ab (hK3 _ _ <| ax ?_)
 refine bf (fun m a w => ∃ (k : Nat) (e : Ent), m = els.length - k ∧ (k ≤ els.length) ∧ (∀ j, j < k → p j = false) ∧ (J k e) ∧ Fr 19 [(0, sv), (1, .func (.func g) #[] caps.toArray), (6, sv), (7, iv els.length), (8, iv (k : Int))] [] a ∧ St M wb (e :: H) w) _ ⟨0, e0, rfl, Nat.zero_le _, (by intro j hj; omega), hJ0, Z.pick [0, 1, 6, 7, 8], Y⟩ ?_
 rintro _ a w1 ⟨k, e, rfl, hk, hp, hJ, Z, Y⟩
 refine aa fun K4 hK4 => wlv Z (v_lt rfl rfl) fun a Z => ab (hK4 _ _ <| ai fun K5 hK5 => ?_)
 refine aB Z rfl (fun hc1 => ?_) (fun hc1 => ?_)
 ·rw [hc1] at Z
  try simp only [qz] at hc1
  refine ay <| hK5 _ _ <| ai fun K6 hK6 => ax <| aa fun K7 hK7 => wlm Z rfl fun a Z => wla Z rfl fun a Z => ab (hK7 _ _ ?_)
  refine aa fun K8 hK8 => wlm Z rfl fun a Z => wlm Z rfl fun a Z => wlm Z rfl fun a Z => wlv Z ((am (i := (k : Int)) (sT := 31) (hs _ _ Y) rfl rfl (Tryz.runUnderlying31 _) (Tryz.sizeOf40 _) (by omega) (by omega)).as (v' := slAddr sv (k * 7)) rfl) fun a Z => wlv Z ((bY (hs _ _ Y) (i := k) (by omega) rfl (Tryz.isAgg40 _) (Tryz.sizeOf40 _)).as (v' := ev_ k) (hev k (by omega))) fun a Z => wl_r (dC (cap := caps) rfl hen rfl (hcl k _ _ (by omega) hJ (Y.get (k := 0) rfl) (fun b hb => Y.lt (k := 0) rfl hb))) rfl rfl Z fun a v w2 hR Z => ?_
  obtain ⟨rfl, e1, hx, hok, hft, hJ1⟩ := hR
  have Y := Y.exchange (k := 0) rfl hx hok hft
  have Y : St M wb (e1 :: H) w2 := Y
  refine ab (hK8 _ _ ?_)
  refine aB Z rfl (fun hc2 => ?_) (fun hc2 => ?_)
  ·rw [hc2] at Z
   try simp only [qz] at hc2
   refine aa fun K9 hK9 => wlm Z rfl fun a Z => wla Z rfl fun a Z => ab (hK9 _ _ <| aq ?_)
   refine ak Z Tryz.results116 (ah rfl ag) ?_
   exact ⟨by rw [dv (k := k) (by omega) hp (by assumption)]; rfl, _, _, hJ1, Y⟩
  rw [hc2] at Z
  try simp only [qz] at hc2
  refine ay <| hK6 _ _ <| ar <| wlv Z (aM rfl rfl ⟨by omega, by omega⟩) fun a Z => wlm Z rfl fun a Z => ab ?_
  refine ⟨_, ?_, k + 1, e1, rfl, (by omega), (by intro j hj; by_cases h : j = k; (subst h; assumption); exact hp j (by omega)), hJ1, Z.pick [0, 1, 6, 7, 8], Y⟩
  omega
 rw [hc1] at Z
 try simp only [qz] at hc1
 refine aS <| hK2 _ _ <| aa fun K10 hK10 => wla Z rfl fun a Z => ab (hK10 _ _ <| aq ?_)
 refine ak Z Tryz.results116 (ah rfl ag) ?_
 have hkl : k = els.length := by omega
 subst hkl
 exact ⟨by rw [dz hp]; rfl, _, _, hJ, Y⟩
theorem lW {sv : Value} {xs : List Pxy} {g : FuncId} (p : Pxy → Bool) (w0 : World) (hen : ∀ args w, (callFunc g args).run Tryz.prog w = .ok (.enter g args) w) (hs : SlAt w0 sv 7 (xs.map Pxy.cells))
  (hcl : ∀ (x : Pxy) (w : World), Ret Tryz.prog g #[.agg x.cells.toArray] w fun v w' => v = .bool (p x) ∧ Ext No w w') :
  Ret Tryz.prog 116 #[sv, .func (.func g) #[] #[]] w0 fun v w => v = iv (fstIdx (fun k => p (xs.getD k Pxy.z)) xs.length) ∧ Ext No w0 w := by
 have Y : St No w0 [join []] w0 := St.join [] [] (St.init w0)
 have h := lB (M := No) (wb := w0) (H := []) (sv := sv) (els := xs.map Pxy.cells) (caps := []) (g := g) (fun k => p (xs.getD k Pxy.z)) (fun k => .agg (xs.getD k Pxy.z).cells.toArray) (fun _ e => e = join []) (join []) w0 hen
  (fun e w h => h.arg hs) (fun k h => by rw [ca Pxy.z]) rfl Y (fun k e w hk he hok hlt => by
   subst he
   refine (hcl _ w).mono fun v w' ⟨h1, h2⟩ => ⟨h1, join [], h2.mono (fun k _ hk => hk.elim), ?_, ?_, rfl⟩
   ·exact ⟨fun e he => (by cases he), List.Pairwise.nil⟩
   ·rintro b ⟨e, he, _⟩
    cases he)
 refine h.mono fun v w ⟨h1, k, e, he, Y⟩ => ⟨by rw [h1, List.length_map], Y.ext⟩
theorem mC (x : Pxy) (w0 : World) :
  Ret Tryz.prog 117 #[.agg #[iv x.frm, iv x.to, iv x.rf, iv x.rt, iv x.sf, iv x.st, sv x.sig]] w0 fun v w => v = .bool (!x.ok) ∧ Ext No w0 w := by
 refine aD Tryz.func117 rfl Tryz.ntmps117 (lb rfl) fun a Z => ?_
 have Z : Fr 6 [(0, _)] [] a := Z
 have Y : St No w0 [] w0 := St.init w0
 refine aa fun K1 hK1 => aN Z Y (by decide) rfl (cs := [iv x.frm, iv x.to, iv x.rf, iv x.rt, iv x.sf, iv x.st, sv x.sig]) rfl fun a w1 Z Y => wla Z rfl fun a Z => ab (hK1 _ _ <| aa fun K2 hK2 => ?_)
 refine wlv Z (ao (Y.get (k := 0) rfl) rfl (Tryz.isAgg40 _) (Tryz.sizeOf40 _)) fun a Z => az Z Y (by decide) Tryz.call73 rfl (kA x _) fun a w2 Z Y => wlv Z (bK rfl) fun a Z => wla Z rfl fun a Z => ab (hK2 _ _ <| aq ?_)
 refine ak Z Tryz.results117 (ah rfl ag) ?_
 exact ⟨by rfl, Y.ext⟩
def badN (xs : List Pxy) : Int := fstIdx (fun k => !(xs.getD k Pxy.z).ok) xs.length
theorem lq (v : Value) (xs : List Pxy) (w0 : World) (hv : SlAt w0 v 7 (xs.map Pxy.cells)) : Ret Tryz.prog 116 #[v, .func (.func 117) #[] #[]] w0 fun v w => v = iv (badN xs) ∧ Ext No w0 w :=
 lW (fun x => !x.ok) w0 Tryz.call117 hv (fun x w => mC x w)
theorem jS (lv : Value) (xs : List Pxy) (w0 : World) (hlv : SlAt w0 lv 7 (xs.map Pxy.cells)) :
  Ret Tryz.prog 59 #[lv] w0 fun v w => v = iv (badN xs) ∧ Ext No w0 w := by
 refine aD Tryz.func59 rfl Tryz.ntmps59 (lb rfl) fun a Z => ?_
 have Z : Fr 5 [(0, _)] [] a := Z
 have Y : St No w0 [] w0 := St.init w0
 refine aa fun K1 hK1 => wla Z rfl fun a Z => ab (hK1 _ _ <| aa fun K2 hK2 => ?_)
 refine wlm Z rfl fun a Z => az Z Y (by decide) Tryz.call116 rfl (lq lv xs _ (Y.arg hlv)) fun a w1 Z Y => wla Z rfl fun a Z => ab (hK2 _ _ <| aq ?_)
 refine ak Z Tryz.results59 (ah rfl ag) ?_
 exact ⟨by rfl, Y.ext⟩
end Go.Proofs.YtmmfieceinmloaaGreatDoor
namespace Go.Proofs.YtmmfieceinmloaaGreatDoor
open Go.RowKit Go.PW
set_option linter.unusedVariables false
set_option linter.unusedSimpArgs false
set_option maxRecDepth 4000
set_option maxHeartbeats 4000000 in
theorem bS (rf rt sf st : Int) (x : Pxy) (w0 : World) :
  Ret Tryz.prog 119 #[.agg #[iv rf, iv rt], .agg #[iv sf, iv st], .agg #[iv x.frm, iv x.to, iv x.rf, iv x.rt, iv x.sf, iv x.st, sv x.sig]] w0 fun v w => v = .bool (isInH rf rt sf st x) ∧ Ext No w0 w := by
 refine aD Tryz.func119 rfl Tryz.ntmps119 (lb rfl) fun a Z => ?_
 replace Z : Fr 37 [(0, _), (1, _), (2, _)] [] a := Z
 replace Y : St No w0 [] w0 := St.init w0
 refine aa fun K1 hK1 => aN Z Y (by decide) rfl (cs := [iv rf, iv rt]) rfl ?_
 clear Z Y
 intro a w1 Z Y
 refine aN Z Y (by decide) rfl (cs := [iv sf, iv st]) rfl ?_
 clear Z Y
 intro a w2 Z Y
 refine aN Z Y (by decide) rfl (cs := [iv x.frm, iv x.to, iv x.rf, iv x.rt, iv x.sf, iv x.st, sv x.sig]) rfl ?_
 clear Z Y
 intro a w3 Z Y
 refine wla Z rfl fun a Z => ab (hK1 _ _ <| aa fun K2 hK2 => ?_)
 refine wlv Z (ac (v := .pointer (some ⟨w2.heap.size, 2, none⟩)) rfl (by kernel_rfl)) fun a Z => wlv Z (ac (v := .pointer (some ⟨w2.heap.size, 2, none⟩)) rfl (by kernel_rfl)) fun a Z => wlv Z (ae (Y.get (k := 0) rfl) rfl (Tryz.isAgg3 _) rfl) fun a Z => wlv Z (ac (v := pq w0.heap.size) rfl (by kernel_rfl)) fun a Z => wlv Z (ae (Y.get (k := 2) rfl) rfl (Tryz.isAgg3 _) rfl) fun a Z => wlv Z (v_le rfl rfl) fun a Z => wlm Z rfl fun a Z => ?_
 refine cz (N := 37) (df := []) 7 [(20, .bool ((decide (x.rf ≤ rf)) && (decide (rt ≤ x.rt)))), (0, .agg #[iv rf, iv rt]), (1, .agg #[iv sf, iv st]), (2, .agg #[iv x.frm, iv x.to, iv x.rf, iv x.rt, iv x.sf, iv x.st, sv x.sig]), (3, pq w0.heap.size), (4, pq w1.heap.size), (5, pq w2.heap.size), (6, .bool false)] ?_ (fun hj => ?_)
 rotate_left
 ·rcases Bool.eq_false_or_eq_true (decide (x.rf ≤ rf)) with hb1 | hb1
  ·rw [hb1] at Z
   have hb1b := hb1
   try simp only [qz, Bool.and_eq_true, Bool.or_eq_true, Bool.and_eq_false_iff, Bool.or_eq_false_iff] at hb1
   refine wly Z (ac (v := .pointer (some ⟨w0.heap.size, 1, none⟩)) rfl (by kernel_rfl)) fun a Z => wly Z (ae (Y.get (k := 2) rfl) rfl (Tryz.isAgg3 _) rfl) fun a Z => wly Z (ac (v := .pointer (some ⟨w2.heap.size, 2, none⟩)) rfl (by kernel_rfl)) fun a Z => wly Z (ac (v := .pointer (some ⟨w2.heap.size, 3, none⟩)) rfl (by kernel_rfl)) fun a Z => wly Z (ae (Y.get (k := 0) rfl) rfl (Tryz.isAgg3 _) rfl) fun a Z => wly Z (v_le rfl rfl) fun a Z => wlv Z (aw rfl rfl) fun a Z => ?_
   refine hj _ ?_
   try rw [hb1b]
   exact Z.pick [20, 0, 1, 2, 3, 4, 5, 6]
  rw [hb1] at Z
  have hb1b := hb1
  try simp only [qz, Bool.and_eq_true, Bool.or_eq_true, Bool.and_eq_false_iff, Bool.or_eq_false_iff] at hb1
  refine wln Z fun a Z => wln Z fun a Z => wln Z fun a Z => wln Z fun a Z => wln Z fun a Z => wln Z fun a Z => wlv Z (au rfl rfl) fun a Z => ?_
  refine hj _ ?_
  try rw [hb1b]
  exact Z.pick [20, 0, 1, 2, 3, 4, 5, 6]
 intro a Z
 refine wlm Z rfl fun a Z => ?_
 refine cz (N := 37) (df := []) 7 [(28, .bool (((decide (x.rf ≤ rf)) && (decide (rt ≤ x.rt))) && (decide (x.sf ≤ sf)))), (0, .agg #[iv rf, iv rt]), (1, .agg #[iv sf, iv st]), (2, .agg #[iv x.frm, iv x.to, iv x.rf, iv x.rt, iv x.sf, iv x.st, sv x.sig]), (3, pq w0.heap.size), (4, pq w1.heap.size), (5, pq w2.heap.size), (6, .bool false)] ?_ (fun hj => ?_)
 rotate_left
 ·rcases Bool.eq_false_or_eq_true ((decide (x.rf ≤ rf)) && (decide (rt ≤ x.rt))) with hb2 | hb2
  ·rw [hb2] at Z
   have hb2b := hb2
   try simp only [qz, Bool.and_eq_true, Bool.or_eq_true, Bool.and_eq_false_iff, Bool.or_eq_false_iff] at hb2
   refine wly Z (ac (v := .pointer (some ⟨w2.heap.size, 4, none⟩)) rfl (by kernel_rfl)) fun a Z => wly Z (ac (v := .pointer (some ⟨w2.heap.size, 4, none⟩)) rfl (by kernel_rfl)) fun a Z => wly Z (ae (Y.get (k := 0) rfl) rfl (Tryz.isAgg3 _) rfl) fun a Z => wly Z (ac (v := pq w1.heap.size) rfl (by kernel_rfl)) fun a Z => wly Z (ae (Y.get (k := 1) rfl) rfl (Tryz.isAgg3 _) rfl) fun a Z => wly Z (v_le rfl rfl) fun a Z => wlv Z (aw rfl rfl) fun a Z => ?_
   refine hj _ ?_
   try rw [hb2b]
   exact Z.pick [28, 0, 1, 2, 3, 4, 5, 6]
  rw [hb2] at Z
  have hb2b := hb2
  try simp only [qz, Bool.and_eq_true, Bool.or_eq_true, Bool.and_eq_false_iff, Bool.or_eq_false_iff] at hb2
  refine wln Z fun a Z => wln Z fun a Z => wln Z fun a Z => wln Z fun a Z => wln Z fun a Z => wln Z fun a Z => wlv Z (au rfl rfl) fun a Z => ?_
  refine hj _ ?_
  try rw [hb2b]
  exact Z.pick [28, 0, 1, 2, 3, 4, 5, 6]
 intro a Z
 refine wlm Z rfl fun a Z => ?_
 refine cz (N := 37) (df := []) 7 [(36, .bool ((((decide (x.rf ≤ rf)) && (decide (rt ≤ x.rt))) && (decide (x.sf ≤ sf))) && (decide (st ≤ x.st)))), (0, .agg #[iv rf, iv rt]), (1, .agg #[iv sf, iv st]), (2, .agg #[iv x.frm, iv x.to, iv x.rf, iv x.rt, iv x.sf, iv x.st, sv x.sig]), (3, pq w0.heap.size), (4, pq w1.heap.size), (5, pq w2.heap.size), (6, .bool false)] ?_ (fun hj => ?_)
 rotate_left
 ·rcases Bool.eq_false_or_eq_true (((decide (x.rf ≤ rf)) && (decide (rt ≤ x.rt))) && (decide (x.sf ≤ sf))) with hb3 | hb3
  ·rw [hb3] at Z
   have hb3b := hb3
   try simp only [qz, Bool.and_eq_true, Bool.or_eq_true, Bool.and_eq_false_iff, Bool.or_eq_false_iff] at hb3
   refine wly Z (ac (v := .pointer (some ⟨w1.heap.size, 1, none⟩)) rfl (by kernel_rfl)) fun a Z => wly Z (ae (Y.get (k := 1) rfl) rfl (Tryz.isAgg3 _) rfl) fun a Z => wly Z (ac (v := .pointer (some ⟨w2.heap.size, 4, none⟩)) rfl (by kernel_rfl)) fun a Z => wly Z (ac (v := .pointer (some ⟨w2.heap.size, 5, none⟩)) rfl (by kernel_rfl)) fun a Z => wly Z (ae (Y.get (k := 0) rfl) rfl (Tryz.isAgg3 _) rfl) fun a Z => wly Z (v_le rfl rfl) fun a Z => wlv Z (aw rfl rfl) fun a Z => ?_
   refine hj _ ?_
   try rw [hb3b]
   exact Z.pick [36, 0, 1, 2, 3, 4, 5, 6]
  rw [hb3] at Z
  have hb3b := hb3
  try simp only [qz, Bool.and_eq_true, Bool.or_eq_true, Bool.and_eq_false_iff, Bool.or_eq_false_iff] at hb3
  refine wln Z fun a Z => wln Z fun a Z => wln Z fun a Z => wln Z fun a Z => wln Z fun a Z => wln Z fun a Z => wlv Z (au rfl rfl) fun a Z => ?_
  refine hj _ ?_
  try rw [hb3b]
  exact Z.pick [36, 0, 1, 2, 3, 4, 5, 6]
 intro a Z
 refine wla Z rfl fun a Z => ab (hK2 _ _ ?_)
 replace Z : Fr 37 [(6, _)] [] a := Z.pick [6]
 replace Y : St No w0 [] w3 := Y.mask [false, false, false]
 refine aq ?_
 refine ak Z Tryz.results119 (ah rfl ag) ?_
 exact ⟨by rfl, Y.ext⟩
def prevP (xs : List Pxy) (k : Nat) : Option Pxy := if k = 0 then none else some (xs.getD (k - 1) Pxy.z)
theorem cT {α : Type} {xs : List α} {k : Nat} (d : α) (h : k < xs.length) : xs.drop k = xs.getD k d :: xs.drop (k + 1) := by
 rw [List.drop_eq_getElem_cons h, List.getD_eq_getElem?_getD, List.getElem?_eq_getElem h]; rfl
def scopeV (x : Wsh) (xs : List Pxy) : Int × Bool := match ba x none xs 0 with | some n => (n, true) | none => (-1, false)
theorem gl {x : Wsh} {xs : List Pxy} (h : ba x none xs 0 = none) : scopeV x xs = (-1, false) := by unfold scopeV; rw [h]
theorem gD {x : Wsh} {xs : List Pxy} {n : Int} (h : ba x none xs 0 = some n) : scopeV x xs = (n, true) := by unfold scopeV; rw [h]
theorem gt {x : Wsh} {xs : List Pxy} {k : Nat} (hk : k < xs.length) (h : k = 0 ∨ isInH (xs.getD k Pxy.z).rf (xs.getD k Pxy.z).rt (xs.getD k Pxy.z).sf (xs.getD k Pxy.z).st (xs.getD (k - 1) Pxy.z) = true) :
  ba x (prevP xs k) (xs.drop k) k = ba x (prevP xs (k + 1)) (xs.drop (k + 1)) (k + 1) := by
 rw [cT Pxy.z hk]
 by_cases h0 : k = 0
 ·subst h0; rfl
 ·unfold prevP
  rw [if_neg h0, if_neg (by omega), ba, if_pos (h.resolve_left h0)]; rfl
theorem lK {x : Wsh} {xs : List Pxy} {k : Nat} (hk : k < xs.length) (h0 : 0 < k) (h : isInH (xs.getD k Pxy.z).rf (xs.getD k Pxy.z).rt (xs.getD k Pxy.z).sf (xs.getD k Pxy.z).st (xs.getD (k - 1) Pxy.z) = false) :
  ba x (prevP xs k) (xs.drop k) k = some (k : Int) := by
 rw [cT Pxy.z hk]
 unfold prevP
 rw [if_neg (by omega), ba, if_neg (by rw [h]; simp)]
theorem lL {x : Wsh} {xs : List Pxy} : ba x (prevP xs xs.length) (xs.drop xs.length) xs.length = if xs.length = 0 ∨ isInH x.rf x.rt x.sf x.st (xs.getD (xs.length - 1) Pxy.z) = true then none else some (-1) := by
 rw [List.drop_length]
 unfold prevP
 by_cases h0 : xs.length = 0
 ·rw [if_pos h0, if_pos (.inl h0)]; rfl
 ·rw [if_neg h0, ba]; simp [h0]
theorem kh {x : Wsh} {xs : List Pxy} (h : xs.length = 0) (hs : ba x none xs 0 = if xs.length = 0 ∨ isInH x.rf x.rt x.sf x.st (xs.getD (xs.length - 1) Pxy.z) = true then none else some (-1)) : scopeV x xs = (-1, false) := by
 rw [if_pos (.inl h)] at hs; exact gl hs
theorem kD {x : Wsh} {xs : List Pxy} (h : 0 < xs.length) (hs : ba x none xs 0 = if xs.length = 0 ∨ isInH x.rf x.rt x.sf x.st (xs.getD (xs.length - 1) Pxy.z) = true then none else some (-1)) : scopeV x xs = (-1, !isInH x.rf x.rt x.sf x.st (xs.getD (xs.length - 1) Pxy.z)) := by
 cases hc : isInH x.rf x.rt x.sf x.st (xs.getD (xs.length - 1) Pxy.z) with
 | true => rw [if_pos (.inr hc)] at hs; exact gl hs
 | false => rw [if_neg (fun hh => by rcases hh with hh | hh; omega; rw [hc] at hh; cases hh)] at hs; exact gD hs
set_option maxHeartbeats 4000000 in
theorem mX (x : Wsh) (lv : Value) (xs : List Pxy) (w0 : World) (hlv : SlAt w0 lv 7 (xs.map Pxy.cells)) :
  Ret Tryz.prog 62 #[.agg #[iv x.signer, iv x.holder, iv x.rf, iv x.rt, iv x.carrier, iv x.serial, iv x.sf, iv x.st, sv x.sig], lv] w0 fun v w => v = .tuple #[iv (scopeV x xs).1, .bool (scopeV x xs).2] ∧ Ext No w0 w := by
 have hxb := hlv.2.1
 simp only [List.length_map, big] at hxb
 refine aD Tryz.func62 rfl Tryz.ntmps62 (lb rfl) fun a Z => ?_
 replace Z : Fr 49 [(0, _), (1, _)] [] a := Z
 replace Y : St No w0 [] w0 := St.init w0
 refine aa fun K1 hK1 => aN Z Y (by decide) rfl (cs := [iv x.signer, iv x.holder, iv x.rf, iv x.rt, iv x.carrier, iv x.serial, iv x.sf, iv x.st, sv x.sig]) rfl ?_
 clear Z Y
 intro a w1 Z Y
 refine wla Z rfl fun a Z => wla Z rfl fun a Z => ab (hK1 _ _ <| ai fun K2 hK2 => ?_)
 refine aa fun K3 hK3 => wlm Z rfl fun a Z => wlv Z ((aY (sT := 31) (Y.arg hlv) rfl rfl (Tryz.runUnderlying31 _)).asi (m' := (xs.length : Int)) (by rw [List.length_map])) fun a Z => wlm Z rfl fun a Z => ab (hK3 _ _ <| ax ?_)
 refine bf (fun m a w => ∃ (k : Nat), m = xs.length - k ∧ (k ≤ xs.length) ∧ (ba x none xs 0 = ba x (prevP xs k) (xs.drop k) k) ∧ Fr 49 [(1, lv), (2, pq w0.heap.size), (8, lv), (9, iv (xs.length : Int)), (10, iv (k : Int))] [] a ∧ St No w0 [blk w0.heap.size [iv x.signer, iv x.holder, iv x.rf, iv x.rt, iv x.carrier, iv x.serial, iv x.sf, iv x.st, sv x.sig] 30] w) _ ⟨0, rfl, Nat.zero_le _, rfl, Z.pick [1, 2, 8, 9, 10], Y.select [0] (by decide)⟩ ?_
 rintro _ a w2 ⟨k, rfl, hk, hs, Z, Y⟩
 refine aa fun K4 hK4 => wlv Z (v_lt rfl rfl) fun a Z => ab (hK4 _ _ <| ai fun K5 hK5 => ?_)
 refine aB Z rfl (fun hc1 => ?_) (fun hc1 => ?_)
 ·rw [hc1] at Z
  try simp only [qz] at hc1
  have hkx : k < xs.length := by omega
  refine ay <| hK5 _ _ <| ai fun K6 hK6 => ax <| aa fun K7 hK7 => wlm Z rfl fun a Z => wlv Z ((am (i := (k : Int)) (sT := 31) (Y.arg hlv) rfl rfl (Tryz.runUnderlying31 _) (Tryz.sizeOf40 _) (by omega) (by rw [List.length_map]; omega)).as (v' := slAddr lv (k * 7)) rfl) fun a Z => ?_
  refine wlv Z ((bY (Y.arg hlv) (i := k) (by rw [List.length_map]; omega) rfl (Tryz.isAgg40 _) (Tryz.sizeOf40 _)).as (v' := .agg #[iv ((xs.getD k Pxy.z).frm), iv ((xs.getD k Pxy.z).to), iv ((xs.getD k Pxy.z).rf), iv ((xs.getD k Pxy.z).rt), iv ((xs.getD k Pxy.z).sf), iv ((xs.getD k Pxy.z).st), sv ((xs.getD k Pxy.z).sig)]) (by rw [ca Pxy.z]; rfl)) fun a Z => aI Z Y (by decide) (Tryz.zeroValue40 _) (cs := [iv 0, iv 0, iv 0, iv 0, iv 0, iv 0, .string (⟨#[]⟩)]) rfl ?_
  clear Z Y
  intro a w3 Z Y
  refine wla Z rfl fun a Z => ap 0 Z Y rfl rfl rfl (Tryz.sizeOf40 _) rfl (lb rfl) (ds := [iv ((xs.getD k Pxy.z).frm), iv ((xs.getD k Pxy.z).to), iv ((xs.getD k Pxy.z).rf), iv ((xs.getD k Pxy.z).rt), iv ((xs.getD k Pxy.z).sf), iv ((xs.getD k Pxy.z).st), sv ((xs.getD k Pxy.z).sig)]) rfl rfl ?_
  clear Z Y
  intro a w4 Z Y
  refine ab (hK7 _ _ <| ai fun K8 hK8 => ?_)
  refine aK (by kernel_rfl) (aO (by kernel_rfl) fun w5 hxz => ?_)
  replace Y := Y.grow hxz
  refine aP (k := 0) 3 [2] (by kernel_rfl) (by kernel_rfl) (by kernel_rfl) ?_
  refine wlm Z rfl fun a Z => wlv Z (v_gt rfl rfl) fun a Z => wlm Z rfl fun a Z => ab ?_
  rcases Bool.eq_false_or_eq_true (decide (0 < (k : Int))) with hb2 | hb2
  ·rw [hb2] at Z
   try simp only [qz] at hb2
   refine aV (k := 3) 12 [4, 6, 11] Z (by kernel_rfl) (by kernel_rfl) (by kernel_rfl) (by rfl) ?_
   replace Z : Fr 49 [(1, _), (2, _), (8, _), (9, _), (10, _), (11, _), (12, _), (13, _), (14, _), (7, _), (6, _), (15, _), (16, _), (17, _)] [] a := Z.pick [1, 2, 8, 9, 10, 11, 12, 13, 14, 7, 6, 15, 16, 17]
   refine aL [] (fun i => match i with | _ => fun _ _ => False) 9 [[], [0], [], [2], [], [], [5], [4, 6], [7]] [.pointer (some ⟨w2.heap.size, 2, none⟩), .agg #[iv ((xs.getD k Pxy.z).rf), iv ((xs.getD k Pxy.z).rt)], .pointer (some ⟨w2.heap.size, 4, none⟩), .agg #[iv ((xs.getD k Pxy.z).sf), iv ((xs.getD k Pxy.z).st)], lv, iv (k : Int), iv ((k : Int) - 1), slAddr lv ((k - 1) * 7), .agg #[iv ((xs.getD (k - 1) Pxy.z).frm), iv ((xs.getD (k - 1) Pxy.z).to), iv ((xs.getD (k - 1) Pxy.z).rf), iv ((xs.getD (k - 1) Pxy.z).rt), iv ((xs.getD (k - 1) Pxy.z).sf), iv ((xs.getD (k - 1) Pxy.z).st), sv ((xs.getD (k - 1) Pxy.z).sig)]] Z Y (by kernel_rfl) (by kernel_rfl) (by kernel_rfl) ?_ ?_ ?_
   ·intro i hi hiq
    match i, hi, hiq with
    | 0, _, _ =>
     intro w Y
     exact OpV.g (ac (v := .pointer (some ⟨w2.heap.size, 2, none⟩)) rfl (by kernel_rfl))
    | 1, _, _ =>
     intro w Y
     exact OpV.g (bO (ds := [iv ((xs.getD k Pxy.z).rf), iv ((xs.getD k Pxy.z).rt)]) (Y.get (k := 0) rfl) rfl (Tryz.isAgg27 _) (Tryz.sizeOf27 _) rfl)
    | 2, _, _ =>
     intro w Y
     exact OpV.g (ac (v := .pointer (some ⟨w2.heap.size, 4, none⟩)) rfl (by kernel_rfl))
    | 3, _, _ =>
     intro w Y
     exact OpV.g (bO (ds := [iv ((xs.getD k Pxy.z).sf), iv ((xs.getD k Pxy.z).st)]) (Y.get (k := 0) rfl) rfl (Tryz.isAgg28 _) (Tryz.sizeOf28 _) rfl)
    | 4, _, _ =>
     intro w Y
     exact OpV.g (aj rfl)
    | 5, _, _ =>
     intro w Y
     exact OpV.g (aj rfl)
    | 6, _, _ =>
     intro w Y
     exact OpV.g (cm rfl rfl ⟨by omega, by omega⟩)
    | 7, _, _ =>
     intro w Y
     exact OpV.g ((am (i := (k : Int) - 1) (sT := 31) (Y.arg hlv) rfl rfl (Tryz.runUnderlying31 _) (Tryz.sizeOf40 _) (by omega) (by rw [List.length_map]; omega)).as (v' := slAddr lv ((k - 1) * 7)) (by rw [show ((k : Int) - 1).toNat = (k - 1) from by omega]))
    | 8, _, _ =>
     intro w Y
     exact OpV.g ((bY (Y.arg hlv) (i := (k - 1)) (by rw [List.length_map]; omega) rfl (Tryz.isAgg40 _) (Tryz.sizeOf40 _)).as (v' := .agg #[iv ((xs.getD (k - 1) Pxy.z).frm), iv ((xs.getD (k - 1) Pxy.z).to), iv ((xs.getD (k - 1) Pxy.z).rf), iv ((xs.getD (k - 1) Pxy.z).rt), iv ((xs.getD (k - 1) Pxy.z).sf), iv ((xs.getD (k - 1) Pxy.z).st), sv ((xs.getD (k - 1) Pxy.z).sig)]) (by rw [ca Pxy.z]; rfl))
   ·intro i hi
    exact absurd hi (by simp)
   clear Z Y
   intro  a w6 Z Y
   replace Z : Fr 49 [(18, .pointer (some ⟨w2.heap.size, 2, none⟩)), (19, .agg #[iv ((xs.getD k Pxy.z).rf), iv ((xs.getD k Pxy.z).rt)]), (20, .pointer (some ⟨w2.heap.size, 4, none⟩)), (21, .agg #[iv ((xs.getD k Pxy.z).sf), iv ((xs.getD k Pxy.z).st)]), (22, lv), (23, iv (k : Int)), (24, iv ((k : Int) - 1)), (25, slAddr lv ((k - 1) * 7)), (26, .agg #[iv ((xs.getD (k - 1) Pxy.z).frm), iv ((xs.getD (k - 1) Pxy.z).to), iv ((xs.getD (k - 1) Pxy.z).rf), iv ((xs.getD (k - 1) Pxy.z).rt), iv ((xs.getD (k - 1) Pxy.z).sf), iv ((xs.getD (k - 1) Pxy.z).st), sv ((xs.getD (k - 1) Pxy.z).sig)]), (1, _), (2, _), (8, _), (9, _), (10, _), (11, _), (12, _), (13, _), (14, _), (7, _), (6, _), (15, _), (16, _), (17, _)] [] a := Z
   refine ab <| aP (k := 12) 15 [14] (by kernel_rfl) (by kernel_rfl) (by kernel_rfl) ?_
   refine aJ Z Y (by decide) rfl (by decide) rfl Tryz.call119 rfl (bS ((xs.getD k Pxy.z).rf) ((xs.getD k Pxy.z).rt) ((xs.getD k Pxy.z).sf) ((xs.getD k Pxy.z).st) (xs.getD (k - 1) Pxy.z) _) ?_
   clear Z Y
   intro a w7 Z Y
   refine wly Z (bK rfl) fun a Z => wlv Z (aw rfl rfl) fun a Z => ab <| bd (by kernel_rfl) ?_
   refine hK8 _ _ ?_
   replace Z : Fr 49 [(1, _), (2, _), (8, _), (9, _), (10, _), (6, _), (29, _)] [] a := Z.pick [1, 2, 8, 9, 10, 6, 29]
   replace Y : St No w0 [_] w7 := Y.mask [false, true]
   refine aB Z rfl (fun hc3 => ?_) (fun hc3 => ?_)
   ·rw [hc3] at Z
    try simp only [qz] at hc3
    refine aa fun K9 hK9 => wlm Z rfl fun a Z => wla Z rfl fun a Z => wla Z rfl fun a Z => ab (hK9 _ _ <| aq ?_)
    refine ak Z Tryz.results62 (ah rfl (ah rfl ag)) ?_
    exact ⟨by simp only [retv]; rw [gD (by rw [hs]; exact lK hkx (by omega) (by simpa using hc3))]; try rfl, Y.ext⟩
   rw [hc3] at Z
   try simp only [qz] at hc3
   refine ay <| hK6 _ _ <| ar <| wlv Z (aM rfl rfl ⟨by omega, by omega⟩) fun a Z => wlm Z rfl fun a Z => ab ?_
   refine ⟨_, ?_, k + 1, rfl, (by omega), (by rw [hs]; exact gt hkx (by first | (left; omega) | (right; simpa using hc3))), Z.pick [1, 2, 8, 9, 10], Y.select [0] (by decide)⟩
   omega
  rw [hb2] at Z
  try simp only [qz] at hb2
  replace Z : Fr 49 [(1, lv), (2, pq w0.heap.size), (8, lv), (9, iv (xs.length : Int)), (10, iv (k : Int)), (11, .bool true), (12, iv (k : Int)), (13, slAddr lv (k * 7)), (14, .agg #[iv ((xs.getD k Pxy.z).frm), iv ((xs.getD k Pxy.z).to), iv ((xs.getD k Pxy.z).rf), iv ((xs.getD k Pxy.z).rt), iv ((xs.getD k Pxy.z).sf), iv ((xs.getD k Pxy.z).st), sv ((xs.getD k Pxy.z).sig)]), (7, pq w2.heap.size), (6, iv (k : Int)), (15, iv (k : Int)), (16, .bool false), (17, .bool false)] [] a := Z.pick [1, 2, 8, 9, 10, 11, 12, 13, 14, 7, 6, 15, 16, 17]
  refine fg (k := 3) 12 [4, 6, 11] Z (by kernel_rfl) (by kernel_rfl) (by kernel_rfl) (by rfl) fun a Z => ?_
  replace Z : Fr 49 [(18, undef), (19, undef), (20, undef), (21, undef), (22, undef), (23, undef), (24, undef), (25, undef), (26, undef), (1, lv), (2, pq w0.heap.size), (8, lv), (9, iv (xs.length : Int)), (10, iv (k : Int)), (11, .bool true), (12, iv (k : Int)), (13, slAddr lv (k * 7)), (14, .agg #[iv ((xs.getD k Pxy.z).frm), iv ((xs.getD k Pxy.z).to), iv ((xs.getD k Pxy.z).rf), iv ((xs.getD k Pxy.z).rt), iv ((xs.getD k Pxy.z).sf), iv ((xs.getD k Pxy.z).st), sv ((xs.getD k Pxy.z).sig)]), (7, pq w2.heap.size), (6, iv (k : Int)), (15, iv (k : Int)), (16, .bool false), (17, .bool false)] [] a := Z
  refine aP (k := 12) 15 [14] (by kernel_rfl) (by kernel_rfl) (by kernel_rfl) ?_
  refine wln Z fun a Z => wln Z fun a Z => wlv Z (au rfl rfl) fun a Z => ab <| bd (by kernel_rfl) ?_
  refine hK8 _ _ ?_
  replace Z : Fr 49 [(1, _), (2, _), (8, _), (9, _), (10, _), (6, _), (29, _)] [] a := Z.pick [1, 2, 8, 9, 10, 6, 29]
  replace Y : St No w0 [_] w5 := Y.mask [false, true]
  refine bj Z rfl ?_
  refine ay <| hK6 _ _ <| ar <| wlv Z (aM rfl rfl ⟨by omega, by omega⟩) fun a Z => wlm Z rfl fun a Z => ab ?_
  refine ⟨_, ?_, k + 1, rfl, (by omega), (by rw [hs]; exact gt hkx (by first | (left; omega) | (right; simpa using hb2))), Z.pick [1, 2, 8, 9, 10], Y.select [0] (by decide)⟩
  omega
 rw [hc1] at Z
 try simp only [qz] at hc1
 have hke : k = xs.length := by omega
 rw [hke, lL] at hs
 refine aS <| hK2 _ _ <| ai fun K10 hK10 => aK (by kernel_rfl) (aO (by kernel_rfl) fun w8 hxz => ?_)
 replace Y := Y.grow hxz
 refine aP (k := 0) 4 [3] (by kernel_rfl) (by kernel_rfl) (by kernel_rfl) ?_
 refine wlm Z rfl fun a Z => wlv Z ((aY (sT := 31) (Y.arg hlv) rfl rfl (Tryz.runUnderlying31 _)).asi (m' := (xs.length : Int)) (by rw [List.length_map])) fun a Z => wlv Z (v_gt rfl rfl) fun a Z => wlm Z rfl fun a Z => ab ?_
 rcases Bool.eq_false_or_eq_true (decide (0 < (xs.length : Int))) with hb4 | hb4
 ·rw [hb4] at Z
  try simp only [qz] at hb4
  refine aV (k := 4) 14 [5, 7, 13] Z (by kernel_rfl) (by kernel_rfl) (by kernel_rfl) (by rfl) ?_
  replace Z : Fr 49 [(1, _), (2, _), (8, _), (9, _), (10, _), (11, _), (32, _), (33, _), (34, _), (35, _)] [] a := Z.pick [1, 2, 8, 9, 10, 11, 32, 33, 34, 35]
  refine aL [] (fun i => match i with | _ => fun _ _ => False) 10 [[], [0], [], [2], [], [], [5], [6], [4, 7], [8]] [.pointer (some ⟨w0.heap.size, 2, none⟩), .agg #[iv x.rf, iv x.rt], .pointer (some ⟨w0.heap.size, 6, none⟩), .agg #[iv x.sf, iv x.st], lv, lv, iv (xs.length : Int), iv ((xs.length : Int) - 1), slAddr lv ((xs.length - 1) * 7), .agg #[iv ((xs.getD (xs.length - 1) Pxy.z).frm), iv ((xs.getD (xs.length - 1) Pxy.z).to), iv ((xs.getD (xs.length - 1) Pxy.z).rf), iv ((xs.getD (xs.length - 1) Pxy.z).rt), iv ((xs.getD (xs.length - 1) Pxy.z).sf), iv ((xs.getD (xs.length - 1) Pxy.z).st), sv ((xs.getD (xs.length - 1) Pxy.z).sig)]] Z Y (by kernel_rfl) (by kernel_rfl) (by kernel_rfl) ?_ ?_ ?_
  ·intro i hi hiq
   match i, hi, hiq with
   | 0, _, _ =>
    intro w Y
    exact OpV.g (ac (v := .pointer (some ⟨w0.heap.size, 2, none⟩)) rfl (by kernel_rfl))
   | 1, _, _ =>
    intro w Y
    exact OpV.g (bO (ds := [iv x.rf, iv x.rt]) (Y.get (k := 0) rfl) rfl (Tryz.isAgg27 _) (Tryz.sizeOf27 _) rfl)
   | 2, _, _ =>
    intro w Y
    exact OpV.g (ac (v := .pointer (some ⟨w0.heap.size, 6, none⟩)) rfl (by kernel_rfl))
   | 3, _, _ =>
    intro w Y
    exact OpV.g (bO (ds := [iv x.sf, iv x.st]) (Y.get (k := 0) rfl) rfl (Tryz.isAgg28 _) (Tryz.sizeOf28 _) rfl)
   | 4, _, _ =>
    intro w Y
    exact OpV.g (aj rfl)
   | 5, _, _ =>
    intro w Y
    exact OpV.g (aj rfl)
   | 6, _, _ =>
    intro w Y
    exact OpV.g ((aY (sT := 31) (Y.arg hlv) rfl rfl (Tryz.runUnderlying31 _)).asi (m' := (xs.length : Int)) (by rw [List.length_map]))
   | 7, _, _ =>
    intro w Y
    exact OpV.g (cm rfl rfl ⟨by omega, by omega⟩)
   | 8, _, _ =>
    intro w Y
    exact OpV.g ((am (i := (xs.length : Int) - 1) (sT := 31) (Y.arg hlv) rfl rfl (Tryz.runUnderlying31 _) (Tryz.sizeOf40 _) (by omega) (by rw [List.length_map]; omega)).as (v' := slAddr lv ((xs.length - 1) * 7)) (by rw [show ((xs.length : Int) - 1).toNat = (xs.length - 1) from by omega]))
   | 9, _, _ =>
    intro w Y
    exact OpV.g ((bY (Y.arg hlv) (i := (xs.length - 1)) (by rw [List.length_map]; omega) rfl (Tryz.isAgg40 _) (Tryz.sizeOf40 _)).as (v' := .agg #[iv ((xs.getD (xs.length - 1) Pxy.z).frm), iv ((xs.getD (xs.length - 1) Pxy.z).to), iv ((xs.getD (xs.length - 1) Pxy.z).rf), iv ((xs.getD (xs.length - 1) Pxy.z).rt), iv ((xs.getD (xs.length - 1) Pxy.z).sf), iv ((xs.getD (xs.length - 1) Pxy.z).st), sv ((xs.getD (xs.length - 1) Pxy.z).sig)]) (by rw [ca Pxy.z]; rfl))
  ·intro i hi
   exact absurd hi (by simp)
  clear Z Y
  intro  a w9 Z Y
  replace Z : Fr 49 [(36, .pointer (some ⟨w0.heap.size, 2, none⟩)), (37, .agg #[iv x.rf, iv x.rt]), (38, .pointer (some ⟨w0.heap.size, 6, none⟩)), (39, .agg #[iv x.sf, iv x.st]), (40, lv), (41, lv), (42, iv (xs.length : Int)), (43, iv ((xs.length : Int) - 1)), (44, slAddr lv ((xs.length - 1) * 7)), (45, .agg #[iv ((xs.getD (xs.length - 1) Pxy.z).frm), iv ((xs.getD (xs.length - 1) Pxy.z).to), iv ((xs.getD (xs.length - 1) Pxy.z).rf), iv ((xs.getD (xs.length - 1) Pxy.z).rt), iv ((xs.getD (xs.length - 1) Pxy.z).sf), iv ((xs.getD (xs.length - 1) Pxy.z).st), sv ((xs.getD (xs.length - 1) Pxy.z).sig)]), (1, _), (2, _), (8, _), (9, _), (10, _), (11, _), (32, _), (33, _), (34, _), (35, _)] [] a := Z
  refine ab <| aP (k := 14) 15 [14] (by kernel_rfl) (by kernel_rfl) (by kernel_rfl) ?_
  refine aJ Z Y (by decide) rfl (by decide) rfl Tryz.call119 rfl (bS x.rf x.rt x.sf x.st (xs.getD (xs.length - 1) Pxy.z) _) ?_
  clear Z Y
  intro a w10 Z Y
  refine ab <| aV (k := 15) 18 [16, 17] Z (by kernel_rfl) (by kernel_rfl) (by kernel_rfl) (by rfl) ?_
  replace Z : Fr 49 [(1, _), (2, _), (8, _), (9, _), (10, _), (11, _), (32, _), (33, _), (34, _), (35, _), (36, _), (37, _), (38, _), (39, _), (40, _), (41, _), (42, _), (43, _), (44, _), (45, _), (46, _)] [] a := Z.pick [1, 2, 8, 9, 10, 11, 32, 33, 34, 35, 36, 37, 38, 39, 40, 41, 42, 43, 44, 45, 46]
  refine aL [] (fun i => match i with | _ => fun _ _ => False) 3 [[], [0], []] [.bool (!(isInH x.rf x.rt x.sf x.st (xs.getD (xs.length - 1) Pxy.z))), .bool (!(isInH x.rf x.rt x.sf x.st (xs.getD (xs.length - 1) Pxy.z))), iv (-1)] Z Y (by kernel_rfl) (by kernel_rfl) (by kernel_rfl) ?_ ?_ ?_
  ·intro i hi hiq
   match i, hi, hiq with
   | 0, _, _ =>
    intro w Y
    exact OpV.g (bK rfl)
   | 1, _, _ =>
    intro w Y
    exact OpV.g (aw rfl rfl)
   | 2, _, _ =>
    intro w Y
    exact OpV.g (cw rfl)
  ·intro i hi
   exact absurd hi (by simp)
  clear Z Y
  intro  a w11 Z Y
  replace Z : Fr 49 [(47, .bool (!(isInH x.rf x.rt x.sf x.st (xs.getD (xs.length - 1) Pxy.z)))), (48, .bool (!(isInH x.rf x.rt x.sf x.st (xs.getD (xs.length - 1) Pxy.z)))), (4, iv (-1)), (1, _), (2, _), (8, _), (9, _), (10, _), (11, _), (32, _), (33, _), (34, _), (35, _), (36, _), (37, _), (38, _), (39, _), (40, _), (41, _), (42, _), (43, _), (44, _), (45, _), (46, _)] [] a := Z
  refine ab <| aP (k := 18) 19 [18] (by kernel_rfl) (by kernel_rfl) (by kernel_rfl) ?_
  refine wla Z rfl fun a Z => ab <| bd (by kernel_rfl) ?_
  refine hK10 _ _ ?_
  replace Z : Fr 49 [(4, _), (5, _)] [] a := Z.pick [4, 5]
  replace Y : St No w0 [] w11 := Y.mask [false]
  refine aq ?_
  refine ak Z Tryz.results62 (ah rfl (ah rfl ag)) ?_
  exact ⟨by simp only [retv]; rw [kD (by omega) hs]; try rfl, Y.ext⟩
 rw [hb4] at Z
 try simp only [qz] at hb4
 replace Z : Fr 49 [(1, lv), (2, pq w0.heap.size), (8, lv), (9, iv (xs.length : Int)), (10, iv (k : Int)), (11, .bool false), (32, lv), (33, iv (xs.length : Int)), (34, .bool false), (35, .bool false)] [] a := Z.pick [1, 2, 8, 9, 10, 11, 32, 33, 34, 35]
 refine fg (k := 4) 14 [5, 7, 13] Z (by kernel_rfl) (by kernel_rfl) (by kernel_rfl) (by rfl) fun a Z => ?_
 replace Z : Fr 49 [(36, undef), (37, undef), (38, undef), (39, undef), (40, undef), (41, undef), (42, undef), (43, undef), (44, undef), (45, undef), (1, lv), (2, pq w0.heap.size), (8, lv), (9, iv (xs.length : Int)), (10, iv (k : Int)), (11, .bool false), (32, lv), (33, iv (xs.length : Int)), (34, .bool false), (35, .bool false)] [] a := Z
 refine aP (k := 14) 15 [14] (by kernel_rfl) (by kernel_rfl) (by kernel_rfl) ?_
 refine wln Z fun a Z => ab ?_
 replace Z : Fr 49 [(36, undef), (37, undef), (38, undef), (39, undef), (40, undef), (41, undef), (42, undef), (43, undef), (44, undef), (45, undef), (1, lv), (2, pq w0.heap.size), (8, lv), (9, iv (xs.length : Int)), (10, iv (k : Int)), (11, .bool false), (32, lv), (33, iv (xs.length : Int)), (34, .bool false), (35, .bool false), (46, undef)] [] a := Z.pick [36, 37, 38, 39, 40, 41, 42, 43, 44, 45, 1, 2, 8, 9, 10, 11, 32, 33, 34, 35, 46]
 refine oq (k := 15) 18 [16, 17] (fun i => match i with | 15 => undef | 16 => .bool false | 17 => iv (-1) | _ => undef) Z (by kernel_rfl) (by kernel_rfl) (by kernel_rfl) (by rfl) ?_ ?_
 ·intro i h1 h2
  have hi : i = 15 ∨ i = 16 ∨ i = 17 := by omega
  rcases hi with rfl | rfl | rfl
  ·exact ⟨fun _ => rfl, fun h => by cases h⟩
  ·exact ⟨fun h => (by cases h), fun _ => au rfl rfl⟩
  ·exact ⟨fun h => (by cases h), fun _ => cw rfl⟩
 intro a Z
 replace Z : Fr 49 [(47, undef), (48, .bool false), (4, iv (-1)), (36, undef), (37, undef), (38, undef), (39, undef), (40, undef), (41, undef), (42, undef), (43, undef), (44, undef), (45, undef), (1, lv), (2, pq w0.heap.size), (8, lv), (9, iv (xs.length : Int)), (10, iv (k : Int)), (11, .bool false), (32, lv), (33, iv (xs.length : Int)), (34, .bool false), (35, .bool false), (46, undef)] [] a := Z
 refine aP (k := 18) 19 [18] (by kernel_rfl) (by kernel_rfl) (by kernel_rfl) ?_
 refine wla Z rfl fun a Z => ab <| bd (by kernel_rfl) ?_
 refine hK10 _ _ ?_
 replace Z : Fr 49 [(4, _), (5, _)] [] a := Z.pick [4, 5]
 replace Y : St No w0 [] w8 := Y.mask [false]
 refine aq ?_
 refine ak Z Tryz.results62 (ah rfl (ah rfl ag)) ?_
 exact ⟨by simp only [retv]; rw [kh (by omega) hs]; try rfl, Y.ext⟩
end Go.Proofs.YtmmfieceinmloaaGreatDoor
namespace Go.Proofs.YtmmfieceinmloaaGreatDoor
open Go.RowKit Go.PW
set_option linter.unusedVariables false
set_option linter.unusedSimpArgs false
set_option maxRecDepth 4000
def pers : Int → List Pxy → Nat → List (Int × Int)
 | who, [], _ => [(-1, who)]
 | who, p :: l, k => ((k : Int), who) :: pers p.to l (k + 1)
def encQ (x : Int × Int) : List Value := [iv x.1, iv x.2]
def NxQ (h : Int) (xs : List Pxy) (pre : List (Int × Int)) (x : Int × Int) : Prop := ∃ suf, pers h xs 0 = pre ++ x :: suf
theorem jL {M : Nat → Prop} {w0 : World} (h : Int) (lv : Value) (xs : List Pxy) (lp bh bl : Nat) (J Jx : List (Int × Int) → Ent → Prop) (hY : Rounds Tryz.prog M w0 lp encQ (NxQ h xs) J Jx) (e0 : Ent) (ws : World) (hsv : ∀ H w, St M w0 H w → SlAt w lv 7 (xs.map Pxy.cells)) (hJ : J [] e0) (Y : St M w0 [e0, blk bh [iv h] 3, blk bl [lv] 31] ws) :
  Ret Tryz.prog 118 #[.func (.yield lp) #[] #[], pq bh, pq bl] ws fun _ w => ∃ e1 Hi1, St M w0 (e1 :: Hi1) w ∧ ((∃ zs, (zs = pers h xs 0 ∧ Hi1 = [blk bh [iv h] 3, blk bl [lv] 31]) ∧ J zs e1) ∨ (∃ pre, Hi1 = [blk bh [iv h] 3, blk bl [lv] 31] ∧ Jx pre e1)) := by
 refine aD Tryz.func118 rfl Tryz.ntmps118 (lb rfl) fun a Z => ?_
 replace Z : Fr 26 [(0, _), (1, _), (2, _)] [] a := Z
 have hlb := (hsv _ _ Y).2.1
 rw [List.length_map] at hlb
 unfold big at hlb
 refine aa fun K1 hK1 => wlv Z (ae (Y.get (k := 1) rfl) rfl (Tryz.isAgg3 _) rfl) fun a Z => wla Z rfl fun a Z => ab (hK1 _ _ <| ai fun K2 hK2 => ?_)
 refine aa fun K3 hK3 => wlv Z (ae (Y.get (k := 2) rfl) rfl (Tryz.isAgg31 _) rfl) fun a Z => wlv Z ((aY (sT := 31) (hsv _ _ Y) rfl rfl (Tryz.runUnderlying31 _)).asi (m' := (xs.length : Int)) (by rw [List.length_map])) fun a Z => wlm Z rfl fun a Z => ab (hK3 _ _ <| ax ?_)
 refine bf (fun m a w => ∃ (k : Nat) (who : Int) (e : Ent) (dn : List (Int × Int)), m = xs.length - k ∧ (k ≤ xs.length) ∧ (pers h xs 0 = dn ++ pers who (xs.drop k) k) ∧ (J dn e) ∧ Fr 26 [(0, .func (.yield lp) #[] #[]), (8, lv), (9, iv (xs.length : Int)), (4, iv who), (10, iv (k : Int))] [] a ∧ St M w0 [e, blk bh [iv h] 3, blk bl [lv] 31] w) _ ⟨0, h, e0, [], rfl, Nat.zero_le _, rfl, hJ, Z.pick [0, 8, 9, 4, 10], Y.select [0, 1, 2] (by decide)⟩ ?_
 rintro _ a w1 ⟨k, who, e, dn, rfl, hk, hp, hJ, Z, Y⟩
 refine aa fun K4 hK4 => wlv Z (v_lt rfl rfl) fun a Z => ab (hK4 _ _ <| ai fun K5 hK5 => ?_)
 refine aB Z rfl (fun hc1 => ?_) (fun hc1 => ?_)
 ·rw [hc1] at Z
  try simp only [qz] at hc1
  have hkx : k < xs.length := by omega
  refine ay <| hK5 _ _ <| ai fun K6 hK6 => ax <| aa fun K7 hK7 => wlm Z rfl fun a Z => wlv Z ((am (i := (k : Int)) (sT := 31) (hsv _ _ Y) rfl rfl (Tryz.runUnderlying31 _) (Tryz.sizeOf40 _) (by omega) (by rw [List.length_map]; omega)).as (v' := slAddr lv (k * 7)) rfl) fun a Z => ?_
  refine wlv Z ((bY (hsv _ _ Y) (i := k) (by rw [List.length_map]; omega) rfl (Tryz.isAgg40 _) (Tryz.sizeOf40 _)).as (v' := .agg #[iv ((xs.getD k Pxy.z).frm), iv ((xs.getD k Pxy.z).to), iv ((xs.getD k Pxy.z).rf), iv ((xs.getD k Pxy.z).rt), iv ((xs.getD k Pxy.z).sf), iv ((xs.getD k Pxy.z).st), sv ((xs.getD k Pxy.z).sig)]) (by rw [ca Pxy.z]; rfl)) fun a Z => aI Z Y (by decide) (Tryz.zeroValue40 _) (cs := [iv 0, iv 0, iv 0, iv 0, iv 0, iv 0, .string (⟨#[]⟩)]) rfl ?_
  clear Z Y
  intro a w2 Z Y
  refine wla Z rfl fun a Z => ap 0 Z Y rfl rfl rfl (Tryz.sizeOf40 _) rfl (lb rfl) (ds := [iv ((xs.getD k Pxy.z).frm), iv ((xs.getD k Pxy.z).to), iv ((xs.getD k Pxy.z).rf), iv ((xs.getD k Pxy.z).rt), iv ((xs.getD k Pxy.z).sf), iv ((xs.getD k Pxy.z).st), sv ((xs.getD k Pxy.z).sig)]) rfl rfl ?_
  clear Z Y
  intro a w3 Z Y
  refine ab (hK7 _ _ <| ai fun K8 hK8 => ?_)
  refine aa fun K9 hK9 => wlm Z rfl fun a Z => wlm Z rfl fun a Z => wlm Z rfl fun a Z => wl_r (eb rfl rfl (hY.yield (pre := dn) (x := ((k : Int), who)) ⟨_, by rw [hp, cT Pxy.z hkx]; rfl⟩ hJ (Y.only (i := 1) rfl))) rfl rfl Z ?_
  clear Z
  intro a v w4 hR Z
  obtain ⟨y2, e3, rfl, hx, hok, hft, hJt, hJf⟩ := hR
  replace Y := Y.exchange (k := 1) rfl hx hok hft
  replace Y : St M w0 [blk w1.heap.size [iv ((xs.getD k Pxy.z).frm), iv ((xs.getD k Pxy.z).to), iv ((xs.getD k Pxy.z).rf), iv ((xs.getD k Pxy.z).rt), iv ((xs.getD k Pxy.z).sf), iv ((xs.getD k Pxy.z).st), sv ((xs.getD k Pxy.z).sig)] 40, e3, blk bh [iv h] 3, blk bl [lv] 31] w4 := Y
  clear hx hok hft
  refine wlv Z (bK rfl) fun a Z => ab (hK9 _ _ ?_)
  replace Z : Fr 26 [(0, _), (8, _), (9, _), (10, _), (6, _), (19, _)] [] a := Z.pick [0, 8, 9, 10, 6, 19]
  refine aB Z rfl (fun hc4 => ?_) (fun hc4 => ?_)
  ·rw [hc4] at Z
   try simp only [qz] at hc4
   have hJ := hJf hc4
   refine aq ?_
   refine ak Z Tryz.results118 ag ?_
   exact ⟨_, _, Y.select [1, 2, 3] (by decide), .inr ⟨_, rfl, hJ⟩⟩
  rw [hc4] at Z
  try simp only [qz] at hc4
  have hJ := hJt hc4
  refine ay <| hK8 _ _ <| ar <| wlv Z (ac (v := .pointer (some ⟨w1.heap.size, 1, none⟩)) rfl (by kernel_rfl)) fun a Z => wlv Z (ae (Y.get (k := 0) rfl) rfl (Tryz.isAgg3 _) rfl) fun a Z => wla Z rfl fun a Z => ab <| hK6 _ _ ?_
  refine ar <| wlv Z (aM rfl rfl ⟨by omega, by omega⟩) fun a Z => wlm Z rfl fun a Z => ab ?_
  refine ⟨_, ?_, k + 1, (xs.getD k Pxy.z).to, e3, dn ++ [((k : Int), who)], rfl, (by omega), (by rw [hp, cT Pxy.z hkx, pers, List.append_assoc]; rfl), hJ, Z.pick [0, 8, 9, 4, 10], Y.select [1, 2, 3] (by decide)⟩
  omega
 rw [hc1] at Z
 try simp only [qz] at hc1
 obtain rfl : k = xs.length := by omega
 rw [List.drop_length] at hp
 refine aS <| hK2 _ _ <| ar <| wlm Z rfl fun a Z => wlm Z rfl fun a Z => wl_r (eb rfl rfl (hY.yield (pre := dn) (x := ((-1 : Int), who)) ⟨[], hp⟩ hJ (Y.only (i := 0) rfl))) rfl rfl Z ?_
 clear Z
 intro a v w5 hR Z
 obtain ⟨y5, e6, rfl, hx, hok, hft, hJt, hJf⟩ := hR
 replace Y := Y.exchange (k := 0) rfl hx hok hft
 replace Y : St M w0 [e6, blk bh [iv h] 3, blk bl [lv] 31] w5 := Y
 clear hx hok hft
 refine ab ?_
 refine cP Z Tryz.results118 ag ?_
 rcases Bool.eq_false_or_eq_true y5 with hyy | hyy
 ·exact ⟨_, _, Y.select [0, 1, 2] (by decide), .inl ⟨_, ⟨hp.symm.symm ▸ rfl, rfl⟩, hJt hyy⟩⟩
 ·exact ⟨_, _, Y.select [0, 1, 2] (by decide), .inr ⟨_, rfl, hJf hyy⟩⟩
theorem iG {M : Nat → Prop} {w0 : World} (h : Int) (lv : Value) (xs : List Pxy) (bh bl : Nat) (hsv : ∀ H w, St M w0 H w → SlAt w lv 7 (xs.map Pxy.cells)) :
  Iter Tryz.prog 118 [pq bh, pq bl] encQ (NxQ h xs) (fun zs Hi1 => zs = pers h xs 0 ∧ Hi1 = [blk bh [iv h] 3, blk bl [lv] 31]) (fun pre Hi1 => Hi1 = [blk bh [iv h] 3, blk bl [lv] 31]) M w0 [blk bh [iv h] 3, blk bl [lv] 31] :=
 fun lp J Jx w e hY hJ Y => jL h lv xs lp bh bl J Jx hY e w hsv hJ Y
theorem kM (h : Int) (lv : Value) (xs : List Pxy) (w0 : World) (hlv : SlAt w0 lv 7 (xs.map Pxy.cells)) :
  Ret Tryz.prog 61 #[iv h, lv] w0 (MemR w0 (fun z : Nat × Nat => .func (.func 118) #[] #[pq z.1, pq z.2]) (fun z => [blk z.2 [lv] 31, blk z.1 [iv h] 3]) (fun _ => True)) := by
 refine aD Tryz.func61 rfl Tryz.ntmps61 (lb rfl) fun a Z => ?_
 replace Z : Fr 6 [(0, _), (1, _)] [] a := Z
 replace Y : St No w0 [] w0 := St.init w0
 refine aa fun K1 hK1 => aN Z Y (by decide) rfl (cs := [iv h]) rfl ?_
 clear Z Y
 intro a w1 Z Y
 refine aN Z Y (by decide) rfl (cs := [lv]) (by rw [(Y.arg hlv).cells]) ?_
 clear Z Y
 intro a w2 Z Y
 refine wla Z rfl fun a Z => ab (hK1 _ _ <| aa fun K2 hK2 => ?_)
 refine wlv Z (co rfl rfl) fun a Z => wla Z rfl fun a Z => ab (hK2 _ _ <| aq ?_)
 refine ak Z Tryz.results61 (ah rfl ag) ?_
 exact ⟨(w0.heap.size, w1.heap.size), rfl, trivial, Y.ext, St.out (H := []) Y⟩
end Go.Proofs.YtmmfieceinmloaaGreatDoor
namespace Go.Proofs.YtmmfieceinmloaaGreatDoor
open Go.RowKit Go.PW
set_option linter.unusedVariables false
set_option linter.unusedSimpArgs false
set_option maxRecDepth 4000
theorem lA {M : Nat → Prop} {wb : World} {H : List Ent} {sv : Value} {els : List (List Value)} {caps : List Value} {g : FuncId} (p : Nat → Bool) (ev_ : Nat → Value) (J : Nat → Ent → Prop) (e0 : Ent) (w0 : World)
  (hen : ∀ args w, (callFunc g args).run Tryz.prog w = .ok (.enter g args) w) (hs : ∀ e w, St M wb (e :: H) w → SlAt w sv 1 els)
  (hev : ∀ k (h : k < els.length), (els[k])[0]? = some (ev_ k)) (hJ0 : J 0 e0) (Y : St M wb (e0 :: H) w0)
  (hcl : ∀ k e w, k < els.length → J k e → e.ok w → (∀ b, e.foot b → b < w.heap.size) → Ret Tryz.prog g ([ev_ k] ++ caps).toArray w fun v w' => v = .bool (p k) ∧ ∃ e', Ext e.foot w w' ∧ e'.ok w' ∧ (∀ b, e'.foot b → b < w'.heap.size ∧ (e.foot b ∨ w.heap.size ≤ b)) ∧ J (k + 1) e') :
  Ret Tryz.prog 113 #[sv, .func (.func g) #[] caps.toArray] w0 fun v w => v = iv (fstIdx p els.length) ∧ ∃ k e', J k e' ∧ St M wb (e' :: H) w := by
 have hsl := (hs _ _ Y).le
 refine aD Tryz.func113 rfl Tryz.ntmps113 (lb rfl) fun a Z => ?_
 have Z : Fr 19 [(0, _), (1, _)] [] a := Z
 refine aa fun K1 hK1 => wla Z rfl fun a Z => ab (hK1 _ _ <| ai fun K2 hK2 => ?_)
 refine aa fun K3 hK3 => wlm Z rfl fun a Z => wlv Z (aY (sT := 32) (hs _ _ Y) rfl rfl (Tryz.runUnderlying32 _)) fun a Z => wlm Z rfl fun a Z => ab (hK3 _ _ <| ax ?_)
 refine bf (fun m a w => ∃ (k : Nat) (e : Ent), m = els.length - k ∧ (k ≤ els.length) ∧ (∀ j, j < k → p j = false) ∧ (J k e) ∧ Fr 19 [(0, sv), (1, .func (.func g) #[] caps.toArray), (6, sv), (7, iv els.length), (8, iv (k : Int))] [] a ∧ St M wb (e :: H) w) _ ⟨0, e0, rfl, Nat.zero_le _, (by intro j hj; omega), hJ0, Z.pick [0, 1, 6, 7, 8], Y⟩ ?_
 rintro _ a w1 ⟨k, e, rfl, hk, hp, hJ, Z, Y⟩
 refine aa fun K4 hK4 => wlv Z (v_lt rfl rfl) fun a Z => ab (hK4 _ _ <| ai fun K5 hK5 => ?_)
 refine aB Z rfl (fun hc1 => ?_) (fun hc1 => ?_)
 ·rw [hc1] at Z
  try simp only [qz] at hc1
  refine ay <| hK5 _ _ <| ai fun K6 hK6 => ax <| aa fun K7 hK7 => wlm Z rfl fun a Z => wla Z rfl fun a Z => ab (hK7 _ _ ?_)
  refine aa fun K8 hK8 => wlm Z rfl fun a Z => wlm Z rfl fun a Z => wlm Z rfl fun a Z => wlv Z ((am (i := (k : Int)) (sT := 32) (hs _ _ Y) rfl rfl (Tryz.runUnderlying32 _) (Tryz.sizeOf9 _) (by omega) (by omega)).as (v' := slAddr sv (k * 1)) rfl) fun a Z => wlv Z ((aC (u := ev_ k) (i := k) (j := 0) (hs _ _ Y) (by omega) rfl (Tryz.isAgg9 _) (hev k (by omega)))) fun a Z => wl_r (dC (cap := caps) rfl hen rfl (hcl k _ _ (by omega) hJ (Y.get (k := 0) rfl) (fun b hb => Y.lt (k := 0) rfl hb))) rfl rfl Z fun a v w2 hR Z => ?_
  obtain ⟨rfl, e1, hx, hok, hft, hJ1⟩ := hR
  have Y := Y.exchange (k := 0) rfl hx hok hft
  have Y : St M wb (e1 :: H) w2 := Y
  refine ab (hK8 _ _ ?_)
  refine aB Z rfl (fun hc2 => ?_) (fun hc2 => ?_)
  ·rw [hc2] at Z
   try simp only [qz] at hc2
   refine aa fun K9 hK9 => wlm Z rfl fun a Z => wla Z rfl fun a Z => ab (hK9 _ _ <| aq ?_)
   refine ak Z Tryz.results113 (ah rfl ag) ?_
   exact ⟨by rw [dv (k := k) (by omega) hp (by assumption)]; rfl, _, _, hJ1, Y⟩
  rw [hc2] at Z
  try simp only [qz] at hc2
  refine ay <| hK6 _ _ <| ar <| wlv Z (aM rfl rfl ⟨by omega, by omega⟩) fun a Z => wlm Z rfl fun a Z => ab ?_
  refine ⟨_, ?_, k + 1, e1, rfl, (by omega), (by intro j hj; by_cases h : j = k; (subst h; assumption); exact hp j (by omega)), hJ1, Z.pick [0, 1, 6, 7, 8], Y⟩
  omega
 rw [hc1] at Z
 try simp only [qz] at hc1
 refine aS <| hK2 _ _ <| aa fun K10 hK10 => wla Z rfl fun a Z => ab (hK10 _ _ <| aq ?_)
 refine ak Z Tryz.results113 (ah rfl ag) ?_
 have hkl : k = els.length := by omega
 subst hkl
 exact ⟨by rw [dz hp]; rfl, _, _, hJ, Y⟩
theorem iS {M : Nat → Prop} {wb : World} {H : List Ent} {sv : Value} {els : List (List Value)} {caps : List Value} {g : FuncId} (p : Nat → Bool) (ev_ : Nat → Value) (J : Nat → Ent → Prop) (e0 : Ent) (w0 : World)
  (hen : ∀ args w, (callFunc g args).run Tryz.prog w = .ok (.enter g args) w) (hs : ∀ e w, St M wb (e :: H) w → SlAt w sv 1 els)
  (hev : ∀ k (h : k < els.length), (els[k])[0]? = some (ev_ k)) (hJ0 : J 0 e0) (Y : St M wb (e0 :: H) w0)
  (hcl : ∀ k e w, k < els.length → J k e → e.ok w → (∀ b, e.foot b → b < w.heap.size) → Ret Tryz.prog g ([ev_ k] ++ caps).toArray w fun v w' => v = .bool (p k) ∧ ∃ e', Ext e.foot w w' ∧ e'.ok w' ∧ (∀ b, e'.foot b → b < w'.heap.size ∧ (e.foot b ∨ w.heap.size ≤ b)) ∧ J (k + 1) e') :
  Ret Tryz.prog 57 #[sv, .func (.func g) #[] caps.toArray] w0 fun v w => v = .bool ((List.range els.length).any p) ∧ ∃ k e', J k e' ∧ St M wb (e' :: H) w := by
 refine aD Tryz.func57 rfl Tryz.ntmps57 (lb rfl) fun a Z => ?_
 have Z : Fr 9 [(0, _), (1, _)] [] a := Z
 refine aa fun K1 hK1 => wla Z rfl fun a Z => ab (hK1 _ _ <| aa fun K2 hK2 => ?_)
 refine wlm Z rfl fun a Z => wlm Z rfl fun a Z => wl_r (dc Tryz.call113 rfl (lA p ev_ J e0 _ hen hs hev hJ0 Y hcl)) rfl rfl Z fun a v w1 hR Z => ?_
 obtain ⟨rfl, kk, e1, hJ1, Y⟩ := hR
 refine wlv Z (v_ge rfl rfl) fun a Z => wla Z rfl fun a Z => ab (hK2 _ _ <| aq ?_)
 refine ak Z Tryz.results57 (ah rfl ag) ?_
 exact ⟨by rw [gk]; rfl, _, _, hJ1, Y⟩
theorem nP {u : Value} {xs : List By} {g : FuncId} (p : By → Bool) (w0 : World) (hen : ∀ args w, (callFunc g args).run Tryz.prog w = .ok (.enter g args) w) (hs : SlAt w0 u 1 (xs.map (fun s => [sv s])))
  (hcl : ∀ (x : By) (w : World), x ∈ xs → Ret Tryz.prog g #[sv x] w fun v w' => v = .bool (p x) ∧ Ext No w w') :
  Ret Tryz.prog 57 #[u, .func (.func g) #[] #[]] w0 fun v w => v = .bool (xs.any p) ∧ Ext No w0 w := by
 have Y : St No w0 [join []] w0 := St.join [] [] (St.init w0)
 have h := iS (M := No) (wb := w0) (H := []) (sv := u) (els := xs.map (fun s => [sv s])) (caps := []) (g := g) (fun k => p (xs.getD k [])) (fun k => sv (xs.getD k [])) (fun _ e => e = join []) (join []) w0 hen
  (fun e w h => h.arg hs) (fun k h => by rw [ca []]; rfl) rfl Y (fun k e w hk he hok hlt => by
   subst he
   refine (hcl _ w (cd (by simpa using hk))).mono fun v w' ⟨h1, h2⟩ => ⟨h1, join [], h2.mono (fun k _ hk => hk.elim), ?_, ?_, rfl⟩
   ·exact ⟨fun e he => (by cases he), List.Pairwise.nil⟩
   ·rintro b ⟨e, he, _⟩
    cases he)
 refine h.mono fun v w ⟨h1, k, e, he, Y⟩ => ⟨?_, Y.ext⟩
 rw [h1, List.length_map]
 congr 1
 rw [Bool.eq_iff_iff, List.any_eq_true, List.any_eq_true]
 constructor
 ·rintro ⟨k, hk, hp⟩
  exact ⟨_, cd (List.mem_range.1 hk), hp⟩
 ·rintro ⟨x, hx, hp⟩
  obtain ⟨k, hk, rfl⟩ := List.getElem_of_mem hx
  exact ⟨k, List.mem_range.2 hk, by rw [List.getD_eq_getElem?_getD, List.getElem?_eq_getElem hk]; exact hp⟩
theorem ng (s : By) (w0 : World) :
  Ret Tryz.prog 55 #[sv s] w0 fun v w => v = .bool (!decide ((s.length : Int) = 32)) ∧ Ext No w0 w := by
 refine aD Tryz.func55 rfl Tryz.ntmps55 (lb rfl) fun a Z => ?_
 replace Z : Fr 6 [(0, _)] [] a := Z
 replace Y : St No w0 [] w0 := St.init w0
 refine aa fun K1 hK1 => wla Z rfl fun a Z => ab (hK1 _ _ <| aa fun K2 hK2 => ?_)
 refine wlm Z rfl fun a Z => az Z Y (by decide) Tryz.call56 rfl (mF s _) ?_
 clear Z Y
 intro a w1 Z Y
 refine wlv Z (bK rfl) fun a Z => wla Z rfl fun a Z => ab (hK2 _ _ <| aq ?_)
 refine ak Z Tryz.results55 (ah rfl ag) ?_
 exact ⟨by rfl, Y.ext⟩
end Go.Proofs.YtmmfieceinmloaaGreatDoor
namespace Go.Proofs.YtmmfieceinmloaaGreatDoor
open Go.RowKit Go.PW
set_option linter.unusedVariables false
set_option linter.unusedSimpArgs false
set_option maxRecDepth 4000
end Go.Proofs.YtmmfieceinmloaaGreatDoor
namespace Go.Proofs.YtmmfieceinmloaaGreatDoor
set_option linter.unusedVariables false
set_option linter.unusedSimpArgs false
section
variable {α : Type}
def Pxy.text (p : Pxy) : By := p.content ++ p.sig
def Wsh.text (w : Wsh) : By := w.content ++ w.sig
end
theorem ef : ∀ {l : List Pxy} {k : Nat}, badIdx l k = none → ∀ p ∈ l, p.ok = true
 | [], k, h => by simp
 | q :: l, k, h => by
  rw [badIdx] at h
  split at h
  ·rename_i hq
   intro p hp
   rcases List.mem_cons.1 hp with rfl | hp
   ·exact hq
   ·exact ef h p hp
  ·cases h
def la (w : Wsh) (l : List Pxy) : Bool := decide (w.sig.length = 32) && l.all fun p => decide (p.sig.length = 32)
def iO (w : Wsh) (l : List Pxy) : Option By := if f9 w l && la w l then some (putI (l.length : Int) ++ (l.flatMap Pxy.text ++ w.text)) else none
theorem jg {w : Wsh} {l : List Pxy} {s : By} : iO w l = some s ↔ f9 w l = true ∧ w.sig.length = 32 ∧ (∀ p ∈ l, p.sig.length = 32) ∧ s = putI (l.length : Int) ++ (l.flatMap Pxy.text ++ w.text) := by
 unfold iO la
 constructor
 ·intro h
  split at h
  ·rename_i hc
   cases h
   simpa [and_assoc] using hc
  ·cases h
 ·rintro ⟨h1, h2, h3, rfl⟩
  rw [if_pos (by simp [h1, h2]; exact h3)]
end Go.Proofs.YtmmfieceinmloaaGreatDoor
namespace Go.Proofs.YtmmfieceinmloaaGreatDoor
open Go.RowKit Go.PW
set_option linter.unusedVariables false
set_option linter.unusedSimpArgs false
set_option maxRecDepth 4000
theorem kT {w0 w : World} {b1 b2 : Nat} {c1 c2 : List Value} {T1 T2 : TypeId} (h : Ext (fun k => k = b1 ∨ k = b2) w0 w) (h1 : (blk b1 c1 T1).ok w0) (h1' : (blk b1 c1 T1).ok w) (h2 : (blk b2 c2 T2).ok w0) (h2' : (blk b2 c2 T2).ok w) : Ext No w0 w := by
 refine ⟨h.os, h.tape, h.output, h.size, fun k hk _ => ?_⟩
 by_cases e1 : k = b1
 ·subst e1; exact Eq.trans h1' (Eq.symm h1)
 ·by_cases e2 : k = b2
  ·subst e2; exact Eq.trans h2' (Eq.symm h2)
  ·exact h.same k hk fun hh => hh.elim e1 e2
theorem jO {w0 w : World} {H : List Ent} {i b g : Nat} {cs c1 : List Value} {T T1 : TypeId} (h : St No w0 H w) (hi : H[i]? = some (blk b cs T)) (hg : (blk g c1 T1).ok w0) : b ≠ g := by
 rintro rfl
 exact ((h.ok _ (List.mem_of_getElem? hi)).2 b rfl).2 (Array.getElem?_eq_some_iff.1 hg).1
theorem ib (key content : By) (g : FuncId) (bx : Nat) (cs : List Value) (T : TypeId) (w0 : World) (hen : ∀ args w, (callFunc g args).run Tryz.prog w = .ok (.enter g args) w)
  (hc : ∀ {M : Nat → Prop} {w0 : World} (b : Nat) (v : Value) (ws : World), St M w0 [bld 133 b (.pointer none) v [], blk bx cs T] ws → Ret Tryz.prog g ([pq b] ++ [pq bx]).toArray ws fun u w => u = .tuple #[] ∧ ∃ v2, St M w0 [bld 133 b (pq b) v2 content, blk bx cs T] w)
  (hne : content ≠ []) (hkl : key.length ≤ 40000000) (hcl : content.length ≤ 40000000) (hk0 : (blk 0 (kOf.map wv) 239).ok w0) (hbx : (blk bx cs T).ok w0) (hgb : bx ≠ 0) :
  Ret Tryz.prog 63 #[sv key, .func (.func g) #[] #[pq bx]] w0 fun v w => v = sv (sealH key content) ∧ Ext No w0 w := by
 have Y : St (fun k => k = 0 ∨ k = bx) w0 [(blk 0 (kOf.map wv) 239), blk bx cs T] w0 := by
  refine ⟨Ext.refl _ _, fun e he => ?_, ?_⟩
  ·simp only [List.mem_cons, List.not_mem_nil, or_false] at he
   rcases he with rfl | rfl
   ·exact ⟨hk0, fun k hk => by cases hk; exact ⟨(Array.getElem?_eq_some_iff.1 hk0).1, fun _ => .inl rfl⟩⟩
   ·exact ⟨hbx, fun k hk => by cases hk; exact ⟨(Array.getElem?_eq_some_iff.1 hbx).1, fun _ => .inr rfl⟩⟩
  ·refine List.Pairwise.cons (fun e he k hk hk' => ?_) (List.pairwise_singleton _ _)
   simp only [List.mem_cons, List.not_mem_nil, or_false] at he
   subst he
   cases hk
   exact hgb (Eq.symm hk')
 exact (nG key content g [pq bx] (blk bx cs T) w0 hen hc hne hkl hcl Y).mono fun v w ⟨h1, h2⟩ => ⟨h1, kT h2.ext hk0 (h2.get (k := 0) rfl) hbx (h2.get (k := 1) rfl)⟩
theorem jM : ∀ {l : List Pxy} {k i : Nat}, badIdx l k = some i → k ≤ i ∧ i - k < l.length ∧ (l.getD (i - k) Pxy.z).ok = false ∧ ∀ j, j < i - k → (l.getD j Pxy.z).ok = true
 | [], k, i, h => by cases h
 | p :: l, k, i, h => by
  rw [badIdx] at h
  split at h
  ·rename_i hp
   obtain ⟨h1, h2, h3, h4⟩ := jM h
   have e : i - k = (i - (k + 1)) + 1 := by omega
   refine ⟨by omega, by simp; omega, by rw [e]; exact h3, fun j hj => ?_⟩
   cases j with
   | zero => exact hp
   | succ j => exact h4 j (by omega)
  ·rename_i hp
   cases h
   refine ⟨Nat.le_refl _, by simp, by rw [Nat.sub_self]; simpa using hp, fun j hj => by omega⟩
theorem i4 (l : List Pxy) : badN l = match badIdx l 0 with | some i => (i : Int) | none => -1 := by
 cases h : badIdx l 0 with
 | none =>
  refine dz fun j hj => ?_
  rw [ef h _ (cd hj)]; rfl
 | some i =>
  obtain ⟨_, h2, h3, h4⟩ := jM h
  rw [Nat.sub_zero] at h2 h3 h4
  exact dv h2 (fun j hj => by rw [h4 j hj]; rfl) (by rw [h3]; rfl)
theorem jz {l : List Pxy} (h : badN l < 0) : badIdx l 0 = none := by
 rw [i4] at h
 cases hb : badIdx l 0 with
 | none => rfl
 | some i => rw [hb] at h; simp only at h; omega
section
variable {ks : List By} {x : Wsh} {ps : List Pxy} {number t : Int}
abbrev formB (ks : List By) (x : Wsh) (ps : List Pxy) : Prop := 64 < ks.length ∨ (ks.all fun s => decide (s.length = 32)) = false ∨ x.ok = false ∨ 4 < ps.length
theorem ez : (ks.any fun s => !decide ((s.length : Int) = 32)) = !(ks.all fun s => decide (s.length = 32)) := by
 rw [List.all_eq_not_any_not, Bool.not_not]
 congr 1
 funext s
 congr 1
 exact decide_eq_decide.2 (by omega)
theorem nr (h : ¬ formB ks x ps) : ∀ s ∈ ks, s.length = 32 := by
 have : (ks.all fun s => decide (s.length = 32)) = true := by
  cases hh : (ks.all fun s => decide (s.length = 32)) with
  | true => rfl
  | false => exact absurd (.inr (.inl hh)) h
 intro s hs
 exact of_decide_eq_true (List.all_eq_true.1 this s hs)
theorem el (h : formB ks x ps) : whyH ks x ps number t = (1, -1) := by unfold whyH; rw [if_pos h]
theorem k9 (h : ¬ formB ks x ps) (hb : 0 ≤ badN ps) : whyH ks x ps number t = (1, badN ps) := by
 unfold whyH; rw [if_neg h]
 rw [i4] at hb ⊢
 cases he : badIdx ps 0 with
 | none => rw [he] at hb; simp only at hb; omega
 | some i => rfl
def whyP (ks : List By) (x : Wsh) (ps : List Pxy) (number t : Int) : Prop := ¬ formB ks x ps ∧ badIdx ps 0 = none ∧ inB t x.sf (x.st - 1) = true ∧ inB number x.rf (x.rt - 1) = true
theorem gz (h : ¬ formB ks x ps) (hb : badIdx ps 0 = none) (ht : inB t x.sf (x.st - 1) = false) : whyH ks x ps number t = (2, -1) := by
 unfold whyH; rw [if_neg h, hb]; simp only; rw [if_pos ht]
theorem iN (h : ¬ formB ks x ps) (hb : badIdx ps 0 = none) (ht : inB t x.sf (x.st - 1) = true) (hn : inB number x.rf (x.rt - 1) = false) : whyH ks x ps number t = (3, -1) := by
 unfold whyH; rw [if_neg h, hb]; simp only; rw [if_neg (by rw [ht]; decide), if_pos hn]
theorem ip {i : Int} (h : whyP ks x ps number t) (hc : bT x.signer x.holder ps 0 = some i) : whyH ks x ps number t = (4, i) := by
 obtain ⟨h, hb, ht, hn⟩ := h
 unfold whyH; rw [if_neg h, hb]; simp only; rw [if_neg (by rw [ht]; decide), if_neg (by rw [hn]; decide), hc]
theorem iy {i : Int} (h : whyP ks x ps number t) (hc : bT x.signer x.holder ps 0 = none) (hs : ba x none ps 0 = some i) : whyH ks x ps number t = (5, i) := by
 obtain ⟨h, hb, ht, hn⟩ := h
 unfold whyH; rw [if_neg h, hb]; simp only; rw [if_neg (by rw [ht]; decide), if_neg (by rw [hn]; decide), hc]; simp only; rw [hs]
theorem ej {i : Int} (h : whyP ks x ps number t) (hc : bT x.signer x.holder ps 0 = none) (hs : ba x none ps 0 = none) (hl : bG ks x ps 0 = some i) : whyH ks x ps number t = (6, i) := by
 obtain ⟨h, hb, ht, hn⟩ := h
 unfold whyH; rw [if_neg h, hb]; simp only; rw [if_neg (by rw [ht]; decide), if_neg (by rw [hn]; decide), hc]; simp only; rw [hs]; simp only; rw [hl]
theorem gP (h : whyP ks x ps number t) (hc : bT x.signer x.holder ps 0 = none) (hs : ba x none ps 0 = none) (hl : bG ks x ps 0 = none) : whyH ks x ps number t = (0, -1) := by
 obtain ⟨h, hb, ht, hn⟩ := h
 unfold whyH; rw [if_neg h, hb]; simp only; rw [if_neg (by rw [ht]; decide), if_neg (by rw [hn]; decide), hc]; simp only; rw [hs]; simp only; rw [hl]
def okQ (ps : List Pxy) (sg : Int) (z : Int × Int) : Bool := if 0 ≤ z.1 then decide ((ps.getD z.1.toNat Pxy.z).frm = z.2) else decide (sg = z.2)
theorem nd {sg : Int} {z : Int × Int} (h : 0 ≤ z.1) (h2 : (ps.getD z.1.toNat Pxy.z).frm = z.2) : okQ ps sg z = true := by unfold okQ; rw [if_pos h]; exact decide_eq_true h2
theorem n6 {sg : Int} {z : Int × Int} (h : ¬ 0 ≤ z.1) (h2 : sg = z.2) : okQ ps sg z = true := by unfold okQ; rw [if_neg h]; exact decide_eq_true h2
theorem nZ {sg : Int} {z : Int × Int} (h : 0 ≤ z.1) (h2 : ¬ (ps.getD z.1.toNat Pxy.z).frm = z.2) : okQ ps sg z = false := by unfold okQ; rw [if_pos h]; exact decide_eq_false h2
theorem nc {sg : Int} {z : Int × Int} (h : ¬ 0 ≤ z.1) (h2 : ¬ sg = z.2) : okQ ps sg z = false := by unfold okQ; rw [if_neg h]; exact decide_eq_false h2
theorem eX {sg : Int} : ∀ (l : List Pxy) (k : Nat) (who : Int), l = ps.drop k → bT sg who l k = ((pers who l k).find? fun z => !okQ ps sg z).map (·.1)
 | [], k, who, h => by
  rw [bT, pers, List.find?_cons, List.find?_nil]
  unfold okQ
  rw [if_neg (show ¬ (0 : Int) ≤ -1 by decide)]
  by_cases hs : sg = who
  ·rw [if_pos hs, decide_eq_true hs]; rfl
  ·rw [if_neg hs, decide_eq_false hs]; rfl
 | p :: l, k, who, h => by
  have hp : ps.getD k Pxy.z = p := by rw [List.getD_eq_getElem?_getD, show ps[k]? = some p from by rw [← List.head?_drop, ← h]; rfl]; rfl
  have hl : l = ps.drop (k + 1) := by rw [← List.drop_drop, ← h, List.drop_one]; rfl
  rw [bT, pers, List.find?_cons, eX l (k + 1) p.to hl]
  unfold okQ
  rw [if_pos (Int.natCast_nonneg k), Int.toNat_natCast, hp]
  by_cases hs : p.frm = who
  ·rw [if_pos hs, decide_eq_true hs]; rfl
  ·rw [if_neg hs, decide_eq_false hs]; rfl
theorem kb {who : Int} : ∀ {l : List Pxy} {k : Nat} {who : Int} {z : Int × Int}, z ∈ pers who l k → z.1 < ((k + l.length : Nat) : Int) ∧ -1 ≤ z.1
 | [], k, who, z, h => by
  rw [pers, List.mem_singleton] at h
  subst h
  exact ⟨by simp only; omega, by simp only; omega⟩
 | p :: l, k, who, z, h => by
  rw [pers] at h
  rcases List.mem_cons.1 h with rfl | h
  ·exact ⟨by simp only [List.length_cons]; omega, by simp only; omega⟩
  ·have := kb (who := who) h
   rw [List.length_cons]
   exact ⟨by omega, this.2⟩
theorem ll {who : Int} {pre : List (Int × Int)} {z : Int × Int} (h : NxQ who ps pre z) : z.1 < (ps.length : Int) := by
 obtain ⟨suf, h⟩ := h
 have := (kb (who := who) (l := ps) (k := 0) (z := z) (by rw [h]; simp)).1
 rwa [Nat.zero_add] at this
theorem k7 {sg : Int} {pre : List (Int × Int)} {z : Int × Int} (h : ∀ y ∈ pre, okQ ps sg y = true) (hz : okQ ps sg z = true) : ∀ y ∈ pre ++ [z], okQ ps sg y = true := by
 intro y hy
 rcases List.mem_append.1 hy with h1 | h1
 ·exact h y h1
 ·rw [List.mem_singleton.1 h1]; exact hz
theorem ie {sg who : Int} {pre : List (Int × Int)} {z : Int × Int} (hn : NxQ who ps pre z) (h : ∀ y ∈ pre, okQ ps sg y = true) (hz : okQ ps sg z = false) : bT sg who ps 0 = some z.1 := by
 obtain ⟨suf, e⟩ := hn
 rw [eX ps 0 who rfl, e, List.find?_append, List.find?_eq_none.2 (fun y hy => by rw [h y hy]; simp), Option.none_or, List.find?_cons, hz]
 rfl
theorem l4 {sg who : Int} (h : ∀ y ∈ pers who ps 0, okQ ps sg y = true) : bT sg who ps 0 = none := by
 rw [eX ps 0 who rfl, List.find?_eq_none.2 (fun y hy => by rw [h y hy]; simp)]
 rfl
theorem Pxy.ok_frm {p : Pxy} (h : p.ok = true) : 0 ≤ p.frm ∧ p.frm ≤ 63 := by
 simp only [Pxy.ok, inB, Bool.and_eq_true, decide_eq_true_eq] at h; omega
theorem Wsh.ok_signer {x : Wsh} (h : x.ok = true) : 0 ≤ x.signer ∧ x.signer ≤ 63 := by
 simp only [Wsh.ok, inB, Bool.and_eq_true, decide_eq_true_eq] at h; omega
theorem Wsh.ok_bnd {x : Wsh} (h : x.ok = true) : 0 ≤ x.rf ∧ x.rf < x.rt ∧ x.rt ≤ 100000000 ∧ 0 ≤ x.sf ∧ x.sf < x.st ∧ x.st ≤ 10000001 := by
 simp only [Wsh.ok, cc, cB, Bool.and_eq_true, decide_eq_true_eq] at h; omega
theorem fc {n : Int} (h0 : 0 ≤ n) (h1 : n.toNat < ks.length) : keyAt ks n = some (ks.getD n.toNat []) := by
 unfold keyAt; rw [if_neg (by omega), List.getD_eq_getElem?_getD, List.getElem?_eq_getElem h1]; rfl
theorem ik {n : Int} (h0 : 0 ≤ n) (h1 : ks.length ≤ n.toNat) : keyAt ks n = none := by
 unfold keyAt; rw [if_neg (by omega), List.getElem?_eq_none h1]
theorem mb {k : Nat} (hk : k < ps.length) (h0 : 0 ≤ (ps.getD k Pxy.z).frm) (h1 : (ps.getD k Pxy.z).frm.toNat < ks.length) (h2 : (ps.getD k Pxy.z).sig = sealH (ks.getD (ps.getD k Pxy.z).frm.toNat []) (ps.getD k Pxy.z).content) :
  bG ks x (ps.drop k) k = bG ks x (ps.drop (k + 1)) (k + 1) := by
 rw [cT Pxy.z hk, bG, fc h0 h1, if_pos]
 exact decide_eq_true h2
theorem jK {k : Nat} (hk : k < ps.length) (h0 : 0 ≤ (ps.getD k Pxy.z).frm) (h1 : ks.length ≤ (ps.getD k Pxy.z).frm.toNat) : bG ks x (ps.drop k) k = some (k : Int) := by
 rw [cT Pxy.z hk, bG, ik h0 h1, if_neg]; simp
theorem jv {k : Nat} (hk : k < ps.length) (h0 : 0 ≤ (ps.getD k Pxy.z).frm) (h1 : (ps.getD k Pxy.z).frm.toNat < ks.length) (h2 : ¬ (ps.getD k Pxy.z).sig = sealH (ks.getD (ps.getD k Pxy.z).frm.toNat []) (ps.getD k Pxy.z).content) :
  bG ks x (ps.drop k) k = some (k : Int) := by
 rw [cT Pxy.z hk, bG, fc h0 h1, if_neg]
 rw [Option.any_some, decide_eq_false h2]; simp
theorem g9 {k : Nat} (h0 : 0 ≤ x.signer) (h1 : ks.length ≤ x.signer.toNat) : bG ks x [] k = some (-1) := by
 rw [bG, ik h0 h1, if_neg]; simp
theorem g6 {k : Nat} (h0 : 0 ≤ x.signer) (h1 : x.signer.toNat < ks.length) (h2 : ¬ x.sig = sealH (ks.getD x.signer.toNat []) x.content) : bG ks x [] k = some (-1) := by
 rw [bG, fc h0 h1, if_neg]
 rw [Option.any_some, decide_eq_false h2]; simp
theorem mc {k : Nat} (h0 : 0 ≤ x.signer) (h1 : x.signer.toNat < ks.length) (h2 : x.sig = sealH (ks.getD x.signer.toNat []) x.content) : bG ks x [] k = none := by
 rw [bG, fc h0 h1, if_pos]
 exact decide_eq_true h2
end
theorem mw {x : Wsh} {ps : List Pxy} (h : (scopeV x ps).2 = false) : ba x none ps 0 = none := by
 unfold scopeV at h
 cases hs : ba x none ps 0 with
 | none => rfl
 | some n => rw [hs] at h; cases h
theorem lV {x : Wsh} {ps : List Pxy} (h : (scopeV x ps).2 = true) : ba x none ps 0 = some (scopeV x ps).1 := by
 unfold scopeV at h ⊢
 cases hs : ba x none ps 0 with
 | none => rw [hs] at h; cases h
 | some n => rfl
set_option maxHeartbeats 4000000 in
theorem ow (kv lv : Value) (ks : List By) (x : Wsh) (ps : List Pxy) (number t : Int) (w0 : World) (hkv : SlAt w0 kv 1 (ks.map fun s => [sv s])) (hlv : SlAt w0 lv 7 (ps.map Pxy.cells)) (hk0 : (blk 0 (kOf.map wv) 239).ok w0) :
  Ret Tryz.prog 15 #[kv, .agg #[iv x.signer, iv x.holder, iv x.rf, iv x.rt, iv x.carrier, iv x.serial, iv x.sf, iv x.st, sv x.sig], lv, iv number, iv t] w0 fun v w => v = .tuple #[iv (whyH ks x ps number t).1, iv (whyH ks x ps number t).2] ∧ Ext No w0 w := by
 have hxb := hlv.2.1
 simp only [List.length_map, big] at hxb
 have hyb := hkv.2.1
 simp only [List.length_map, big] at hyb
 refine aD Tryz.func15 rfl Tryz.ntmps15 (lb rfl) fun a Z => ?_
 replace Z : Fr 142 [(0, _), (1, _), (2, _), (3, _), (4, _)] [] a := Z
 replace Y : St No w0 [] w0 := St.init w0
 refine aa fun K1 hK1 => aN Z Y (by decide) rfl (cs := [iv x.signer, iv x.holder, iv x.rf, iv x.rt, iv x.carrier, iv x.serial, iv x.sf, iv x.st, sv x.sig]) rfl ?_
 clear Z Y
 intro a w1 Z Y
 refine aN Z Y (by decide) rfl (cs := [lv]) (by rw [(Y.arg hlv).cells]) ?_
 clear Z Y
 intro a w2 Z Y
 refine aI Z Y (by decide) (Tryz.zeroValue3 _) (cs := [iv 0]) rfl ?_
 clear Z Y
 intro a w3 Z Y
 refine aI Z Y (by decide) (Tryz.zeroValue3 _) (cs := [iv 0]) rfl ?_
 clear Z Y
 intro a w4 Z Y
 refine ab (hK1 _ _ <| aa fun K2 hK2 => ?_)
 refine wla Z rfl fun a Z => ab (hK2 _ _ <| ai fun K3 hK3 => ?_)
 refine aa fun K4 hK4 => wlm Z rfl fun a Z => wlv Z ((aY (sT := 32) (Y.arg hkv) rfl rfl (Tryz.runUnderlying32 _)).asi (m' := (ks.length : Int)) (by rw [List.length_map])) fun a Z => wlv Z (v_gt rfl rfl) fun a Z => wlm Z rfl fun a Z => ?_
 rcases Bool.eq_false_or_eq_true (decide (64 < (ks.length : Int))) with hb1 | hb1
 ·rw [hb1] at Z
  try simp only [qz] at hb1
  refine wln Z fun a Z => wln Z fun a Z => wln Z fun a Z => wlv Z (aw rfl rfl) fun a Z => wlm Z rfl fun a Z => wln Z fun a Z => wln Z fun a Z => wln Z fun a Z => ?_
  refine wlv Z (aw rfl rfl) fun a Z => wlm Z rfl fun a Z => wln Z fun a Z => wln Z fun a Z => wln Z fun a Z => wlv Z (aw rfl rfl) fun a Z => ab (hK4 _ _ ?_)
  replace Z : Fr 142 [(0, _), (3, _), (4, _), (6, _), (7, _), (10, _), (11, _), (37, _)] [] a := Z.pick [0, 3, 4, 6, 7, 10, 11, 37]
  refine aX Z rfl ?_
  refine aa fun K5 hK5 => ap 1 Z Y rfl rfl rfl (Tryz.sizeOf3 _) rfl (lb rfl) (ds := [iv 1]) rfl rfl ?_
  clear Z Y
  intro a w5 Z Y
  refine ap 0 Z Y rfl rfl rfl (Tryz.sizeOf3 _) rfl (lb rfl) (ds := [iv (-1)]) rfl rfl ?_
  clear Z Y
  intro a w6 Z Y
  refine ab (hK5 _ _ <| aq ?_)
  refine ak Z Tryz.results15 (aE rfl (bI (Y.get (k := 1) rfl) (Tryz.isAgg3 _)) (aE rfl (bI (Y.get (k := 0) rfl) (Tryz.isAgg3 _)) ag)) ?_
  exact ⟨by rw [el (by unfold formB; first | exact .inl (by omega) | exact .inr (.inr (.inr (by omega))) | exact .inr (.inr (.inl hb1)) | exact .inr (.inl (by rw [ez] at hb1; simpa using hb1)))]; rfl, Y.ext⟩
 rw [hb1] at Z
 try simp only [qz] at hb1
 refine wly Z (aj rfl) fun a Z => wly Z (aj rfl) fun a Z => aJ Z Y (by decide) rfl (by decide) rfl Tryz.call57 rfl (nP (fun s => !decide ((s.length : Int) = 32)) _ Tryz.call55 (Y.arg hkv) (fun x w _ => ng x w)) ?_
 clear Z Y
 intro a w7 Z Y
 refine wlv Z (au rfl rfl) fun a Z => wlm Z rfl fun a Z => ?_
 rcases Bool.eq_false_or_eq_true (ks.any fun s => !decide ((s.length : Int) = 32)) with hb2 | hb2
 ·rw [hb2] at Z
  try simp only [qz] at hb2
  refine wln Z fun a Z => wln Z fun a Z => wln Z fun a Z => wlv Z (aw rfl rfl) fun a Z => wlm Z rfl fun a Z => wln Z fun a Z => wln Z fun a Z => wln Z fun a Z => ?_
  refine wlv Z (aw rfl rfl) fun a Z => ab (hK4 _ _ ?_)
  replace Z : Fr 142 [(0, _), (3, _), (4, _), (6, _), (7, _), (10, _), (11, _), (37, _)] [] a := Z.pick [0, 3, 4, 6, 7, 10, 11, 37]
  refine aX Z rfl ?_
  refine aa fun K6 hK6 => ap 1 Z Y rfl rfl rfl (Tryz.sizeOf3 _) rfl (lb rfl) (ds := [iv 1]) rfl rfl ?_
  clear Z Y
  intro a w8 Z Y
  refine ap 0 Z Y rfl rfl rfl (Tryz.sizeOf3 _) rfl (lb rfl) (ds := [iv (-1)]) rfl rfl ?_
  clear Z Y
  intro a w9 Z Y
  refine ab (hK6 _ _ <| aq ?_)
  refine ak Z Tryz.results15 (aE rfl (bI (Y.get (k := 1) rfl) (Tryz.isAgg3 _)) (aE rfl (bI (Y.get (k := 0) rfl) (Tryz.isAgg3 _)) ag)) ?_
  exact ⟨by rw [el (by unfold formB; first | exact .inl (by omega) | exact .inr (.inr (.inr (by omega))) | exact .inr (.inr (.inl hb2)) | exact .inr (.inl (by rw [ez] at hb2; simpa using hb2)))]; rfl, Y.ext⟩
 rw [hb2] at Z
 try simp only [qz] at hb2
 refine wly Z (ao (Y.get (k := 3) rfl) rfl (Tryz.isAgg30 _) (Tryz.sizeOf30 _)) fun a Z => aJ Z Y (by decide) rfl (by decide) rfl Tryz.call58 rfl (lx x _) ?_
 clear Z Y
 intro a w10 Z Y
 refine wly Z (bK rfl) fun a Z => wlv Z (au rfl rfl) fun a Z => wlm Z rfl fun a Z => ?_
 rcases Bool.eq_false_or_eq_true (!x.ok) with hb3 | hb3
 ·rw [hb3] at Z
  try simp only [qz] at hb3
  refine wln Z fun a Z => wln Z fun a Z => wln Z fun a Z => wlv Z (aw rfl rfl) fun a Z => ab (hK4 _ _ ?_)
  replace Z : Fr 142 [(0, _), (3, _), (4, _), (6, _), (7, _), (10, _), (11, _), (37, _)] [] a := Z.pick [0, 3, 4, 6, 7, 10, 11, 37]
  refine aX Z rfl ?_
  refine aa fun K7 hK7 => ap 1 Z Y rfl rfl rfl (Tryz.sizeOf3 _) rfl (lb rfl) (ds := [iv 1]) rfl rfl ?_
  clear Z Y
  intro a w11 Z Y
  refine ap 0 Z Y rfl rfl rfl (Tryz.sizeOf3 _) rfl (lb rfl) (ds := [iv (-1)]) rfl rfl ?_
  clear Z Y
  intro a w12 Z Y
  refine ab (hK7 _ _ <| aq ?_)
  refine ak Z Tryz.results15 (aE rfl (bI (Y.get (k := 1) rfl) (Tryz.isAgg3 _)) (aE rfl (bI (Y.get (k := 0) rfl) (Tryz.isAgg3 _)) ag)) ?_
  exact ⟨by rw [el (by unfold formB; first | exact .inl (by omega) | exact .inr (.inr (.inr (by omega))) | exact .inr (.inr (.inl hb3)) | exact .inr (.inl (by rw [ez] at hb3; simpa using hb3)))]; rfl, Y.ext⟩
 rw [hb3] at Z
 try simp only [qz] at hb3
 refine wly Z (ae (Y.get (k := 2) rfl) rfl (Tryz.isAgg31 _) rfl) fun a Z => wly Z ((aY (sT := 31) (Y.arg hlv) rfl rfl (Tryz.runUnderlying31 _)).asi (m' := (ps.length : Int)) (by rw [List.length_map])) fun a Z => wly Z (v_gt rfl rfl) fun a Z => wlv Z (au rfl rfl) fun a Z => ab (hK4 _ _ ?_)
 replace Z : Fr 142 [(0, _), (3, _), (4, _), (6, _), (7, _), (10, _), (11, _), (37, _)] [] a := Z.pick [0, 3, 4, 6, 7, 10, 11, 37]
 refine aB Z rfl (fun hc4 => ?_) (fun hc4 => ?_)
 ·rw [hc4] at Z
  try simp only [qz] at hc4
  refine aa fun K8 hK8 => ap 1 Z Y rfl rfl rfl (Tryz.sizeOf3 _) rfl (lb rfl) (ds := [iv 1]) rfl rfl ?_
  clear Z Y
  intro a w13 Z Y
  refine ap 0 Z Y rfl rfl rfl (Tryz.sizeOf3 _) rfl (lb rfl) (ds := [iv (-1)]) rfl rfl ?_
  clear Z Y
  intro a w14 Z Y
  refine ab (hK8 _ _ <| aq ?_)
  refine ak Z Tryz.results15 (aE rfl (bI (Y.get (k := 1) rfl) (Tryz.isAgg3 _)) (aE rfl (bI (Y.get (k := 0) rfl) (Tryz.isAgg3 _)) ag)) ?_
  exact ⟨by rw [el (by unfold formB; first | exact .inl (by omega) | exact .inr (.inr (.inr (by omega))) | exact .inr (.inr (.inl hc4)) | exact .inr (.inl (by rw [ez] at hc4; simpa using hc4)))]; rfl, Y.ext⟩
 rw [hc4] at Z
 try simp only [qz] at hc4
 refine ay <| hK3 _ _ <| ai fun K9 hK9 => ?_
 have hxo : x.ok = true := hb3
 have hnf : ¬ formB ks x ps := by
  rintro (h | h | h | h)
  ·omega
  ·rw [ez, h] at hb2; simp at hb2
  ·rw [hxo] at h; cases h
  ·omega
 have hk32 := nr hnf
 have hxd := Wsh.ok_bnd hxo
 have hxg := Wsh.ok_signer hxo
 refine aa fun K10 hK10 => wlv Z (ae (Y.get (k := 2) rfl) rfl (Tryz.isAgg31 _) rfl) fun a Z => az Z Y (by decide) Tryz.call59 rfl (jS lv ps _ (Y.arg hlv)) ?_
 clear Z Y
 intro a w15 Z Y
 refine wla Z rfl fun a Z => ab (hK10 _ _ <| aa fun K11 hK11 => ?_)
 refine wlm Z rfl fun a Z => wlv Z (v_ge rfl rfl) fun a Z => ab (hK11 _ _ ?_)
 refine aB Z rfl (fun hc5 => ?_) (fun hc5 => ?_)
 ·rw [hc5] at Z
  try simp only [qz] at hc5
  refine aa fun K12 hK12 => wlm Z rfl fun a Z => ap 1 Z Y rfl rfl rfl (Tryz.sizeOf3 _) rfl (lb rfl) (ds := [iv 1]) rfl rfl ?_
  clear Z Y
  intro a w16 Z Y
  refine ap 0 Z Y rfl rfl rfl (Tryz.sizeOf3 _) rfl (lb rfl) (ds := [iv (badN ps)]) rfl rfl ?_
  clear Z Y
  intro a w17 Z Y
  refine ab (hK12 _ _ ?_)
  replace Z : Fr 142 [(0, _), (3, _), (4, _), (6, _), (7, _), (10, _), (11, _)] [] a := Z.pick [0, 3, 4, 6, 7, 10, 11]
  refine aq ?_
  refine ak Z Tryz.results15 (aE rfl (bI (Y.get (k := 1) rfl) (Tryz.isAgg3 _)) (aE rfl (bI (Y.get (k := 0) rfl) (Tryz.isAgg3 _)) ag)) ?_
  exact ⟨by rw [k9 hnf hc5]; rfl, Y.ext⟩
 rw [hc5] at Z
 try simp only [qz] at hc5
 refine ay <| hK9 _ _ <| ai fun K13 hK13 => ?_
 have hbn := jz (l := ps) (by omega)
 refine aa fun K14 hK14 => wlm Z rfl fun a Z => wlv Z (ac (v := .pointer (some ⟨w0.heap.size, 6, none⟩)) rfl (by kernel_rfl)) fun a Z => wlv Z (ac (v := .pointer (some ⟨w0.heap.size, 6, none⟩)) rfl (by kernel_rfl)) fun a Z => wlv Z (ae (Y.get (k := 3) rfl) rfl (Tryz.isAgg3 _) rfl) fun a Z => wlv Z (ac (v := .pointer (some ⟨w0.heap.size, 6, none⟩)) rfl (by kernel_rfl)) fun a Z => wlv Z (ac (v := .pointer (some ⟨w0.heap.size, 7, none⟩)) rfl (by kernel_rfl)) fun a Z => ?_
 refine wlv Z (ae (Y.get (k := 3) rfl) rfl (Tryz.isAgg3 _) rfl) fun a Z => wlv Z (cm rfl rfl ⟨by omega, by omega⟩) fun a Z => az Z Y (by decide) Tryz.call60 rfl (ck t x.sf (x.st - 1) _) ?_
 clear Z Y
 intro a w18 Z Y
 refine wlv Z (bK rfl) fun a Z => ab (hK14 _ _ ?_)
 replace Z : Fr 142 [(0, _), (3, _), (6, _), (7, _), (10, _), (11, _), (52, _)] [] a := Z.pick [0, 3, 6, 7, 10, 11, 52]
 refine aB Z rfl (fun hc6 => ?_) (fun hc6 => ?_)
 ·rw [hc6] at Z
  try simp only [qz] at hc6
  refine aa fun K15 hK15 => ap 1 Z Y rfl rfl rfl (Tryz.sizeOf3 _) rfl (lb rfl) (ds := [iv 2]) rfl rfl ?_
  clear Z Y
  intro a w19 Z Y
  refine ap 0 Z Y rfl rfl rfl (Tryz.sizeOf3 _) rfl (lb rfl) (ds := [iv (-1)]) rfl rfl ?_
  clear Z Y
  intro a w20 Z Y
  refine ab (hK15 _ _ <| aq ?_)
  refine ak Z Tryz.results15 (aE rfl (bI (Y.get (k := 1) rfl) (Tryz.isAgg3 _)) (aE rfl (bI (Y.get (k := 0) rfl) (Tryz.isAgg3 _)) ag)) ?_
  exact ⟨by rw [gz hnf hbn hc6]; rfl, Y.ext⟩
 rw [hc6] at Z
 try simp only [qz] at hc6
 refine ay <| hK13 _ _ <| ai fun K16 hK16 => aa fun K17 hK17 => wlm Z rfl fun a Z => wlv Z (ac (v := .pointer (some ⟨w0.heap.size, 2, none⟩)) rfl (by kernel_rfl)) fun a Z => wlv Z (ac (v := .pointer (some ⟨w0.heap.size, 2, none⟩)) rfl (by kernel_rfl)) fun a Z => ?_
 refine wlv Z (ae (Y.get (k := 3) rfl) rfl (Tryz.isAgg3 _) rfl) fun a Z => wlv Z (ac (v := .pointer (some ⟨w0.heap.size, 2, none⟩)) rfl (by kernel_rfl)) fun a Z => wlv Z (ac (v := .pointer (some ⟨w0.heap.size, 3, none⟩)) rfl (by kernel_rfl)) fun a Z => wlv Z (ae (Y.get (k := 3) rfl) rfl (Tryz.isAgg3 _) rfl) fun a Z => wlv Z (cm rfl rfl ⟨by omega, by omega⟩) fun a Z => az Z Y (by decide) Tryz.call60 rfl (ck number x.rf (x.rt - 1) _) ?_
 clear Z Y
 intro a w21 Z Y
 refine wlv Z (bK rfl) fun a Z => ab (hK17 _ _ ?_)
 replace Z : Fr 142 [(0, _), (6, _), (7, _), (10, _), (11, _), (62, _)] [] a := Z.pick [0, 6, 7, 10, 11, 62]
 refine aB Z rfl (fun hc7 => ?_) (fun hc7 => ?_)
 ·rw [hc7] at Z
  try simp only [qz] at hc7
  refine aa fun K18 hK18 => ap 1 Z Y rfl rfl rfl (Tryz.sizeOf3 _) rfl (lb rfl) (ds := [iv 3]) rfl rfl ?_
  clear Z Y
  intro a w22 Z Y
  refine ap 0 Z Y rfl rfl rfl (Tryz.sizeOf3 _) rfl (lb rfl) (ds := [iv (-1)]) rfl rfl ?_
  clear Z Y
  intro a w23 Z Y
  refine ab (hK18 _ _ <| aq ?_)
  refine ak Z Tryz.results15 (aE rfl (bI (Y.get (k := 1) rfl) (Tryz.isAgg3 _)) (aE rfl (bI (Y.get (k := 0) rfl) (Tryz.isAgg3 _)) ag)) ?_
  exact ⟨by rw [iN hnf hbn hc6 hc7]; rfl, Y.ext⟩
 rw [hc7] at Z
 try simp only [qz] at hc7
 refine ay <| hK16 _ _ <| ai fun K19 hK19 => ?_
 have hwp : whyP ks x ps number t := ⟨hnf, hbn, hc6, hc7⟩
 refine aa fun K20 hK20 => wlv Z (ac (v := .pointer (some ⟨w0.heap.size, 1, none⟩)) rfl (by kernel_rfl)) fun a Z => wlv Z (ae (Y.get (k := 3) rfl) rfl (Tryz.isAgg3 _) rfl) fun a Z => wlv Z (ae (Y.get (k := 2) rfl) rfl (Tryz.isAgg31 _) rfl) fun a Z => bJ Z Y (by decide) Tryz.call61 rfl (kM x.holder lv ps _ (Y.arg hlv)) ?_
 clear Z Y
 intro a w24 x8 hp Z Y
 obtain ⟨bh, bl⟩ := x8
 clear hp
 replace Y : St No w0 [blk bl [lv] 31, blk bh [iv x.holder] 3, blk w3.heap.size [iv 0] 3, blk w2.heap.size [iv 0] 3, blk w1.heap.size [lv] 31, blk w0.heap.size [iv x.signer, iv x.holder, iv x.rf, iv x.rt, iv x.carrier, iv x.serial, iv x.sf, iv x.st, sv x.sig] 30] w24 := Y
 refine ab (hK20 _ _ <| ax ?_)
 replace Y : St No w0 [blk w0.heap.size [iv x.signer, iv x.holder, iv x.rf, iv x.rt, iv x.carrier, iv x.serial, iv x.sf, iv x.st, sv x.sig] 30, blk w1.heap.size [lv] 31, blk w2.heap.size [iv 0] 3, blk w3.heap.size [iv 0] 3, blk bh [iv x.holder] 3, blk bl [lv] 31] w24 := Y.select [5, 4, 3, 2, 1, 0] (by decide)
 replace Z : Fr 142 [(0, kv), (6, pq w0.heap.size), (7, pq w1.heap.size), (10, pq w2.heap.size), (11, pq w3.heap.size), (62, .bool false), (63, .pointer (some ⟨w0.heap.size, 1, none⟩)), (64, iv x.holder), (65, lv), (66, .func (.func 118) #[] #[pq bh, pq bl])] [] a := Z.pick [0, 6, 7, 10, 11, 62, 63, 64, 65, 66]
 refine dH (M := No) (w0 := w0) (encs := encQ) (Hi := [blk bh [iv x.holder] 3, blk bl [lv] 31]) (Hc := [blk w0.heap.size [iv x.signer, iv x.holder, iv x.rf, iv x.rt, iv x.carrier, iv x.serial, iv x.sf, iv x.st, sv x.sig] 30, blk w1.heap.size [lv] 31, blk w2.heap.size [iv 0] 3, blk w3.heap.size [iv 0] 3]) (fun pre H => (∀ z ∈ pre, okQ ps x.signer z = true) ∧ H = [blk w0.heap.size [iv x.signer, iv x.holder, iv x.rf, iv x.rt, iv x.carrier, iv x.serial, iv x.sf, iv x.st, sv x.sig] 30, blk w1.heap.size [lv] 31, blk w2.heap.size [iv 0] 3, blk w3.heap.size [iv 0] 3]) (fun c pre H => c = .ret ∧ ∃ (i : Int), (bT x.signer x.holder ps 0 = some i) ∧ H = [blk w0.heap.size [iv x.signer, iv x.holder, iv x.rf, iv x.rt, iv x.carrier, iv x.serial, iv x.sf, iv x.st, sv x.sig] 30, blk w1.heap.size [lv] 31, blk w2.heap.size [iv 4] 3, blk w3.heap.size [iv i] 3]) (fun pre xs H a => Fr 142 [(6, pq w0.heap.size), (7, pq w1.heap.size), (10, pq w2.heap.size), (11, pq w3.heap.size), (14, iv xs.1), (15, iv xs.2)] [] a ∧ (∀ z ∈ pre, okQ ps x.signer z = true) ∧ H = [blk w0.heap.size [iv x.signer, iv x.holder, iv x.rf, iv x.rt, iv x.carrier, iv x.serial, iv x.sf, iv x.st, sv x.sig] 30, blk w1.heap.size [lv] 31, blk w2.heap.size [iv 0] 3, blk w3.heap.size [iv 0] 3]) rfl Tryz.call118 Z Y (iG x.holder lv ps bh bl (fun H w h => h.arg hlv)) (by decide) (fun _ => rfl) ⟨(by simp), rfl⟩ ?_ ?_ ?_ ?_
 ·clear Z Y
  rintro lp pre xs _ a w25 hnx ⟨hpq, rfl⟩ Z Y
  generalize (join [blk w0.heap.size [iv x.signer, iv x.holder, iv x.rf, iv x.rt, iv x.carrier, iv x.serial, iv x.sf, iv x.st, sv x.sig] 30, blk w1.heap.size [lv] 31, blk w2.heap.size [iv 0] 3, blk w3.heap.size [iv 0] 3]).foot = M1 at Y ⊢
  replace Z : Fr 142 [(68, iv xs.2), (67, iv xs.1), (0, kv), (6, pq w0.heap.size), (7, pq w1.heap.size), (10, pq w2.heap.size), (11, pq w3.heap.size), (62, .bool false), (63, .pointer (some ⟨w0.heap.size, 1, none⟩)), (64, iv x.holder), (65, lv), (66, .func (.func 118) #[] #[pq bh, pq bl])] [] a := Z
  refine aa fun K21 hK21 => wla Z rfl fun a Z => ab (hK21 _ _ ?_)
  replace Z : Fr 142 [(68, _), (6, _), (7, _), (10, _), (11, _), (14, _)] [] a := Z.pick [68, 6, 7, 10, 11, 14]
  refine ar <| wla Z rfl fun a Z => ab ?_
  exact ⟨_, ⟨Z.pick [6, 7, 10, 11, 14, 15], hpq, rfl⟩, Y⟩
 ·rintro lp pre xs _ a w26 hnx ⟨Z, hpq, rfl⟩ hout hrec hnl Y
  clear hrec hnl
  generalize (join [blk w0.heap.size [iv x.signer, iv x.holder, iv x.rf, iv x.rt, iv x.carrier, iv x.serial, iv x.sf, iv x.st, sv x.sig] 30, blk w1.heap.size [lv] 31, blk w2.heap.size [iv 0] 3, blk w3.heap.size [iv 0] 3]).foot = M1 at Y hout ⊢
  refine ax <| aa fun K22 hK22 => wlm Z rfl fun a Z => wlv Z (v_ge rfl rfl) fun a Z => wlm Z rfl fun a Z => ?_
  rcases Bool.eq_false_or_eq_true (decide (0 ≤ xs.1)) with hb9 | hb9
  ·rw [hb9] at Z
   try simp only [qz] at hb9
   have hqlt := ll hnx
   refine wly Z (ae (Y.get (k := 1) rfl) rfl (Tryz.isAgg31 _) rfl) fun a Z => wly Z (aj rfl) fun a Z => wly Z ((am (i := xs.1) (sT := 31) (hlv.grow (hout _ Y.ext)) rfl rfl (Tryz.runUnderlying31 _) (Tryz.sizeOf40 _) (by omega) (by rw [List.length_map]; omega)).as (v' := slAddr lv (xs.1.toNat * 7)) (by rw [show (xs.1).toNat = xs.1.toNat from by omega])) fun a Z => wly Z (dr (k := xs.1.toNat * 7) (j := 0) (hlv.grow (hout _ Y.ext)) (i := xs.1.toNat) (by rw [List.length_map]; omega) rfl (fun _ _ => by kernel_rfl)) fun a Z => wly Z (aC (u := iv ((ps.getD xs.1.toNat Pxy.z).frm)) (i := xs.1.toNat) (j := 0) (hlv.grow (hout _ Y.ext)) (by rw [List.length_map]; omega) rfl (Tryz.isAgg3 _) (by rw [ca Pxy.z]; rfl)) fun a Z => wly Z (aj rfl) fun a Z => wly Z (v_ne rfl rfl) fun a Z => wlv Z (aw rfl rfl) fun a Z => wlm Z rfl fun a Z => ?_
   rcases Bool.eq_false_or_eq_true (!decide ((ps.getD xs.1.toNat Pxy.z).frm = xs.2)) with hb10 | hb10
   ·rw [hb10] at Z
    try simp only [qz] at hb10
    refine wln Z fun a Z => wln Z fun a Z => wln Z fun a Z => lj Z (by decide) rfl (by decide) rfl fun a Z => lj Z (by decide) rfl (by decide) rfl fun a Z => lj Z (by decide) rfl (by decide) rfl fun a Z => lj Z (by decide) rfl (by decide) rfl fun a Z => ?_
    refine wln Z fun a Z => wlv Z (aw rfl rfl) fun a Z => ab (hK22 _ _ ?_)
    replace Z : Fr 142 [(10, _), (11, _), (14, _), (89, _)] [] a := Z.pick [10, 11, 14, 89]
    refine aX Z rfl ?_
    refine aa fun K23 hK23 => wlm Z rfl fun a Z => ap 2 Z Y rfl rfl rfl (Tryz.sizeOf3 _) rfl (lb rfl) (ds := [iv 4]) rfl rfl ?_
    clear Z Y
    intro a w27 Z Y
    refine ap 3 Z Y rfl rfl rfl (Tryz.sizeOf3 _) rfl (lb rfl) (ds := [iv xs.1]) rfl rfl ?_
    clear Z Y
    intro a w28 Z Y
    refine ab (hK23 _ _ <| aq ?_)
    exact ⟨_, ⟨rfl, xs.1, ie hnx hpq (nZ hb9 hb10), rfl⟩, Y.select [0, 1, 2, 3] (by decide)⟩
   rw [hb10] at Z
   try simp only [qz] at hb10
   refine wly Z (aj rfl) fun a Z => wly Z ((v_lt rfl rfl).asb (b' := false) (by exact decide_eq_false (by omega))) fun a Z => wly Z (aj rfl) fun a Z => wln Z fun a Z => wln Z fun a Z => wln Z fun a Z => wln Z fun a Z => wly Z (au rfl rfl) fun a Z => wlv Z (au rfl rfl) fun a Z => ab (hK22 _ _ ?_)
   replace Z : Fr 142 [(10, _), (11, _), (14, _), (89, _)] [] a := Z.pick [10, 11, 14, 89]
   refine bj Z rfl ?_
   refine ay ?_
   exact ⟨_, ⟨k7 hpq (nd hb9 hb10), rfl⟩, Y.select [0, 1, 2, 3] (by decide)⟩
  rw [hb9] at Z
  try simp only [qz] at hb9
  have hqlt := ll hnx
  refine wln Z fun a Z => wln Z fun a Z => wln Z fun a Z => wln Z fun a Z => wln Z fun a Z => wln Z fun a Z => wln Z fun a Z => ?_
  refine wlv Z (au rfl rfl) fun a Z => wlm Z rfl fun a Z => wly Z (aj rfl) fun a Z => wly Z ((v_lt rfl rfl).asb (b' := true) (by exact decide_eq_true (by omega))) fun a Z => wly Z (aj rfl) fun a Z => wly Z (ac (v := pq w0.heap.size) rfl (by kernel_rfl)) fun a Z => wly Z (ae (Y.get (k := 0) rfl) rfl (Tryz.isAgg3 _) rfl) fun a Z => wly Z (aj rfl) fun a Z => wly Z (v_ne rfl rfl) fun a Z => wly Z (aw rfl rfl) fun a Z => wlv Z (au rfl rfl) fun a Z => ab (hK22 _ _ ?_)
  replace Z : Fr 142 [(10, _), (11, _), (14, _), (89, _)] [] a := Z.pick [10, 11, 14, 89]
  refine aB Z rfl (fun hc11 => ?_) (fun hc11 => ?_)
  ·rw [hc11] at Z
   try simp only [qz] at hc11
   refine aa fun K24 hK24 => wlm Z rfl fun a Z => ap 2 Z Y rfl rfl rfl (Tryz.sizeOf3 _) rfl (lb rfl) (ds := [iv 4]) rfl rfl ?_
   clear Z Y
   intro a w29 Z Y
   refine ap 3 Z Y rfl rfl rfl (Tryz.sizeOf3 _) rfl (lb rfl) (ds := [iv xs.1]) rfl rfl ?_
   clear Z Y
   intro a w30 Z Y
   refine ab (hK24 _ _ <| aq ?_)
   exact ⟨_, ⟨rfl, xs.1, ie hnx hpq (nc (by omega) hc11), rfl⟩, Y.select [0, 1, 2, 3] (by decide)⟩
  rw [hc11] at Z
  try simp only [qz] at hc11
  refine ay ?_
  exact ⟨_, ⟨k7 hpq (n6 (by omega) hc11), rfl⟩, Y.select [0, 1, 2, 3] (by decide)⟩
 ·rintro D pre _ _ a w31 ⟨rfl, rfl⟩ ⟨hpq, rfl⟩ Y Z
  replace Z : Fr 142 [(0, kv), (6, pq w0.heap.size), (7, pq w1.heap.size), (10, pq w2.heap.size), (11, pq w3.heap.size), (62, .bool false), (63, .pointer (some ⟨w0.heap.size, 1, none⟩)), (64, iv x.holder), (65, lv), (66, .func (.func 118) #[] #[pq bh, pq bl])] [{ target := .collected D, args := #[] }] a := Z
  replace Y : St No w0 [obj D (.deferred (some [])), blk w0.heap.size [iv x.signer, iv x.holder, iv x.rf, iv x.rt, iv x.carrier, iv x.serial, iv x.sf, iv x.st, sv x.sig] 30, blk w1.heap.size [lv] 31, blk w2.heap.size [iv 0] 3, blk w3.heap.size [iv 0] 3, blk bh [iv x.holder] 3, blk bl [lv] 31] w31 := Y
  refine hK19 _ _ <| ai fun K25 hK25 => ?_
  have hch := l4 hpq
  refine aa fun K26 hK26 => wlv Z (ao (Y.get (k := 1) rfl) rfl (Tryz.isAgg30 _) (Tryz.sizeOf30 _)) fun a Z => wlv Z (ae (Y.get (k := 2) rfl) rfl (Tryz.isAgg31 _) rfl) fun a Z => az Z Y (by decide) Tryz.call62 rfl (mX x lv ps _ (Y.arg hlv)) ?_
  clear Z Y
  intro a w32 Z Y
  refine wlm Z rfl fun a Z => wlv Z (aA rfl rfl) fun a Z => wlv Z (aA rfl rfl) fun a Z => wla Z rfl fun a Z => wla Z rfl fun a Z => ab (hK26 _ _ ?_)
  replace Z : Fr 142 [(0, _), (6, _), (7, _), (10, _), (11, _), (16, _), (17, _)] [{ target := .collected D, args := #[] }] a := Z.pick [0, 6, 7, 10, 11, 16, 17]
  refine aa fun K27 hK27 => wlm Z rfl fun a Z => ab (hK27 _ _ ?_)
  refine aB Z rfl (fun hc12 => ?_) (fun hc12 => ?_)
  ·rw [hc12] at Z
   try simp only [qz] at hc12
   refine aa fun K28 hK28 => wlm Z rfl fun a Z => ap 3 Z Y rfl rfl rfl (Tryz.sizeOf3 _) rfl (lb rfl) (ds := [iv 5]) rfl rfl ?_
   clear Z Y
   intro a w33 Z Y
   refine ap 4 Z Y rfl rfl rfl (Tryz.sizeOf3 _) rfl (lb rfl) (ds := [iv ((scopeV x ps).1)]) rfl rfl ?_
   clear Z Y
   intro a w34 Z Y
   refine ab (hK28 _ _ <| aq ?_)
   have hD := Y.get (k := 0) rfl
   replace Y := Y.unmark (i := 0) (o' := .deferred none) rfl
   replace Y : St No w0 [blk w0.heap.size [iv x.signer, iv x.holder, iv x.rf, iv x.rt, iv x.carrier, iv x.serial, iv x.sf, iv x.st, sv x.sig] 30, blk w1.heap.size [lv] 31, blk w2.heap.size [iv 5] 3, blk w3.heap.size [iv ((scopeV x ps).1)] 3, blk bh [iv x.holder] 3, blk bl [lv] 31] _ := Y
   refine ch Z hD Tryz.results15 (aE rfl (bI (Y.get (k := 2) rfl) (Tryz.isAgg3 _)) (aE rfl (bI (Y.get (k := 3) rfl) (Tryz.isAgg3 _)) ag)) ?_
   exact ⟨by rw [iy hwp hch (lV hc12)]; rfl, Y.ext⟩
  rw [hc12] at Z
  try simp only [qz] at hc12
  refine ay <| hK25 _ _ <| ai fun K29 hK29 => ?_
  have hsc : ba x none ps 0 = none := mw hc12
  refine aa fun K30 hK30 => wlv Z (ae (Y.get (k := 2) rfl) rfl (Tryz.isAgg31 _) rfl) fun a Z => wlv Z ((aY (sT := 31) (Y.arg hlv) rfl rfl (Tryz.runUnderlying31 _)).asi (m' := (ps.length : Int)) (by rw [List.length_map])) fun a Z => wlm Z rfl fun a Z => ab (hK30 _ _ <| ax ?_)
  refine bf (fun m a w => ∃ (k : Nat), m = ps.length - k ∧ (k ≤ ps.length) ∧ (bG ks x ps 0 = bG ks x (ps.drop k) k) ∧ Fr 142 [(0, kv), (6, pq w0.heap.size), (10, pq w2.heap.size), (11, pq w3.heap.size), (99, lv), (100, iv (ps.length : Int)), (101, iv (k : Int))] [{ target := .collected D, args := #[] }] a ∧ St No w0 [obj D (.deferred (some [])), blk w0.heap.size [iv x.signer, iv x.holder, iv x.rf, iv x.rt, iv x.carrier, iv x.serial, iv x.sf, iv x.st, sv x.sig] 30, blk w1.heap.size [lv] 31, blk w2.heap.size [iv 0] 3, blk w3.heap.size [iv 0] 3, blk bh [iv x.holder] 3, blk bl [lv] 31] w) _ ⟨0, rfl, Nat.zero_le _, rfl, Z.pick [0, 6, 10, 11, 99, 100, 101], Y.select [0, 1, 2, 3, 4, 5, 6] (by decide)⟩ ?_
  rintro _ a w35 ⟨k, rfl, hk, hsb, Z, Y⟩
  refine aa fun K31 hK31 => wlv Z (v_lt rfl rfl) fun a Z => ab (hK31 _ _ <| ai fun K32 hK32 => ?_)
  refine aB Z rfl (fun hc13 => ?_) (fun hc13 => ?_)
  ·rw [hc13] at Z
   try simp only [qz] at hc13
   have hkx : k < ps.length := by omega
   have hpk := ef hbn _ (cd (d := Pxy.z) hkx)
   have hp0 := Pxy.ok_frm hpk
   refine ay <| hK32 _ _ <| ai fun K33 hK33 => ax <| aa fun K34 hK34 => wlm Z rfl fun a Z => wlv Z ((am (i := (k : Int)) (sT := 31) (Y.arg hlv) rfl rfl (Tryz.runUnderlying31 _) (Tryz.sizeOf40 _) (by omega) (by rw [List.length_map]; omega)).as (v' := slAddr lv (k * 7)) rfl) fun a Z => ?_
   refine wlv Z ((bY (Y.arg hlv) (i := k) (by rw [List.length_map]; omega) rfl (Tryz.isAgg40 _) (Tryz.sizeOf40 _)).as (v' := .agg #[iv ((ps.getD k Pxy.z).frm), iv ((ps.getD k Pxy.z).to), iv ((ps.getD k Pxy.z).rf), iv ((ps.getD k Pxy.z).rt), iv ((ps.getD k Pxy.z).sf), iv ((ps.getD k Pxy.z).st), sv ((ps.getD k Pxy.z).sig)]) (by rw [ca Pxy.z]; rfl)) fun a Z => aI Z Y (by decide) (Tryz.zeroValue40 _) (cs := [iv 0, iv 0, iv 0, iv 0, iv 0, iv 0, .string (⟨#[]⟩)]) rfl ?_
   clear Z Y
   intro a w36 Z Y
   refine wla Z rfl fun a Z => ap 0 Z Y rfl rfl rfl (Tryz.sizeOf40 _) rfl (lb rfl) (ds := [iv ((ps.getD k Pxy.z).frm), iv ((ps.getD k Pxy.z).to), iv ((ps.getD k Pxy.z).rf), iv ((ps.getD k Pxy.z).rt), iv ((ps.getD k Pxy.z).sf), iv ((ps.getD k Pxy.z).st), sv ((ps.getD k Pxy.z).sig)]) rfl rfl ?_
   clear Z Y
   intro a w37 Z Y
   refine ab (hK34 _ _ <| ai fun K35 hK35 => ?_)
   refine aK (by kernel_rfl) (aO (by kernel_rfl) fun w38 hxz => ?_)
   replace Y := Y.grow hxz
   refine aV (k := 0) 4 [1, 3] Z (by kernel_rfl) (by kernel_rfl) (by kernel_rfl) (by rfl) ?_
   replace Z : Fr 142 [(0, _), (6, _), (10, _), (11, _), (99, _), (100, _), (101, _), (102, _), (103, _), (104, _), (105, _), (19, _), (18, _)] [{ target := .collected D, args := #[] }] a := Z.pick [0, 6, 10, 11, 99, 100, 101, 102, 103, 104, 105, 19, 18]
   refine aL [] (fun i => match i with | _ => fun _ _ => False) 4 [[], [0], [], [2]] [pq w35.heap.size, iv ((ps.getD k Pxy.z).frm), kv, iv (ks.length : Int)] Z Y (by kernel_rfl) (by kernel_rfl) (by kernel_rfl) ?_ ?_ ?_
   ·intro i hi hiq
    match i, hi, hiq with
    | 0, _, _ =>
     intro w Y
     exact OpV.g (ac (v := pq w35.heap.size) rfl (by kernel_rfl))
    | 1, _, _ =>
     intro w Y
     exact OpV.g (ae (Y.get (k := 0) rfl) rfl (Tryz.isAgg3 _) rfl)
    | 2, _, _ =>
     intro w Y
     exact OpV.g (aj rfl)
    | 3, _, _ =>
     intro w Y
     exact OpV.g ((aY (sT := 32) (Y.arg hkv) rfl rfl (Tryz.runUnderlying32 _)).asi (m' := (ks.length : Int)) (by rw [List.length_map]))
   ·intro i hi
    exact absurd hi (by simp)
   clear Z Y
   intro  a w39 Z Y
   replace Z : Fr 142 [(106, pq w35.heap.size), (107, iv ((ps.getD k Pxy.z).frm)), (108, kv), (109, iv (ks.length : Int)), (0, _), (6, _), (10, _), (11, _), (99, _), (100, _), (101, _), (102, _), (103, _), (104, _), (105, _), (19, _), (18, _)] [{ target := .collected D, args := #[] }] a := Z
   refine ab <| aP (k := 4) 6 [5] (by kernel_rfl) (by kernel_rfl) (by kernel_rfl) ?_
   refine wlv Z (v_ge rfl rfl) fun a Z => wlm Z rfl fun a Z => ab ?_
   rcases Bool.eq_false_or_eq_true (decide ((ks.length : Int) ≤ (ps.getD k Pxy.z).frm)) with hb14 | hb14
   ·rw [hb14] at Z
    try simp only [qz] at hb14
    replace Z : Fr 142 [(0, kv), (6, pq w0.heap.size), (10, pq w2.heap.size), (11, pq w3.heap.size), (99, lv), (100, iv (ps.length : Int)), (101, iv (k : Int)), (102, .bool true), (103, iv (k : Int)), (104, slAddr lv (k * 7)), (105, .agg #[iv ((ps.getD k Pxy.z).frm), iv ((ps.getD k Pxy.z).to), iv ((ps.getD k Pxy.z).rf), iv ((ps.getD k Pxy.z).rt), iv ((ps.getD k Pxy.z).sf), iv ((ps.getD k Pxy.z).st), sv ((ps.getD k Pxy.z).sig)]), (19, pq w35.heap.size), (18, iv (k : Int)), (106, pq w35.heap.size), (107, iv ((ps.getD k Pxy.z).frm)), (108, kv), (109, iv (ks.length : Int)), (110, .bool true), (111, .bool true)] [{ target := .collected D, args := #[] }] a := Z.pick [0, 6, 10, 11, 99, 100, 101, 102, 103, 104, 105, 19, 18, 106, 107, 108, 109, 110, 111]
    refine fg (k := 6) 15 [7, 14] Z (by kernel_rfl) (by kernel_rfl) (by kernel_rfl) (by rfl) fun a Z => ?_
    replace Z : Fr 142 [(112, undef), (113, undef), (114, undef), (115, undef), (116, undef), (117, undef), (118, undef), (119, undef), (120, undef), (0, kv), (6, pq w0.heap.size), (10, pq w2.heap.size), (11, pq w3.heap.size), (99, lv), (100, iv (ps.length : Int)), (101, iv (k : Int)), (102, .bool true), (103, iv (k : Int)), (104, slAddr lv (k * 7)), (105, .agg #[iv ((ps.getD k Pxy.z).frm), iv ((ps.getD k Pxy.z).to), iv ((ps.getD k Pxy.z).rf), iv ((ps.getD k Pxy.z).rt), iv ((ps.getD k Pxy.z).sf), iv ((ps.getD k Pxy.z).st), sv ((ps.getD k Pxy.z).sig)]), (19, pq w35.heap.size), (18, iv (k : Int)), (106, pq w35.heap.size), (107, iv ((ps.getD k Pxy.z).frm)), (108, kv), (109, iv (ks.length : Int)), (110, .bool true), (111, .bool true)] [{ target := .collected D, args := #[] }] a := Z
    refine aP (k := 15) 17 [16] (by kernel_rfl) (by kernel_rfl) (by kernel_rfl) ?_
    refine wln Z fun a Z => wlv Z (aw rfl rfl) fun a Z => ab <| bd (by kernel_rfl) ?_
    refine hK35 _ _ ?_
    replace Z : Fr 142 [(0, _), (6, _), (10, _), (11, _), (99, _), (100, _), (101, _), (18, _), (122, _)] [{ target := .collected D, args := #[] }] a := Z.pick [0, 6, 10, 11, 99, 100, 101, 18, 122]
    replace Y : St No w0 [_, _, _, _, _, _, _] w39 := Y.mask [false, true, true, true, true, true, true, true]
    refine aX Z rfl ?_
    refine aa fun K36 hK36 => wlm Z rfl fun a Z => ap 3 Z Y rfl rfl rfl (Tryz.sizeOf3 _) rfl (lb rfl) (ds := [iv 6]) rfl rfl ?_
    clear Z Y
    intro a w40 Z Y
    refine ap 4 Z Y rfl rfl rfl (Tryz.sizeOf3 _) rfl (lb rfl) (ds := [iv (k : Int)]) rfl rfl ?_
    clear Z Y
    intro a w41 Z Y
    refine ab (hK36 _ _ <| aq ?_)
    have hD := Y.get (k := 0) rfl
    replace Y := Y.unmark (i := 0) (o' := .deferred none) rfl
    replace Y : St No w0 [blk w0.heap.size [iv x.signer, iv x.holder, iv x.rf, iv x.rt, iv x.carrier, iv x.serial, iv x.sf, iv x.st, sv x.sig] 30, blk w1.heap.size [lv] 31, blk w2.heap.size [iv 6] 3, blk w3.heap.size [iv (k : Int)] 3, blk bh [iv x.holder] 3, blk bl [lv] 31] _ := Y
    refine ch Z hD Tryz.results15 (aE rfl (bI (Y.get (k := 2) rfl) (Tryz.isAgg3 _)) (aE rfl (bI (Y.get (k := 3) rfl) (Tryz.isAgg3 _)) ag)) ?_
    exact ⟨by rw [ej hwp hch hsc (by rw [hsb]; first | exact jK hkx hp0.1 (by omega) | exact jv hkx hp0.1 (by omega) hb14)]; rfl, Y.ext⟩
   rw [hb14] at Z
   try simp only [qz] at hb14
   refine aV (k := 6) 15 [7, 14] Z (by kernel_rfl) (by kernel_rfl) (by kernel_rfl) (by rfl) ?_
   replace Z : Fr 142 [(0, _), (6, _), (10, _), (11, _), (99, _), (100, _), (101, _), (102, _), (103, _), (104, _), (105, _), (19, _), (18, _), (106, _), (107, _), (108, _), (109, _), (110, _), (111, _)] [{ target := .collected D, args := #[] }] a := Z.pick [0, 6, 10, 11, 99, 100, 101, 102, 103, 104, 105, 19, 18, 106, 107, 108, 109, 110, 111]
   refine aL [] (fun i => match i with | _ => fun _ _ => False) 9 [[], [0], [], [], [3], [2, 4], [5], [], [6, 7]] [.pointer (some ⟨w35.heap.size, 6, none⟩), sv ((ps.getD k Pxy.z).sig), kv, pq w35.heap.size, iv ((ps.getD k Pxy.z).frm), slAddr kv (((ps.getD k Pxy.z).frm.toNat) * 1), sv (ks.getD ((ps.getD k Pxy.z).frm.toNat) []), .func (.func 64) #[] #[pq w35.heap.size], sv (sealH (ks.getD ((ps.getD k Pxy.z).frm.toNat) []) (ps.getD k Pxy.z).content)] Z Y (by kernel_rfl) (by kernel_rfl) (by kernel_rfl) ?_ ?_ ?_
   ·intro i hi hiq
    match i, hi, hiq with
    | 0, _, _ =>
     intro w Y
     exact OpV.g (ac (v := .pointer (some ⟨w35.heap.size, 6, none⟩)) rfl (by kernel_rfl))
    | 1, _, _ =>
     intro w Y
     exact OpV.g (ae (Y.get (k := 0) rfl) rfl (Tryz.isAgg9 _) rfl)
    | 2, _, _ =>
     intro w Y
     exact OpV.g (aj rfl)
    | 3, _, _ =>
     intro w Y
     exact OpV.g (ac (v := pq w35.heap.size) rfl (by kernel_rfl))
    | 4, _, _ =>
     intro w Y
     exact OpV.g (ae (Y.get (k := 0) rfl) rfl (Tryz.isAgg3 _) rfl)
    | 5, _, _ =>
     intro w Y
     exact OpV.g ((am (i := (ps.getD k Pxy.z).frm) (sT := 32) (Y.arg hkv) rfl rfl (Tryz.runUnderlying32 _) (Tryz.sizeOf9 _) (by omega) (by rw [List.length_map]; omega)).as (v' := slAddr kv (((ps.getD k Pxy.z).frm.toNat) * 1)) (by rw [show ((ps.getD k Pxy.z).frm).toNat = (ps.getD k Pxy.z).frm.toNat from by omega]))
    | 6, _, _ =>
     intro w Y
     exact OpV.g (aC (u := sv (ks.getD ((ps.getD k Pxy.z).frm.toNat) [])) (i := ((ps.getD k Pxy.z).frm.toNat)) (j := 0) (Y.arg hkv) (by rw [List.length_map]; omega) rfl (Tryz.isAgg9 _) (by rw [ca ([] : By)]; rfl))
    | 7, _, _ =>
     intro w Y
     exact OpV.g (co rfl rfl)
    | 8, _, _ =>
     intro w Y
     exact aU Tryz.call63 rfl (ib (ks.getD ((ps.getD k Pxy.z).frm.toNat) []) (ps.getD k Pxy.z).content 64 w35.heap.size [iv ((ps.getD k Pxy.z).frm), iv ((ps.getD k Pxy.z).to), iv ((ps.getD k Pxy.z).rf), iv ((ps.getD k Pxy.z).rt), iv ((ps.getD k Pxy.z).sf), iv ((ps.getD k Pxy.z).st), sv ((ps.getD k Pxy.z).sig)] 40 _ Tryz.call64 (fun b v ws h => nF b w35.heap.size v (ps.getD k Pxy.z) ws (Pxy.smalls_of hpk) h) kY (by have := hk32 _ (cd (d := []) (by omega : ((ps.getD k Pxy.z).frm.toNat) < ks.length)); omega) (Nat.le_trans ((ps.getD k Pxy.z).content_len) (by decide)) (Y.keepb hk0) (Y.get (k := 0) rfl) (jO Y (i := 0) rfl hk0))
   ·intro i hi
    exact absurd hi (by simp)
   clear Z Y
   intro  a w42 Z Y
   replace Z : Fr 142 [(112, .pointer (some ⟨w35.heap.size, 6, none⟩)), (113, sv ((ps.getD k Pxy.z).sig)), (114, kv), (115, pq w35.heap.size), (116, iv ((ps.getD k Pxy.z).frm)), (117, slAddr kv (((ps.getD k Pxy.z).frm.toNat) * 1)), (118, sv (ks.getD ((ps.getD k Pxy.z).frm.toNat) [])), (119, .func (.func 64) #[] #[pq w35.heap.size]), (120, sv (sealH (ks.getD ((ps.getD k Pxy.z).frm.toNat) []) (ps.getD k Pxy.z).content)), (0, _), (6, _), (10, _), (11, _), (99, _), (100, _), (101, _), (102, _), (103, _), (104, _), (105, _), (19, _), (18, _), (106, _), (107, _), (108, _), (109, _), (110, _), (111, _)] [{ target := .collected D, args := #[] }] a := Z
   refine ab <| aP (k := 15) 17 [16] (by kernel_rfl) (by kernel_rfl) (by kernel_rfl) ?_
   refine wly Z (mn rfl rfl) fun a Z => wlv Z (au rfl rfl) fun a Z => ab <| bd (by kernel_rfl) ?_
   refine hK35 _ _ ?_
   replace Z : Fr 142 [(0, _), (6, _), (10, _), (11, _), (99, _), (100, _), (101, _), (18, _), (122, _)] [{ target := .collected D, args := #[] }] a := Z.pick [0, 6, 10, 11, 99, 100, 101, 18, 122]
   replace Y : St No w0 [_, _, _, _, _, _, _] w42 := Y.mask [false, true, true, true, true, true, true, true]
   refine aB Z rfl (fun hc15 => ?_) (fun hc15 => ?_)
   ·rw [hc15] at Z
    try simp only [qz] at hc15
    refine aa fun K37 hK37 => wlm Z rfl fun a Z => ap 3 Z Y rfl rfl rfl (Tryz.sizeOf3 _) rfl (lb rfl) (ds := [iv 6]) rfl rfl ?_
    clear Z Y
    intro a w43 Z Y
    refine ap 4 Z Y rfl rfl rfl (Tryz.sizeOf3 _) rfl (lb rfl) (ds := [iv (k : Int)]) rfl rfl ?_
    clear Z Y
    intro a w44 Z Y
    refine ab (hK37 _ _ <| aq ?_)
    have hD := Y.get (k := 0) rfl
    replace Y := Y.unmark (i := 0) (o' := .deferred none) rfl
    replace Y : St No w0 [blk w0.heap.size [iv x.signer, iv x.holder, iv x.rf, iv x.rt, iv x.carrier, iv x.serial, iv x.sf, iv x.st, sv x.sig] 30, blk w1.heap.size [lv] 31, blk w2.heap.size [iv 6] 3, blk w3.heap.size [iv (k : Int)] 3, blk bh [iv x.holder] 3, blk bl [lv] 31] _ := Y
    refine ch Z hD Tryz.results15 (aE rfl (bI (Y.get (k := 2) rfl) (Tryz.isAgg3 _)) (aE rfl (bI (Y.get (k := 3) rfl) (Tryz.isAgg3 _)) ag)) ?_
    exact ⟨by rw [ej hwp hch hsc (by rw [hsb]; first | exact jK hkx hp0.1 (by omega) | exact jv hkx hp0.1 (by omega) hc15)]; rfl, Y.ext⟩
   rw [hc15] at Z
   try simp only [qz] at hc15
   refine ay <| hK33 _ _ <| ar <| wlv Z (aM rfl rfl ⟨by omega, by omega⟩) fun a Z => wlm Z rfl fun a Z => ab ?_
   refine ⟨_, ?_, k + 1, rfl, (by omega), (by rw [hsb]; exact mb hkx hp0.1 (by omega) hc15), Z.pick [0, 6, 10, 11, 99, 100, 101], Y.select [0, 1, 2, 3, 4, 5, 6] (by decide)⟩
   omega
  rw [hc13] at Z
  try simp only [qz] at hc13
  have hke : k = ps.length := by omega
  rw [hke, List.drop_length] at hsb
  refine aS <| hK29 _ _ <| ai fun K38 hK38 => ai fun K39 hK39 => aK (by kernel_rfl) (aO (by kernel_rfl) fun w45 hxz => ?_)
  replace Y := Y.grow hxz
  refine aV (k := 0) 4 [1, 3] Z (by kernel_rfl) (by kernel_rfl) (by kernel_rfl) (by rfl) ?_
  replace Z : Fr 142 [(0, _), (6, _), (10, _), (11, _), (99, _), (100, _), (101, _), (102, _)] [{ target := .collected D, args := #[] }] a := Z.pick [0, 6, 10, 11, 99, 100, 101, 102]
  refine aL [] (fun i => match i with | _ => fun _ _ => False) 4 [[], [0], [], [2]] [pq w0.heap.size, iv x.signer, kv, iv (ks.length : Int)] Z Y (by kernel_rfl) (by kernel_rfl) (by kernel_rfl) ?_ ?_ ?_
  ·intro i hi hiq
   match i, hi, hiq with
   | 0, _, _ =>
    intro w Y
    exact OpV.g (ac (v := pq w0.heap.size) rfl (by kernel_rfl))
   | 1, _, _ =>
    intro w Y
    exact OpV.g (ae (Y.get (k := 1) rfl) rfl (Tryz.isAgg3 _) rfl)
   | 2, _, _ =>
    intro w Y
    exact OpV.g (aj rfl)
   | 3, _, _ =>
    intro w Y
    exact OpV.g ((aY (sT := 32) (Y.arg hkv) rfl rfl (Tryz.runUnderlying32 _)).asi (m' := (ks.length : Int)) (by rw [List.length_map]))
  ·intro i hi
   exact absurd hi (by simp)
  clear Z Y
  intro  a w46 Z Y
  replace Z : Fr 142 [(125, pq w0.heap.size), (126, iv x.signer), (127, kv), (128, iv (ks.length : Int)), (0, _), (6, _), (10, _), (11, _), (99, _), (100, _), (101, _), (102, _)] [{ target := .collected D, args := #[] }] a := Z
  refine ab <| aP (k := 4) 6 [5] (by kernel_rfl) (by kernel_rfl) (by kernel_rfl) ?_
  refine wlv Z (v_ge rfl rfl) fun a Z => wlm Z rfl fun a Z => ab ?_
  rcases Bool.eq_false_or_eq_true (decide ((ks.length : Int) ≤ x.signer)) with hb16 | hb16
  ·rw [hb16] at Z
   try simp only [qz] at hb16
   replace Z : Fr 142 [(0, kv), (6, pq w0.heap.size), (10, pq w2.heap.size), (11, pq w3.heap.size), (99, lv), (100, iv (ps.length : Int)), (101, iv (k : Int)), (102, .bool false), (125, pq w0.heap.size), (126, iv x.signer), (127, kv), (128, iv (ks.length : Int)), (129, .bool true), (130, .bool true)] [{ target := .collected D, args := #[] }] a := Z.pick [0, 6, 10, 11, 99, 100, 101, 102, 125, 126, 127, 128, 129, 130]
   refine fg (k := 6) 15 [7, 14] Z (by kernel_rfl) (by kernel_rfl) (by kernel_rfl) (by rfl) fun a Z => ?_
   replace Z : Fr 142 [(131, undef), (132, undef), (133, undef), (134, undef), (135, undef), (136, undef), (137, undef), (138, undef), (139, undef), (0, kv), (6, pq w0.heap.size), (10, pq w2.heap.size), (11, pq w3.heap.size), (99, lv), (100, iv (ps.length : Int)), (101, iv (k : Int)), (102, .bool false), (125, pq w0.heap.size), (126, iv x.signer), (127, kv), (128, iv (ks.length : Int)), (129, .bool true), (130, .bool true)] [{ target := .collected D, args := #[] }] a := Z
   refine aP (k := 15) 17 [16] (by kernel_rfl) (by kernel_rfl) (by kernel_rfl) ?_
   refine wln Z fun a Z => wlv Z (aw rfl rfl) fun a Z => ab <| bd (by kernel_rfl) ?_
   refine hK39 _ _ ?_
   replace Z : Fr 142 [(10, _), (11, _), (141, _)] [{ target := .collected D, args := #[] }] a := Z.pick [10, 11, 141]
   refine aX Z rfl ?_
   refine aa fun K40 hK40 => ap 3 Z Y rfl rfl rfl (Tryz.sizeOf3 _) rfl (lb rfl) (ds := [iv 6]) rfl rfl ?_
   clear Z Y
   intro a w47 Z Y
   refine ap 4 Z Y rfl rfl rfl (Tryz.sizeOf3 _) rfl (lb rfl) (ds := [iv (-1)]) rfl rfl ?_
   clear Z Y
   intro a w48 Z Y
   refine ab (hK40 _ _ <| aq ?_)
   have hD := Y.get (k := 0) rfl
   replace Y := Y.unmark (i := 0) (o' := .deferred none) rfl
   replace Y : St No w0 [blk w0.heap.size [iv x.signer, iv x.holder, iv x.rf, iv x.rt, iv x.carrier, iv x.serial, iv x.sf, iv x.st, sv x.sig] 30, blk w1.heap.size [lv] 31, blk w2.heap.size [iv 6] 3, blk w3.heap.size [iv (-1)] 3, blk bh [iv x.holder] 3, blk bl [lv] 31] _ := Y
   refine ch Z hD Tryz.results15 (aE rfl (bI (Y.get (k := 2) rfl) (Tryz.isAgg3 _)) (aE rfl (bI (Y.get (k := 3) rfl) (Tryz.isAgg3 _)) ag)) ?_
   exact ⟨by rw [ej hwp hch hsc (by rw [hsb]; first | exact g9 (Wsh.ok_signer hxo).1 (by omega) | exact g6 (Wsh.ok_signer hxo).1 (by omega) hb16)]; rfl, Y.ext⟩
  rw [hb16] at Z
  try simp only [qz] at hb16
  refine aV (k := 6) 15 [7, 14] Z (by kernel_rfl) (by kernel_rfl) (by kernel_rfl) (by rfl) ?_
  replace Z : Fr 142 [(0, _), (6, _), (10, _), (11, _), (99, _), (100, _), (101, _), (102, _), (125, _), (126, _), (127, _), (128, _), (129, _), (130, _)] [{ target := .collected D, args := #[] }] a := Z.pick [0, 6, 10, 11, 99, 100, 101, 102, 125, 126, 127, 128, 129, 130]
  refine aL [] (fun i => match i with | _ => fun _ _ => False) 9 [[], [0], [], [], [3], [2, 4], [5], [], [6, 7]] [.pointer (some ⟨w0.heap.size, 8, none⟩), sv x.sig, kv, pq w0.heap.size, iv x.signer, slAddr kv (x.signer.toNat * 1), sv (ks.getD x.signer.toNat []), .func (.func 66) #[] #[pq w0.heap.size], sv (sealH (ks.getD x.signer.toNat []) x.content)] Z Y (by kernel_rfl) (by kernel_rfl) (by kernel_rfl) ?_ ?_ ?_
  ·intro i hi hiq
   match i, hi, hiq with
   | 0, _, _ =>
    intro w Y
    exact OpV.g (ac (v := .pointer (some ⟨w0.heap.size, 8, none⟩)) rfl (by kernel_rfl))
   | 1, _, _ =>
    intro w Y
    exact OpV.g (ae (Y.get (k := 1) rfl) rfl (Tryz.isAgg9 _) rfl)
   | 2, _, _ =>
    intro w Y
    exact OpV.g (aj rfl)
   | 3, _, _ =>
    intro w Y
    exact OpV.g (ac (v := pq w0.heap.size) rfl (by kernel_rfl))
   | 4, _, _ =>
    intro w Y
    exact OpV.g (ae (Y.get (k := 1) rfl) rfl (Tryz.isAgg3 _) rfl)
   | 5, _, _ =>
    intro w Y
    exact OpV.g ((am (i := x.signer) (sT := 32) (Y.arg hkv) rfl rfl (Tryz.runUnderlying32 _) (Tryz.sizeOf9 _) (by omega) (by rw [List.length_map]; omega)).as (v' := slAddr kv (x.signer.toNat * 1)) (by rw [show (x.signer).toNat = x.signer.toNat from by omega]))
   | 6, _, _ =>
    intro w Y
    exact OpV.g (aC (u := sv (ks.getD x.signer.toNat [])) (i := x.signer.toNat) (j := 0) (Y.arg hkv) (by rw [List.length_map]; omega) rfl (Tryz.isAgg9 _) (by rw [ca ([] : By)]; rfl))
   | 7, _, _ =>
    intro w Y
    exact OpV.g (co rfl rfl)
   | 8, _, _ =>
    intro w Y
    exact aU Tryz.call63 rfl (ib (ks.getD x.signer.toNat []) x.content 66 w0.heap.size [iv x.signer, iv x.holder, iv x.rf, iv x.rt, iv x.carrier, iv x.serial, iv x.sf, iv x.st, sv x.sig] 30 _ Tryz.call66 (fun b v ws h => nA b w0.heap.size v x ws (Wsh.smalls_of hxo) h) kY (by have := hk32 _ (cd (d := []) (by omega : x.signer.toNat < ks.length)); omega) (Nat.le_trans (x.content_len) (by decide)) (Y.keepb hk0) (Y.get (k := 1) rfl) (jO Y (i := 1) rfl hk0))
  ·intro i hi
   exact absurd hi (by simp)
  clear Z Y
  intro  a w49 Z Y
  replace Z : Fr 142 [(131, .pointer (some ⟨w0.heap.size, 8, none⟩)), (132, sv x.sig), (133, kv), (134, pq w0.heap.size), (135, iv x.signer), (136, slAddr kv (x.signer.toNat * 1)), (137, sv (ks.getD x.signer.toNat [])), (138, .func (.func 66) #[] #[pq w0.heap.size]), (139, sv (sealH (ks.getD x.signer.toNat []) x.content)), (0, _), (6, _), (10, _), (11, _), (99, _), (100, _), (101, _), (102, _), (125, _), (126, _), (127, _), (128, _), (129, _), (130, _)] [{ target := .collected D, args := #[] }] a := Z
  refine ab <| aP (k := 15) 17 [16] (by kernel_rfl) (by kernel_rfl) (by kernel_rfl) ?_
  refine wly Z (mn rfl rfl) fun a Z => wlv Z (au rfl rfl) fun a Z => ab <| bd (by kernel_rfl) ?_
  refine hK39 _ _ ?_
  replace Z : Fr 142 [(10, _), (11, _), (141, _)] [{ target := .collected D, args := #[] }] a := Z.pick [10, 11, 141]
  refine aB Z rfl (fun hc17 => ?_) (fun hc17 => ?_)
  ·rw [hc17] at Z
   try simp only [qz] at hc17
   refine aa fun K41 hK41 => ap 3 Z Y rfl rfl rfl (Tryz.sizeOf3 _) rfl (lb rfl) (ds := [iv 6]) rfl rfl ?_
   clear Z Y
   intro a w50 Z Y
   refine ap 4 Z Y rfl rfl rfl (Tryz.sizeOf3 _) rfl (lb rfl) (ds := [iv (-1)]) rfl rfl ?_
   clear Z Y
   intro a w51 Z Y
   refine ab (hK41 _ _ <| aq ?_)
   have hD := Y.get (k := 0) rfl
   replace Y := Y.unmark (i := 0) (o' := .deferred none) rfl
   replace Y : St No w0 [blk w0.heap.size [iv x.signer, iv x.holder, iv x.rf, iv x.rt, iv x.carrier, iv x.serial, iv x.sf, iv x.st, sv x.sig] 30, blk w1.heap.size [lv] 31, blk w2.heap.size [iv 6] 3, blk w3.heap.size [iv (-1)] 3, blk bh [iv x.holder] 3, blk bl [lv] 31] _ := Y
   refine ch Z hD Tryz.results15 (aE rfl (bI (Y.get (k := 2) rfl) (Tryz.isAgg3 _)) (aE rfl (bI (Y.get (k := 3) rfl) (Tryz.isAgg3 _)) ag)) ?_
   exact ⟨by rw [ej hwp hch hsc (by rw [hsb]; first | exact g9 (Wsh.ok_signer hxo).1 (by omega) | exact g6 (Wsh.ok_signer hxo).1 (by omega) hc17)]; rfl, Y.ext⟩
  rw [hc17] at Z
  try simp only [qz] at hc17
  refine ay <| hK38 _ _ <| aa fun K42 hK42 => ap 3 Z Y rfl rfl rfl (Tryz.sizeOf3 _) rfl (lb rfl) (ds := [iv 0]) rfl rfl ?_
  clear Z Y
  intro a w52 Z Y
  refine ap 4 Z Y rfl rfl rfl (Tryz.sizeOf3 _) rfl (lb rfl) (ds := [iv (-1)]) rfl rfl ?_
  clear Z Y
  intro a w53 Z Y
  refine ab (hK42 _ _ <| aq ?_)
  have hD := Y.get (k := 0) rfl
  replace Y := Y.unmark (i := 0) (o' := .deferred none) rfl
  replace Y : St No w0 [blk w0.heap.size [iv x.signer, iv x.holder, iv x.rf, iv x.rt, iv x.carrier, iv x.serial, iv x.sf, iv x.st, sv x.sig] 30, blk w1.heap.size [lv] 31, blk w2.heap.size [iv 0] 3, blk w3.heap.size [iv (-1)] 3, blk bh [iv x.holder] 3, blk bl [lv] 31] _ := Y
  refine ch Z hD Tryz.results15 (aE rfl (bI (Y.get (k := 2) rfl) (Tryz.isAgg3 _)) (aE rfl (bI (Y.get (k := 3) rfl) (Tryz.isAgg3 _)) ag)) ?_
  exact ⟨by rw [gP hwp hch hsc (by rw [hsb]; exact mc (Wsh.ok_signer hxo).1 (by omega) hc17)]; rfl, Y.ext⟩
 ·rintro D _ pre _ _ a w54 rfl ⟨rfl, i, hci, rfl⟩ Y Z
  replace Z : Fr 142 [(0, kv), (6, pq w0.heap.size), (7, pq w1.heap.size), (10, pq w2.heap.size), (11, pq w3.heap.size), (62, .bool false), (63, .pointer (some ⟨w0.heap.size, 1, none⟩)), (64, iv x.holder), (65, lv), (66, .func (.func 118) #[] #[pq bh, pq bl])] [{ target := .collected D, args := #[] }] a := Z
  replace Y : St No w0 [obj D (.deferred (some [])), blk w0.heap.size [iv x.signer, iv x.holder, iv x.rf, iv x.rt, iv x.carrier, iv x.serial, iv x.sf, iv x.st, sv x.sig] 30, blk w1.heap.size [lv] 31, blk w2.heap.size [iv 4] 3, blk w3.heap.size [iv i] 3, blk bh [iv x.holder] 3, blk bl [lv] 31] w54 := Y
  refine aq ?_
  have hD := Y.get (k := 0) rfl
  replace Y := Y.unmark (i := 0) (o' := .deferred none) rfl
  replace Y : St No w0 [blk w0.heap.size [iv x.signer, iv x.holder, iv x.rf, iv x.rt, iv x.carrier, iv x.serial, iv x.sf, iv x.st, sv x.sig] 30, blk w1.heap.size [lv] 31, blk w2.heap.size [iv 4] 3, blk w3.heap.size [iv i] 3, blk bh [iv x.holder] 3, blk bl [lv] 31] _ := Y
  refine ch Z hD Tryz.results15 (aE rfl (bI (Y.get (k := 2) rfl) (Tryz.isAgg3 _)) (aE rfl (bI (Y.get (k := 3) rfl) (Tryz.isAgg3 _)) ag)) ?_
  exact ⟨by rw [ip hwp hci]; rfl, Y.ext⟩
end Go.Proofs.YtmmfieceinmloaaGreatDoor
namespace Go.PW
open Go.RowKit
set_option linter.unusedVariables false
end Go.PW
namespace Go.Proofs.YtmmfieceinmloaaGreatDoor
open Go.RowKit Go.PW
set_option linter.unusedVariables false
set_option linter.unusedSimpArgs false
set_option maxRecDepth 4000
theorem eB (kv lv : Value) (ks : List By) (x : Wsh) (ps : List Pxy) (number t : Int) (w0 : World) (hkv : SlAt w0 kv 1 (ks.map fun s => [sv s])) (hlv : SlAt w0 lv 7 (ps.map Pxy.cells)) (hk0 : (blk 0 (kOf.map wv) 239).ok w0) :
  Ret Tryz.prog 17 #[kv, .agg #[iv x.signer, iv x.holder, iv x.rf, iv x.rt, iv x.carrier, iv x.serial, iv x.sf, iv x.st, sv x.sig], lv, iv number, iv t] w0 fun v w => v = .bool (validH ks x ps number t) ∧ Ext No w0 w := by
 refine aD Tryz.func17 rfl Tryz.ntmps17 (lb rfl) fun a Z => ?_
 replace Z : Fr 24 [(0, _), (1, _), (2, _), (3, _), (4, _)] [] a := Z
 replace Y : St No w0 [] w0 := St.init w0
 refine aa fun K1 hK1 => aN Z Y (by decide) rfl (cs := [iv x.signer, iv x.holder, iv x.rf, iv x.rt, iv x.carrier, iv x.serial, iv x.sf, iv x.st, sv x.sig]) rfl ?_
 clear Z Y
 intro a w1 Z Y
 refine wla Z rfl fun a Z => ab (hK1 _ _ <| aa fun K2 hK2 => ?_)
 refine wlm Z rfl fun a Z => wlv Z (ao (Y.get (k := 0) rfl) rfl (Tryz.isAgg30 _) (Tryz.sizeOf30 _)) fun a Z => wlm Z rfl fun a Z => wlm Z rfl fun a Z => wlm Z rfl fun a Z => az Z Y (by decide) Tryz.call15 rfl (ow kv lv ks x ps number t _ (Y.arg hkv) (Y.arg hlv) (Y.keepb hk0)) ?_
 clear Z Y
 intro a w2 Z Y
 refine wlm Z rfl fun a Z => wlv Z (aA rfl rfl) fun a Z => wlv Z (aA rfl rfl) fun a Z => wla Z rfl fun a Z => wla Z rfl fun a Z => ab (hK2 _ _ ?_)
 replace Z : Fr 24 [(10, _), (11, _)] [] a := Z.pick [10, 11]
 replace Y : St No w0 [] w2 := Y.mask [false]
 refine aa fun K3 hK3 => wlm Z rfl fun a Z => wlv Z (v_eq rfl rfl) fun a Z => wla Z rfl fun a Z => ab (hK3 _ _ <| aq ?_)
 refine ak Z Tryz.results17 (ah rfl ag) ?_
 exact ⟨by rfl, Y.ext⟩
theorem g5 (key c : By) : (sealH key c).length = 32 := by unfold sealH nodeH; exact dW _
theorem take_one {l : By} {k : Nat} (h : k < l.length) : l.take (k + 1) = l.take k ++ [l.getD k 0] := by
 rw [List.take_add_one, List.getElem?_eq_getElem h, List.getD_eq_getElem?_getD, List.getElem?_eq_getElem h]; rfl
end Go.Proofs.YtmmfieceinmloaaGreatDoor
namespace Go.Proofs.YtmmfieceinmloaaGreatDoor
open Go.RowKit Go.PW
set_option linter.unusedVariables false
set_option linter.unusedSimpArgs false
set_option maxRecDepth 4000
theorem fb (x : Wsh) : x.content.length ≤ 81 := eo _
end Go.Proofs.YtmmfieceinmloaaGreatDoor
namespace Go.Proofs.YtmmfieceinmloaaGreatDoor
open Go.RowKit Go.PW
set_option linter.unusedVariables false
set_option linter.unusedSimpArgs false
set_option maxRecDepth 4000
end Go.Proofs.YtmmfieceinmloaaGreatDoor
namespace Go.Proofs.YtmmfieceinmloaaGreatDoor
open Go.RowKit Go.PW
set_option linter.unusedVariables false
set_option linter.unusedSimpArgs false
set_option maxRecDepth 4000
end Go.Proofs.YtmmfieceinmloaaGreatDoor
namespace Go.Proofs.YtmmfieceinmloaaGreatDoor
open Go.RowKit Go.PW
set_option linter.unusedVariables false
set_option linter.unusedSimpArgs false
set_option maxRecDepth 4000
end Go.Proofs.YtmmfieceinmloaaGreatDoor
namespace Go.Proofs.YtmmfieceinmloaaGreatDoor
open Go.RowKit Go.PW
set_option linter.unusedVariables false
set_option linter.unusedSimpArgs false
set_option maxRecDepth 4000
theorem mU {f : FuncId} {args : Array Value} {w : World} {b c : Bool} (h : b = c) (hr : Ret Tryz.prog f args w fun v w' => v = .bool b ∧ Ext No w w') : Ret Tryz.prog f args w fun v w' => v = .bool c ∧ Ext No w w' := by subst h; exact hr
theorem j8 {kv lv : Value} {ks : List By} {x : Wsh} {ps : List Pxy} {n t : Int} {b : Bool} {w0 : World} (hkv : SlAt w0 kv 1 (ks.map fun s => [sv s])) (hlv : SlAt w0 lv 7 (ps.map Pxy.cells)) (hk0 : (blk 0 (kOf.map wv) 239).ok w0) (h : validH ks x ps n t = b) :
  Ret Tryz.prog 17 #[kv, .agg #[iv x.signer, iv x.holder, iv x.rf, iv x.rt, iv x.carrier, iv x.serial, iv x.sf, iv x.st, sv x.sig], lv, iv n, iv t] w0 fun v w => v = .bool b ∧ Ext No w0 w := by
 have := eB kv lv ks x ps n t w0 hkv hlv hk0
 rw [h] at this
 exact this
end Go.Proofs.YtmmfieceinmloaaGreatDoor
namespace Go.Proofs.YtmmfieceinmloaaGreatDoor
open Go.RowKit Go.PW
set_option linter.unusedVariables false
set_option linter.unusedSimpArgs false
set_option maxRecDepth 4000
end Go.Proofs.YtmmfieceinmloaaGreatDoor
namespace Go.Proofs.YtmmfieceinmloaaGreatDoor
open Go.RowKit Go.PW
set_option linter.unusedVariables false
set_option linter.unusedSimpArgs false
set_option maxRecDepth 4000
section
variable {ks : List By} {x : Wsh} {ps : List Pxy} {n t : Int}
theorem eJ : validH ks x ps n t = true ↔ (¬ formB ks x ps ∧ badIdx ps 0 = none ∧ inB t x.sf (x.st - 1) = true ∧ inB n x.rf (x.rt - 1) = true ∧ bT x.signer x.holder ps 0 = none ∧ ba x none ps 0 = none ∧ bG ks x ps 0 = none) := by
 unfold validH
 rw [decide_eq_true_eq]
 constructor
 ·intro h
  by_cases h0 : formB ks x ps
  ·rw [el h0] at h; cases h
  ·cases hb : badIdx ps 0 with
   | some i => rw [k9 h0 (by rw [i4, hb]; exact Int.natCast_nonneg i)] at h; cases h
   | none =>
    cases ht : inB t x.sf (x.st - 1) with
    | false => rw [gz h0 hb ht] at h; cases h
    | true =>
     cases hn : inB n x.rf (x.rt - 1) with
     | false => rw [iN h0 hb ht hn] at h; cases h
     | true =>
      have hp : whyP ks x ps n t := ⟨h0, hb, ht, hn⟩
      cases hc : bT x.signer x.holder ps 0 with
      | some i => rw [ip hp hc] at h; cases h
      | none =>
       cases hs : ba x none ps 0 with
       | some i => rw [iy hp hc hs] at h; cases h
       | none =>
        cases hl : bG ks x ps 0 with
        | some i => rw [ej hp hc hs hl] at h; cases h
        | none => exact ⟨h0, rfl, rfl, rfl, rfl, rfl, rfl⟩
 ·rintro ⟨h0, hb, ht, hn, hc, hs, hl⟩
  rw [gP ⟨h0, hb, ht, hn⟩ hc hs hl]
theorem iZ {n0 t0 : Int} (h : validH ks x ps n0 t0 = true) (n t : Int) : whyH ks x ps n t = if inB t x.sf (x.st - 1) = false then (2, -1) else if inB n x.rf (x.rt - 1) = false then (3, -1) else (0, -1) := by
 obtain ⟨h0, hb, _, _, hc, hs, hl⟩ := eJ.1 h
 by_cases ht : inB t x.sf (x.st - 1) = false
 ·rw [if_pos ht, gz h0 hb ht]
 ·rw [if_neg ht]
  by_cases hn : inB n x.rf (x.rt - 1) = false
  ·rw [if_pos hn, iN h0 hb (by simpa using ht) hn]
  ·rw [if_neg hn, gP ⟨h0, hb, by simpa using ht, by simpa using hn⟩ hc hs hl]
theorem gq {n0 t0 : Int} (h : validH ks x ps n0 t0 = true) (n t : Int) : validH ks x ps n t = (inB t x.sf (x.st - 1) && inB n x.rf (x.rt - 1)) := by
 unfold validH
 rw [iZ h]
 cases inB t x.sf (x.st - 1) <;> cases inB n x.rf (x.rt - 1) <;> rfl
theorem fq : ∀ {l : List Pxy} {k : Nat}, bG ks x l k = none → (∀ p ∈ l, ∃ key, keyAt ks p.frm = some key ∧ p.sig = sealH key p.content) ∧ ∃ key, keyAt ks x.signer = some key ∧ x.sig = sealH key x.content
 | [], k, h => by
  rw [bG] at h
  split at h
  ·rename_i hc
   cases hq : keyAt ks x.signer with
   | none => rw [hq] at hc; cases hc
   | some key => rw [hq] at hc; exact ⟨by simp, key, rfl, by simpa using hc⟩
  ·cases h
 | p :: l, k, h => by
  rw [bG] at h
  split at h
  ·rename_i hc
   obtain ⟨h1, h2⟩ := fq h
   refine ⟨fun q hq => ?_, h2⟩
   rcases List.mem_cons.1 hq with rfl | hq
   ·cases he : keyAt ks q.frm with
    | none => rw [he] at hc; cases hc
    | some key => rw [he] at hc; exact ⟨key, rfl, by simpa using hc⟩
   ·exact h1 q hq
  ·cases h
theorem fI {h : Int} {key : By} (hk : keyAt keysH h = some key) : 0 ≤ h ∧ h < 10 ∧ key = keyH h := by
 unfold keyAt at hk
 split at hk
 ·cases hk
 ·rename_i h0
  have hl := (List.getElem?_eq_some_iff.1 hk).1
  rw [hP] at hl
  have h1 : h < 10 := by omega
  have := fm (h := h) (by omega) h1
  unfold keyAt at this
  rw [if_neg h0, hk] at this
  exact ⟨by omega, h1, Option.some.inj this⟩
end
def Mk (x : Wsh) (ps : List Pxy) : Prop := validH keysH x ps x.rf x.sf = true
section
variable {x : Wsh} {ps : List Pxy}
theorem Mk.pieces (h : Mk x ps) : ¬ formB keysH x ps ∧ badIdx ps 0 = none ∧ bT x.signer x.holder ps 0 = none ∧ ba x none ps 0 = none ∧ bG keysH x ps 0 = none := by
 obtain ⟨h0, hb, _, _, hc, hs, hl⟩ := eJ.1 h
 exact ⟨h0, hb, hc, hs, hl⟩
theorem Mk.ok (h : Mk x ps) : x.ok = true := by
 have := h.pieces.1
 cases hx : x.ok with
 | true => rfl
 | false => exact absurd (.inr (.inr (.inl hx))) this
theorem Mk.len (h : Mk x ps) : ps.length ≤ 4 := Nat.le_of_not_lt fun hl => h.pieces.1 (.inr (.inr (.inr hl)))
theorem Mk.formed (h : Mk x ps) : f9 x ps = true := by
 unfold f9
 rw [h.ok, h.pieces.2.1, decide_eq_true h.len]; rfl
theorem Mk.sgn (h : Mk x ps) : 0 ≤ x.signer ∧ x.signer < 10 ∧ x.sig = sealH (keyH x.signer) x.content := by
 obtain ⟨key, h1, h2⟩ := (fq h.pieces.2.2.2.2).2
 obtain ⟨h3, h4, rfl⟩ := fI h1
 exact ⟨h3, h4, h2⟩
theorem Mk.each (h : Mk x ps) {p : Pxy} (hp : p ∈ ps) : 0 ≤ p.frm ∧ p.frm < 10 ∧ p.sig = sealH (keyH p.frm) p.content ∧ p.ok = true := by
 obtain ⟨key, h1, h2⟩ := (fq h.pieces.2.2.2.2).1 p hp
 obtain ⟨h3, h4, rfl⟩ := fI h1
 exact ⟨h3, h4, h2, ef h.pieces.2.1 p hp⟩
theorem Mk.same (h : Mk x ps) : x.sealed (keyH x.signer) = x := by
 have := h.sgn.2.2
 unfold Wsh.sealed
 rw [← this]
theorem Mk.xsig (h : Mk x ps) : x.sig.length = 32 := by rw [h.sgn.2.2]; exact g5 _ _
theorem Mk.psig (h : Mk x ps) : ∀ p ∈ ps, p.sig.length = 32 := fun p hp => by rw [(h.each hp).2.2.1]; exact g5 _ _
theorem Mk.enc (h : Mk x ps) : ∃ s, iO x ps = some s := ⟨_, jg.2 ⟨h.formed, h.xsig, h.psig, rfl⟩⟩
theorem Mk.valid (h : Mk x ps) (n t : Int) : validH keysH x ps n t = (inB t x.sf (x.st - 1) && inB n x.rf (x.rt - 1)) := gq h n t
theorem Mk.here (h : Mk x ps) : validH keysH x ps x.rf x.sf = true := h
end
theorem nY (holder r0 r1 s0 s1 carrier serial : Int) (l : List Cin) : Mk (madeW holder r0 r1 s0 s1 carrier serial l) (madeL holder r0 r1 s0 s1 l) := by
 have hb := Wsh.ok_bnd (j9 holder r0 r1 s0 s1 carrier serial l)
 unfold Mk validH
 rw [mP, if_neg, if_neg]
 ·rfl
 ·simp [inB]; omega
 ·simp [inB]; omega
theorem oc {holder r0 r1 s0 s1 carrier serial : Int} {cv : Value} {ys : List Cin} {w0 : World} {x : Wsh} {ps : List Pxy} (hx : madeW holder r0 r1 s0 s1 carrier serial ys = x) (hps : madeL holder r0 r1 s0 s1 ys = ps) (hcv : SlAt w0 cv 5 (ys.map Cin.cells)) (hys : ∀ y ∈ ys, y.wt) (h0 : i64 holder) (h1 : i64 r0) (h2 : i64 r1) (h3 : i64 s0) (h4 : i64 s1) (h5 : i64 carrier) (h6 : i64 serial) :
  Ret Tryz.prog 9 #[.agg #[iv holder, iv r0, iv r1, iv s0, iv s1, iv carrier, iv serial, cv]] w0 (MemR w0 (fun v : Value => .tuple #[.agg #[iv x.signer, iv x.holder, iv x.rf, iv x.rt, iv x.carrier, iv x.serial, iv x.sf, iv x.st, sv x.sig], v]) (fun v => [own v 40 7 (ps.map Pxy.cells)]) (fun _ => True)) := by
 subst hx; subst hps
 exact nf holder r0 r1 s0 s1 carrier serial cv ys w0 hcv hys h0 h1 h2 h3 h4 h5 h6
end Go.Proofs.YtmmfieceinmloaaGreatDoor
namespace Go.Proofs.YtmmfieceinmloaaGreatDoor
open Go.RowKit Go.PW
set_option linter.unusedVariables false
set_option linter.unusedSimpArgs false
set_option maxRecDepth 4000
theorem len2 {α : Type} {l : List α} (h : l.length = 2) : ∃ a0 a1, l = [a0, a1] := by
 match l, h with
 | [a0, a1], _ => exact ⟨_, _, rfl⟩
theorem len5 {α : Type} {l : List α} (h : l.length = 5) : ∃ a0 a1 a2 a3 a4, l = [a0, a1, a2, a3, a4] := by
 match l, h with
 | [a0, a1, a2, a3, a4], _ => exact ⟨_, _, _, _, _, rfl⟩
theorem len8 {α : Type} {l : List α} (h : l.length = 8) : ∃ a0 a1 a2 a3 a4 a5 a6 a7, l = [a0, a1, a2, a3, a4, a5, a6, a7] := by
 match l, h with
 | [a0, a1, a2, a3, a4, a5, a6, a7], _ => exact ⟨_, _, _, _, _, _, _, _, rfl⟩
open Go.ChangeShapes Go.WideShapes Go.ChangeAt
section
variable {H : Type} {enc : TypeId × Value → H} {W : World} {base b0 : Nat} {sp : Nat → Bool} {hd : Bool} {v : Value} {d : DataW H} {ps : List MemPlace} {r : Reach}
theorem kC {n : Int} (h : Go.PW.i64 n) : i64 n := h
theorem lZ {t : TypeId} (ht : Tryz.prog.underlying t = some (.slice 108)) {fuel : Nat} {x : DataW H × List MemPlace} (hok : Cell.okWide Tryz.prog W r b0 t v) (hw : Wt Tryz.prog t x.1) (h : DataW.trod enc Tryz.prog W base sp hd fuel t [v] = some x) :
  ∃ ys : List Cin, SlAt W v 5 (ys.map Cin.cells) ∧ ∀ y ∈ ys, y.wt := by
 obtain ⟨els, h1, h2⟩ := nj 5 ht (by kernel_rfl) (by decide) (of_decide_eq_true (by kernel_rfl)) hok hw h
 exact oe (f := Cin.cells) (q := Cin.wt) h1 fun i hi => by
  obtain ⟨n, y, hy, _⟩ := h2 i hi
  obtain ⟨zs, hz, he, hw⟩ := dM 5 Tryz.underlying108 Tryz.underlying3 (by kernel_rfl) hy (h1.1 _ (List.getElem_mem hi))
  obtain ⟨a0, a1, a2, a3, a4, rfl⟩ := len5 hz
  exact ⟨⟨a0, a1, a2, a3, a4⟩, he, hw a0 (by simp), hw a1 (by simp), hw a2 (by simp), hw a3 (by simp), hw a4 (by simp)⟩
theorem l6 {t : TypeId} (ht : Tryz.prog.underlying t = some (.array 2 3)) (hc : Tryz.prog.cellsOf t = 2) (hval : Value.okWide Tryz.prog W r b0 t v) (hd0 : DataW.Trod enc Tryz.prog W base sp hd t v d ps) : ∃ a b : Int, v = .agg #[iv a, iv b] ∧ i64 a ∧ i64 b := by
 obtain ⟨csA, rfl, hsz, hrow⟩ := ek (by rw [ht]) hval
 obtain ⟨fuel, hf⟩ := hd0
 obtain ⟨a0, a1, hcs⟩ := len2 (l := csA.toList) (by rw [Array.length_toList, hsz, hc])
 obtain rfl : csA = #[a0, a1] := by cases csA; simp at hcs; rw [hcs]
 obtain ⟨zs, hz, he, hw⟩ := dM 2 ht Tryz.underlying3 (by kernel_rfl) hf rfl
 obtain ⟨b0, b1, rfl⟩ := len2 hz
 simp [Value.cells] at he
 obtain ⟨rfl, rfl⟩ := he
 exact ⟨b0, b1, rfl, hw b0 (by simp), hw b1 (by simp)⟩
theorem iR (hval : Value.okWide Tryz.prog W r b0 25 v) (hw : Wt Tryz.prog 25 d) (hd0 : DataW.Trod enc Tryz.prog W base sp hd 25 v d ps) :
  ∃ (holder r0 r1 s0 s1 carrier serial : Int) (cv : Value) (ys : List Cin), v = .agg #[iv holder, iv r0, iv r1, iv s0, iv s1, iv carrier, iv serial, cv] ∧ SlAt W cv 5 (ys.map Cin.cells) ∧ (∀ y ∈ ys, y.wt) ∧ i64 holder ∧ i64 r0 ∧ i64 r1 ∧ i64 s0 ∧ i64 s1 ∧ i64 carrier ∧ i64 serial := by
 obtain ⟨csA, rfl, hsz, hrow⟩ := ek (by kernel_rfl) hval
 obtain ⟨fuel, hf⟩ := hd0
 have hc : Tryz.prog.cellsOf 25 = 8 := by kernel_rfl
 obtain ⟨a0, a1, a2, a3, a4, a5, a6, a7, hcs⟩ := len8 (l := csA.toList) (by rw [Array.length_toList, hsz, hc])
 obtain rfl : csA = #[a0, a1, a2, a3, a4, a5, a6, a7] := by cases csA; simp at hcs; rw [hcs]
 obtain ⟨n0, z0, h0, w0⟩ := cX 0 _ Tryz.underlying25 hw hf rfl
 obtain ⟨n1, z1, h1, w1⟩ := cX 1 _ Tryz.underlying25 hw hf rfl
 obtain ⟨n2, z2, h2, w2⟩ := cX 2 _ Tryz.underlying25 hw hf rfl
 obtain ⟨n3, z3, h3, w3⟩ := cX 3 _ Tryz.underlying25 hw hf rfl
 obtain ⟨n4, z4, h4, w4⟩ := cX 4 _ Tryz.underlying25 hw hf rfl
 obtain ⟨n5, z5, h5, w5⟩ := cX 5 _ Tryz.underlying25 hw hf rfl
 have c1 : Tryz.prog.cellsOf 3 = 1 := by kernel_rfl
 have c2 : Tryz.prog.cellsOf 22 = 2 := by kernel_rfl
 have c5 : Tryz.prog.cellsOf 23 = 1 := by kernel_rfl
 simp only [Value.cells, c1] at h0 h3 h4
 simp only [Value.cells, c2] at h1 h2
 simp only [Value.cells, c5] at h5
 obtain ⟨m0, e0, g0⟩ := fw Tryz.underlying3 h0
 obtain ⟨m3, e3, g3⟩ := fw Tryz.underlying3 h3
 obtain ⟨m4, e4, g4⟩ := fw Tryz.underlying3 h4
 obtain ⟨q1, hq1, e1, y1⟩ := dM 2 Tryz.underlying22 Tryz.underlying3 (by kernel_rfl) h1 rfl
 obtain ⟨q2, hq2, e2, y2⟩ := dM 2 Tryz.underlying22 Tryz.underlying3 (by kernel_rfl) h2 rfl
 obtain ⟨b0_, b1, rfl⟩ := len2 hq1
 obtain ⟨c0_, c1_, rfl⟩ := len2 hq2
 simp [c1] at e0 e3 e4
 simp at e1 e2
 obtain ⟨rfl, rfl⟩ := e1
 obtain ⟨rfl, rfl⟩ := e2
 subst e0; subst e3; subst e4
 have hok : Cell.okWide Tryz.prog W r b0 23 a7 := mY (i := 7) (ts := [3, 3, 3, 3, 3, 3, 3, 23]) (by kernel_rfl) rfl hrow rfl
 obtain ⟨ys, k1, k2⟩ := lZ Tryz.underlying23 hok w5 h5
 exact ⟨m0, b0_, b1, c0_, c1_, m3, m4, a7, ys, rfl, k1, k2, g0, y1 b0_ (by simp), y1 b1 (by simp), y2 c0_ (by simp), y2 c1_ (by simp), g3, g4⟩
end
end Go.Proofs.YtmmfieceinmloaaGreatDoor
namespace Go.PW
open Go.RowKit Go.ChangeShapes Go.WideShapes Go.ChangeAt
set_option linter.unusedVariables false
set_option linter.unusedSimpArgs false
section
variable {H : Type} {enc : TypeId × Value → H}
theorem jA {a : Assume} {C : Checked} {os : Os} {f : FuncId} {fn : Func} {s : ChangeSpec} {conds : List PathCond} {apart fresh handsOn again : Bool} {X : World → Array Value → Prop}
  (hX : ∀ (w w' : World) (args : Array Value), w.heap = w'.heap → X w args → X w' args)
  (own : ownKnob C.prog.godebug = none) (started : os.Started) (noInit : C.prog.inits.idxOf? f = none) (hfn : C.prog.funcs[f]? = some fn)
  (witness : ∃ (w : World) (tape : Tape) (i : Input), w.os = os ∧ (w.forCall tape i).Shaped C.prog ∧ i.vars = [] ∧ Input.okWide C.prog (w.forCall tape i) .any w.heap.size f i ∧
   ((s.pre enc C.prog fn conds apart (w.forCall tape i).memory i.args ∧ X (w.forCall tape i).memory i.args) ∧ sizedMet enc C.prog fn (OpenSpec.ofChange s) apart (w.forCall tape i).memory i.args) ∧ a.holds C.prog (lone (Frame.enter C.prog f i.args .normal) [] (w.forCall tape i)))
  (contract : ∀ (W : World) (base : Nat) (args : Array Value) (ds gs : List (DataW H)) (before : List MemPlace),
   (∀ (j : Nat) t v, fn.params[j]? = some t → args[j]? = some v → Value.okWide C.prog W .any base t v) →
   DataW.Whole enc C.prog fn.params.toList s.vars apart W args.toList ds gs before →
   conds.all (PathCond.test C.prog ⟨fn.params.toList, ds, s.plain.varTypes C.prog, gs⟩) = true →
   (DataW.weightsEach C.prog (fn.params.toList ++ s.plain.varTypes C.prog) (ds ++ gs)).all (· ≤ reachBytes) = true → X W args → W.ShapedOpen C.prog →
   Calls C.prog f args W fun e W' => ∃ v, e = .returned v ∧ s.post enc C.prog fn apart fresh handsOn again W args v W') :
  ReturnsInHanded a C os f .any (fun w args => (s.pre enc C.prog fn conds apart w args ∧ X w args) ∧ sizedMet enc C.prog fn (OpenSpec.ofChange s) apart w args) (s.post enc C.prog fn apart fresh handsOn again) := by
 refine returnsInHanded_of_calls own started noInit witness ?_
 intro w tape i _ hsh _ hok hpre _
 obtain ⟨_, _, _, fn', hfn', _, _, _, _, hval⟩ := hok
 have e : fn' = fn := Option.some.inj (hfn'.symm.trans hfn)
 subst e
 obtain ⟨⟨⟨ds, gs, before, hw, hc⟩, hx⟩, hz⟩ := hpre
 have hw' := DataW.Whole.of_heap (w' := w.forCall tape i) (by rfl) hw
 refine (contract (w.forCall tape i) w.heap.size i.args ds gs before hval hw' hc (hz.weights hw) (hX _ _ _ (by rfl) hx) hsh).mono fun e W' ⟨v, he, hp⟩ => ?_
 subst he
 exact ChangeSpec.post_blind hp
end
section
variable {H : Type} {enc : TypeId × Value → H} {P : Program} {w : World} {base : Nat} {spare : Nat → Bool} {held : Bool} {fuel : Nat} {t e : TypeId} {cs : List Value} {x : DataW H × List MemPlace}
theorem ku {n : Nat} {ks : List Int} (ht : P.underlying t = some (.array n e)) (he : P.underlying e = some (.int .u32)) (hc : P.cellsOf e = 1) (hct : P.cellsOf t = n) (h : DataW.trod enc P w base spare held fuel t cs = some x) (hx : x.1 = .agg (ks.map fun k => .lit (.int .u32 k))) : cs = ks.map (fun k => .int .u32 k) := by
 obtain ⟨xs, m, rfl, rfl, hlen, hxs, hel⟩ := DataW.trod_array ht h
 simp only [DataW.agg.injEq] at hx
 have hl : ks.length = n := by
  have h := congrArg List.length hx
  rw [List.length_map, List.length_map] at h
  omega
 refine List.ext_getElem (by rw [hlen, hct, List.length_map, hl]) fun i h1 h2 => ?_
 have hi : i < n := by rw [← hct, ← hlen]; exact h1
 have hi2 : i < ks.length := by omega
 have h3 := hel i hi
 rw [hc, Nat.mul_one, List.getElem?_eq_getElem (by omega)] at h3
 obtain ⟨k, e1, e2, _⟩ := DataW.trod_int he h3
 rw [List.drop_eq_getElem_cons h1, List.take_succ_cons] at e1
 injection e1 with e1 _
 have h4 : (xs.map (·.1))[i]? = (ks.map fun k => DataW.lit (H := H) (.int .u32 k))[i]? := by rw [hx]
 rw [List.getElem?_map, List.getElem?_map, List.getElem?_eq_getElem (by omega), List.getElem?_eq_getElem hi2, Option.map_some, Option.map_some, e2] at h4
 simp only [Option.some.injEq, DataW.lit.injEq, Lit.int.injEq, true_and] at h4
 rw [e1, List.getElem_map, h4]
end
end Go.PW
namespace Go.Proofs.YtmmfieceinmloaaGreatDoor
open Go.RowKit Go.PW
set_option linter.unusedVariables false
set_option linter.unusedSimpArgs false
set_option maxRecDepth 4000
open Go.ChangeShapes Go.WideShapes Go.ChangeAt Go.RowKit Go.PW
theorem ownD : ownKnob Tryz.prog.godebug = none := by kernel_rfl
theorem dJ : laidOutB Tryz.prog = true := by kernel_rfl
def laid1 : List (String × DataW Unit) := [("dialtone/digest.round", Rows.laid_dialtone_digest_round)]
theorem gRound : Tryz.prog.globalNamed "dialtone/digest.round" = some 0 := by kernel_rfl
theorem tRound : (Tryz.prog.globals[0]?).map (·.type) = some 239 := by kernel_rfl
theorem nT : (Rows.laid_dialtone_digest_round : DataW Unit) = .agg ((kOf.map fun k => (k.toNat : Int)).map fun k => .lit (.int .u32 k)) := by kernel_rfl
theorem m1 (os : Os) (args : Array Value) : laidMetH Tryz.prog laid1 ((World.doorLaid Tryz.prog 4000 os).forCall (fun _ _ => 0) ⟨#[], args, []⟩).memory :=
 laidMetH_of_parts3 (fuel := 8) (laidMet_of_run' 8 (by kernel_rfl) (by kernel_rfl)) (by kernel_rfl) (by kernel_rfl)
theorem kV (os : Os) (args : Array Value) : ((World.doorLaid Tryz.prog 4000 os).forCall (fun _ _ => 0) ⟨#[], args, []⟩).Shaped Tryz.prog := World.shaped_of_RefB (by kernel_rfl) (by kernel_rfl)
theorem ou {W : World} (h : laidMetH Tryz.prog laid1 W) (hs : W.ShapedOpen Tryz.prog) : (blk 0 (kOf.map wv) 239).ok W := by
 rw [MakeChecks.laidMetH_plain _ _ _ (by kernel_rfl)] at h
 obtain ⟨ps, ⟨g0, t0, cs0, f0, p0, q0, hg0, ht0, hv0, hd0, _, _⟩, _, _⟩ := h
 obtain rfl := Option.some.inj (gRound.symm.trans hg0)
 obtain rfl := Option.some.inj (tRound.symm.trans ht0)
 obtain ⟨cs, hcs, _, _⟩ := hs.1 0 (List.replicate 64 (.int .u32 0)).toArray 239 (of_decide_eq_true (by kernel_rfl)) (by kernel_rfl)
 have e : cs0 = cs := by
  have := hv0
  simp only [World.var?, gRound, Option.bind_some, hcs, Option.some.injEq] at this
  exact this.symm
 subst e
 have hw := ku (ks := kOf.map fun k => (k.toNat : Int)) Tryz.underlying239 Tryz.underlying191 (by kernel_rfl) (by kernel_rfl) hd0 nT
 have hl : cs0 = (kOf.map wv).toArray := by
  apply Array.toList_inj.1
  rw [hw, List.map_map]; rfl
 show W.heap[0]? = some (.cells (kOf.map wv).toArray 239)
 rw [← hl]; exact hcs
end Go.Proofs.YtmmfieceinmloaaGreatDoor
namespace Go.Proofs.YtmmfieceinmloaaGreatDoor
open Go.RowKit Go.PW
set_option linter.unusedVariables false
set_option linter.unusedSimpArgs false
set_option maxRecDepth 4000
theorem lG (x : Wsh) (how n : Int) : (bentW x how n).sig = x.sig := by unfold bentW; repeat' split <;> try rfl
theorem Pxy.ok_bnd {p : Pxy} (h : p.ok = true) : 0 ≤ p.rt ∧ p.rt ≤ 100000000 := by
 simp only [Pxy.ok, cc, Bool.and_eq_true, decide_eq_true_eq] at h; omega
theorem oB {x bw : Wsh} {how n : Int} {w0 : World} (hbw : bentW x how n = bw) (hh : -9223372036854775808 ≤ how ∧ how ≤ 9223372036854775807) (hx : x.rt < 9223372036854775807) (hx2 : -9223372036854775808 ≤ x.rt) :
  Ret Tryz.prog 10 #[.agg #[iv x.signer, iv x.holder, iv x.rf, iv x.rt, iv x.carrier, iv x.serial, iv x.sf, iv x.st, sv x.sig], iv how, iv n] w0 fun v w => v = .tuple #[.agg #[iv bw.signer, iv bw.holder, iv bw.rf, iv bw.rt, iv bw.carrier, iv bw.serial, iv bw.sf, iv bw.st, sv bw.sig], .bool (!(decide (bw = x)))] ∧ Ext No w0 w := by
 subst hbw; exact nB x how n w0 hh hx hx2
end Go.Proofs.YtmmfieceinmloaaGreatDoor
namespace Go.Proofs.YtmmfieceinmloaaGreatDoor
open Go.RowKit Go.PW
set_option linter.unusedVariables false
set_option linter.unusedSimpArgs false
set_option maxRecDepth 4000
end Go.Proofs.YtmmfieceinmloaaGreatDoor
