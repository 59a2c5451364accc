/- Texts joined: WshD, BldA, BldB, WshE, WshF, WshG, WshH, WshI, WshJ, WshK, WshL. -/
import Derived.Test.YtliklcmddmpdfaaGreatDoorPED
import Derived.Test.YtliklcmddmpdfaaGreatDoorPEB
import Derived.Laws.StructEq
import Derived.Test.YtliklcmddmpdfaaGreatDoorPEA
set_option linter.unusedVariables false
set_option linter.unusedSimpArgs false
set_option maxRecDepth 4000
set_option maxHeartbeats 4000000
namespace Go.Proofs.YtliklcmddmpdfaaGreatDoor
open Go.RowKit Go.PW _root_.Go.Proofs.Tryz
theorem cB {P : Program} {w : World} {d : Nat} {xs ys : Array Value} {f : Field} {fs : List Field} {a b : Value} {r r' : Bool} (hn : f.name ≠ "_") (h1 : (part f.type xs f.offset).run P w = .ok a w) (h2 : (part f.type ys f.offset).run P w = .ok b w)
  (h3 : (Op.equalIn d f.type a b).run P w = .ok r w) (h4 : (Op.eqFields d xs ys fs).run P w = .ok r' w) : (Op.eqFields d xs ys (f :: fs)).run P w = .ok (r && r') w := by
 simp only [Op.eqFields, hn, ne_eq, not_false_eq_true, if_true, yu, h1, h2, h3, yj]
 cases r
 ·simp
 ·simpa using h4
theorem hP {P : Program} {w : World} {d : Nat} {xs ys : Array Value} : (Op.eqFields d xs ys []).run P w = .ok true w := by simp [Op.eqFields]
theorem eqI {w : World} (d : Nat) (a b : Int) : (Op.equalIn (d + 1) 3 (jv a) (jv b)).run Tryz.prog w = .ok (decide (a = b)) w := by
 rw [run_equalIn_int w d 3 .i64 .i64 a b underlying3]; congr 1
theorem eqS {w : World} (d : Nat) (a b : By) : (Op.equalIn (d + 1) 9 (sv a) (sv b)).run Tryz.prog w = .ok (decide (a = b)) w := by
 unfold sv
 rw [run_equalIn_string w d 9 _ _ underlying9, ByteArray.toList_mk, ByteArray.toList_mk]; congr 1
 rw [Bool.eq_iff_iff]; simp
theorem wp {w : World} (d : Nat) (a0 a1 c0 c1 : Int) : (Op.equalIn (d + 1 + 1) 87 (.agg #[jv a0, jv a1]) (.agg #[jv c0, jv c1])).run Tryz.prog w = .ok (decide (a0 = c0) && (decide (a1 = c1) && true)) w := by
 rw [run_equalIn_struct w (d + 1) 87 _ _ kr kr]
 simp only [Program.fieldsOf, underlying87]
 refine cB (a := jv a0) (b := jv c0) (r := decide (a0 = c0)) de Ac Ac (eqI _ _ _) ?_
 refine cB (a := jv a1) (b := jv c1) (r := decide (a1 = c1)) de Ac Ac (eqI _ _ _) ?_
 exact hP
theorem wK {w : World} (d : Nat) (a0 a1 c0 c1 : Int) : (Op.equalIn (d + 1 + 1) 88 (.agg #[jv a0, jv a1]) (.agg #[jv c0, jv c1])).run Tryz.prog w = .ok (decide (a0 = c0) && (decide (a1 = c1) && true)) w := by
 rw [run_equalIn_struct w (d + 1) 88 _ _ kr kr]
 simp only [Program.fieldsOf, underlying88]
 refine cB (a := jv a0) (b := jv c0) (r := decide (a0 = c0)) de Ac Ac (eqI _ _ _) ?_
 refine cB (a := jv a1) (b := jv c1) (r := decide (a1 = c1)) de Ac Ac (eqI _ _ _) ?_
 exact hP
theorem eqWsh (a0 a1 a2 a3 a4 a5 a6 a7 : Int) (a8 : By) (c0 c1 c2 c3 c4 c5 c6 c7 : Int) (c8 : By) (w : World) : (Op.equal 90 (.agg #[jv a0, jv a1, jv a2, jv a3, jv a4, jv a5, jv a6, jv a7, sv a8]) (.agg #[jv c0, jv c1, jv c2, jv c3, jv c4, jv c5, jv c6, jv c7, sv c8])).run Tryz.prog w = .ok (decide (Wsh.mk a0 a1 a2 a3 a4 a5 a6 a7 a8 = Wsh.mk c0 c1 c2 c3 c4 c5 c6 c7 c8)) w := by
 have e : decide (Wsh.mk a0 a1 a2 a3 a4 a5 a6 a7 a8 = Wsh.mk c0 c1 c2 c3 c4 c5 c6 c7 c8) = (decide (a0 = c0) && (decide (a1 = c1) && ((decide (a2 = c2) && (decide (a3 = c3) && true)) && (decide (a4 = c4) && (decide (a5 = c5) && ((decide (a6 = c6) && (decide (a7 = c7) && true)) && (decide (a8 = c8) && true))))))) := by
  rw [Bool.eq_iff_iff]; simp [and_assoc]
 rw [e]
 unfold Op.equal Op.maxDepth
 obtain ⟨dd, hd⟩ : ∃ dd, 10000 = dd + 1 + 1 + 1 := ⟨9997, rfl⟩
 rw [hd, run_equalIn_struct w (dd + 1 + 1) 90 _ _ kr kr]
 simp only [Program.fieldsOf, underlying90]
 refine cB (a := jv a0) (b := jv c0) (r := decide (a0 = c0)) de Ac Ac (eqI _ _ _) ?_
 refine cB (a := jv a1) (b := jv c1) (r := decide (a1 = c1)) de Ac Ac (eqI _ _ _) ?_
 refine cB (a := .agg #[jv a2, jv a3]) (b := .agg #[jv c2, jv c3]) (r := (decide (a2 = c2) && (decide (a3 = c3) && true))) de (by simp [part, isAgg87, sizeOf87]) (by simp [part, isAgg87, sizeOf87]) (wp _ _ _ _ _) ?_
 refine cB (a := jv a4) (b := jv c4) (r := decide (a4 = c4)) de Ac Ac (eqI _ _ _) ?_
 refine cB (a := jv a5) (b := jv c5) (r := decide (a5 = c5)) de Ac Ac (eqI _ _ _) ?_
 refine cB (a := .agg #[jv a6, jv a7]) (b := .agg #[jv c6, jv c7]) (r := (decide (a6 = c6) && (decide (a7 = c7) && true))) de (by simp [part, isAgg88, sizeOf88]) (by simp [part, isAgg88, sizeOf88]) (wK _ _ _ _ _) ?_
 refine cB (a := sv a8) (b := sv c8) (r := decide (a8 = c8)) de AH AH (eqS _ _ _) ?_
 exact hP
def bentW (x : Wsh) (how n : Int) : Wsh :=
 if pickI how 9 = 0 then { x with signer := n } else if pickI how 9 = 1 then { x with holder := n } else if pickI how 9 = 2 then { x with rf := n } else if pickI how 9 = 3 then { x with rt := n } else
 if pickI how 9 = 4 then { x with carrier := n } else if pickI how 9 = 5 then { x with serial := n } else if pickI how 9 = 6 then { x with sf := n } else if pickI how 9 = 7 then { x with st := n } else { x with rt := x.rt + 1 }
theorem wo (x : Wsh) (how n : Int) (w0 : World) (hh : -9223372036854775808 ≤ how ∧ how ≤ 9223372036854775807) (hx : x.rt < 9223372036854775807) (hx2 : -9223372036854775808 ≤ x.rt) :
  Ret Tryz.prog 105 #[.agg #[jv x.signer, jv x.holder, jv x.rf, jv x.rt, jv x.carrier, jv x.serial, jv x.sf, jv x.st, sv x.sig], jv how, jv n] w0 fun v w => v = .tuple #[.agg (bentW x how n).cells.toArray, .bool (!(decide (bentW x how n = x)))] ∧ Ext No w0 w := by
 refine zO func105 O ntmps105 (lb O) fun a Z Y => ?_
 refine aa fun _ G1 => aS Z Y O [jv x.signer, jv x.holder, jv x.rf, jv x.rt, jv x.carrier, jv x.serial, jv x.sf, jv x.st, sv x.sig] O fun a w1 Z Y => aD Z Y (zeroValue90 _) [jv 0, jv 0, jv 0, jv 0, jv 0, jv 0, jv 0, jv 0, .string (⟨#[]⟩)] O fun a w2 Z Y => wla Z O fun a Z => G1 <| aa fun _ G2 => ?_
 refine wlv Z (ao (Y.g 1 O) O (isAgg90 _) (sizeOf90 _)) fun a Z => aD Z Y (zeroValue90 _) [jv 0, jv 0, jv 0, jv 0, jv 0, jv 0, jv 0, jv 0, .string (⟨#[]⟩)] O fun a w3 Z Y => az 0 Z Y [jv x.signer, jv x.holder, jv x.rf, jv x.rt, jv x.carrier, jv x.serial, jv x.sf, jv x.st, sv x.sig] O (sizeOf90 _) fun a w4 Z Y => G2 <| ah fun _ G3 => ?_
 refine aa fun _ G4 => wlm Z O fun a Z => aw Z Y call80 O (dp how 9 _ Ak om) fun a w5 Z Y => G4 <| mN (fun a w => ∃ (o : Wsh), (bentW x how n = o) ∧ Fr 58 [(3, pq w0.hz), (6, pq w1.hz), (7, .bool false), (8, pq w2.hz)] [] a ∧ St No w0 [blk w2.hz [jv o.signer, jv o.holder, jv o.rf, jv o.rt, jv o.carrier, jv o.serial, jv o.sf, jv o.st, sv o.sig] 90, blk w1.hz [jv 0, jv 0, jv 0, jv 0, jv 0, jv 0, jv 0, jv 0, .string (⟨#[]⟩)] 90, blk w0.hz [jv x.signer, jv x.holder, jv x.rf, jv x.rt, jv x.carrier, jv x.serial, jv x.sf, jv x.st, sv x.sig] 90] w) ?_ ?_
 ·refine ar <| aa fun _ G5 => nv Z <| xJ (v_eq O O) <| xL O <| fun a Z => G5 <| aA Z O (fun hc1 => ?_) (fun hc1 => ?_)
  ·refine ai <| nv Z <| xK O <| xJ (ac (v := pq w2.hz) O kr) <| fun a Z => az 0 Z Y [jv n, jv x.holder, jv x.rf, jv x.rt, jv x.carrier, jv x.serial, jv x.sf, jv x.st, sv x.sig] O (sizeOf3 _) fun a w6 Z Y => ab ?_
   exact ⟨⟨n, x.holder, x.rf, x.rt, x.carrier, x.serial, x.sf, x.st, x.sig⟩, (by unfold bentW; simp [hc1]), Z.pick [3, 6, 7, 8], Y.select [0, 1, 2] de⟩
  refine aa fun _ G6 => nv Z <| xJ (v_eq O O) <| xL O <| fun a Z => G6 ?_
  replace Z := Z.p7 2 3 6 7 8 11 22 O
  refine aA Z O (fun hc2 => ?_) (fun hc2 => ?_)
  ·refine ai <| nv Z <| xK O <| xJ (ac (v := pw2 w2.hz 1) O kr) <| fun a Z => az 0 Z Y [jv x.signer, jv n, jv x.rf, jv x.rt, jv x.carrier, jv x.serial, jv x.sf, jv x.st, sv x.sig] O (sizeOf3 _) fun a w7 Z Y => ab ?_
   exact ⟨⟨x.signer, n, x.rf, x.rt, x.carrier, x.serial, x.sf, x.st, x.sig⟩, (by unfold bentW; simp [hc1, hc2]), Z.pick [3, 6, 7, 8], Y.select [0, 1, 2] de⟩
  refine aa fun _ G7 => nv Z <| xJ (v_eq O O) <| xL O <| fun a Z => G7 <| aA Z O (fun hc3 => ?_) (fun hc3 => ?_)
  ·refine ai <| nv Z <| xK O <| xJ (ac (v := pw2 w2.hz 2) O kr) <| xJ (ac (v := pw2 w2.hz 2) O kr) <| fun a Z => az 0 Z Y [jv x.signer, jv x.holder, jv n, jv x.rt, jv x.carrier, jv x.serial, jv x.sf, jv x.st, sv x.sig] O (sizeOf3 _) fun a w8 Z Y => ab ?_
   exact ⟨⟨x.signer, x.holder, n, x.rt, x.carrier, x.serial, x.sf, x.st, x.sig⟩, (by unfold bentW; simp [hc1, hc2, hc3]), Z.pick [3, 6, 7, 8], Y.select [0, 1, 2] de⟩
  refine aa fun _ G8 => nv Z <| xJ (v_eq O O) <| xL O <| fun a Z => G8 <| aA Z O (fun hc4 => ?_) (fun hc4 => ?_)
  ·refine ai <| nv Z <| xK O <| xJ (ac (v := pw2 w2.hz 2) O kr) <| xJ (ac (v := pw2 w2.hz 3) O kr) <| fun a Z => az 0 Z Y [jv x.signer, jv x.holder, jv x.rf, jv n, jv x.carrier, jv x.serial, jv x.sf, jv x.st, sv x.sig] O (sizeOf3 _) fun a w9 Z Y => ab ?_
   exact ⟨⟨x.signer, x.holder, x.rf, n, x.carrier, x.serial, x.sf, x.st, x.sig⟩, (by unfold bentW; simp [hc1, hc2, hc3, hc4]), Z.pick [3, 6, 7, 8], Y.select [0, 1, 2] de⟩
  refine aa fun _ G9 => nv Z <| xJ (v_eq O O) <| xL O <| fun a Z => G9 ?_
  replace Z := Z.p7 2 3 6 7 8 11 36 O
  refine aA Z O (fun hc5 => ?_) (fun hc5 => ?_)
  ·refine ai <| nv Z <| xK O <| xJ (ac (v := pw2 w2.hz 4) O kr) <| fun a Z => az 0 Z Y [jv x.signer, jv x.holder, jv x.rf, jv x.rt, jv n, jv x.serial, jv x.sf, jv x.st, sv x.sig] O (sizeOf3 _) fun a w10 Z Y => ab ?_
   exact ⟨⟨x.signer, x.holder, x.rf, x.rt, n, x.serial, x.sf, x.st, x.sig⟩, (by unfold bentW; simp [hc1, hc2, hc3, hc4, hc5]), Z.pick [3, 6, 7, 8], Y.select [0, 1, 2] de⟩
  refine aa fun _ G10 => nv Z <| xJ (v_eq O O) <| xL O <| fun a Z => G10 <| aA Z O (fun hc6 => ?_) (fun hc6 => ?_)
  ·refine ai <| nv Z <| xK O <| xJ (ac (v := pw2 w2.hz 5) O kr) <| fun a Z => az 0 Z Y [jv x.signer, jv x.holder, jv x.rf, jv x.rt, jv x.carrier, jv n, jv x.sf, jv x.st, sv x.sig] O (sizeOf3 _) fun a w11 Z Y => ab ?_
   exact ⟨⟨x.signer, x.holder, x.rf, x.rt, x.carrier, n, x.sf, x.st, x.sig⟩, (by unfold bentW; simp [hc1, hc2, hc3, hc4, hc5, hc6]), Z.pick [3, 6, 7, 8], Y.select [0, 1, 2] de⟩
  refine aa fun _ G11 => nv Z <| xJ (v_eq O O) <| xL O <| fun a Z => G11 <| aA Z O (fun hc7 => ?_) (fun hc7 => ?_)
  ·refine ai <| nv Z <| xK O <| xJ (ac (v := pw2 w2.hz 6) O kr) <| xJ (ac (v := pw2 w2.hz 6) O kr) <| fun a Z => az 0 Z Y [jv x.signer, jv x.holder, jv x.rf, jv x.rt, jv x.carrier, jv x.serial, jv n, jv x.st, sv x.sig] O (sizeOf3 _) fun a w12 Z Y => ab ?_
   exact ⟨⟨x.signer, x.holder, x.rf, x.rt, x.carrier, x.serial, n, x.st, x.sig⟩, (by unfold bentW; simp [hc1, hc2, hc3, hc4, hc5, hc6, hc7]), Z.pick [3, 6, 7, 8], Y.select [0, 1, 2] de⟩
  refine aa fun _ G12 => nv Z <| xJ (v_eq O O) <| xL O <| fun a Z => G12 ?_
  replace Z := Z.p6 2 3 6 7 8 49 O
  refine aA Z O (fun hc8 => ?_) (fun hc8 => ?_)
  ·refine ai <| nv Z <| xK O <| xJ (ac (v := pw2 w2.hz 6) O kr) <| xJ (ac (v := pw2 w2.hz 7) O kr) <| fun a Z => az 0 Z Y [jv x.signer, jv x.holder, jv x.rf, jv x.rt, jv x.carrier, jv x.serial, jv x.sf, jv n, sv x.sig] O (sizeOf3 _) fun a w13 Z Y => ab ?_
   exact ⟨⟨x.signer, x.holder, x.rf, x.rt, x.carrier, x.serial, x.sf, n, x.sig⟩, (by unfold bentW; simp [hc1, hc2, hc3, hc4, hc5, hc6, hc7, hc8]), Z.pick [3, 6, 7, 8], Y.select [0, 1, 2] de⟩
  refine ai <| nv Z <| xJ (ac (v := pw2 w2.hz 2) O kr) <| xJ (ac (v := pw2 w2.hz 3) O kr) <| xJ (ld Y 0 O O (isAgg3 _) O) <| xJ (aP O O ⟨om, om⟩) <| xJ (ac (v := pw2 w2.hz 2) O kr) <| xJ (ac (v := pw2 w2.hz 3) O kr) <| fun a Z => az 0 Z Y [jv x.signer, jv x.holder, jv x.rf, jv (x.rt + 1), jv x.carrier, jv x.serial, jv x.sf, jv x.st, sv x.sig] O (sizeOf3 _) fun a w14 Z Y => ab ?_
  exact ⟨⟨x.signer, x.holder, x.rf, x.rt + 1, x.carrier, x.serial, x.sf, x.st, x.sig⟩, (by unfold bentW; simp [hc1, hc2, hc3, hc4, hc5, hc6, hc7, hc8]), Z.pick [3, 6, 7, 8], Y.select [0, 1, 2] de⟩
 rintro a w15 ⟨o, ho, Z, Y⟩
 refine G3 <| ah fun _ G13 => aL (aN fun w16 hxz => ?_)
 replace Y := Y.grow hxz
 refine aU (k := 0) 5 [3, 4] Z ?_
 replace Z := Z.p4 3 6 7 8 O
 replace Y := Y.s3 [1, 0, 2] de rfl
 refine gF [4] (fun q => if q = 4 then blk w1.hz [jv 0, jv 0, jv 0, jv 0, jv 0, jv 0, jv 0, jv 0, .string (⟨#[]⟩)] 90 else join []) (fun q => if q = 4 then blk w1.hz [jv o.signer, jv o.holder, jv o.rf, jv o.rt, jv o.carrier, jv o.serial, jv o.sf, jv o.st, sv o.sig] 90 else join []) 5 [[], [], [], [1, 2], [0]] (fun i => match i with | 0 => pv (.agg #[jv o.signer, jv o.holder, jv o.rf, jv o.rt, jv o.carrier, jv o.serial, jv o.sf, jv o.st, sv o.sig]) | 1 => pv (.agg #[jv o.signer, jv o.holder, jv o.rf, jv o.rt, jv o.carrier, jv o.serial, jv o.sf, jv o.st, sv o.sig]) | 2 => pv (.agg #[jv x.signer, jv x.holder, jv x.rf, jv x.rt, jv x.carrier, jv x.serial, jv x.sf, jv x.st, sv x.sig]) | 3 => pv (.bool (!(decide (o = x)))) | 4 => fun v E => v = undef ∧ E = [] | _ => fun _ _ => False) (by intro q; by_cases h4 : q = 4; (subst h4; rfl); simp only [h4, if_false]) Z (H := [blk w2.hz [jv o.signer, jv o.holder, jv o.rf, jv o.rt, jv o.carrier, jv o.serial, jv o.sf, jv o.st, sv o.sig] 90, blk w0.hz [jv x.signer, jv x.holder, jv x.rf, jv x.rt, jv x.carrier, jv x.serial, jv x.sf, jv x.st, sv x.sig] 90]) Y kr kr kr kr de de ?_ ?_ ?_ ?_ ?_ ?_
 ·intro i v E h
  match i, h with
  | 0, _ => exact by decide
  | 1, _ => exact by decide
  | 2, _ => exact by decide
  | 3, _ => exact by decide
  | 4, _ => exact by decide
  | i + 5, h => exact h.elim
 ·intro q v E hq h
  simp only [xX, yc, yz] at hq
  rcases hq with rfl <;> exact h
 ·intro q hq
  simp only [xX, yc, yz] at hq
  rcases hq with rfl <;> exact ⟨rfl, rfl⟩
 ·intro i hi hiq e
  match i, hi, hiq with
  | 0, _, _ => exact fun w Y => OpV.g (ao (Y.g 1 O) O (isAgg90 _) (sizeOf90 _))
  | 1, _, _ => exact fun w Y => OpV.g (ao (Y.g 1 O) O (isAgg90 _) (sizeOf90 _))
  | 2, _, _ => exact fun w Y => OpV.g (ao (Y.g 2 O) O (isAgg90 _) (sizeOf90 _))
  | 3, _, _ =>
   rintro _ _ ⟨rfl, rfl⟩ _ _ ⟨rfl, rfl⟩
   intro w Y
   exact OpV.g ((oM O O kr (eqWsh o.signer o.holder o.rf o.rt o.carrier o.serial o.sf o.st o.sig x.signer x.holder x.rf x.rt x.carrier x.serial x.sf x.st x.sig _)).asb (b' := !(decide (o = x))) rfx)
  | 4, _, h => exact absurd de h
 ·intro q hq
  simp only [xX, yc, yz] at hq
  rcases hq with rfl
  ·rintro _ _ ⟨rfl, rfl⟩
   intro w h
   exact dI (cs := [jv 0, jv 0, jv 0, jv 0, jv 0, jv 0, jv 0, jv 0, .string (⟨#[]⟩)]) (ds := [jv o.signer, jv o.holder, jv o.rf, jv o.rt, jv o.carrier, jv o.serial, jv o.sf, jv o.st, sv o.sig]) O O h (sizeOf90 _) O (lb O) O
 clear Z Y
 rintro _ _ ⟨rfl, rfl⟩ _ _ ⟨rfl, rfl⟩ _ _ ⟨rfl, rfl⟩ _ _ ⟨rfl, rfl⟩ a w17 Z Y
 replace Z := Z.p8 54 55 56 57 3 6 7 8 O
 try dsimp only at Y
 replace Y := Y.n3 O
 refine ab <| aM (k := 5) 6 [5] ?_
 refine wla Z O fun a Z => ab <| aT <| G13 ?_
 replace Z := Z.p2 6 7 O
 replace Y := Y.k1 1 O
 refine ap <| am Z results105 (al O (bj (Y.g 0 O) (isAgg90 _) (sizeOf90 _)) (ag O ae)) ?_
 rw [ho]
 exact ⟨O, Y.ext⟩
def collB (s t : By) : Bool := !decide (s = t) && decide (sha s = sha t)
def colwH (xs ys : List By) : Bool := xs.any fun s => ys.any fun t => collB s t
theorem lB {xs ys : List By} {i j : Nat} (hi : i < xs.length) (hj : j < ys.length) (h : collB (xs.getD i []) (ys.getD j []) = true) : colwH xs ys = true :=
 yI.2 ⟨_, bc hi, yI.2 ⟨_, bc hj, h⟩⟩
theorem pW {xs ys : List By} (h : ∀ i, i < xs.length → ∀ j, j < ys.length → collB (xs.getD i []) (ys.getD j []) = false) : colwH xs ys = false := by
 rw [Bool.eq_false_iff]
 intro hc
 obtain ⟨s, hs, h2⟩ := yI.1 hc
 obtain ⟨t, ht, h3⟩ := yI.1 h2
 obtain ⟨i, hi, rfl⟩ := yN hs
 obtain ⟨j, hj, rfl⟩ := yN ht
 have := h i hi j hj
 rw [xR, xR, xY hi, xY hj] at this
 simp only [Option.getD_some] at this
 rw [this] at h3; cases h3
theorem wa {ys : List By} {j : Nat} (h : j < ys.length) : (ys.map sha).getD j [] = sha (ys.getD j []) := by
 rw [xR, yT, xY h, xR, xY h]; rfl
theorem jt (av bv : Value) (xs ys : List By) (w0 : World) (hav : SlAt w0 av 1 ((xs).map fun s => [sv s])) (hbv : SlAt w0 bv 1 ((ys).map fun s => [sv s])) (hxs : ∀ s ∈ xs, s.length ≤ 100000000) (hys : ∀ s ∈ ys, s.length ≤ 100000000) (hyn : ys.length ≤ 1000) :
  Ret Tryz.prog 38 #[av, bv] w0 fun v w => v = .bool (colwH xs ys) ∧ Ext No w0 w := by
 have hxb := hav.2.1
 simp only [xO, big] at hxb
 refine zM func38 O ntmps38 (lb O) fun a Z Y => ?_
 refine aa fun _ G1 => wla Z O fun a Z => G1 <| aa fun _ G2 => ?_
 refine wla Z O fun a Z => G2 <| ah fun _ G3 => ?_
 refine aa fun _ G4 => wla Z O fun a Z => G4 <| ar ?_
 replace Y : St No w0 [own (.slice none 0 0) 9 1 (((ys.take 0).map sha).map fun s => [sv s])] w0 := Y.nil_own
 refine aW (fun m a w => ∃ (k : Nat) (vs : Value), m = ys.length - k ∧ (k ≤ ys.length) ∧ Fr 58 [(0, av), (1, bv), (4, .bool false), (5, vs), (6, jv (k : Int))] [] a ∧ St No w0 [own vs 9 1 (((ys.take k).map sha).map fun s => [sv s])] w) _ ⟨0, .slice none 0 0, O, ym _, Z.pick [0, 1, 4, 5, 6], Y.select [0] de⟩ ?_
 rintro _ a w1 ⟨k, vs, rfl, hk, Z, Y⟩
 refine ah fun _ G5 => aa fun _ G6 => nv Z <| xK O <| xK O <| xJ ((aI (sT := 44) (Y.arg hbv) O O (runUnderlying44 _)).asi (m' := (ys.length : Int)) Ai) <| xJ (v_lt O O) <| fun a Z => G6 <| bt Z O (fun hc1 => ?_) (fun hc1 => ?_)
 ·try simp only [qz, xP, yh, yd, yg] at hc1
  refine au <| G5 <| ah fun _ G7 => ar <| ai <| nv Z <| xK O <| xK O <| xK O <| xJ ((aj (i := (k : Int)) (sT := 44) (Y.arg hbv) O O (runUnderlying44 _) (sizeOf9 _) om Al).as (v' := slAddr bv (k * 1)) O) <| xJ (aB (u := sv (ys.getD k [])) (i := k) (j := 0) (Y.arg hbv) Al O (isAgg9 _) (by rw [bn []]; rfl)) <| fun a Z => aw Z Y call96 O (jF (ys.getD k []) _ (by first | exact hxs _ (bc om) | exact hys _ (bc om))) fun a w2 Z Y => aE (E := 9) (sz := 1) O [[sv (sha (ys.getD k []))]] kr sm O de de Z Y fun a w3 Z Y => ?_
  refine aY (i := 1) (sT := 44) (inf := Tryz.t9) (z := .string (⟨#[]⟩)) (b := 0) (off := 0) (m := 0) (c := 0) O O O (Y.ow 0 O) sm underlying44 O O O O de z6 (by have hby : Tryz.t9.bytes = 16 := O; simp [big, hby] <;> omega) (by have hby : Tryz.t9.bytes = 16 := O; simp [big, hby] <;> omega) de Z Y fun a w4 s2 Z Y _ => ?_
  rw [show (((ys.take k).map sha).map fun s => [sv s]) ++ ([[sv (sha (ys.getD k []))]]) = (((ys.take (k + 1)).map sha).map fun s => [sv s]) from by rw [cz [] om]; simp] at Y
  refine wla Z O fun a Z => ab <| G7 ?_
  replace Y := Y.k1 2 O
  refine ai <| nv (Z.p5 0 1 4 6 5 O) <| xK O <| xJ (aP O O ⟨om, om⟩) <| xL O <| fun a Z => ab ?_
  refine ⟨_, ?_, k + 1, s2, O, om, Z.pick [0, 1, 4, 5, 6], Y.select [0] de⟩
  omega
 try simp only [qz, xP, yh, yd, yg] at hc1
 obtain rfl : k = ys.length := by omega
 rw [List.take_length] at Y
 refine aO <| G3 <| ah fun _ G8 => aa fun _ G9 => wla Z O fun a Z => G9 <| ar ?_
 refine aW (fun m a w => ∃ (x : Nat), m = xs.length - x ∧ (x ≤ xs.length) ∧ (∀ i, i < x → ∀ j, j < ys.length → collB (xs.getD i []) (ys.getD j []) = false) ∧ Fr 58 [(0, av), (1, bv), (5, vs), (7, jv (x : Int))] [] a ∧ St No w0 [own vs 9 1 ((ys.map sha).map fun s => [sv s])] w) _ ⟨0, O, ym _, (fun i h => absurd h (zC _)), Z.pick [0, 1, 5, 7], Y.select [0] de⟩ ?_
 rintro _ a w5 ⟨x, rfl, hx, hno, Z, Y⟩
 refine ah fun _ G10 => aa fun _ G11 => nv Z <| xK O <| xK O <| xJ ((aI (sT := 44) (Y.arg hav) O O (runUnderlying44 _)).asi (m' := (xs.length : Int)) Ai) <| xJ (v_lt O O) <| fun a Z => G11 <| bt Z O (fun hc3 => ?_) (fun hc3 => ?_)
 ·try simp only [qz, xP, yh, yd, yg] at hc3
  have hxl : x < xs.length := by omega
  refine au <| G10 <| ah fun _ G12 => ar <| aa fun _ G13 => nv Z <| xK O <| xK O <| xJ ((aj (i := (x : Int)) (sT := 44) (Y.arg hav) O O (runUnderlying44 _) (sizeOf9 _) om Al).as (v' := slAddr av (x * 1)) O) <| xJ (aB (u := sv (xs.getD x [])) (i := x) (j := 0) (Y.arg hav) Al O (isAgg9 _) (by rw [bn []]; rfl)) <| fun a Z => aw Z Y call96 O (jF (xs.getD x []) _ (by first | exact hxs _ (bc om) | exact hys _ (bc om))) fun a w6 Z Y => wla Z O fun a Z => G13 ?_
  refine aa fun _ G14 => wla (Z.p5 0 1 5 7 8 O) O fun a Z => G14 <| ar ?_
  refine aW (fun m a w => ∃ (y : Nat), m = ys.length - y ∧ (y ≤ ys.length) ∧ (∀ j, j < y → collB (xs.getD x []) (ys.getD j []) = false) ∧ Fr 58 [(0, av), (1, bv), (5, vs), (7, jv (x : Int)), (8, sv (sha (xs.getD x []))), (9, jv (y : Int))] [] a ∧ St No w0 [own vs 9 1 ((ys.map sha).map fun s => [sv s])] w) _ ⟨0, O, ym _, (fun i h => absurd h (zC _)), Z.pick [0, 1, 5, 7, 8, 9], Y.select [0] de⟩ ?_
  rintro _ a w7 ⟨y, rfl, hy, hno2, Z, Y⟩
  refine ah fun _ G15 => aa fun _ G16 => nv Z <| xK O <| xK O <| xJ ((aI (sT := 44) (Y.arg hbv) O O (runUnderlying44 _)).asi (m' := (ys.length : Int)) Ai) <| xJ (v_lt O O) <| fun a Z => G16 <| bt Z O (fun hc4 => ?_) (fun hc4 => ?_)
  ·try simp only [qz, xP, yh, yd, yg] at hc4
   have hyl : y < ys.length := by omega
   refine au <| G15 <| ah fun _ G17 => ar <| ah fun _ G18 => aL (aN fun w8 hxz => ?_)
   replace Y := Y.grow hxz
   refine aU (k := 0) 8 [3, 7] Z ?_
   replace Z := Z.p9 0 1 5 7 8 9 35 36 37 O
   refine bN 8 Z Y <| pl_m O <| pl_m O <| pl_w (fun Y => (aj (i := (x : Int)) (sT := 44) (Y.arg hav) O O (runUnderlying44 _) (sizeOf9 _) om Al).as (v' := slAddr av (x * 1)) O) <| pl_w (fun Y => aB (u := sv (xs.getD x [])) (i := x) (j := 0) (Y.arg hav) Al O (isAgg9 _) (by rw [bn []]; rfl)) <| pl_m O <| pl_m O <| pl_w (fun Y => (aj (i := (y : Int)) (sT := 44) (Y.arg hbv) O O (runUnderlying44 _) (sizeOf9 _) om Al).as (v' := slAddr bv (y * 1)) O) ?_
   refine pl_w (fun Y => aB (u := sv (ys.getD y [])) (i := y) (j := 0) (Y.arg hbv) Al O (isAgg9 _) (by rw [bn []]; rfl)) fun a w9 Z Y => ?_
   replace Z := Z.p8 0 1 5 7 8 9 44 48 O
   refine ab <| aM (k := 8) 10 [9] ?_
   refine nv Z <| xJ (tG O O) <| xK O <| fun a Z => ab ?_
   rcases xU (!decide (xs.getD x [] = ys.getD y [])) with hb5 | hb5
   ·rw [hb5] at Z
    try simp only [qz] at hb5
    refine aU (k := 10) 15 [10, 14] Z ?_
    refine bN 5 (Z.p10 0 1 5 7 8 9 44 48 49 50 O) Y <| pl_m O <| pl_m O <| pl_m O <| pl_w (fun Y => (aj (i := (y : Int)) (sT := 44) (Y.ow 0 O) O O (runUnderlying44 _) (sizeOf9 _) om Al).as (v' := slAddr vs (y * 1)) O) <| pl_w (fun Y => aB (u := sv (sha (ys.getD y []))) (i := y) (j := 0) (Y.ow 0 O) Al O (isAgg9 _) (by rw [bn [], wa om]; rfl)) fun a w10 Z Y => ?_
    replace Z := Z.p9 0 1 5 7 8 9 50 51 55 O
    refine ab <| aM (k := 15) 17 [16] ?_
    refine nv Z <| xM (uW O O) <| xJ (ax O O) <| fun a Z => ab <| aT <| G18 <| bt Z O (fun hc6 => ?_) (fun hc6 => ?_)
    ·try simp only [qz, xP, yh, yd, yg] at hc6
     refine aa fun _ G19 => wla Z O fun a Z => G19 <| ap ?_
     refine am Z results38 (ag O ae) ?_
     exact ⟨by simp only [retv]; congr 1; exact (lB hxl hyl (by unfold collB; simp [-List.getD_eq_getElem?_getD, hb5, hc6])).symm, Y.ext⟩
    try simp only [qz, xP, yh, yd, yg] at hc6
    refine au <| G17 <| ai <| nv Z <| xK O <| xJ (aP O O ⟨om, om⟩) <| xL O <| fun a Z => ab ?_
    refine ⟨_, ?_, y + 1, O, om, (fun j h => by rcases Nat.lt_succ_iff_lt_or_eq.1 h with h | rfl; exact hno2 j h; unfold collB; simp [-List.getD_eq_getElem?_getD, hc6]), Z.pick [0, 1, 5, 7, 8, 9], Y.select [0] de⟩
    omega
   rw [hb5] at Z
   try simp only [qz] at hb5
   refine dr (k := 10) 15 [10, 14] (Z.p10 0 1 5 7 8 9 44 48 49 50 O) fun a Z => ?_
   replace Z := Z.p15 51 52 53 54 55 0 1 5 7 8 9 44 48 49 50 O
   refine aM (k := 15) 17 [16] ?_
   refine nv Z <| xN <| xJ (ak O O) <| fun a Z => ab <| aT <| G18 ?_
   replace Z := Z.p7 0 1 5 7 8 9 57 O
   refine aG Z O ?_
   refine au <| G17 <| ai <| nv Z <| xK O <| xJ (aP O O ⟨om, om⟩) <| xL O <| fun a Z => ab ?_
   refine ⟨_, ?_, y + 1, O, om, (fun j h => by rcases Nat.lt_succ_iff_lt_or_eq.1 h with h | rfl; exact hno2 j h; unfold collB; simp [-List.getD_eq_getElem?_getD, hb5]), Z.pick [0, 1, 5, 7, 8, 9], Y.select [0] de⟩
   omega
  try simp only [qz, xP, yh, yd, yg] at hc4
  refine aO <| G12 <| ai <| nv Z <| xK O <| xJ (aP O O ⟨om, om⟩) <| xL O <| fun a Z => ab ?_
  refine ⟨_, ?_, x + 1, O, om, (fun i h => by rcases Nat.lt_succ_iff_lt_or_eq.1 h with h | rfl; exact hno i h; exact fun j hj => hno2 j om), Z.pick [0, 1, 5, 7], Y.select [0] de⟩
  omega
 try simp only [qz, xP, yh, yd, yg] at hc3
 refine aO <| G8 <| aa fun _ G20 => wla Z O fun a Z => G20 ?_
 replace Z := Z.p1 4 O
 refine ap <| am Z results38 (ag O ae) ?_
 exact ⟨by simp only [retv]; congr 1; exact (pW fun i h => hno i om).symm, Y.ext⟩
def bld (T : TypeId) (b : Nat) (ad v : Value) (bs : By) : Ent := join [blk b [ad, v] T, own v 5 1 ((bs).map fun b => [yv b])]
theorem kL {M : Nat → Prop} {w0 w : World} {T : TypeId} {b : Nat} {ad v : Value} {bs : By} {H : List Ent} (h : St M w0 (bld T b ad v bs :: H) w) : St M w0 ([blk b [ad, v] T, own v 5 1 ((bs).map fun b => [yv b])] ++ H) w := St.unjoin _ _ h
theorem oT (T : TypeId) (b : Nat) (v : Value) (w0 : World) (hlie : liesAt Tryz.prog Tryz.prog.depth T (2 / Tryz.prog.cellsOf T) 0 160 1 = true) (hb : (blk b [.pointer none, v] T).ok w0) :
  Ret Tryz.prog 142 #[pq b] w0 fun u w => u = .tuple #[] ∧ Ext (· = b) w0 w ∧ (blk b [pq b, v] T).ok w := by
 refine aC func142 O ntmps142 (lb O) fun a Z => ?_
 replace Y : St (· = b) w0 [blk b [.pointer none, v] T] w0 := St.one hb
 refine aa fun _ G1 => nv (Z.p1 0 O) <| xK O <| xJ (aQ O) <| xJ (ac (v := pq b) O kr) <| xJ (ld Y 0 O O (isAgg158 _) O) <| xJ (xi O O underlying158) <| fun a Z => G1 <| aK Z O ?_
 refine ai <| nv Z <| xK O <| xK O <| xJ (qo (j := Tryz.t160) (Y.g 0 O) O underlying158 underlying235 O O sm) <| xJ (o4 func179 kr kr kr kr O) <| xJ (m9 (j := Tryz.t160) (Y.g 0 O) O underlying235 underlying158 O hlie) <| xJ (aQ O) <| xJ (ac (v := pq b) O kr) <| fun a Z => az 0 Z Y [pq b, v] O (sizeOf158 _) fun a w2 Z Y => ab ?_
 refine cQ Z results142 ae ?_
 exact ⟨O, Y.ext, Y.g 0 O⟩
theorem pI (T : TypeId) (b : Nat) (v : Value) (w0 : World) (hlie : liesAt Tryz.prog Tryz.prog.depth T (2 / Tryz.prog.cellsOf T) 0 160 1 = true) (hb : (blk b [pq b, v] T).ok w0) :
  Ret Tryz.prog 142 #[pq b] w0 fun u w => u = .tuple #[] ∧ Ext (· = b) w0 w ∧ (blk b [pq b, v] T).ok w := by
 refine aC func142 O ntmps142 (lb O) fun a Z => ?_
 replace Y : St (· = b) w0 [blk b [pq b, v] T] w0 := St.one hb
 refine aa fun _ G1 => nv (Z.p1 0 O) <| xK O <| xJ (aQ O) <| xJ (ac (v := pq b) O kr) <| xJ (ld Y 0 O O (isAgg158 _) O) <| xJ (um O O underlying158) <| fun a Z => G1 <| aG Z O ?_
 refine aa fun _ G2 => nv Z <| xK O <| xJ (aQ O) <| xJ (ac (v := pq b) O kr) <| xJ (ld Y 0 O O (isAgg158 _) O) <| xK O <| xJ (vt (j := Tryz.t160) O O underlying158 O) <| fun a Z => G2 ?_
 replace Z := Z.p1 19 O
 refine aG Z O ?_
 refine au <| cQ Z results142 ae ?_
 exact ⟨O, Y.ext, Y.g 0 O⟩
theorem pO {M : Nat → Prop} {w0 : World} (T : TypeId) (b : Nat) (v : Value) (bs : By) (s : By) (ws : World) (hlie : liesAt Tryz.prog Tryz.prog.depth T (2 / Tryz.prog.cellsOf T) 0 160 1 = true) (hne : s ≠ []) (hbn : bs.length + s.length ≤ 1000000000) (Y : St M w0 [bld T b (.pointer none) v bs] ws) :
  Ret Tryz.prog 94 #[pq b, sv s] ws fun u w => u = .tuple #[jv (s.length : Int), .nilIface] ∧ ∃ v2, St M w0 [bld T b (pq b) v2 (bs ++ s)] w := by
 refine aC func94 O ntmps94 (lb O) fun a Z => ?_
 replace Y : St M w0 [blk b [.pointer none, v] T, own v 5 1 ((bs).map fun b => [yv b])] ws := kL Y
 refine aa fun _ G1 => nv (Z.p2 0 1 O) <| xL O <| xL O <| fun a Z => G1 <| aa fun _ G2 => ?_
 refine wlm Z O fun a Z => jY 0 Z Y de call142 O O (oT T b _ _ hlie (Y.g 0 O)) O fun a w1 Z Y => G2 <| aa fun _ G3 => ?_
 refine nv Z <| xK O <| xK O <| xJ (aQ O) <| xJ (ac (v := pw2 b 1) O kr) <| xJ (ld Y 0 O O (isAgg60 _) O) <| xK O <| fun a Z => gH (i := 1) (sT := 60) (uT := 9) (inf := Tryz.t5) (bs := bs) (s := s) O O O hne underlying60 underlying9 O O O O om de Z Y fun a w2 s1 Z Y => nv Z <| xJ (aQ O) <| xJ (ac (v := pw2 b 1) O kr) <| fun a Z => cf 0 Z Y (Y.ow 1 O) O O O (sizeOf60 _) (lb O) (ds := [pq b, s1]) O O fun a w3 Z Y => G3 ?_
 refine aa fun _ G4 => nv (Z.p3 1 4 5 O) <| xK O <| xJ (br O O (runUnderlying9 _)) <| xL O <| xL O <| fun a Z => G4 <| ap ?_
 refine am Z results94 (ag O (ag O ae)) ?_
 replace Y := Y.s2 [0, 1] de rfl
 exact ⟨O, s1, St.join [blk b [pq b, s1] T, own s1 5 1 ((bs ++ s).map fun b => [yv b])] [] Y⟩
theorem rX {M : Nat → Prop} {w0 : World} (T : TypeId) (b : Nat) (v : Value) (bs : By) (s : By) (ws : World) (hlie : liesAt Tryz.prog Tryz.prog.depth T (2 / Tryz.prog.cellsOf T) 0 160 1 = true) (hne : s ≠ []) (hbn : bs.length + s.length ≤ 1000000000) (Y : St M w0 [bld T b (pq b) v bs] ws) :
  Ret Tryz.prog 94 #[pq b, sv s] ws fun u w => u = .tuple #[jv (s.length : Int), .nilIface] ∧ ∃ v2, St M w0 [bld T b (pq b) v2 (bs ++ s)] w := by
 refine aC func94 O ntmps94 (lb O) fun a Z => ?_
 replace Y : St M w0 [blk b [pq b, v] T, own v 5 1 ((bs).map fun b => [yv b])] ws := kL Y
 refine aa fun _ G1 => nv (Z.p2 0 1 O) <| xL O <| xL O <| fun a Z => G1 <| aa fun _ G2 => ?_
 refine wlm Z O fun a Z => jY 0 Z Y de call142 O O (pI T b _ _ hlie (Y.g 0 O)) O fun a w1 Z Y => G2 <| aa fun _ G3 => ?_
 refine nv Z <| xK O <| xK O <| xJ (aQ O) <| xJ (ac (v := pw2 b 1) O kr) <| xJ (ld Y 0 O O (isAgg60 _) O) <| xK O <| fun a Z => gH (i := 1) (sT := 60) (uT := 9) (inf := Tryz.t5) (bs := bs) (s := s) O O O hne underlying60 underlying9 O O O O om de Z Y fun a w2 s1 Z Y => nv Z <| xJ (aQ O) <| xJ (ac (v := pw2 b 1) O kr) <| fun a Z => cf 0 Z Y (Y.ow 1 O) O O O (sizeOf60 _) (lb O) (ds := [pq b, s1]) O O fun a w3 Z Y => G3 ?_
 refine aa fun _ G4 => nv (Z.p3 1 4 5 O) <| xK O <| xJ (br O O (runUnderlying9 _)) <| xL O <| xL O <| fun a Z => G4 <| ap ?_
 refine am Z results94 (ag O (ag O ae)) ?_
 replace Y := Y.s2 [0, 1] de rfl
 exact ⟨O, s1, St.join [blk b [pq b, s1] T, own s1 5 1 ((bs ++ s).map fun b => [yv b])] [] Y⟩
theorem wB {w : World} {E : TypeId} {v : Value} {bs : By} (h : (own v E 1 ((bs).map fun b => [yv b])).ok w) (hne : bs ≠ []) : ∃ g cap, v = .slice (some ⟨g, 0, none⟩) bs.length cap ∧ cap ≠ 0 := by
 obtain ⟨h1, h2, h3, h4⟩ := h
 have hn : bs.length ≠ 0 := by simpa using hne
 rcases h4 with ⟨_, h0⟩ | ⟨g, cap, cur, fz, hv, _, _, hnc, _⟩
 ·rw [xO] at h0; exact absurd h0 hn
 ·rw [xO] at hv hnc; exact ⟨g, cap, hv, by omega⟩
theorem oY {M : Nat → Prop} {w0 : World} (T : TypeId) (b g cap : Nat) (bs : By) (ws : World) (hne : bs ≠ []) (hcap : cap ≠ 0) (Y : St M w0 [blk b [pq b, .slice (some ⟨g, 0, none⟩) bs.length cap] T, own (.slice (some ⟨g, 0, none⟩) bs.length cap) 5 1 ((bs).map fun b => [yv b])] ws) :
  Ret Tryz.prog 95 #[pq b] ws fun u w => u = sv bs ∧ St M w0 [blk b [pq b, .slice (some ⟨g, 0, none⟩) bs.length cap] T] w := by
 refine aC func95 O ntmps95 (lb O) fun a Z => ?_
 replace Z := Z.p1 0 O
 skip
 refine aa fun _ G1 => wla Z O fun a Z => G1 <| ah fun _ G2 => ?_
 refine aL ?_
 replace Z := Z.p2 0 2 O
 replace Y : St M w0 (own (.slice (some ⟨g, 0, none⟩) bs.length cap) 5 1 ((bs).map fun b => [yv b]) :: [blk b [pq b, .slice (some ⟨g, 0, none⟩) bs.length cap] T]) ws := Y.front (i := 1) rfl
 refine lg 10 (own (.slice (some ⟨g, 0, none⟩) bs.length cap) 5 1 ((bs).map fun b => [yv b])) (fun _ => sl (.slice (some ⟨g, 0, none⟩) bs.length cap) 1 ((bs).map fun b => [yv b])) 11 [[], [0], [1], [2], [3], [], [5], [6], [7], [8], [4, 9]] (fun i => match i with | 0 => pv (pq b) | 1 => pv (pq b) | 2 => pv (pw2 b 1) | 3 => pv (.slice (some ⟨g, 0, none⟩) bs.length cap) | 4 => pv (pq g) | 5 => pv (pq b) | 6 => pv (pq b) | 7 => pv (pw2 b 1) | 8 => pv (.slice (some ⟨g, 0, none⟩) bs.length cap) | 9 => pv (jv (bs.length : Int)) | 10 => fun v E => v = sv bs ∧ E = [] | _ => fun _ _ => False) Z Y kr kr kr de ?_ ?_ ?_ ?_
 ·intro i v E h
  match i, h with
  | 0, _ => exact by decide
  | 1, _ => exact by decide
  | 2, _ => exact by decide
  | 3, _ => exact by decide
  | 4, _ => exact by decide
  | 5, _ => exact by decide
  | 6, _ => exact by decide
  | 7, _ => exact by decide
  | 8, _ => exact by decide
  | 9, _ => exact by decide
  | 10, _ => exact by decide
  | i + 11, h => exact h.elim
 ·intro i hi hiq e
  match i, hi, hiq with
  | 0, _, _ => exact fun w Y => OpV.g (ay O)
  | 1, _, _ =>
   rintro _ _ ⟨rfl, rfl⟩
   intro w Y
   exact OpV.g (aQ O)
  | 2, _, _ =>
   rintro _ _ ⟨rfl, rfl⟩
   intro w Y
   exact OpV.g (ac (v := pw2 b 1) O kr)
  | 3, _, _ =>
   rintro _ _ ⟨rfl, rfl⟩
   intro w Y
   exact OpV.g (ld Y 1 O O (isAgg60 _) O)
  | 4, _, _ =>
   rintro _ _ ⟨rfl, rfl⟩
   intro w Y
   exact OpV.g (nM O hcap)
  | 5, _, _ => exact fun w Y => OpV.g (ay O)
  | 6, _, _ =>
   rintro _ _ ⟨rfl, rfl⟩
   intro w Y
   exact OpV.g (aQ O)
  | 7, _, _ =>
   rintro _ _ ⟨rfl, rfl⟩
   intro w Y
   exact OpV.g (ac (v := pw2 b 1) O kr)
  | 8, _, _ =>
   rintro _ _ ⟨rfl, rfl⟩
   intro w Y
   exact OpV.g (ld Y 1 O O (isAgg60 _) O)
  | 9, _, _ =>
   rintro _ _ ⟨rfl, rfl⟩
   intro w Y
   exact OpV.g ((eE (v := jv (bs.length : Int)) (vs := [.slice (some ⟨g, 0, none⟩) bs.length cap]) (by simp [evs]; rfl) (by simp [builtin, Builtin.len_, runUnderlying60]; rfl)).as O)
  | 10, _, h => exact absurd O h
 ·rintro _ _ ⟨rfl, rfl⟩ _ _ ⟨rfl, rfl⟩
  intro w Y
  exact (kd (Y.g 0 O) hne O O underlying205 kr).mono fun v w' ⟨h1, h2, h3, h4⟩ => ⟨h2, h3, h4, ⟨h1, O⟩⟩
 clear Z Y
 rintro vq _ _ ⟨⟨rfl, rfl⟩, -⟩ _ _ ⟨⟨rfl, rfl⟩, -⟩ _ _ ⟨⟨rfl, rfl⟩, -⟩ _ _ ⟨⟨rfl, rfl⟩, -⟩ _ _ ⟨⟨rfl, rfl⟩, -⟩ _ _ ⟨⟨rfl, rfl⟩, -⟩ _ _ ⟨⟨rfl, rfl⟩, -⟩ _ _ ⟨⟨rfl, rfl⟩, -⟩ _ _ ⟨⟨rfl, rfl⟩, -⟩ _ _ ⟨⟨rfl, rfl⟩, -⟩ _ _ ⟨⟨rfl, rfl⟩, -⟩ a w1 Z Y
 replace Z := Z.p13 3 4 5 6 7 8 9 10 11 12 13 0 2 O
 try dsimp only at Y
 replace Y := Y.n2 O
 refine wla Z O fun a Z => ab <| G2 ?_
 replace Z := Z.p1 2 O
 refine ap <| am Z results95 (ag O ae) ?_
 exact ⟨O, Y.select [1] de⟩
theorem gQ {M : Nat → Prop} {w0 : World} (T : TypeId) (b : Nat) (v : Value) (bs : By) (ws : World) (hne : bs ≠ []) (Y : St M w0 [bld T b (pq b) v bs] ws) :
  Ret Tryz.prog 95 #[pq b] ws fun u w => u = sv bs ∧ St M w0 [blk b [pq b, v] T] w := by
 have Y : St M w0 [blk b [pq b, v] T, own v 5 1 ((bs).map fun b => [yv b])] ws := kL Y
 obtain ⟨g, cap, rfl, hcap⟩ := wB (Y.g 1 rfl) hne
 exact oY T b g cap bs ws hne hcap Y
theorem gc {M : Nat → Prop} {w0 : World} (T : TypeId) (b : Nat) (ad v : Value) (bs s : By) (ws : World) (hlie : liesAt Tryz.prog Tryz.prog.depth T (2 / Tryz.prog.cellsOf T) 0 160 1 = true) (had : ad = .pointer none ∨ ad = pq b) (hne : s ≠ []) (hbn : bs.length + s.length ≤ 1000000000) (Y : St M w0 [bld T b ad v bs] ws) :
  Ret Tryz.prog 94 #[pq b, sv s] ws fun u w => u = .tuple #[jv (s.length : Int), .nilIface] ∧ ∃ v2, St M w0 [bld T b (pq b) v2 (bs ++ s)] w := by
 rcases had with rfl | rfl
 ·exact pO T b v bs s ws hlie hne hbn Y
 ·exact rX T b v bs s ws hlie hne hbn Y
theorem qA (n : Int) : putI n ≠ [] := fun h => by have := (bX n).1; rw [h] at this; simp at this
theorem gX {M : Nat → Prop} {w0 : World} (T : TypeId) (b : Nat) (ad v lv : Value) (bs : By) (ns : List Int) (ws : World) (hlie : liesAt Tryz.prog Tryz.prog.depth T (2 / Tryz.prog.cellsOf T) 0 160 1 = true) (had : ad = .pointer none ∨ ad = pq b) (hns : smalls ns) (hnn : ns ≠ []) (hbn : bs.length + 9 * ns.length ≤ 1000000000) (Y : St M w0 [bld T b (ad) v bs, own lv 3 1 ((ns).map fun n => [jv n])] ws) :
  Ret Tryz.prog 92 #[pq b, lv] ws fun u w => u = .tuple #[] ∧ ∃ v2, St M w0 [bld T b (pq b) v2 (bs ++ puts ns)] w := by
 refine aC func92 O ntmps92 (lb O) fun a Z => ?_
 replace Z := Z.p2 0 1 O
 skip
 refine aa fun _ G1 => nv Z <| xK O <| xJ ((aI (sT := 24) (Y.ow 1 O) O O (runUnderlying24 _)).asi (m' := (ns.length : Int)) Ai) <| xK O <| fun a Z => G1 <| ar ?_
 replace Y : St M w0 [bld T b ad v (bs ++ puts (ns.take 0)), own lv 3 1 ((ns).map fun n => [jv n])] ws := by rw [show bs ++ puts (ns.take 0) = bs from by simp [puts]]; exact Y
 refine aW (fun m a w => ∃ (k : Nat) (ad : Value) (v : Value), m = ns.length - k ∧ (k ≤ ns.length) ∧ (ad = .pointer none ∨ ad = pq b) ∧ (0 < k → ad = pq b) ∧ Fr 25 [(0, pq b), (8, lv), (9, jv (ns.length : Int)), (10, jv (k : Int))] [] a ∧ St M w0 [bld T b (ad) v (bs ++ puts (ns.take k)), own lv 3 1 ((ns).map fun n => [jv n])] w) _ ⟨0, ad, v, O, ym _, had, (fun h => absurd h (zq 0)), Z.pick [0, 8, 9, 10], Y⟩ ?_
 rintro _ a w1 ⟨k, ad, v, rfl, hk, had, hak, Z, Y⟩
 refine aa fun _ G2 => wlv Z (v_lt O O) fun a Z => G2 <| ah fun _ G3 => ?_
 refine aA Z O (fun hc1 => ?_) (fun hc1 => ?_)
 ·refine au <| G3 <| ah fun _ G4 => ar <| aa fun _ G5 => nv Z <| xJ ((aj (i := (k : Int)) (sT := 24) (Y.ow 1 O) O O (runUnderlying24 _) (sizeOf3 _) om zY).as (v' := slAddr lv (k * 1)) O) <| xJ (aB (u := jv (ns.getD k 0)) (i := k) (j := 0) (Y.ow 1 O) zY O (isAgg3 _) Bb) <| xL O <| fun a Z => G5 <| aa fun _ G6 => ?_
  refine wlm Z O fun a Z => aw Z Y call60 O (fk (ns.getD k 0) _ (hns _ (bc om))) fun a w2 Z Y => nv Z <| xK O <| xJ (aq O O) <| xJ (aq O O) <| xL O <| xL O <| fun a Z => G6 ?_
  refine ai <| nv (Z.p5 0 8 9 10 6 O) <| xK O <| xJ (aQ O) <| xJ (ac (v := pq b) O kr) <| xK O <| fun a Z => aZ (R := fun u e' => u = .tuple #[jv ((putI (ns.getD k 0)).length : Int), .nilIface] ∧ ∃ v2, e' = bld T b (pq b) v2 ((bs ++ puts (ns.take k)) ++ (putI (ns.getD k 0)))) 0 Z Y O de call94 O (fun h => (gc T b _ _ _ _ _ hlie (had) (qA _) (by have h1 := dQ (ns.take k); have h2 := (bX (ns.getD k 0)).2; rw [xV] at h1; rw [xQ]; omega) h).mono fun u w ⟨h1, v2, h2⟩ => ⟨_, ⟨h1, v2, O⟩, h2⟩) ?_
  clear Z Y
  rintro a w3 _ _ ⟨rfl, v2, rfl⟩ Z Y
  try dsimp only at Y
  replace Y := Y.n2 O
  refine ab <| G4 ?_
  refine ai <| nv (Z.p4 0 8 9 10 O) <| xJ (aP O O ⟨om, om⟩) <| xK O <| fun a Z => ab ?_
  replace Y : St M w0 [bld T b (pq b) v2 (bs ++ puts (ns.take (k + 1))), own lv 3 1 ((ns).map fun n => [jv n])] w3 := by rw [show bs ++ puts (ns.take (k + 1)) = (bs ++ puts (ns.take k)) ++ (putI (ns.getD k 0)) from by rw [cz 0 om, mq, yF]]; exact Y
  refine ⟨_, ?_, k + 1, pq b, v2, O, om, (.inr O), (fun _ => O), Z.pick [0, 8, 9, 10], Y⟩
  omega
 obtain rfl : k = ns.length := by omega
 rw [List.take_length] at Y
 obtain rfl := hak (List.length_pos_iff.2 hnn)
 refine aO <| cQ Z results92 ae ?_
 exact ⟨O, _, Y.select [0] de⟩
theorem kD {M : Nat → Prop} {w0 : World} (T : TypeId) (b : Nat) (ad v : Value) (bs : By) (x : Wsh) (ws : World) (hlie : liesAt Tryz.prog Tryz.prog.depth T (2 / Tryz.prog.cellsOf T) 0 160 1 = true) (had : ad = .pointer none ∨ ad = pq b) (hx : smalls x.nums) (hbn : bs.length ≤ 1000000) (Y : St M w0 [bld T b (ad) v bs] ws) :
  Ret Tryz.prog 88 #[pq b, .agg #[jv x.signer, jv x.holder, jv x.rf, jv x.rt, jv x.carrier, jv x.serial, jv x.sf, jv x.st, sv x.sig]] ws fun u w => u = .tuple #[] ∧ ∃ v2, St M w0 [bld T b (pq b) v2 (bs ++ x.content)] w := by
 refine aC func88 O ntmps88 (lb O) fun a Z => ?_
 replace Z := Z.p2 0 1 O
 skip
 refine aa fun _ G1 => aS Z Y O [jv x.signer, jv x.holder, jv x.rf, jv x.rt, jv x.carrier, jv x.serial, jv x.sf, jv x.st, sv x.sig] O fun a w1 Z Y => G1 <| ai ?_
 refine nv Z <| xK O <| xJ (ac (v := pq ws.hz) O kr) <| xJ (ld Y 0 O O (isAgg3 _) O) <| xJ (ac (v := pw2 ws.hz 1) O kr) <| xJ (ld Y 0 O O (isAgg3 _) O) <| xJ (ac (v := pw2 ws.hz 2) O kr) <| xJ (ac (v := pw2 ws.hz 2) O kr) <| xJ (ld Y 0 O O (isAgg3 _) O) <| xJ (ac (v := pw2 ws.hz 2) O kr) <| xJ (ac (v := pw2 ws.hz 3) O kr) <| fun a Z => ?_
 refine nv Z <| xJ (ld Y 0 O O (isAgg3 _) O) <| xJ (ac (v := pw2 ws.hz 4) O kr) <| xJ (ld Y 0 O O (isAgg3 _) O) <| xJ (ac (v := pw2 ws.hz 5) O kr) <| xJ (ld Y 0 O O (isAgg3 _) O) <| xJ (ac (v := pw2 ws.hz 6) O kr) <| xJ (ac (v := pw2 ws.hz 6) O kr) <| xJ (ld Y 0 O O (isAgg3 _) O) <| xJ (ac (v := pw2 ws.hz 6) O kr) <| xJ (ac (v := pw2 ws.hz 7) O kr) <| xJ (ld Y 0 O O (isAgg3 _) O) <| fun a Z => aE (E := 3) (sz := 1) O [[jv 1], [jv x.signer], [jv x.holder], [jv x.rf], [jv x.rt], [jv x.carrier], [jv x.serial], [jv x.sf], [jv x.st]] kr sm O de de Z Y fun a w2 Z Y => ?_
 replace Y := Y.s3 [2, 0, 1] de rfl
 replace Y := St.join [bld T b (ad) v bs, own (.slice (some ⟨w1.hz, 0, none⟩) 9 9) 3 1 ([[jv 1], [jv x.signer], [jv x.holder], [jv x.rf], [jv x.rt], [jv x.carrier], [jv x.serial], [jv x.sf], [jv x.st]])] [blk ws.hz [jv x.signer, jv x.holder, jv x.rf, jv x.rt, jv x.carrier, jv x.serial, jv x.sf, jv x.st, sv x.sig] 90] Y
 refine aZ (R := fun u e' => u = .tuple #[] ∧ ∃ v2, e' = bld T b (pq b) v2 (bs ++ puts [1, x.signer, x.holder, x.rf, x.rt, x.carrier, x.serial, x.sf, x.st])) 0 Z Y O de call92 O (fun h => (gX T b _ _ _ _ [1, x.signer, x.holder, x.rf, x.rt, x.carrier, x.serial, x.sf, x.st] _ hlie (had) (hx) sm (by simp <;> omega) (St.unjoin [bld T b (ad) v bs, own (.slice (some ⟨w1.hz, 0, none⟩) 9 9) 3 1 ([[jv 1], [jv x.signer], [jv x.holder], [jv x.rf], [jv x.rt], [jv x.carrier], [jv x.serial], [jv x.sf], [jv x.st]])] [] h)).mono fun u w ⟨h1, v2, h2⟩ => ⟨_, ⟨h1, v2, O⟩, h2⟩) ?_
 clear Z Y
 rintro a w3 _ _ ⟨rfl, v1, rfl⟩ Z Y
 try dsimp only at Y
 replace Y := Y.n2 O
 refine ab <| cQ Z results88 ae ?_
 exact ⟨O, _, Y.select [0] de⟩
theorem ji {M : Nat → Prop} {w0 : World} (T : TypeId) (b : Nat) (ad v : Value) (bs : By) (x : Pxy) (ws : World) (hlie : liesAt Tryz.prog Tryz.prog.depth T (2 / Tryz.prog.cellsOf T) 0 160 1 = true) (had : ad = .pointer none ∨ ad = pq b) (hx : smalls x.nums) (hbn : bs.length ≤ 1000000) (Y : St M w0 [bld T b (ad) v bs] ws) :
  Ret Tryz.prog 93 #[pq b, .agg #[jv x.frm, jv x.to, jv x.rf, jv x.rt, jv x.sf, jv x.st, sv x.sig]] ws fun u w => u = .tuple #[] ∧ ∃ v2, St M w0 [bld T b (pq b) v2 (bs ++ x.content)] w := by
 refine aC func93 O ntmps93 (lb O) fun a Z => ?_
 replace Z := Z.p2 0 1 O
 skip
 refine aa fun _ G1 => aS Z Y O [jv x.frm, jv x.to, jv x.rf, jv x.rt, jv x.sf, jv x.st, sv x.sig] O fun a w1 Z Y => G1 <| ai ?_
 refine nv Z <| xK O <| xJ (ac (v := pq ws.hz) O kr) <| xJ (ld Y 0 O O (isAgg3 _) O) <| xJ (ac (v := pw2 ws.hz 1) O kr) <| xJ (ld Y 0 O O (isAgg3 _) O) <| xJ (ac (v := pw2 ws.hz 2) O kr) <| xJ (ac (v := pw2 ws.hz 2) O kr) <| xJ (ld Y 0 O O (isAgg3 _) O) <| xJ (ac (v := pw2 ws.hz 2) O kr) <| xJ (ac (v := pw2 ws.hz 3) O kr) <| fun a Z => ?_
 refine nv Z <| xJ (ld Y 0 O O (isAgg3 _) O) <| xJ (ac (v := pw2 ws.hz 4) O kr) <| xJ (ac (v := pw2 ws.hz 4) O kr) <| xJ (ld Y 0 O O (isAgg3 _) O) <| xJ (ac (v := pw2 ws.hz 4) O kr) <| xJ (ac (v := pw2 ws.hz 5) O kr) <| xJ (ld Y 0 O O (isAgg3 _) O) <| fun a Z => aE (E := 3) (sz := 1) O [[jv 2], [jv x.frm], [jv x.to], [jv x.rf], [jv x.rt], [jv x.sf], [jv x.st]] kr sm O de de Z Y fun a w2 Z Y => ?_
 replace Y := Y.s3 [2, 0, 1] de rfl
 replace Y := St.join [bld T b (ad) v bs, own (.slice (some ⟨w1.hz, 0, none⟩) 7 7) 3 1 ([[jv 2], [jv x.frm], [jv x.to], [jv x.rf], [jv x.rt], [jv x.sf], [jv x.st]])] [blk ws.hz [jv x.frm, jv x.to, jv x.rf, jv x.rt, jv x.sf, jv x.st, sv x.sig] 144] Y
 refine aZ (R := fun u e' => u = .tuple #[] ∧ ∃ v2, e' = bld T b (pq b) v2 (bs ++ puts [2, x.frm, x.to, x.rf, x.rt, x.sf, x.st])) 0 Z Y O de call92 O (fun h => (gX T b _ _ _ _ [2, x.frm, x.to, x.rf, x.rt, x.sf, x.st] _ hlie (had) (hx) sm (by simp <;> omega) (St.unjoin [bld T b (ad) v bs, own (.slice (some ⟨w1.hz, 0, none⟩) 7 7) 3 1 ([[jv 2], [jv x.frm], [jv x.to], [jv x.rf], [jv x.rt], [jv x.sf], [jv x.st]])] [] h)).mono fun u w ⟨h1, v2, h2⟩ => ⟨_, ⟨h1, v2, O⟩, h2⟩) ?_
 clear Z Y
 rintro a w3 _ _ ⟨rfl, v1, rfl⟩ Z Y
 try dsimp only at Y
 replace Y := Y.n2 O
 refine ab <| cQ Z results93 ae ?_
 exact ⟨O, _, Y.select [0] de⟩
theorem nk {M : Nat → Prop} {w0 : World} (key content : By) (g : FuncId) (caps : List Value) (ec : Ent) (ws : World) (hen : ∀ args w, (callFunc g args).run Tryz.prog w = .ok (.enter g args) w)
  (hc : ∀ {M : Nat → Prop} {w0 : World} (b : Nat) (v : Value) (ws : World), St M w0 [bld 162 b (.pointer none) v [], ec] ws → Ret Tryz.prog g ([pq b] ++ caps).toArray ws fun u w => u = .tuple #[] ∧ ∃ v2, St M w0 [bld 162 b (pq b) v2 content, ec] w)
  (hne : content ≠ []) (hkl : key.length ≤ 40000000) (hcl : content.length ≤ 40000000) (Y : St M w0 [blk 0 (kOf.map wv) 258, ec] ws) :
  Ret Tryz.prog 86 #[sv key, .func (.func g) #[] caps.toArray] ws fun u w => u = sv (sealH key content) ∧ St M w0 [blk 0 (kOf.map wv) 258, ec] w := by
 refine aC func86 O ntmps86 (lb O) fun a Z => ?_
 replace Z := Z.p2 0 1 O
 skip
 refine aa fun _ G1 => wla Z O fun a Z => G1 <| aa fun _ G2 => ?_
 refine aD Z Y (zeroValue162 _) [.pointer none, .slice none 0 0] O fun a w1 Z Y => G2 <| aa fun _ G3 => ?_
 refine wlm Z O fun a Z => ?_
 replace Y : St M w0 (own (.slice none 0 0) 5 1 [] :: [blk ws.hz [.pointer none, .slice none 0 0] 162, blk 0 (kOf.map wv) 258, ec]) w1 := Y.nil_own
 replace Y := Y.s4 [1, 0, 3, 2] de rfl
 replace Y : St M w0 ([bld 162 (ws.hz) (.pointer none) (.slice none 0 0) [], ec] ++ [blk 0 (kOf.map wv) 258]) w1 := St.join [blk ws.hz [.pointer none, .slice none 0 0] 162, own (.slice none 0 0) 5 1 ([])] [ec, blk 0 (kOf.map wv) 258] Y
 replace Y := St.join _ _ Y
 refine rW (R := fun u e' => u = .tuple #[] ∧ ∃ v2, e' = join [bld 162 (ws.hz) (pq ws.hz) v2 content, ec]) 0 Z Y O de O hen O (fun h => (hc (ws.hz) _ _ (St.unjoin [bld 162 (ws.hz) (.pointer none) (.slice none 0 0) [], ec] [] h)).mono fun u w ⟨h1, v2, h2⟩ => ⟨_, ⟨h1, v2, O⟩, St.join _ [] h2⟩) ?_
 clear Z Y
 rintro a w2 _ _ ⟨rfl, v1, rfl⟩ Z Y
 replace Y : St M w0 [bld 162 (ws.hz) (pq ws.hz) v1 content, ec, blk 0 (kOf.map wv) 258] w2 := St.unjoin [bld 162 (ws.hz) (pq ws.hz) v1 content, ec] [blk 0 (kOf.map wv) 258] Y
 refine G3 <| aa fun _ G4 => ?_
 refine nv Z <| xK O <| xJ (ac (v := pq ws.hz) O kr) <| fun a Z => aZ (R := fun u e' => u = sv (content) ∧ e' = blk (ws.hz) [pq ws.hz, v1] 162) 0 Z Y O de call95 O (fun h => (gQ 162 (ws.hz) _ _ _ hne h).mono fun u w ⟨h1, h2⟩ => ⟨_, ⟨h1, O⟩, h2⟩) ?_
 clear Z Y
 rintro a w3 _ _ ⟨rfl, rfl⟩ Z Y
 try dsimp only at Y
 replace Y := Y.n3 O
 refine aw Z Y call139 O (jE content _ om (Y.g 2 O)) fun a w4 Z Y => aw Z Y call138 O (gr key (leafH sha content) _ om (by rw [dm cD]; decide) (Y.g 2 O)) fun a w5 Z Y => wla Z O fun a Z => G4 ?_
 replace Z := Z.p1 4 O
 refine ap <| am Z results86 (ag O ae) ?_
 exact ⟨O, Y.select [2, 1] de⟩
theorem ky (s : By) (w0 : World) :
  Ret Tryz.prog 84 #[sv s] w0 fun v w => v = .bool (decide ((s.length : Int) = 32)) ∧ Ext No w0 w := by
 refine zN func84 O ntmps84 (lb O) fun a Z Y => ?_
 refine aa fun _ G1 => wla Z O fun a Z => G1 <| aa fun _ G2 => ?_
 refine nv Z <| xK O <| xJ (br O O (runUnderlying9 _)) <| xJ (v_eq O O) <| xL O <| fun a Z => G2 <| ap ?_
 refine am Z results84 (ag O ae) ?_
 exact ⟨by rfl, Y.ext⟩
theorem cU (n lo hi : Int) (w0 : World) :
  Ret Tryz.prog 100 #[jv n, jv lo, jv hi] w0 fun v w => v = .bool (inB n lo hi) ∧ Ext No w0 w := by
 refine zO func100 O ntmps100 (lb O) fun a Z Y => ?_
 refine aa fun _ G1 => wla Z O fun a Z => G1 <| aa fun _ G2 => ?_
 refine nv Z <| xK O <| xK O <| xJ (v_le O O) <| xK O <| fun a Z => dj (N := 15) (df := []) 4 [(14, .bool ((decide (lo ≤ n)) && (decide (n ≤ hi)))), (0, jv n), (1, jv lo), (2, jv hi), (6, .bool false)] ?_ (fun hj => ?_)
 rotate_left
 ·rcases xU (decide (lo ≤ n)) with hb1 | hb1
  ·rw [hb1] at Z
   have hb1b := hb1
   try simp only [qz, xP, yh, yd, yg] at hb1
   refine nv Z <| xM (ay O) <| xM (ay O) <| xM (v_le O O) <| xJ (ax O O) <| fun a Z => hj _ ?_
   try rw [hb1b]
   exact Z.pick [14, 0, 1, 2, 6]
  rw [hb1] at Z
  have hb1b := hb1
  try simp only [qz, xP, yh, yd, yg] at hb1
  refine nv Z <| xN <| xN <| xN <| xJ (ak O O) <| fun a Z => hj _ ?_
  try rw [hb1b]
  exact Z.pick [14, 0, 1, 2, 6]
 intro a Z
 refine wla Z O fun a Z => G2 <| ap ?_
 refine am Z results100 (ag O ae) ?_
 exact ⟨by rfl, Y.ext⟩
theorem kx (b d : Int) (w0 : World) :
  Ret Tryz.prog 136 #[.agg #[jv b, jv d]] w0 fun v w => v = .bool (cF b d) ∧ Ext No w0 w := by
 refine zN func136 O ntmps136 (lb O) fun a Z Y => ?_
 refine aa fun _ G1 => aS Z Y O [jv b, jv d] O fun a w1 Z Y => wla Z O fun a Z => G1 <| aa fun _ G2 => ?_
 refine nv Z <| xJ (ac (v := pq w0.hz) O kr) <| xJ (ld Y 0 O O (isAgg3 _) O) <| xJ (v_le O O) <| xK O <| fun a Z => dj (N := 18) (df := []) 6 [(12, .bool ((decide (0 ≤ b)) && (decide (b < d)))), (0, .agg #[jv b, jv d]), (1, pq w0.hz), (2, .bool false)] ?_ (fun hj => ?_)
 rotate_left
 ·rcases xU (decide (0 ≤ b)) with hb1 | hb1
  ·rw [hb1] at Z
   have hb1b := hb1
   try simp only [qz, xP, yh, yd, yg] at hb1
   refine nv Z <| xM (ac (v := pq w0.hz) O kr) <| xM (ld Y 0 O O (isAgg3 _) O) <| xM (ac (v := pw2 w0.hz 1) O kr) <| xM (ld Y 0 O O (isAgg3 _) O) <| xM (v_lt O O) <| xJ (ax O O) <| fun a Z => hj _ ?_
   try rw [hb1b]
   exact Z.pick [12, 0, 1, 2]
  rw [hb1] at Z
  have hb1b := hb1
  try simp only [qz, xP, yh, yd, yg] at hb1
  refine nv Z <| xN <| xN <| xN <| xN <| xN <| xJ (ak O O) <| fun a Z => hj _ ?_
  try rw [hb1b]
  exact Z.pick [12, 0, 1, 2]
 intro a Z
 refine wlm Z O fun a Z => dj (N := 18) (df := []) 4 [(17, .bool (((decide (0 ≤ b)) && (decide (b < d))) && (decide (d ≤ 100000000)))), (0, .agg #[jv b, jv d]), (1, pq w0.hz), (2, .bool false)] ?_ (fun hj => ?_)
 rotate_left
 ·rcases xU ((decide (0 ≤ b)) && (decide (b < d))) with hb2 | hb2
  ·rw [hb2] at Z
   have hb2b := hb2
   try simp only [qz, xP, yh, yd, yg] at hb2
   refine nv Z <| xM (ac (v := pw2 w0.hz 1) O kr) <| xM (ld Y 0 O O (isAgg3 _) O) <| xM (v_le O O) <| xJ (ax O O) <| fun a Z => hj _ ?_
   try rw [hb2b]
   exact Z.pick [17, 0, 1, 2]
  rw [hb2] at Z
  have hb2b := hb2
  try simp only [qz, xP, yh, yd, yg] at hb2
  refine nv Z <| xN <| xN <| xN <| xJ (ak O O) <| fun a Z => hj _ ?_
  try rw [hb2b]
  exact Z.pick [17, 0, 1, 2]
 intro a Z
 refine wla Z O fun a Z => G2 <| ap ?_
 refine am Z results136 (ag O ae) ?_
 exact ⟨by rfl, Y.ext⟩
theorem kB (b d : Int) (w0 : World) :
  Ret Tryz.prog 137 #[.agg #[jv b, jv d]] w0 fun v w => v = .bool (dy b d) ∧ Ext No w0 w := by
 refine zN func137 O ntmps137 (lb O) fun a Z Y => ?_
 refine aa fun _ G1 => aS Z Y O [jv b, jv d] O fun a w1 Z Y => wla Z O fun a Z => G1 <| aa fun _ G2 => ?_
 refine nv Z <| xJ (ac (v := pq w0.hz) O kr) <| xJ (ld Y 0 O O (isAgg3 _) O) <| xJ (v_le O O) <| xK O <| fun a Z => dj (N := 18) (df := []) 6 [(12, .bool ((decide (0 ≤ b)) && (decide (b < d)))), (0, .agg #[jv b, jv d]), (1, pq w0.hz), (2, .bool false)] ?_ (fun hj => ?_)
 rotate_left
 ·rcases xU (decide (0 ≤ b)) with hb1 | hb1
  ·rw [hb1] at Z
   have hb1b := hb1
   try simp only [qz, xP, yh, yd, yg] at hb1
   refine nv Z <| xM (ac (v := pq w0.hz) O kr) <| xM (ld Y 0 O O (isAgg3 _) O) <| xM (ac (v := pw2 w0.hz 1) O kr) <| xM (ld Y 0 O O (isAgg3 _) O) <| xM (v_lt O O) <| xJ (ax O O) <| fun a Z => hj _ ?_
   try rw [hb1b]
   exact Z.pick [12, 0, 1, 2]
  rw [hb1] at Z
  have hb1b := hb1
  try simp only [qz, xP, yh, yd, yg] at hb1
  refine nv Z <| xN <| xN <| xN <| xN <| xN <| xJ (ak O O) <| fun a Z => hj _ ?_
  try rw [hb1b]
  exact Z.pick [12, 0, 1, 2]
 intro a Z
 refine wlm Z O fun a Z => dj (N := 18) (df := []) 4 [(17, .bool (((decide (0 ≤ b)) && (decide (b < d))) && (decide (d ≤ 10000001)))), (0, .agg #[jv b, jv d]), (1, pq w0.hz), (2, .bool false)] ?_ (fun hj => ?_)
 rotate_left
 ·rcases xU ((decide (0 ≤ b)) && (decide (b < d))) with hb2 | hb2
  ·rw [hb2] at Z
   have hb2b := hb2
   try simp only [qz, xP, yh, yd, yg] at hb2
   refine nv Z <| xM (ac (v := pw2 w0.hz 1) O kr) <| xM (ld Y 0 O O (isAgg3 _) O) <| xM (v_le O O) <| xJ (ax O O) <| fun a Z => hj _ ?_
   try rw [hb2b]
   exact Z.pick [17, 0, 1, 2]
  rw [hb2] at Z
  have hb2b := hb2
  try simp only [qz, xP, yh, yd, yg] at hb2
  refine nv Z <| xN <| xN <| xN <| xJ (ak O O) <| fun a Z => hj _ ?_
  try rw [hb2b]
  exact Z.pick [17, 0, 1, 2]
 intro a Z
 refine wla Z O fun a Z => G2 <| ap ?_
 refine am Z results137 (ag O ae) ?_
 exact ⟨by rfl, Y.ext⟩
theorem iV (x : Wsh) (w0 : World) :
  Ret Tryz.prog 85 #[.agg #[jv x.signer, jv x.holder, jv x.rf, jv x.rt, jv x.carrier, jv x.serial, jv x.sf, jv x.st, sv x.sig]] w0 fun v w => v = .bool x.ok ∧ Ext No w0 w := by
 refine zN func85 O ntmps85 (lb O) fun a Z Y => ?_
 refine aa fun _ G1 => aS Z Y O [jv x.signer, jv x.holder, jv x.rf, jv x.rt, jv x.carrier, jv x.serial, jv x.sf, jv x.st, sv x.sig] O fun a w1 Z Y => wla Z O fun a Z => G1 <| aa fun _ G2 => ?_
 refine nv Z <| xJ (ac (v := pq w0.hz) O kr) <| xJ (ld Y 0 O O (isAgg3 _) O) <| fun a Z => aw Z Y call100 O (cU x.signer 0 63 _) fun a w2 Z Y => wlm Z O fun a Z => ?_
 rcases xU (inB x.signer 0 63) with hb1 | hb1
 ·rw [hb1] at Z
  refine nv Z <| xM (ac (v := pw2 w0.hz 1) O kr) <| xM (ld Y 0 O O (isAgg3 _) O) <| fun a Z => aF Z Y call100 O (cU x.holder 0 63 _) fun a w3 Z Y => nv Z <| xJ (ax O O) <| xL O <| fun a Z => G2 ?_
  refine aa fun _ G3 => nv (Z.p3 1 2 3 O) <| xK O <| xK O <| fun a Z => ?_
  rcases xU (inB x.holder 0 63) with hb2 | hb2
  ·rw [hb2] at Z
   refine nv Z <| xM (ac (v := pw2 w0.hz 2) O kr) <| xM (bQ (ds := [jv x.rf, jv x.rt]) (Y.g 0 O) O (isAgg87 _) (sizeOf87 _) O) <| fun a Z => aF Z Y call136 O (kx x.rf x.rt _) fun a w4 Z Y => nv Z <| xJ (ax O O) <| xK O <| fun a Z => ?_
   rcases xU (cF x.rf x.rt) with hb3 | hb3
   ·rw [hb3] at Z
    refine nv Z <| xM (ac (v := pw2 w0.hz 4) O kr) <| xM (ld Y 0 O O (isAgg3 _) O) <| fun a Z => aF Z Y call100 O (cU x.carrier 0 7 _) fun a w5 Z Y => nv Z <| xJ (ax O O) <| xK O <| fun a Z => ?_
    rcases xU (inB x.carrier 0 7) with hb4 | hb4
    ·rw [hb4] at Z
     refine nv Z <| xM (ac (v := pw2 w0.hz 5) O kr) <| xM (ld Y 0 O O (isAgg3 _) O) <| fun a Z => aF Z Y call100 O (cU x.serial 0 1000000 _) fun a w6 Z Y => nv Z <| xJ (ax O O) <| xK O <| fun a Z => ?_
     rcases xU (inB x.serial 0 1000000) with hb5 | hb5
     ·rw [hb5] at Z
      refine nv Z <| xM (ac (v := pw2 w0.hz 6) O kr) <| xM (bQ (ds := [jv x.sf, jv x.st]) (Y.g 0 O) O (isAgg88 _) (sizeOf88 _) O) <| fun a Z => aF Z Y call137 O (kB x.sf x.st _) fun a w7 Z Y => nv Z <| xJ (ax O O) <| xL O <| fun a Z => G3 ?_
      replace Z := Z.p1 2 O
      replace Y := Y.k0 0 O
      refine ap <| am Z results85 (ag O ae) ?_
      exact ⟨by simp only [retv]; unfold Wsh.ok; simp [hb1, hb2, hb3, hb4, hb5], Y.ext⟩
     rw [hb5] at Z
     refine nv Z <| xN <| xN <| xN <| xJ (ak O O) <| xL O <| fun a Z => G3 ?_
     replace Z := Z.p1 2 O
     replace Y := Y.k0 0 O
     refine ap <| am Z results85 (ag O ae) ?_
     exact ⟨by simp only [retv]; unfold Wsh.ok; simp [hb1, hb2, hb3, hb4, hb5], Y.ext⟩
    rw [hb4] at Z
    refine nv Z <| xN <| xN <| xN <| xJ (ak O O) <| xK O <| xN <| xN <| xN <| xJ (ak O O) <| xL O <| fun a Z => G3 ?_
    replace Z := Z.p1 2 O
    replace Y := Y.k0 0 O
    refine ap <| am Z results85 (ag O ae) ?_
    exact ⟨by simp only [retv]; unfold Wsh.ok; simp [hb1, hb2, hb3, hb4], Y.ext⟩
   rw [hb3] at Z
   refine nv Z <| xN <| xN <| xN <| xJ (ak O O) <| xK O <| xN <| xN <| xN <| xJ (ak O O) <| xK O <| xN <| xN <| xN <| xJ (ak O O) <| xL O <| fun a Z => G3 ?_
   replace Z := Z.p1 2 O
   replace Y := Y.k0 0 O
   refine ap <| am Z results85 (ag O ae) ?_
   exact ⟨by simp only [retv]; unfold Wsh.ok; simp [hb1, hb2, hb3], Y.ext⟩
  rw [hb2] at Z
  refine nv Z <| xN <| xN <| xN <| xJ (ak O O) <| xK O <| xN <| xN <| xN <| xJ (ak O O) <| xK O <| xN <| xN <| xN <| xJ (ak O O) <| xK O <| xN <| xN <| xN <| xJ (ak O O) <| xL O <| fun a Z => G3 ?_
  replace Z := Z.p1 2 O
  replace Y := Y.k0 0 O
  refine ap <| am Z results85 (ag O ae) ?_
  exact ⟨by simp only [retv]; unfold Wsh.ok; simp [hb1, hb2], Y.ext⟩
 rw [hb1] at Z
 refine nv Z <| xN <| xN <| xN <| xJ (ak O O) <| xL O <| fun a Z => G2 ?_
 refine aa fun _ G4 => nv (Z.p3 1 2 3 O) <| xK O <| xK O <| xN <| xN <| xN <| xJ (ak O O) <| xK O <| xN <| xN <| xN <| xJ (ak O O) <| xK O <| xN <| xN <| xN <| xJ (ak O O) <| xK O <| xN <| xN <| xN <| xJ (ak O O) <| xL O <| fun a Z => G4 ?_
 replace Z := Z.p1 2 O
 replace Y := Y.k0 0 O
 refine ap <| am Z results85 (ag O ae) ?_
 exact ⟨by simp only [retv]; unfold Wsh.ok; simp [hb1], Y.ext⟩
theorem kJ (x : Pxy) (w0 : World) :
  Ret Tryz.prog 178 #[.agg #[jv x.frm, jv x.to, jv x.rf, jv x.rt, jv x.sf, jv x.st, sv x.sig]] w0 fun v w => v = .bool x.ok ∧ Ext No w0 w := by
 refine zN func178 O ntmps178 (lb O) fun a Z Y => ?_
 refine aa fun _ G1 => aS Z Y O [jv x.frm, jv x.to, jv x.rf, jv x.rt, jv x.sf, jv x.st, sv x.sig] O fun a w1 Z Y => wla Z O fun a Z => G1 <| aa fun _ G2 => ?_
 refine nv Z <| xJ (ac (v := pq w0.hz) O kr) <| xJ (ld Y 0 O O (isAgg3 _) O) <| fun a Z => aw Z Y call100 O (cU x.frm 0 63 _) fun a w2 Z Y => wlm Z O fun a Z => ?_
 rcases xU (inB x.frm 0 63) with hb1 | hb1
 ·rw [hb1] at Z
  refine nv Z <| xM (ac (v := pw2 w0.hz 1) O kr) <| xM (ld Y 0 O O (isAgg3 _) O) <| fun a Z => aF Z Y call100 O (cU x.to 0 63 _) fun a w3 Z Y => nv Z <| xJ (ax O O) <| xK O <| fun a Z => ?_
  rcases xU (inB x.to 0 63) with hb2 | hb2
  ·rw [hb2] at Z
   refine nv Z <| xM (ac (v := pq w0.hz) O kr) <| xM (ld Y 0 O O (isAgg3 _) O) <| xM (ac (v := pw2 w0.hz 1) O kr) <| xM (ld Y 0 O O (isAgg3 _) O) <| xM (v_ne O O) <| xJ (ax O O) <| xL O <| fun a Z => G2 ?_
   refine aa fun _ G3 => nv (Z.p3 1 2 3 O) <| xK O <| xK O <| fun a Z => ?_
   rcases (Decidable.em (x.frm = x.to)).symm with hb3 | hb3
   ·rw [xW hb3] at Z
    refine nv Z <| xM (ac (v := pw2 w0.hz 2) O kr) <| xM (bQ (ds := [jv x.rf, jv x.rt]) (Y.g 0 O) O (isAgg87 _) (sizeOf87 _) O) <| fun a Z => aF Z Y call136 O (kx x.rf x.rt _) fun a w4 Z Y => nv Z <| xJ (ax O O) <| xK O <| fun a Z => ?_
    rcases xU (cF x.rf x.rt) with hb4 | hb4
    ·rw [hb4] at Z
     refine nv Z <| xM (ac (v := pw2 w0.hz 4) O kr) <| xM (bQ (ds := [jv x.sf, jv x.st]) (Y.g 0 O) O (isAgg88 _) (sizeOf88 _) O) <| fun a Z => aF Z Y call137 O (kB x.sf x.st _) fun a w5 Z Y => nv Z <| xJ (ax O O) <| xL O <| fun a Z => G3 ?_
     replace Z := Z.p1 2 O
     replace Y := Y.k0 0 O
     refine ap <| am Z results178 (ag O ae) ?_
     exact ⟨by simp only [retv]; unfold Pxy.ok; simp [hb1, hb2, hb3, hb4], Y.ext⟩
    rw [hb4] at Z
    refine nv Z <| xN <| xN <| xN <| xJ (ak O O) <| xL O <| fun a Z => G3 ?_
    replace Z := Z.p1 2 O
    replace Y := Y.k0 0 O
    refine ap <| am Z results178 (ag O ae) ?_
    exact ⟨by simp only [retv]; unfold Pxy.ok; simp [hb1, hb2, hb3, hb4], Y.ext⟩
   rw [xS hb3] at Z
   refine nv Z <| xN <| xN <| xN <| xJ (ak O O) <| xK O <| xN <| xN <| xN <| xJ (ak O O) <| xL O <| fun a Z => G3 ?_
   replace Z := Z.p1 2 O
   replace Y := Y.k0 0 O
   refine ap <| am Z results178 (ag O ae) ?_
   exact ⟨by simp only [retv]; unfold Pxy.ok; simp [hb1, hb2, hb3], Y.ext⟩
  rw [hb2] at Z
  refine nv Z <| xN <| xN <| xN <| xN <| xN <| xJ (ak O O) <| xL O <| fun a Z => G2 ?_
  refine aa fun _ G4 => nv (Z.p3 1 2 3 O) <| xK O <| xK O <| xN <| xN <| xN <| xJ (ak O O) <| xK O <| xN <| xN <| xN <| xJ (ak O O) <| xL O <| fun a Z => G4 ?_
  replace Z := Z.p1 2 O
  replace Y := Y.k0 0 O
  refine ap <| am Z results178 (ag O ae) ?_
  exact ⟨by simp only [retv]; unfold Pxy.ok; simp [hb1, hb2], Y.ext⟩
 rw [hb1] at Z
 refine nv Z <| xN <| xN <| xN <| xJ (ak O O) <| xK O <| xN <| xN <| xN <| xN <| xN <| xJ (ak O O) <| xL O <| fun a Z => G2 ?_
 refine aa fun _ G5 => nv (Z.p3 1 2 3 O) <| xK O <| xK O <| xN <| xN <| xN <| xJ (ak O O) <| xK O <| xN <| xN <| xN <| xJ (ak O O) <| xL O <| fun a Z => G5 ?_
 replace Z := Z.p1 2 O
 replace Y := Y.k0 0 O
 refine ap <| am Z results178 (ag O ae) ?_
 exact ⟨by simp only [retv]; unfold Pxy.ok; simp [hb1], Y.ext⟩
theorem wC {M : Nat → Prop} {w0 : World} (b bx : Nat) (v : Value) (x : Wsh) (ws : World) (hx : smalls x.nums) (Y : St M w0 [bld 162 b (.pointer none) v ([] : By), blk bx [jv x.signer, jv x.holder, jv x.rf, jv x.rt, jv x.carrier, jv x.serial, jv x.sf, jv x.st, sv x.sig] 90] ws) :
  Ret Tryz.prog 87 #[pq b, pq bx] ws fun u w => u = .tuple #[] ∧ ∃ v2, St M w0 [bld 162 b (pq b) v2 x.content, blk bx [jv x.signer, jv x.holder, jv x.rf, jv x.rt, jv x.carrier, jv x.serial, jv x.sf, jv x.st, sv x.sig] 90] w := by
 refine aC func87 O ntmps87 (lb O) fun a Z => ?_
 replace Z := Z.p2 0 1 O
 skip
 refine ai <| nv Z <| xK O <| xJ (ao (Y.g 1 O) O (isAgg90 _) (sizeOf90 _)) <| fun a Z => aZ (R := fun u e' => u = .tuple #[] ∧ ∃ v2, e' = bld 162 b (pq b) v2 (([] : By) ++ x.content)) 0 Z Y O de call88 O (fun h => (kD 162 b _ _ _ x _ kr (.inl O) hx sm h).mono fun u w ⟨h1, v2, h2⟩ => ⟨_, ⟨h1, v2, O⟩, h2⟩) ?_
 clear Z Y
 rintro a w1 _ _ ⟨rfl, v1, rfl⟩ Z Y
 try dsimp only at Y
 replace Y := Y.n2 O
 refine ab <| cQ Z results87 ae ?_
 exact ⟨O, _, Y.select [0, 1] de⟩
theorem wk {M : Nat → Prop} {w0 : World} (b bx : Nat) (v : Value) (x : Pxy) (ws : World) (hx : smalls x.nums) (Y : St M w0 [bld 162 b (.pointer none) v ([] : By), blk bx [jv x.frm, jv x.to, jv x.rf, jv x.rt, jv x.sf, jv x.st, sv x.sig] 144] ws) :
  Ret Tryz.prog 185 #[pq b, pq bx] ws fun u w => u = .tuple #[] ∧ ∃ v2, St M w0 [bld 162 b (pq b) v2 x.content, blk bx [jv x.frm, jv x.to, jv x.rf, jv x.rt, jv x.sf, jv x.st, sv x.sig] 144] w := by
 refine aC func185 O ntmps185 (lb O) fun a Z => ?_
 replace Z := Z.p2 0 1 O
 skip
 refine ai <| nv Z <| xK O <| xJ (ao (Y.g 1 O) O (isAgg144 _) (sizeOf144 _)) <| fun a Z => aZ (R := fun u e' => u = .tuple #[] ∧ ∃ v2, e' = bld 162 b (pq b) v2 (([] : By) ++ x.content)) 0 Z Y O de call93 O (fun h => (ji 162 b _ _ _ x _ kr (.inl O) hx sm h).mono fun u w ⟨h1, v2, h2⟩ => ⟨_, ⟨h1, v2, O⟩, h2⟩) ?_
 clear Z Y
 rintro a w1 _ _ ⟨rfl, v1, rfl⟩ Z Y
 try dsimp only at Y
 replace Y := Y.n2 O
 refine ab <| cQ Z results185 ae ?_
 exact ⟨O, _, Y.select [0, 1] de⟩
theorem wD {M : Nat → Prop} {w0 : World} (b bx : Nat) (v : Value) (x : Pxy) (ws : World) (hx : smalls x.nums) (Y : St M w0 [bld 162 b (.pointer none) v ([] : By), blk bx [jv x.frm, jv x.to, jv x.rf, jv x.rt, jv x.sf, jv x.st, sv x.sig] 144] ws) :
  Ret Tryz.prog 149 #[pq b, pq bx] ws fun u w => u = .tuple #[] ∧ ∃ v2, St M w0 [bld 162 b (pq b) v2 x.content, blk bx [jv x.frm, jv x.to, jv x.rf, jv x.rt, jv x.sf, jv x.st, sv x.sig] 144] w := by
 refine aC func149 O ntmps149 (lb O) fun a Z => ?_
 replace Z := Z.p2 0 1 O
 skip
 refine ai <| nv Z <| xK O <| xJ (ao (Y.g 1 O) O (isAgg144 _) (sizeOf144 _)) <| fun a Z => aZ (R := fun u e' => u = .tuple #[] ∧ ∃ v2, e' = bld 162 b (pq b) v2 (([] : By) ++ x.content)) 0 Z Y O de call93 O (fun h => (ji 162 b _ _ _ x _ kr (.inl O) hx sm h).mono fun u w ⟨h1, v2, h2⟩ => ⟨_, ⟨h1, v2, O⟩, h2⟩) ?_
 clear Z Y
 rintro a w1 _ _ ⟨rfl, v1, rfl⟩ Z Y
 try dsimp only at Y
 replace Y := Y.n2 O
 refine ab <| cQ Z results149 ae ?_
 exact ⟨O, _, Y.select [0, 1] de⟩
theorem vK {M : Nat → Prop} {w0 : World} (b bx : Nat) (v : Value) (x : Wsh) (ws : World) (hx : smalls x.nums) (Y : St M w0 [bld 162 b (.pointer none) v ([] : By), blk bx [jv x.signer, jv x.holder, jv x.rf, jv x.rt, jv x.carrier, jv x.serial, jv x.sf, jv x.st, sv x.sig] 90] ws) :
  Ret Tryz.prog 150 #[pq b, pq bx] ws fun u w => u = .tuple #[] ∧ ∃ v2, St M w0 [bld 162 b (pq b) v2 x.content, blk bx [jv x.signer, jv x.holder, jv x.rf, jv x.rt, jv x.carrier, jv x.serial, jv x.sf, jv x.st, sv x.sig] 90] w := by
 refine aC func150 O ntmps150 (lb O) fun a Z => ?_
 replace Z := Z.p2 0 1 O
 skip
 refine ai <| nv Z <| xK O <| xJ (ao (Y.g 1 O) O (isAgg90 _) (sizeOf90 _)) <| fun a Z => aZ (R := fun u e' => u = .tuple #[] ∧ ∃ v2, e' = bld 162 b (pq b) v2 (([] : By) ++ x.content)) 0 Z Y O de call88 O (fun h => (kD 162 b _ _ _ x _ kr (.inl O) hx sm h).mono fun u w ⟨h1, v2, h2⟩ => ⟨_, ⟨h1, v2, O⟩, h2⟩) ?_
 clear Z Y
 rintro a w1 _ _ ⟨rfl, v1, rfl⟩ Z Y
 try dsimp only at Y
 replace Y := Y.n2 O
 refine ab <| cQ Z results150 ae ?_
 exact ⟨O, _, Y.select [0, 1] de⟩
theorem iB {n : Int} {l : List Int} : puts (n :: l) ≠ [] := fun h => by
 have := (bX n).1
 simp only [puts, yC, List.append_eq_nil_iff] at h
 rw [h.1] at this; simp at this
theorem jk (key : By) (x : Wsh) (w0 : World) (hk : key.length = 32) (hok : x.ok = true) (hk0 : (blk 0 (kOf.map wv) 258).ok w0) :
  Ret Tryz.prog 34 #[sv key, .agg #[jv x.signer, jv x.holder, jv x.rf, jv x.rt, jv x.carrier, jv x.serial, jv x.sf, jv x.st, sv x.sig]] w0 fun v w => v = .tuple #[.agg (x.sealed key).cells.toArray, jv 0] ∧ Ext No w0 w := by
 refine aC func34 O ntmps34 (lb O) fun a Z => ?_
 replace Y : St (· = 0) w0 [blk 0 (kOf.map wv) 258] w0 := St.one hk0
 refine aa fun _ G1 => aS (Z.p2 0 1 O) Y O [jv x.signer, jv x.holder, jv x.rf, jv x.rt, jv x.carrier, jv x.serial, jv x.sf, jv x.st, sv x.sig] O fun a w1 Z Y => aD Z Y (zeroValue90 _) [jv 0, jv 0, jv 0, jv 0, jv 0, jv 0, jv 0, jv 0, .string (⟨#[]⟩)] O fun a w2 Z Y => wla Z O fun a Z => G1 <| ah fun _ G2 => ?_
 refine aa fun _ G3 => wlm Z O fun a Z => aw Z Y call84 O (ky key _) fun a w3 Z Y => nv Z <| xJ (bE O) <| xK O <| fun a Z => ?_
 rcases (Decidable.em ((key.length : Int) = 32)).symm with hb1 | hb1
 ·rw [xW hb1] at Z
  exfalso; omega
 rw [xS hb1] at Z
 refine wly Z (ao (Y.g 1 O) O (isAgg90 _) (sizeOf90 _)) fun a Z => aF Z Y call85 O (iV x _) fun a w4 Z Y => nv Z <| xM (bE O) <| xJ (ak O O) <| fun a Z => G3 ?_
 replace Z := Z.p5 0 3 4 5 13 O
 refine bt Z O (fun hc2 => ?_) (fun hc2 => ?_)
 ·try simp only [qz] at hc2
  simp [hok] at hc2
 try simp only [qz] at hc2
 refine au <| G2 <| aa fun _ G4 => nv Z <| xK O <| xJ (cd O O) <| fun a Z => ?_
 replace Y := Y.s3 [2, 1, 0] de rfl
 replace Y := St.join [blk 0 (kOf.map wv) 258, blk w0.hz [jv x.signer, jv x.holder, jv x.rf, jv x.rt, jv x.carrier, jv x.serial, jv x.sf, jv x.st, sv x.sig] 90] [blk w1.hz [jv 0, jv 0, jv 0, jv 0, jv 0, jv 0, jv 0, jv 0, .string (⟨#[]⟩)] 90] Y
 refine aZ (R := fun u e' => u = sv (sealH key x.content) ∧ e' = join [blk 0 (kOf.map wv) 258, blk w0.hz [jv x.signer, jv x.holder, jv x.rf, jv x.rt, jv x.carrier, jv x.serial, jv x.sf, jv x.st, sv x.sig] 90]) 0 Z Y O de call86 O (fun h => (nk key x.content 87 [pq w0.hz] (blk w0.hz [jv x.signer, jv x.holder, jv x.rf, jv x.rt, jv x.carrier, jv x.serial, jv x.sf, jv x.st, sv x.sig] 90) _ call87 (fun b v ws h => wC b _ v x ws (Wsh.smalls_of hok) h) iB om (yL x.content_len de) (St.unjoin [blk 0 (kOf.map wv) 258, blk w0.hz [jv x.signer, jv x.holder, jv x.rf, jv x.rt, jv x.carrier, jv x.serial, jv x.sf, jv x.st, sv x.sig] 90] [] h)).mono fun u w ⟨h1, h2⟩ => ⟨_, ⟨h1, O⟩, St.join _ [] h2⟩) ?_
 clear Z Y
 rintro a w5 _ _ ⟨rfl, rfl⟩ Z Y
 replace Y : St (· = 0) w0 [blk 0 (kOf.map wv) 258, blk w0.hz [jv x.signer, jv x.holder, jv x.rf, jv x.rt, jv x.carrier, jv x.serial, jv x.sf, jv x.st, sv x.sig] 90, blk w1.hz [jv 0, jv 0, jv 0, jv 0, jv 0, jv 0, jv 0, jv 0, .string (⟨#[]⟩)] 90] w5 := St.unjoin [blk 0 (kOf.map wv) 258, blk w0.hz [jv x.signer, jv x.holder, jv x.rf, jv x.rt, jv x.carrier, jv x.serial, jv x.sf, jv x.st, sv x.sig] 90] [blk w1.hz [jv 0, jv 0, jv 0, jv 0, jv 0, jv 0, jv 0, jv 0, .string (⟨#[]⟩)] 90] Y
 refine wlv Z (ac (v := pw2 w0.hz 8) O kr) fun a Z => az 1 Z Y [jv x.signer, jv x.holder, jv x.rf, jv x.rt, jv x.carrier, jv x.serial, jv x.sf, jv x.st, sv (sealH key x.content)] O (sizeOf9 _) fun a w6 Z Y => G4 ?_
 refine aa fun _ G5 => wlv (Z.p3 3 4 5 O) (ao (Y.g 1 O) O (isAgg90 _) (sizeOf90 _)) fun a Z => az 2 Z Y [jv x.signer, jv x.holder, jv x.rf, jv x.rt, jv x.carrier, jv x.serial, jv x.sf, jv x.st, sv (sealH key x.content)] O (sizeOf90 _) fun a w7 Z Y => wla Z O fun a Z => G5 <| ap ?_
 refine am Z results34 (al O (bj (Y.g 2 O) (isAgg90 _) (sizeOf90 _)) (ag O ae)) ?_
 exact ⟨O, Y.ext.const hk0 (Y.g 0 O)⟩
theorem mO (key : By) (x : Pxy) (w0 : World) (hk : key.length = 32) (hok : x.ok = true) (hk0 : (blk 0 (kOf.map wv) 258).ok w0) :
  Ret Tryz.prog 151 #[sv key, .agg #[jv x.frm, jv x.to, jv x.rf, jv x.rt, jv x.sf, jv x.st, sv x.sig]] w0 fun v w => v = .tuple #[.agg (x.sealed key).cells.toArray, jv 0] ∧ Ext No w0 w := by
 refine aC func151 O ntmps151 (lb O) fun a Z => ?_
 replace Y : St (· = 0) w0 [blk 0 (kOf.map wv) 258] w0 := St.one hk0
 refine aa fun _ G1 => aS (Z.p2 0 1 O) Y O [jv x.frm, jv x.to, jv x.rf, jv x.rt, jv x.sf, jv x.st, sv x.sig] O fun a w1 Z Y => aD Z Y (zeroValue144 _) [jv 0, jv 0, jv 0, jv 0, jv 0, jv 0, .string (⟨#[]⟩)] O fun a w2 Z Y => wla Z O fun a Z => G1 <| ah fun _ G2 => ?_
 refine aa fun _ G3 => wlm Z O fun a Z => aw Z Y call84 O (ky key _) fun a w3 Z Y => nv Z <| xJ (bE O) <| xK O <| fun a Z => ?_
 rcases (Decidable.em ((key.length : Int) = 32)).symm with hb1 | hb1
 ·rw [xW hb1] at Z
  exfalso; omega
 rw [xS hb1] at Z
 refine wly Z (ao (Y.g 1 O) O (isAgg144 _) (sizeOf144 _)) fun a Z => aF Z Y call178 O (kJ x _) fun a w4 Z Y => nv Z <| xM (bE O) <| xJ (ak O O) <| fun a Z => G3 ?_
 replace Z := Z.p5 0 3 4 5 13 O
 refine bt Z O (fun hc2 => ?_) (fun hc2 => ?_)
 ·try simp only [qz] at hc2
  simp [hok] at hc2
 try simp only [qz] at hc2
 refine au <| G2 <| aa fun _ G4 => nv Z <| xK O <| xJ (cd O O) <| fun a Z => ?_
 replace Y := Y.s3 [2, 1, 0] de rfl
 replace Y := St.join [blk 0 (kOf.map wv) 258, blk w0.hz [jv x.frm, jv x.to, jv x.rf, jv x.rt, jv x.sf, jv x.st, sv x.sig] 144] [blk w1.hz [jv 0, jv 0, jv 0, jv 0, jv 0, jv 0, .string (⟨#[]⟩)] 144] Y
 refine aZ (R := fun u e' => u = sv (sealH key x.content) ∧ e' = join [blk 0 (kOf.map wv) 258, blk w0.hz [jv x.frm, jv x.to, jv x.rf, jv x.rt, jv x.sf, jv x.st, sv x.sig] 144]) 0 Z Y O de call86 O (fun h => (nk key x.content 185 [pq w0.hz] (blk w0.hz [jv x.frm, jv x.to, jv x.rf, jv x.rt, jv x.sf, jv x.st, sv x.sig] 144) _ call185 (fun b v ws h => wk b _ v x ws (Pxy.smalls_of hok) h) iB om (yL x.content_len de) (St.unjoin [blk 0 (kOf.map wv) 258, blk w0.hz [jv x.frm, jv x.to, jv x.rf, jv x.rt, jv x.sf, jv x.st, sv x.sig] 144] [] h)).mono fun u w ⟨h1, h2⟩ => ⟨_, ⟨h1, O⟩, St.join _ [] h2⟩) ?_
 clear Z Y
 rintro a w5 _ _ ⟨rfl, rfl⟩ Z Y
 replace Y : St (· = 0) w0 [blk 0 (kOf.map wv) 258, blk w0.hz [jv x.frm, jv x.to, jv x.rf, jv x.rt, jv x.sf, jv x.st, sv x.sig] 144, blk w1.hz [jv 0, jv 0, jv 0, jv 0, jv 0, jv 0, .string (⟨#[]⟩)] 144] w5 := St.unjoin [blk 0 (kOf.map wv) 258, blk w0.hz [jv x.frm, jv x.to, jv x.rf, jv x.rt, jv x.sf, jv x.st, sv x.sig] 144] [blk w1.hz [jv 0, jv 0, jv 0, jv 0, jv 0, jv 0, .string (⟨#[]⟩)] 144] Y
 refine wlv Z (ac (v := pw2 w0.hz 6) O kr) fun a Z => az 1 Z Y [jv x.frm, jv x.to, jv x.rf, jv x.rt, jv x.sf, jv x.st, sv (sealH key x.content)] O (sizeOf9 _) fun a w6 Z Y => G4 ?_
 refine aa fun _ G5 => wlv (Z.p3 3 4 5 O) (ao (Y.g 1 O) O (isAgg144 _) (sizeOf144 _)) fun a Z => az 2 Z Y [jv x.frm, jv x.to, jv x.rf, jv x.rt, jv x.sf, jv x.st, sv (sealH key x.content)] O (sizeOf144 _) fun a w7 Z Y => wla Z O fun a Z => G5 <| ap ?_
 refine am Z results151 (al O (bj (Y.g 2 O) (isAgg144 _) (sizeOf144 _)) (ag O ae)) ?_
 exact ⟨O, Y.ext.const hk0 (Y.g 0 O)⟩
theorem lE {M : Nat → Prop} {wb : World} {H : List Ent} {sv : Value} {els : List (List Value)} {caps : List Value} {g : FuncId} (p : Nat → Bool) (ev_ : Nat → Value) (J : Nat → Ent → Prop) (e0 : Ent) (w0 : World)
  (hen : ∀ args w, (callFunc g args).run Tryz.prog w = .ok (.enter g args) w) (hs : ∀ e w, St M wb (e :: H) w → SlAt w sv 7 els)
  (hev : ∀ k (h : k < els.length), .agg (els[k]).toArray = ev_ k) (hJ0 : J 0 e0) (Y : St M wb (e0 :: H) w0)
  (hcl : ∀ k e w, k < els.length → J k e → e.ok w → (∀ b, e.foot b → b < w.hz) → Ret Tryz.prog g ([ev_ k] ++ caps).toArray w fun v w' => v = .bool (p k) ∧ ∃ e', Ext e.foot w w' ∧ e'.ok w' ∧ (∀ b, e'.foot b → b < w'.heap.size ∧ (e.foot b ∨ w.hz ≤ b)) ∧ J (k + 1) e') :
  Ret Tryz.prog 141 #[sv, .func (.func g) #[] caps.toArray] w0 fun v w => v = jv (fstIdx p els.length) ∧ ∃ k e', J k e' ∧ St M wb (e' :: H) w := by
 have hsl := (hs _ _ Y).le
 refine aC func141 O ntmps141 (lb O) fun a Z => aa fun _ G1 => wla (Z.p2 0 1 O) O fun a Z => G1 <| ah fun _ G2 => ?_
 refine aa fun _ G3 => nv Z <| xK O <| xJ (aI (sT := 91) (hs _ _ Y) O O (runUnderlying91 _)) <| xK O <| fun a Z => G3 <| ar ?_
 refine aW (fun m a w => ∃ (k : Nat) (e : Ent), m = els.length - k ∧ (k ≤ els.length) ∧ (∀ j, j < k → p j = false) ∧ (J k e) ∧ Fr 19 [(0, sv), (1, .func (.func g) #[] caps.toArray), (6, sv), (7, jv els.length), (8, jv (k : Int))] [] a ∧ St M wb (e :: H) w) _ ⟨0, e0, O, ym _, (by intro j hj; omega), hJ0, Z.pick [0, 1, 6, 7, 8], Y⟩ ?_
 rintro _ a w1 ⟨k, e, rfl, hk, hp, hJ, Z, Y⟩
 refine aa fun _ G4 => wlv Z (v_lt O O) fun a Z => G4 <| ah fun _ G5 => ?_
 refine aA Z O (fun hc1 => ?_) (fun hc1 => ?_)
 ·rw [xS hc1] at Z
  refine au <| G5 <| ah fun _ G6 => ar <| aa fun _ G7 => nv Z <| xK O <| xL O <| fun a Z => G7 <| aa fun _ G8 => ?_
  refine nv Z <| xK O <| xK O <| xK O <| xJ ((aj (i := (k : Int)) (sT := 91) (hs _ _ Y) O O (runUnderlying91 _) (sizeOf144 _) om om).as (v' := slAddr sv (k * 7)) O) <| xJ ((bP (hs _ _ Y) (i := k) om O (isAgg144 _) (sizeOf144 _)).as (v' := ev_ k) (hev k om)) <| fun a Z => wl_r (gA (cap := caps) O hen O (hcl k _ _ om hJ (Y.g 0 O) (fun b hb => Y.lt (k := 0) O hb))) O O Z fun a v w2 hR Z => ?_
  obtain ⟨rfl, e1, hx, hok, hft, hJ1⟩ := hR
  have Y := Y.exchange (k := 0) rfl hx hok hft
  have Y : St M wb (e1 :: H) w2 := Y
  refine G8 <| bt Z O (fun hc2 => ?_) (fun hc2 => ?_)
  ·rw [hc2] at Z
   refine aa fun _ G9 => nv Z <| xK O <| xL O <| fun a Z => G9 <| ap ?_
   refine am Z results141 (ag O ae) ?_
   exact ⟨by rw [eX (k := k) om hp zZ]; rfl, _, _, hJ1, Y⟩
  rw [hc2] at Z
  refine au <| G6 <| ai <| nv Z <| xJ (aP O O ⟨om, om⟩) <| xK O <| fun a Z => ab ?_
  refine ⟨_, ?_, k + 1, e1, O, om, AW, hJ1, Z.pick [0, 1, 6, 7, 8], Y⟩
  omega
 rw [xW hc1] at Z
 refine aO <| G2 <| aa fun _ G10 => wla Z O fun a Z => G10 <| ap ?_
 refine am Z results141 (ag O ae) ?_
 have hkl : k = els.length := by omega
 subst hkl
 exact ⟨by rw [eR hp]; rfl, _, _, hJ, Y⟩
theorem sR {sv : Value} {xs : List Pxy} {g : FuncId} (p : Pxy → Bool) (w0 : World) (hen : ∀ args w, (callFunc g args).run Tryz.prog w = .ok (.enter g args) w) (hs : SlAt w0 sv 7 (xs.map Pxy.cells))
  (hcl : ∀ (x : Pxy) (w : World), Ret Tryz.prog g #[.agg x.cells.toArray] w fun v w' => v = .bool (p x) ∧ Ext No w w') :
  Ret Tryz.prog 141 #[sv, .func (.func g) #[] #[]] w0 fun v w => v = jv (fstIdx (fun k => p (xs.getD k Pxy.z)) xs.length) ∧ Ext No w0 w := by
 have Y : St No w0 [join []] w0 := St.join [] [] (St.init w0)
 have h := lE (M := No) (wb := w0) (H := []) (sv := sv) (els := xs.map Pxy.cells) (caps := []) (g := g) (fun k => p (xs.getD k Pxy.z)) (fun k => .agg (xs.getD k Pxy.z).cells.toArray) (fun _ e => e = join []) (join []) w0 hen
  (fun e w h => h.arg hs) (fun k h => by rw [bn Pxy.z]) rfl Y (fun k e w hk he hok hlt => by
   subst he
   refine (hcl _ w).mono fun v w' ⟨h1, h2⟩ => ⟨h1, join [], h2.mono (fun k _ hk => hk.elim), ?_, ?_, O⟩
   ·exact ⟨fun e he => (by cases he), List.Pairwise.nil⟩
   ·rintro b ⟨e, he, _⟩
    cases he)
 refine h.mono fun v w ⟨h1, k, e, he, Y⟩ => ⟨by rw [h1, xO], Y.ext⟩
theorem uf (x : Pxy) (w0 : World) :
  Ret Tryz.prog 177 #[.agg #[jv x.frm, jv x.to, jv x.rf, jv x.rt, jv x.sf, jv x.st, sv x.sig]] w0 fun v w => v = .bool (!x.ok) ∧ Ext No w0 w := by
 refine zN func177 O ntmps177 (lb O) fun a Z Y => ?_
 refine aa fun _ G1 => aS Z Y O [jv x.frm, jv x.to, jv x.rf, jv x.rt, jv x.sf, jv x.st, sv x.sig] O fun a w1 Z Y => wla Z O fun a Z => G1 <| aa fun _ G2 => ?_
 refine wlv Z (ao (Y.g 0 O) O (isAgg144 _) (sizeOf144 _)) fun a Z => aw Z Y call178 O (kJ x _) fun a w2 Z Y => nv Z <| xJ (bE O) <| xL O <| fun a Z => G2 <| ap ?_
 refine am Z results177 (ag O ae) ?_
 exact ⟨by rfl, Y.ext⟩
def badN (xs : List Pxy) : Int := fstIdx (fun k => !(xs.getD k Pxy.z).ok) xs.length
theorem sP (v : Value) (xs : List Pxy) (w0 : World) (hv : SlAt w0 v 7 (xs.map Pxy.cells)) : Ret Tryz.prog 141 #[v, .func (.func 177) #[] #[]] w0 fun v w => v = jv (badN xs) ∧ Ext No w0 w :=
 sR (fun x => !x.ok) w0 call177 hv (fun x w => uf x w)
theorem jA (lv : Value) (xs : List Pxy) (w0 : World) (hlv : SlAt w0 lv 7 (xs.map Pxy.cells)) :
  Ret Tryz.prog 140 #[lv] w0 fun v w => v = jv (badN xs) ∧ Ext No w0 w := by
 refine zN func140 O ntmps140 (lb O) fun a Z Y => ?_
 refine aa fun _ G1 => wla Z O fun a Z => G1 <| aa fun _ G2 => ?_
 refine wlm Z O fun a Z => aw Z Y call141 O (sP lv xs _ (Y.arg hlv)) fun a w1 Z Y => wla Z O fun a Z => G2 <| ap ?_
 refine am Z results140 (ag O ae) ?_
 exact ⟨by rfl, Y.ext⟩
theorem sn (x : Wsh) (lv : Value) (xs : List Pxy) (w0 : World) (hlv : SlAt w0 lv 7 (xs.map Pxy.cells)) :
  Ret Tryz.prog 90 #[.agg #[jv x.signer, jv x.holder, jv x.rf, jv x.rt, jv x.carrier, jv x.serial, jv x.sf, jv x.st, sv x.sig], lv] w0 fun v w => v = .bool (x.ok && decide ((xs.length : Int) ≤ 4) && decide (badN xs < 0)) ∧ Ext No w0 w := by
 refine zM func90 O ntmps90 (lb O) fun a Z Y => ?_
 refine aa fun _ G1 => aS Z Y O [jv x.signer, jv x.holder, jv x.rf, jv x.rt, jv x.carrier, jv x.serial, jv x.sf, jv x.st, sv x.sig] O fun a w1 Z Y => wla Z O fun a Z => G1 <| aa fun _ G2 => ?_
 refine wlv Z (ao (Y.g 0 O) O (isAgg90 _) (sizeOf90 _)) fun a Z => aw Z Y call85 O (iV x _) fun a w2 Z Y => wlm Z O fun a Z => ?_
 rcases xU (x.ok) with hb1 | hb1
 ·rw [hb1] at Z
  refine nv Z <| xM (ay O) <| xM ((aI (sT := 91) (Y.arg hlv) O O (runUnderlying91 _)).asi (m' := (xs.length : Int)) Ai) <| xM (v_le O O) <| xJ (ax O O) <| xK O <| fun a Z => ?_
  rcases Decidable.em ((xs.length : Int) ≤ 4) with hb2 | hb2
  ·rw [xS hb2] at Z
   refine wly Z (ay O) fun a Z => aF Z Y call140 O (jA lv xs _ (Y.arg hlv)) fun a w3 Z Y => nv Z <| xM (v_lt O O) <| xJ (ax O O) <| xL O <| fun a Z => G2 ?_
   replace Z := Z.p4 0 1 2 4 O
   refine ap <| am Z results90 (ag O ae) ?_
   exact ⟨by simp only [retv]; simp [hb1, hb2], Y.ext⟩
  rw [xW hb2] at Z
  refine nv Z <| xN <| xN <| xN <| xJ (ak O O) <| xL O <| fun a Z => G2 ?_
  replace Z := Z.p4 0 1 2 4 O
  refine ap <| am Z results90 (ag O ae) ?_
  exact ⟨by simp only [retv]; simp [hb1, hb2], Y.ext⟩
 rw [hb1] at Z
 refine nv Z <| xN <| xN <| xN <| xJ (ak O O) <| xK O <| xN <| xN <| xN <| xJ (ak O O) <| xL O <| fun a Z => G2 ?_
 replace Z := Z.p4 0 1 2 4 O
 refine ap <| am Z results90 (ag O ae) ?_
 exact ⟨by simp only [retv]; simp [hb1], Y.ext⟩
theorem qH (rf rt sf st : Int) (x : Pxy) (w0 : World) :
  Ret Tryz.prog 184 #[.agg #[jv rf, jv rt], .agg #[jv sf, jv st], .agg #[jv x.frm, jv x.to, jv x.rf, jv x.rt, jv x.sf, jv x.st, sv x.sig]] w0 fun v w => v = .bool (isInH rf rt sf st x) ∧ Ext No w0 w := by
 refine zO func184 O ntmps184 (lb O) fun a Z Y => ?_
 refine aa fun _ G1 => aS Z Y O [jv rf, jv rt] O fun a w1 Z Y => aS Z Y O [jv sf, jv st] O fun a w2 Z Y => aS Z Y O [jv x.frm, jv x.to, jv x.rf, jv x.rt, jv x.sf, jv x.st, sv x.sig] O fun a w3 Z Y => wla Z O fun a Z => G1 <| aa fun _ G2 => ?_
 refine nv Z <| xJ (ac (v := pw2 w2.hz 2) O kr) <| xJ (ac (v := pw2 w2.hz 2) O kr) <| xJ (ld Y 0 O O (isAgg3 _) O) <| xJ (ac (v := pq w0.hz) O kr) <| xJ (ld Y 2 O O (isAgg3 _) O) <| xJ (v_le O O) <| xK O <| fun a Z => dj (N := 37) (df := []) 7 [(20, .bool ((decide (x.rf ≤ rf)) && (decide (rt ≤ x.rt)))), (0, .agg #[jv rf, jv rt]), (1, .agg #[jv sf, jv st]), (2, .agg #[jv x.frm, jv x.to, jv x.rf, jv x.rt, jv x.sf, jv x.st, sv x.sig]), (3, pq w0.hz), (4, pq w1.hz), (5, pq w2.hz), (6, .bool false)] ?_ (fun hj => ?_)
 rotate_left
 ·rcases xU (decide (x.rf ≤ rf)) with hb1 | hb1
  ·rw [hb1] at Z
   have hb1b := hb1
   try simp only [qz, xP, yh, yd, yg] at hb1
   refine nv Z <| xM (ac (v := pw2 w0.hz 1) O kr) <| xM (ld Y 2 O O (isAgg3 _) O) <| xM (ac (v := pw2 w2.hz 2) O kr) <| xM (ac (v := pw2 w2.hz 3) O kr) <| xM (ld Y 0 O O (isAgg3 _) O) <| xM (v_le O O) <| xJ (ax O O) <| fun a Z => hj _ ?_
   try rw [hb1b]
   exact Z.pick [20, 0, 1, 2, 3, 4, 5, 6]
  rw [hb1] at Z
  have hb1b := hb1
  try simp only [qz, xP, yh, yd, yg] at hb1
  refine nv Z <| xN <| xN <| xN <| xN <| xN <| xN <| xJ (ak O O) <| fun a Z => hj _ ?_
  try rw [hb1b]
  exact Z.pick [20, 0, 1, 2, 3, 4, 5, 6]
 intro a Z
 refine wlm Z O fun a Z => dj (N := 37) (df := []) 7 [(28, .bool (((decide (x.rf ≤ rf)) && (decide (rt ≤ x.rt))) && (decide (x.sf ≤ sf)))), (0, .agg #[jv rf, jv rt]), (1, .agg #[jv sf, jv st]), (2, .agg #[jv x.frm, jv x.to, jv x.rf, jv x.rt, jv x.sf, jv x.st, sv x.sig]), (3, pq w0.hz), (4, pq w1.hz), (5, pq w2.hz), (6, .bool false)] ?_ (fun hj => ?_)
 rotate_left
 ·rcases xU ((decide (x.rf ≤ rf)) && (decide (rt ≤ x.rt))) with hb2 | hb2
  ·rw [hb2] at Z
   have hb2b := hb2
   try simp only [qz, xP, yh, yd, yg] at hb2
   refine nv Z <| xM (ac (v := pw2 w2.hz 4) O kr) <| xM (ac (v := pw2 w2.hz 4) O kr) <| xM (ld Y 0 O O (isAgg3 _) O) <| xM (ac (v := pq w1.hz) O kr) <| xM (ld Y 1 O O (isAgg3 _) O) <| xM (v_le O O) <| xJ (ax O O) <| fun a Z => hj _ ?_
   try rw [hb2b]
   exact Z.pick [28, 0, 1, 2, 3, 4, 5, 6]
  rw [hb2] at Z
  have hb2b := hb2
  try simp only [qz, xP, yh, yd, yg] at hb2
  refine nv Z <| xN <| xN <| xN <| xN <| xN <| xN <| xJ (ak O O) <| fun a Z => hj _ ?_
  try rw [hb2b]
  exact Z.pick [28, 0, 1, 2, 3, 4, 5, 6]
 intro a Z
 refine wlm Z O fun a Z => dj (N := 37) (df := []) 7 [(36, .bool ((((decide (x.rf ≤ rf)) && (decide (rt ≤ x.rt))) && (decide (x.sf ≤ sf))) && (decide (st ≤ x.st)))), (0, .agg #[jv rf, jv rt]), (1, .agg #[jv sf, jv st]), (2, .agg #[jv x.frm, jv x.to, jv x.rf, jv x.rt, jv x.sf, jv x.st, sv x.sig]), (3, pq w0.hz), (4, pq w1.hz), (5, pq w2.hz), (6, .bool false)] ?_ (fun hj => ?_)
 rotate_left
 ·rcases xU (((decide (x.rf ≤ rf)) && (decide (rt ≤ x.rt))) && (decide (x.sf ≤ sf))) with hb3 | hb3
  ·rw [hb3] at Z
   have hb3b := hb3
   try simp only [qz, xP, yh, yd, yg] at hb3
   refine nv Z <| xM (ac (v := pw2 w1.hz 1) O kr) <| xM (ld Y 1 O O (isAgg3 _) O) <| xM (ac (v := pw2 w2.hz 4) O kr) <| xM (ac (v := pw2 w2.hz 5) O kr) <| xM (ld Y 0 O O (isAgg3 _) O) <| xM (v_le O O) <| xJ (ax O O) <| fun a Z => hj _ ?_
   try rw [hb3b]
   exact Z.pick [36, 0, 1, 2, 3, 4, 5, 6]
  rw [hb3] at Z
  have hb3b := hb3
  try simp only [qz, xP, yh, yd, yg] at hb3
  refine nv Z <| xN <| xN <| xN <| xN <| xN <| xN <| xJ (ak O O) <| fun a Z => hj _ ?_
  try rw [hb3b]
  exact Z.pick [36, 0, 1, 2, 3, 4, 5, 6]
 intro a Z
 refine wla Z O fun a Z => G2 ?_
 replace Z := Z.p1 6 O
 replace Y := Y.k0 0 O
 refine ap <| am Z results184 (ag O ae) ?_
 exact ⟨by rfl, Y.ext⟩
def prevP (xs : List Pxy) (k : Nat) : Option Pxy := if k = 0 then none else some (xs.getD (k - 1) Pxy.z)
theorem dE {α : Type} {xs : List α} {k : Nat} (d : α) (h : k < xs.length) : xs.drop k = xs.getD k d :: xs.drop (k + 1) := by
 rw [yO h, xR, xY h]; rfl
def scopeV (x : Wsh) (xs : List Pxy) : Int × Bool := match bA x none xs 0 with | some n => (n, true) | none => (-1, false)
theorem j8 {x : Wsh} {xs : List Pxy} (h : bA x none xs 0 = none) : scopeV x xs = (-1, false) := by unfold scopeV; rw [h]
theorem kI {x : Wsh} {xs : List Pxy} {n : Int} (h : bA x none xs 0 = some n) : scopeV x xs = (n, true) := by unfold scopeV; rw [h]
theorem kj {x : Wsh} {xs : List Pxy} {k : Nat} (hk : k < xs.length) (h : k = 0 ∨ isInH (xs.getD k Pxy.z).rf (xs.getD k Pxy.z).rt (xs.getD k Pxy.z).sf (xs.getD k Pxy.z).st (xs.getD (k - 1) Pxy.z) = true) :
  bA x (prevP xs k) (xs.drop k) k = bA x (prevP xs (k + 1)) (xs.drop (k + 1)) (k + 1) := by
 rw [dE Pxy.z hk]
 by_cases h0 : k = 0
 ·subst h0; rfl
 ·unfold prevP
  rw [yk h0, yk om, bA, yl (h.resolve_left h0)]; rfl
theorem rp {x : Wsh} {xs : List Pxy} {k : Nat} (hk : k < xs.length) (h0 : 0 < k) (h : isInH (xs.getD k Pxy.z).rf (xs.getD k Pxy.z).rt (xs.getD k Pxy.z).sf (xs.getD k Pxy.z).st (xs.getD (k - 1) Pxy.z) = false) :
  bA x (prevP xs k) (xs.drop k) k = some (k : Int) := by
 rw [dE Pxy.z hk]
 unfold prevP
 rw [yk om, bA, yk (by rw [h]; simp)]
theorem ru {x : Wsh} {xs : List Pxy} : bA x (prevP xs xs.length) (xs.drop xs.length) xs.length = if xs.length = 0 ∨ isInH x.rf x.rt x.sf x.st (xs.getD (xs.length - 1) Pxy.z) = true then none else some (-1) := by
 rw [List.drop_length]
 unfold prevP
 by_cases h0 : xs.length = 0
 ·rw [yl h0, yl (.inl h0)]; rfl
 ·rw [yk h0, bA]; simp [h0]
theorem pg {x : Wsh} {xs : List Pxy} (h : xs.length = 0) (hs : bA x none xs 0 = if xs.length = 0 ∨ isInH x.rf x.rt x.sf x.st (xs.getD (xs.length - 1) Pxy.z) = true then none else some (-1)) : scopeV x xs = (-1, false) := by
 rw [yl (.inl h)] at hs; exact j8 hs
theorem pN {x : Wsh} {xs : List Pxy} (h : 0 < xs.length) (hs : bA x none xs 0 = if xs.length = 0 ∨ isInH x.rf x.rt x.sf x.st (xs.getD (xs.length - 1) Pxy.z) = true then none else some (-1)) : scopeV x xs = (-1, !isInH x.rf x.rt x.sf x.st (xs.getD (xs.length - 1) Pxy.z)) := by
 cases hc : isInH x.rf x.rt x.sf x.st (xs.getD (xs.length - 1) Pxy.z) with
 | true => rw [yl (.inr hc)] at hs; exact j8 hs
 | false => rw [yk (fun hh => by rcases hh with hh | hh; omega; rw [hc] at hh; cases hh)] at hs; exact kI hs
theorem tQ (x : Wsh) (lv : Value) (xs : List Pxy) (w0 : World) (hlv : SlAt w0 lv 7 (xs.map Pxy.cells)) :
  Ret Tryz.prog 148 #[.agg #[jv x.signer, jv x.holder, jv x.rf, jv x.rt, jv x.carrier, jv x.serial, jv x.sf, jv x.st, sv x.sig], lv] w0 fun v w => v = .tuple #[jv (scopeV x xs).1, .bool (scopeV x xs).2] ∧ Ext No w0 w := by
 have hxb := hlv.2.1
 simp only [xO, big] at hxb
 refine zM func148 O ntmps148 (lb O) fun a Z Y => ?_
 refine aa fun _ G1 => aS Z Y O [jv x.signer, jv x.holder, jv x.rf, jv x.rt, jv x.carrier, jv x.serial, jv x.sf, jv x.st, sv x.sig] O fun a w1 Z Y => nv Z <| xL O <| xL O <| fun a Z => G1 <| ah fun _ G2 => ?_
 refine aa fun _ G3 => nv Z <| xK O <| xJ ((aI (sT := 91) (Y.arg hlv) O O (runUnderlying91 _)).asi (m' := (xs.length : Int)) Ai) <| xK O <| fun a Z => G3 <| ar ?_
 refine aW (fun m a w => ∃ (k : Nat), m = xs.length - k ∧ (k ≤ xs.length) ∧ (bA x none xs 0 = bA x (prevP xs k) (xs.drop k) k) ∧ Fr 49 [(1, lv), (2, pq w0.hz), (8, lv), (9, jv (xs.length : Int)), (10, jv (k : Int))] [] a ∧ St No w0 [blk w0.hz [jv x.signer, jv x.holder, jv x.rf, jv x.rt, jv x.carrier, jv x.serial, jv x.sf, jv x.st, sv x.sig] 90] w) _ ⟨0, O, ym _, O, Z.pick [1, 2, 8, 9, 10], Y.select [0] de⟩ ?_
 rintro _ a w2 ⟨k, rfl, hk, hs, Z, Y⟩
 refine aa fun _ G4 => wlv Z (v_lt O O) fun a Z => G4 <| ah fun _ G5 => ?_
 refine aA Z O (fun hc1 => ?_) (fun hc1 => ?_)
 ·have hkx : k < xs.length := by omega
  refine au <| G5 <| ah fun _ G6 => ar <| aa fun _ G7 => nv Z <| xK O <| xJ ((aj (i := (k : Int)) (sT := 91) (Y.arg hlv) O O (runUnderlying91 _) (sizeOf144 _) om zY).as (v' := slAddr lv (k * 7)) O) <| xJ ((bP (Y.arg hlv) (i := k) zY O (isAgg144 _) (sizeOf144 _)).as (v' := .agg #[jv ((xs.getD k Pxy.z).frm), jv ((xs.getD k Pxy.z).to), jv ((xs.getD k Pxy.z).rf), jv ((xs.getD k Pxy.z).rt), jv ((xs.getD k Pxy.z).sf), jv ((xs.getD k Pxy.z).st), sv ((xs.getD k Pxy.z).sig)]) AF) <| fun a Z => aD Z Y (zeroValue144 _) [jv 0, jv 0, jv 0, jv 0, jv 0, jv 0, .string (⟨#[]⟩)] O fun a w3 Z Y => ?_
  refine wla Z O fun a Z => az 0 Z Y [jv ((xs.getD k Pxy.z).frm), jv ((xs.getD k Pxy.z).to), jv ((xs.getD k Pxy.z).rf), jv ((xs.getD k Pxy.z).rt), jv ((xs.getD k Pxy.z).sf), jv ((xs.getD k Pxy.z).st), sv ((xs.getD k Pxy.z).sig)] O (sizeOf144 _) fun a w4 Z Y => G7 <| ah fun _ G8 => ?_
  refine aL (aN fun w5 hxz => ?_)
  replace Y := Y.grow hxz
  refine aM (k := 0) 3 [2] ?_
  refine nv Z <| xK O <| xJ (v_gt O O) <| xK O <| fun a Z => ab ?_
  rcases Decidable.em (0 < (k : Int)) with hb2 | hb2
  ·rw [xS hb2] at Z
   refine aU (k := 3) 12 [4, 6, 11] Z ?_
   replace Z := Z.p13 1 2 8 9 10 12 13 14 7 6 15 16 17 O
   refine bN 9 Z Y <| pl_v (ac (v := pw2 w2.hz 2) O kr) <| pl_w (fun Y => bQ (ds := [jv ((xs.getD k Pxy.z).rf), jv ((xs.getD k Pxy.z).rt)]) (Y.g 0 O) O (isAgg87 _) (sizeOf87 _) O) <| pl_v (ac (v := pw2 w2.hz 4) O kr) <| pl_w (fun Y => bQ (ds := [jv ((xs.getD k Pxy.z).sf), jv ((xs.getD k Pxy.z).st)]) (Y.g 0 O) O (isAgg88 _) (sizeOf88 _) O) <| pl_m O <| pl_m O <| pl_v (bH O O ⟨om, om⟩) <| pl_w (fun Y => (aj (i := (k : Int) - 1) (sT := 91) (Y.arg hlv) O O (runUnderlying91 _) (sizeOf144 _) om zY).as (v' := slAddr lv ((k - 1) * 7)) AL) ?_
   refine pl_w (fun Y => (bP (Y.arg hlv) (i := (k - 1)) zY O (isAgg144 _) (sizeOf144 _)).as (v' := .agg #[jv ((xs.getD (k - 1) Pxy.z).frm), jv ((xs.getD (k - 1) Pxy.z).to), jv ((xs.getD (k - 1) Pxy.z).rf), jv ((xs.getD (k - 1) Pxy.z).rt), jv ((xs.getD (k - 1) Pxy.z).sf), jv ((xs.getD (k - 1) Pxy.z).st), sv ((xs.getD (k - 1) Pxy.z).sig)]) AF) fun a w6 Z Y => ?_
   replace Z := Z.p10 1 2 8 9 10 6 17 19 21 26 O
   refine ab <| aM (k := 12) 15 [14] ?_
   refine aF Z Y call184 O (qH ((xs.getD k Pxy.z).rf) ((xs.getD k Pxy.z).rt) ((xs.getD k Pxy.z).sf) ((xs.getD k Pxy.z).st) (xs.getD (k - 1) Pxy.z) _) fun a w7 Z Y => nv Z <| xM (bE O) <| xJ (ax O O) <| fun a Z => ab <| aT <| G8 ?_
   replace Z := Z.p7 1 2 8 9 10 6 29 O
   replace Y := Y.k1 2 O
   refine bt Z O (fun hc3 => ?_) (fun hc3 => ?_)
   ·try simp only [qz] at hc3
    refine aa fun _ G9 => nv Z <| xK O <| xL O <| xL O <| fun a Z => G9 <| ap ?_
    refine am Z results148 (ag O (ag O ae)) ?_
    exact ⟨by simp only [retv]; rw [kI (by rw [hs]; exact rp hkx om (by simpa using hc3))]; try rfl, Y.ext⟩
   try simp only [qz] at hc3
   refine au <| G6 <| ai <| nv Z <| xJ (aP O O ⟨om, om⟩) <| xK O <| fun a Z => ab ?_
   refine ⟨_, ?_, k + 1, O, om, (by rw [hs]; exact kj hkx (by first | (left; omega) | (right; simpa using hc3))), Z.pick [1, 2, 8, 9, 10], Y.select [0] de⟩
   omega
  rw [xW hb2] at Z
  refine dr (k := 3) 12 [4, 6, 11] (Z.p13 1 2 8 9 10 12 13 14 7 6 15 16 17 O) fun a Z => ?_
  replace Z : Fr 49 [(18, undef), (19, undef), (20, undef), (21, undef), (22, undef), (23, undef), (24, undef), (25, undef), (26, undef), (1, lv), (2, pq w0.hz), (8, lv), (9, jv (xs.length : Int)), (10, jv (k : Int)), (12, jv (k : Int)), (13, slAddr lv (k * 7)), (14, .agg #[jv ((xs.getD k Pxy.z).frm), jv ((xs.getD k Pxy.z).to), jv ((xs.getD k Pxy.z).rf), jv ((xs.getD k Pxy.z).rt), jv ((xs.getD k Pxy.z).sf), jv ((xs.getD k Pxy.z).st), sv ((xs.getD k Pxy.z).sig)]), (7, pq w2.hz), (6, jv (k : Int)), (15, jv (k : Int)), (16, .bool false), (17, .bool false)] [] a := Z
  refine aM (k := 12) 15 [14] ?_
  refine nv Z <| xN <| xN <| xJ (ak O O) <| fun a Z => ab <| aT <| G8 ?_
  replace Z := Z.p7 1 2 8 9 10 6 29 O
  replace Y := Y.k1 2 O
  refine aG Z O ?_
  refine au <| G6 <| ai <| nv Z <| xJ (aP O O ⟨om, om⟩) <| xK O <| fun a Z => ab ?_
  refine ⟨_, ?_, k + 1, O, om, (by rw [hs]; exact kj hkx (by first | (left; omega) | (right; simpa using hb2))), Z.pick [1, 2, 8, 9, 10], Y.select [0] de⟩
  omega
 have hke : k = xs.length := by omega
 rw [hke, ru] at hs
 refine aO <| G2 <| ah fun _ G10 => aL (aN fun w8 hxz => ?_)
 replace Y := Y.grow hxz
 refine aM (k := 0) 4 [3] ?_
 refine nv Z <| xK O <| xJ ((aI (sT := 91) (Y.arg hlv) O O (runUnderlying91 _)).asi (m' := (xs.length : Int)) Ai) <| xJ (v_gt O O) <| xK O <| fun a Z => ab ?_
 rcases Decidable.em (0 < (xs.length : Int)) with hb4 | hb4
 ·rw [xS hb4] at Z
  refine aU (k := 4) 14 [5, 7, 13] Z ?_
  replace Z := Z.p9 1 2 8 9 10 32 33 34 35 O
  refine bN 10 Z Y <| pl_v (ac (v := pw2 w0.hz 2) O kr) <| pl_w (fun Y => bQ (ds := [jv x.rf, jv x.rt]) (Y.g 0 O) O (isAgg87 _) (sizeOf87 _) O) <| pl_v (ac (v := pw2 w0.hz 6) O kr) <| pl_w (fun Y => bQ (ds := [jv x.sf, jv x.st]) (Y.g 0 O) O (isAgg88 _) (sizeOf88 _) O) <| pl_m O <| pl_m O <| pl_w (fun Y => (aI (sT := 91) (Y.arg hlv) O O (runUnderlying91 _)).asi (m' := (xs.length : Int)) Ai) <| pl_v (bH O O ⟨om, om⟩) ?_
  refine pl_w (fun Y => (aj (i := (xs.length : Int) - 1) (sT := 91) (Y.arg hlv) O O (runUnderlying91 _) (sizeOf144 _) om zY).as (v' := slAddr lv ((xs.length - 1) * 7)) BA) <| pl_w (fun Y => (bP (Y.arg hlv) (i := (xs.length - 1)) zY O (isAgg144 _) (sizeOf144 _)).as (v' := .agg #[jv ((xs.getD (xs.length - 1) Pxy.z).frm), jv ((xs.getD (xs.length - 1) Pxy.z).to), jv ((xs.getD (xs.length - 1) Pxy.z).rf), jv ((xs.getD (xs.length - 1) Pxy.z).rt), jv ((xs.getD (xs.length - 1) Pxy.z).sf), jv ((xs.getD (xs.length - 1) Pxy.z).st), sv ((xs.getD (xs.length - 1) Pxy.z).sig)]) AF) fun a w9 Z Y => ?_
  replace Z := Z.p4 35 37 39 45 O
  refine ab <| aM (k := 14) 15 [14] ?_
  refine aF Z Y call184 O (qH x.rf x.rt x.sf x.st (xs.getD (xs.length - 1) Pxy.z) _) fun a w10 Z Y => ab <| aU (k := 15) 18 [16, 17] Z ?_
  refine bN 3 (Z.p5 35 37 39 45 46 O) Y <| pl_v (bE O) <| pl_v (ax O O) <| pl_v (cG O) fun a w11 Z Y => ?_
  replace Z := Z.p2 48 4 O
  refine ab <| aM (k := 18) 19 [18] ?_
  refine wla Z O fun a Z => ab <| aT <| G10 <| ap <| am Z results148 (ag O (ag O ae)) ?_
  exact ⟨by simp only [retv]; rw [pN om hs]; try rfl, Y.ext⟩
 rw [xW hb4] at Z
 refine dr (k := 4) 14 [5, 7, 13] (Z.p9 1 2 8 9 10 32 33 34 35 O) fun a Z => ?_
 replace Z : Fr 49 [(36, undef), (37, undef), (38, undef), (39, undef), (40, undef), (41, undef), (42, undef), (43, undef), (44, undef), (45, undef), (1, lv), (2, pq w0.hz), (8, lv), (9, jv (xs.length : Int)), (10, jv (k : Int)), (32, lv), (33, jv (xs.length : Int)), (34, .bool false), (35, .bool false)] [] a := Z
 refine aM (k := 14) 15 [14] ?_
 refine wln Z fun a Z => ab ?_
 replace Z := Z.p20 36 37 38 39 40 41 42 43 44 45 1 2 8 9 10 32 33 34 35 46 O
 refine wY (k := 15) 18 [16, 17] (fun i => match i with | 15 => undef | 16 => .bool false | 17 => jv (-1) | _ => undef) Z ?_ ?_
 ·intro i h1 h2
  have hi : i = 15 ∨ i = 16 ∨ i = 17 := by omega
  rcases hi with rfl | rfl | rfl
  ·exact ⟨fun _ => O, fun h => by cases h⟩
  ·exact ⟨fun h => A8, fun _ => ak O O⟩
  ·exact ⟨fun h => A8, fun _ => cG O⟩
 intro a Z
 replace Z : Fr 49 [(47, undef), (48, .bool false), (4, jv (-1)), (36, undef), (37, undef), (38, undef), (39, undef), (40, undef), (41, undef), (42, undef), (43, undef), (44, undef), (45, undef), (1, lv), (2, pq w0.hz), (8, lv), (9, jv (xs.length : Int)), (10, jv (k : Int)), (32, lv), (33, jv (xs.length : Int)), (34, .bool false), (35, .bool false), (46, undef)] [] a := Z
 refine aM (k := 18) 19 [18] ?_
 refine wla Z O fun a Z => ab <| aT <| G10 ?_
 replace Z := Z.p2 4 5 O
 replace Y := Y.k0 0 O
 refine ap <| am Z results148 (ag O (ag O ae)) ?_
 exact ⟨by simp only [retv]; rw [pg om hs]; try rfl, Y.ext⟩
def pers : Int → List Pxy → Nat → List (Int × Int)
 | who, [], _ => [(-1, who)]
 | who, p :: l, k => ((k : Int), who) :: pers p.to l (k + 1)
def encQ (x : Int × Int) : List Value := [jv x.1, jv x.2]
def NxQ (h : Int) (xs : List Pxy) (pre : List (Int × Int)) (x : Int × Int) : Prop := ∃ suf, pers h xs 0 = pre ++ x :: suf
theorem oc {M : Nat → Prop} {w0 : World} (h : Int) (lv : Value) (xs : List Pxy) (lp bh bl : Nat) (J Jx : List (Int × Int) → Ent → Prop) (hY : Rounds Tryz.prog M w0 lp encQ (NxQ h xs) J Jx) (e0 : Ent) (ws : World) (hsv : ∀ H w, St M w0 H w → SlAt w lv 7 (xs.map Pxy.cells)) (hJ : J [] e0) (Y : St M w0 [e0, blk bh [jv h] 3, blk bl [lv] 91] ws) :
  Ret Tryz.prog 183 #[.func (.yield lp) #[] #[], pq bh, pq bl] ws fun _ w => ∃ e1 Hi1, St M w0 (e1 :: Hi1) w ∧ ((∃ zs, (zs = pers h xs 0 ∧ Hi1 = [blk bh [jv h] 3, blk bl [lv] 91]) ∧ J zs e1) ∨ (∃ pre, Hi1 = [blk bh [jv h] 3, blk bl [lv] 91] ∧ Jx pre e1)) := by
 refine aC func183 O ntmps183 (lb O) fun a Z => ?_
 replace Z := Z.p3 0 1 2 O
 have hlb := (hsv _ _ Y).2.1
 rw [xO] at hlb
 unfold big at hlb
 refine aa fun _ G1 => nv Z <| xJ (ld Y 1 O O (isAgg3 _) O) <| xL O <| fun a Z => G1 <| ah fun _ G2 => ?_
 refine aa fun _ G3 => nv Z <| xJ (ld Y 2 O O (isAgg91 _) O) <| xJ ((aI (sT := 91) (hsv _ _ Y) O O (runUnderlying91 _)).asi (m' := (xs.length : Int)) Ai) <| xK O <| fun a Z => G3 <| ar ?_
 refine aW (fun m a w => ∃ (k : Nat) (who : Int) (e : Ent) (dn : List (Int × Int)), m = xs.length - k ∧ (k ≤ xs.length) ∧ (pers h xs 0 = dn ++ pers who (xs.drop k) k) ∧ (J dn e) ∧ Fr 26 [(0, .func (.yield lp) #[] #[]), (8, lv), (9, jv (xs.length : Int)), (4, jv who), (10, jv (k : Int))] [] a ∧ St M w0 [e, blk bh [jv h] 3, blk bl [lv] 91] w) _ ⟨0, h, e0, [], O, ym _, O, hJ, Z.pick [0, 8, 9, 4, 10], Y.select [0, 1, 2] de⟩ ?_
 rintro _ a w1 ⟨k, who, e, dn, rfl, hk, hp, hJ, Z, Y⟩
 refine aa fun _ G4 => wlv Z (v_lt O O) fun a Z => G4 <| ah fun _ G5 => ?_
 refine aA Z O (fun hc1 => ?_) (fun hc1 => ?_)
 ·have hkx : k < xs.length := by omega
  refine au <| G5 <| ah fun _ G6 => ar <| aa fun _ G7 => nv Z <| xK O <| xJ ((aj (i := (k : Int)) (sT := 91) (hsv _ _ Y) O O (runUnderlying91 _) (sizeOf144 _) om zY).as (v' := slAddr lv (k * 7)) O) <| xJ ((bP (hsv _ _ Y) (i := k) zY O (isAgg144 _) (sizeOf144 _)).as (v' := .agg #[jv ((xs.getD k Pxy.z).frm), jv ((xs.getD k Pxy.z).to), jv ((xs.getD k Pxy.z).rf), jv ((xs.getD k Pxy.z).rt), jv ((xs.getD k Pxy.z).sf), jv ((xs.getD k Pxy.z).st), sv ((xs.getD k Pxy.z).sig)]) AF) <| fun a Z => aD Z Y (zeroValue144 _) [jv 0, jv 0, jv 0, jv 0, jv 0, jv 0, .string (⟨#[]⟩)] O fun a w2 Z Y => ?_
  refine wla Z O fun a Z => az 0 Z Y [jv ((xs.getD k Pxy.z).frm), jv ((xs.getD k Pxy.z).to), jv ((xs.getD k Pxy.z).rf), jv ((xs.getD k Pxy.z).rt), jv ((xs.getD k Pxy.z).sf), jv ((xs.getD k Pxy.z).st), sv ((xs.getD k Pxy.z).sig)] O (sizeOf144 _) fun a w3 Z Y => G7 <| ah fun _ G8 => ?_
  refine aa fun _ G9 => nv Z <| xK O <| xK O <| xK O <| fun a Z => wl_r (fD O O (hY.yield (pre := dn) (x := ((k : Int), who)) ⟨_, by rw [hp, dE Pxy.z hkx]; rfl⟩ hJ (Y.only (i := 1) O))) O O Z fun a v w4 hR Z => ?_
  obtain ⟨y2, e3, rfl, hx, hok, hft, hJt, hJf⟩ := hR
  replace Y := Y.exchange (k := 1) rfl hx hok hft
  replace Y := Y.n4 O
  clear hx hok hft
  refine wlv Z (bE O) fun a Z => G9 ?_
  replace Z := Z.p6 0 8 9 10 6 19 O
  refine bt Z O (fun hc4 => ?_) (fun hc4 => ?_)
  ·try simp only [qz] at hc4
   have hJ := hJf hc4
   refine ap <| am Z results183 ae ?_
   exact ⟨_, _, Y.select [1, 2, 3] de, .inr ⟨_, O, hJ⟩⟩
  try simp only [qz] at hc4
  have hJ := hJt hc4
  refine au <| G8 <| ai <| nv Z <| xJ (ac (v := pw2 w1.hz 1) O kr) <| xJ (ld Y 0 O O (isAgg3 _) O) <| xL O <| fun a Z => ab <| G6 <| ai <| nv Z <| xJ (aP O O ⟨om, om⟩) <| xK O <| fun a Z => ab ?_
  refine ⟨_, ?_, k + 1, (xs.getD k Pxy.z).to, e3, dn ++ [((k : Int), who)], O, om, (by rw [hp, dE Pxy.z hkx, pers, yF]; rfl), hJ, Z.pick [0, 8, 9, 4, 10], Y.select [1, 2, 3] de⟩
  omega
 obtain rfl : k = xs.length := by omega
 rw [List.drop_length] at hp
 refine aO <| G2 <| ai <| nv Z <| xK O <| xK O <| fun a Z => wl_r (fD O O (hY.yield (pre := dn) (x := ((-1 : Int), who)) ⟨[], hp⟩ hJ (Y.only (i := 0) O))) O O Z fun a v w5 hR Z => ?_
 obtain ⟨y5, e6, rfl, hx, hok, hft, hJt, hJf⟩ := hR
 replace Y := Y.exchange (k := 0) rfl hx hok hft
 replace Y := Y.n3 O
 clear hx hok hft
 refine ab <| cQ Z results183 ae ?_
 rcases xU y5 with hyy | hyy
 ·exact ⟨_, _, Y.select [0, 1, 2] de, .inl ⟨_, ⟨hp.symm.symm ▸ O, O⟩, hJt hyy⟩⟩
 ·exact ⟨_, _, Y.select [0, 1, 2] de, .inr ⟨_, O, hJf hyy⟩⟩
theorem mS {M : Nat → Prop} {w0 : World} (h : Int) (lv : Value) (xs : List Pxy) (bh bl : Nat) (hsv : ∀ H w, St M w0 H w → SlAt w lv 7 (xs.map Pxy.cells)) :
  Iter Tryz.prog 183 [pq bh, pq bl] encQ (NxQ h xs) (fun zs Hi1 => zs = pers h xs 0 ∧ Hi1 = [blk bh [jv h] 3, blk bl [lv] 91]) (fun pre Hi1 => Hi1 = [blk bh [jv h] 3, blk bl [lv] 91]) M w0 [blk bh [jv h] 3, blk bl [lv] 91] :=
 fun lp J Jx w e hY hJ Y => oc h lv xs lp bh bl J Jx hY e w hsv hJ Y
theorem pU (h : Int) (lv : Value) (xs : List Pxy) (w0 : World) (hlv : SlAt w0 lv 7 (xs.map Pxy.cells)) :
  Ret Tryz.prog 147 #[jv h, lv] w0 (MemR w0 (fun z : Nat × Nat => .func (.func 183) #[] #[pq z.1, pq z.2]) (fun z => [blk z.2 [lv] 91, blk z.1 [jv h] 3]) (fun _ => True)) := by
 refine zM func147 O ntmps147 (lb O) fun a Z Y => ?_
 refine aa fun _ G1 => aS Z Y O [jv h] O fun a w1 Z Y => aS Z Y O [lv] (by rw [(Y.arg hlv).cells]) fun a w2 Z Y => wla Z O fun a Z => G1 <| aa fun _ G2 => ?_
 refine nv Z <| xJ (cd O O) <| xL O <| fun a Z => G2 <| ap ?_
 refine am Z results147 (ag O ae) ?_
 exact ⟨(w0.hz, w1.hz), O, trivial, Y.ext, St.out (H := []) Y⟩
theorem m8 {M : Nat → Prop} {wb : World} {H : List Ent} {sv : Value} {els : List (List Value)} {caps : List Value} {g : FuncId} (p : Nat → Bool) (ev_ : Nat → Value) (J : Nat → Ent → Prop) (e0 : Ent) (w0 : World)
  (hen : ∀ args w, (callFunc g args).run Tryz.prog w = .ok (.enter g args) w) (hs : ∀ e w, St M wb (e :: H) w → SlAt w sv 7 els)
  (hev : ∀ k (h : k < els.length), .agg (els[k]).toArray = ev_ k) (hJ0 : J 0 e0) (Y : St M wb (e0 :: H) w0)
  (hcl : ∀ k e w, k < els.length → J k e → e.ok w → (∀ b, e.foot b → b < w.hz) → Ret Tryz.prog g ([ev_ k] ++ caps).toArray w fun v w' => v = .bool (p k) ∧ ∃ e', Ext e.foot w w' ∧ e'.ok w' ∧ (∀ b, e'.foot b → b < w'.heap.size ∧ (e.foot b ∨ w.hz ≤ b)) ∧ J (k + 1) e') :
  Ret Tryz.prog 91 #[sv, .func (.func g) #[] caps.toArray] w0 fun v w => v = .bool ((List.range els.length).any p) ∧ ∃ k e', J k e' ∧ St M wb (e' :: H) w := by
 refine aC func91 O ntmps91 (lb O) fun a Z => aa fun _ G1 => wla (Z.p2 0 1 O) O fun a Z => G1 <| aa fun _ G2 => ?_
 refine nv Z <| xK O <| xK O <| fun a Z => wl_r (eL call141 O (lE p ev_ J e0 _ hen hs hev hJ0 Y hcl)) O O Z fun a v w1 hR Z => ?_
 obtain ⟨rfl, kk, e1, hJ1, Y⟩ := hR
 refine nv Z <| xJ (v_ge O O) <| xL O <| fun a Z => G2 <| ap ?_
 refine am Z results91 (ag O ae) ?_
 exact ⟨by rw [gY]; rfl, _, _, hJ1, Y⟩
theorem wi {u : Value} {xs : List Pxy} {g : FuncId} (p : Pxy → Bool) (w0 : World) (hen : ∀ args w, (callFunc g args).run Tryz.prog w = .ok (.enter g args) w) (hs : SlAt w0 u 7 (xs.map Pxy.cells))
  (hcl : ∀ (x : Pxy) (w : World), x ∈ xs → Ret Tryz.prog g #[.agg x.cells.toArray] w fun v w' => v = .bool (p x) ∧ Ext No w w') :
  Ret Tryz.prog 91 #[u, .func (.func g) #[] #[]] w0 fun v w => v = .bool (xs.any p) ∧ Ext No w0 w := by
 have Y : St No w0 [join []] w0 := St.join [] [] (St.init w0)
 have h := m8 (M := No) (wb := w0) (H := []) (sv := u) (els := xs.map Pxy.cells) (caps := []) (g := g) (fun k => p (xs.getD k Pxy.z)) (fun k => .agg (xs.getD k Pxy.z).cells.toArray) (fun _ e => e = join []) (join []) w0 hen
  (fun e w h => h.arg hs) (fun k h => by rw [bn Pxy.z]) rfl Y (fun k e w hk he hok hlt => by
   subst he
   refine (hcl _ w (bc Br)).mono fun v w' ⟨h1, h2⟩ => ⟨h1, join [], h2.mono (fun k _ hk => hk.elim), ?_, ?_, O⟩
   ·exact ⟨fun e he => (by cases he), List.Pairwise.nil⟩
   ·rintro b ⟨e, he, _⟩
    cases he)
 refine h.mono fun v w ⟨h1, k, e, he, Y⟩ => ⟨?_, Y.ext⟩
 rw [h1, xO]
 congr 1
 rw [Bool.eq_iff_iff, yI, yI]
 constructor
 ·rintro ⟨k, hk, hp⟩
  exact ⟨_, bc (yb.1 hk), hp⟩
 ·rintro ⟨x, hx, hp⟩
  obtain ⟨k, hk, rfl⟩ := yN hx
  exact ⟨k, yb.2 hk, by rw [xR, xY hk]; exact hp⟩
theorem qL {u : Value} {xs : List By} {g : FuncId} (p : By → Bool) (w0 : World) (hen : ∀ args w, (callFunc g args).run Tryz.prog w = .ok (.enter g args) w) (hs : SlAt w0 u 1 (xs.map (fun s => [sv s])))
  (hcl : ∀ (x : By) (w : World), x ∈ xs → Ret Tryz.prog g #[sv x] w fun v w' => v = .bool (p x) ∧ Ext No w w') :
  Ret Tryz.prog 146 #[u, .func (.func g) #[] #[]] w0 fun v w => v = .bool (xs.any p) ∧ Ext No w0 w := by
 have Y : St No w0 [join []] w0 := St.join [] [] (St.init w0)
 have h := iI (M := No) (wb := w0) (H := []) (sv := u) (els := xs.map (fun s => [sv s])) (caps := []) (g := g) (fun k => p (xs.getD k [])) (fun k => sv (xs.getD k [])) (fun _ e => e = join []) (join []) w0 hen
  (fun e w h => h.arg hs) (fun k h => by rw [bn []]; rfl) rfl Y (fun k e w hk he hok hlt => by
   subst he
   refine (hcl _ w (bc Br)).mono fun v w' ⟨h1, h2⟩ => ⟨h1, join [], h2.mono (fun k _ hk => hk.elim), ?_, ?_, O⟩
   ·exact ⟨fun e he => (by cases he), List.Pairwise.nil⟩
   ·rintro b ⟨e, he, _⟩
    cases he)
 refine h.mono fun v w ⟨h1, k, e, he, Y⟩ => ⟨?_, Y.ext⟩
 rw [h1, xO]
 congr 1
 rw [Bool.eq_iff_iff, yI, yI]
 constructor
 ·rintro ⟨k, hk, hp⟩
  exact ⟨_, bc (yb.1 hk), hp⟩
 ·rintro ⟨x, hx, hp⟩
  obtain ⟨k, hk, rfl⟩ := yN hx
  exact ⟨k, yb.2 hk, by rw [xR, xY hk]; exact hp⟩
theorem wn (s : By) (w0 : World) :
  Ret Tryz.prog 145 #[sv s] w0 fun v w => v = .bool (!decide ((s.length : Int) = 32)) ∧ Ext No w0 w := by
 refine zN func145 O ntmps145 (lb O) fun a Z Y => ?_
 refine aa fun _ G1 => wla Z O fun a Z => G1 <| aa fun _ G2 => ?_
 refine wlm Z O fun a Z => aw Z Y call84 O (ky s _) fun a w1 Z Y => nv Z <| xJ (bE O) <| xL O <| fun a Z => G2 <| ap ?_
 refine am Z results145 (ag O ae) ?_
 exact ⟨by rfl, Y.ext⟩
theorem vU (x : Pxy) (w0 : World) :
  Ret Tryz.prog 89 #[.agg #[jv x.frm, jv x.to, jv x.rf, jv x.rt, jv x.sf, jv x.st, sv x.sig]] w0 fun v w => v = .bool (!decide ((x.sig.length : Int) = 32)) ∧ Ext No w0 w := by
 refine zN func89 O ntmps89 (lb O) fun a Z Y => ?_
 refine aa fun _ G1 => aS Z Y O [jv x.frm, jv x.to, jv x.rf, jv x.rt, jv x.sf, jv x.st, sv x.sig] O fun a w1 Z Y => wla Z O fun a Z => G1 <| aa fun _ G2 => ?_
 refine nv Z <| xJ (ac (v := pw2 w0.hz 6) O kr) <| xJ (ld Y 0 O O (isAgg9 _) O) <| xJ (br O O (runUnderlying9 _)) <| xJ (v_ne O O) <| xL O <| fun a Z => G2 ?_
 replace Z := Z.p1 2 O
 replace Y := Y.k0 0 O
 refine ap <| am Z results89 (ag O ae) ?_
 exact ⟨by rfl, Y.ext⟩
theorem ph {w0 w : World} {b1 b2 : Nat} {c1 c2 : List Value} {T1 T2 : TypeId} (h : Ext (fun k => k = b1 ∨ k = b2) w0 w) (h1 : (blk b1 c1 T1).ok w0) (h1' : (blk b1 c1 T1).ok w) (h2 : (blk b2 c2 T2).ok w0) (h2' : (blk b2 c2 T2).ok w) : Ext No w0 w := by
 refine ⟨h.os, h.tape, h.output, h.size, fun k hk _ => ?_⟩
 by_cases e1 : k = b1
 ·subst e1; exact Eq.trans h1' (Eq.symm h1)
 ·by_cases e2 : k = b2
  ·subst e2; exact Eq.trans h2' (Eq.symm h2)
  ·exact h.same k hk fun hh => hh.elim e1 e2
theorem ot {w0 w : World} {H : List Ent} {i b g : Nat} {cs c1 : List Value} {T T1 : TypeId} (h : St No w0 H w) (hi : H[i]? = some (blk b cs T)) (hg : (blk g c1 T1).ok w0) : b ≠ g := by
 rintro rfl
 exact ((h.ok _ (y8 hi)).2 b O).2 (ye.1 hg).1
theorem lZ (key content : By) (g : FuncId) (bx : Nat) (cs : List Value) (T : TypeId) (w0 : World) (hen : ∀ args w, (callFunc g args).run Tryz.prog w = .ok (.enter g args) w)
  (hc : ∀ {M : Nat → Prop} {w0 : World} (b : Nat) (v : Value) (ws : World), St M w0 [bld 162 b (.pointer none) v [], blk bx cs T] ws → Ret Tryz.prog g ([pq b] ++ [pq bx]).toArray ws fun u w => u = .tuple #[] ∧ ∃ v2, St M w0 [bld 162 b (pq b) v2 content, blk bx cs T] w)
  (hne : content ≠ []) (hkl : key.length ≤ 40000000) (hcl : content.length ≤ 40000000) (hk0 : (blk 0 (kOf.map wv) 258).ok w0) (hbx : (blk bx cs T).ok w0) (hgb : bx ≠ 0) :
  Ret Tryz.prog 86 #[sv key, .func (.func g) #[] #[pq bx]] w0 fun v w => v = sv (sealH key content) ∧ Ext No w0 w := by
 have Y : St (fun k => k = 0 ∨ k = bx) w0 [(blk 0 (kOf.map wv) 258), blk bx cs T] w0 := by
  refine ⟨Ext.refl _ _, fun e he => ?_, ?_⟩
  ·simp only [xX, yc, yz] at he
   rcases he with rfl | rfl
   ·exact ⟨hk0, fun k hk => by cases hk; exact ⟨(ye.1 hk0).1, fun _ => .inl O⟩⟩
   ·exact ⟨hbx, fun k hk => by cases hk; exact ⟨(ye.1 hbx).1, fun _ => .inr O⟩⟩
  ·refine List.Pairwise.cons (fun e he k hk hk' => ?_) (List.pairwise_singleton _ _)
   simp only [xX, yc, yz] at he
   subst he
   cases hk
   exact hgb (Eq.symm hk')
 exact (nk key content g [pq bx] (blk bx cs T) w0 hen hc hne hkl hcl Y).mono fun v w ⟨h1, h2⟩ => ⟨h1, ph h2.ext hk0 (h2.get (k := 0) O) hbx (h2.get (k := 1) O)⟩
theorem nZ : ∀ {l : List Pxy} {k i : Nat}, badIdx l k = some i → k ≤ i ∧ i - k < l.length ∧ (l.getD (i - k) Pxy.z).ok = false ∧ ∀ j, j < i - k → (l.getD j Pxy.z).ok = true
 | [], k, i, h => by cases h
 | p :: l, k, i, h => by
  rw [badIdx] at h
  split at h
  ·rename_i hp
   obtain ⟨h1, h2, h3, h4⟩ := nZ h
   have e : i - k = (i - (k + 1)) + 1 := by omega
   refine ⟨by omega, by simp; omega, by rw [e]; exact h3, fun j hj => ?_⟩
   cases j with
   | zero => exact hp
   | succ j => exact h4 j om
  ·rename_i hp
   cases h
   refine ⟨yx _, by simp, by rw [zE]; simpa using hp, fun j hj => by omega⟩
theorem jQ (l : List Pxy) : badN l = match badIdx l 0 with | some i => (i : Int) | none => -1 := by
 cases h : badIdx l 0 with
 | none =>
  refine eR fun j hj => ?_
  rw [dV h _ (bc hj)]; rfl
 | some i =>
  obtain ⟨_, h2, h3, h4⟩ := nZ h
  rw [Nat.sub_zero] at h2 h3 h4
  exact eX h2 (fun j hj => by rw [h4 j hj]; rfl) (by rw [h3]; rfl)
theorem nH {l : List Pxy} (h : badN l < 0) : badIdx l 0 = none := by
 rw [jQ] at h
 cases hb : badIdx l 0 with
 | none => rfl
 | some i => rw [hb] at h; simp only at h; omega
theorem qe (x : Wsh) (l : List Pxy) : (x.ok && decide ((l.length : Int) ≤ 4) && decide (badN l < 0)) = bU x l := by
 unfold bU
 rw [jQ]
 congr 1
 ·congr 1
  exact decide_eq_decide.2 om
 ·cases badIdx l 0 with
  | none => rfl
  | some i => exact xW (by simp only; omega)
section
variable {ks : List By} {x : Wsh} {ps : List Pxy} {number t : Int}
abbrev formB (ks : List By) (x : Wsh) (ps : List Pxy) : Prop := 64 < ks.length ∨ (ks.all fun s => decide (s.length = 32)) = false ∨ x.ok = false ∨ 4 < ps.length
theorem gn : (ks.any fun s => !decide ((s.length : Int) = 32)) = !(ks.all fun s => decide (s.length = 32)) := by
 rw [List.all_eq_not_any_not, Bool.not_not]
 congr 1
 funext s
 congr 1
 exact decide_eq_decide.2 om
theorem vO (h : ¬ formB ks x ps) : ∀ s ∈ ks, s.length = 32 := by
 have : (ks.all fun s => decide (s.length = 32)) = true := by
  cases hh : (ks.all fun s => decide (s.length = 32)) with
  | true => rfl
  | false => exact absurd (.inr (.inl hh)) h
 intro s hs
 exact of_decide_eq_true (yi.1 this s hs)
theorem fX (h : formB ks x ps) : whyH ks x ps number t = (1, -1) := by unfold whyH; rw [yl h]
theorem q8 (h : ¬ formB ks x ps) (hb : 0 ≤ badN ps) : whyH ks x ps number t = (1, badN ps) := by
 unfold whyH; rw [yk h]
 rw [jQ] at hb ⊢
 cases he : badIdx ps 0 with
 | none => rw [he] at hb; simp only at hb; omega
 | some i => rfl
def whyP (ks : List By) (x : Wsh) (ps : List Pxy) (number t : Int) : Prop := ¬ formB ks x ps ∧ badIdx ps 0 = none ∧ inB t x.sf (x.st - 1) = true ∧ inB number x.rf (x.rt - 1) = true
theorem kR (h : ¬ formB ks x ps) (hb : badIdx ps 0 = none) (ht : inB t x.sf (x.st - 1) = false) : whyH ks x ps number t = (2, -1) := by
 unfold whyH; rw [yk h, hb]; simp only; rw [yl ht]
theorem nd (h : ¬ formB ks x ps) (hb : badIdx ps 0 = none) (ht : inB t x.sf (x.st - 1) = true) (hn : inB number x.rf (x.rt - 1) = false) : whyH ks x ps number t = (3, -1) := by
 unfold whyH; rw [yk h, hb]; simp only; rw [yk BH, yl hn]
theorem lO {i : Int} (h : whyP ks x ps number t) (hc : cg x.signer x.holder ps 0 = some i) : whyH ks x ps number t = (4, i) := by
 obtain ⟨h, hb, ht, hn⟩ := h
 unfold whyH; rw [yk h, hb]; simp only; rw [yk BH, yk (by rw [hn]; decide), hc]
theorem mF {i : Int} (h : whyP ks x ps number t) (hc : cg x.signer x.holder ps 0 = none) (hs : bA x none ps 0 = some i) : whyH ks x ps number t = (5, i) := by
 obtain ⟨h, hb, ht, hn⟩ := h
 unfold whyH; rw [yk h, hb]; simp only; rw [yk BH, yk (by rw [hn]; decide), hc]; simp only; rw [hs]
theorem gj {i : Int} (h : whyP ks x ps number t) (hc : cg x.signer x.holder ps 0 = none) (hs : bA x none ps 0 = none) (hl : bJ ks x ps 0 = some i) : whyH ks x ps number t = (6, i) := by
 obtain ⟨h, hb, ht, hn⟩ := h
 unfold whyH; rw [yk h, hb]; simp only; rw [yk BH, yk (by rw [hn]; decide), hc]; simp only; rw [hs]; simp only; rw [hl]
theorem kH (h : whyP ks x ps number t) (hc : cg x.signer x.holder ps 0 = none) (hs : bA x none ps 0 = none) (hl : bJ ks x ps 0 = none) : whyH ks x ps number t = (0, -1) := by
 obtain ⟨h, hb, ht, hn⟩ := h
 unfold whyH; rw [yk h, hb]; simp only; rw [yk BH, yk (by rw [hn]; decide), hc]; simp only; rw [hs]; simp only; rw [hl]
def okQ (ps : List Pxy) (sg : Int) (z : Int × Int) : Bool := if 0 ≤ z.1 then decide ((ps.getD z.1.toNat Pxy.z).frm = z.2) else decide (sg = z.2)
theorem vp {sg : Int} {z : Int × Int} (h : 0 ≤ z.1) (h2 : (ps.getD z.1.toNat Pxy.z).frm = z.2) : okQ ps sg z = true := by unfold okQ; rw [yl h]; exact xS h2
theorem vw {sg : Int} {z : Int × Int} (h : ¬ 0 ≤ z.1) (h2 : sg = z.2) : okQ ps sg z = true := by unfold okQ; rw [yk h]; exact xS h2
theorem vJ {sg : Int} {z : Int × Int} (h : 0 ≤ z.1) (h2 : ¬ (ps.getD z.1.toNat Pxy.z).frm = z.2) : okQ ps sg z = false := by unfold okQ; rw [yl h]; exact xW h2
theorem wj {sg : Int} {z : Int × Int} (h : ¬ 0 ≤ z.1) (h2 : ¬ sg = z.2) : okQ ps sg z = false := by unfold okQ; rw [yk h]; exact xW h2
theorem gV {sg : Int} : ∀ (l : List Pxy) (k : Nat) (who : Int), l = ps.drop k → cg sg who l k = ((pers who l k).find? fun z => !okQ ps sg z).map (·.1)
 | [], k, who, h => by
  rw [cg, pers, List.find?_cons, List.find?_nil]
  unfold okQ
  rw [yk (show ¬ (0 : Int) ≤ -1 by decide)]
  by_cases hs : sg = who
  ·rw [yl hs, xS hs]; rfl
  ·rw [yk hs, xW hs]; rfl
 | p :: l, k, who, h => by
  have hp : ps.getD k Pxy.z = p := by rw [xR, show ps[k]? = some p from by rw [← List.head?_drop, ← h]; rfl]; rfl
  have hl : l = ps.drop (k + 1) := by rw [← zL, ← h, List.drop_one]; rfl
  rw [cg, pers, List.find?_cons, gV l (k + 1) p.to hl]
  unfold okQ
  rw [yl (Int.natCast_nonneg k), yM, hp]
  by_cases hs : p.frm = who
  ·rw [yl hs, xS hs]; rfl
  ·rw [yk hs, xW hs]; rfl
theorem nX {who : Int} : ∀ {l : List Pxy} {k : Nat} {who : Int} {z : Int × Int}, z ∈ pers who l k → z.1 < ((k + l.length : Nat) : Int) ∧ -1 ≤ z.1
 | [], k, who, z, h => by
  rw [pers, yo] at h
  subst h
  exact ⟨by simp only; omega, by simp only; omega⟩
 | p :: l, k, who, z, h => by
  rw [pers] at h
  rcases xX.1 h with rfl | h
  ·exact ⟨by simp only [xZ]; omega, by simp only; omega⟩
  ·have := nX (who := who) h
   rw [xZ]
   exact ⟨by omega, this.2⟩
theorem qO {who : Int} {pre : List (Int × Int)} {z : Int × Int} (h : NxQ who ps pre z) : z.1 < (ps.length : Int) := by
 obtain ⟨suf, h⟩ := h
 have := (nX (who := who) (l := ps) (k := 0) (z := z) (by rw [h]; simp)).1
 rwa [Nat.zero_add] at this
theorem qW {sg : Int} {pre : List (Int × Int)} {z : Int × Int} (h : ∀ y ∈ pre, okQ ps sg y = true) (hz : okQ ps sg z = true) : ∀ y ∈ pre ++ [z], okQ ps sg y = true := by
 intro y hy
 rcases yV.1 hy with h1 | h1
 ·exact h y h1
 ·rw [yo.1 h1]; exact hz
theorem lK {sg who : Int} {pre : List (Int × Int)} {z : Int × Int} (hn : NxQ who ps pre z) (h : ∀ y ∈ pre, okQ ps sg y = true) (hz : okQ ps sg z = false) : cg sg who ps 0 = some z.1 := by
 obtain ⟨suf, e⟩ := hn
 rw [gV ps 0 who rfl, e, List.find?_append, zn.2 (fun y hy => by rw [h y hy]; simp), Option.none_or, List.find?_cons, hz]
 rfl
theorem sr {sg who : Int} (h : ∀ y ∈ pers who ps 0, okQ ps sg y = true) : cg sg who ps 0 = none := by
 rw [gV ps 0 who rfl, zn.2 (fun y hy => by rw [h y hy]; simp)]
 rfl
theorem Pxy.ok_frm {p : Pxy} (h : p.ok = true) : 0 ≤ p.frm ∧ p.frm ≤ 63 := by
 simp only [Pxy.ok, inB, xP, xT] at h; omega
theorem Wsh.ok_signer {x : Wsh} (h : x.ok = true) : 0 ≤ x.signer ∧ x.signer ≤ 63 := by
 simp only [Wsh.ok, inB, xP, xT] at h; omega
theorem Wsh.ok_bnd {x : Wsh} (h : x.ok = true) : 0 ≤ x.rf ∧ x.rf < x.rt ∧ x.rt ≤ 100000000 ∧ 0 ≤ x.sf ∧ x.sf < x.st ∧ x.st ≤ 10000001 := by
 simp only [Wsh.ok, cF, dy, xP, xT] at h; omega
theorem iw {n : Int} (h0 : 0 ≤ n) (h1 : n.toNat < ks.length) : keyAt ks n = some (ks.getD n.toNat []) := by
 unfold keyAt; rw [yk om, xR, xY h1]; rfl
theorem mh {n : Int} (h0 : 0 ≤ n) (h1 : ks.length ≤ n.toNat) : keyAt ks n = none := by
 unfold keyAt; rw [yk om, zv h1]
theorem rc {k : Nat} (hk : k < ps.length) (h0 : 0 ≤ (ps.getD k Pxy.z).frm) (h1 : (ps.getD k Pxy.z).frm.toNat < ks.length) (h2 : (ps.getD k Pxy.z).sig = sealH (ks.getD (ps.getD k Pxy.z).frm.toNat []) (ps.getD k Pxy.z).content) :
  bJ ks x (ps.drop k) k = bJ ks x (ps.drop (k + 1)) (k + 1) := by
 rw [dE Pxy.z hk, bJ, iw h0 h1, yl]
 exact xS h2
theorem od {k : Nat} (hk : k < ps.length) (h0 : 0 ≤ (ps.getD k Pxy.z).frm) (h1 : ks.length ≤ (ps.getD k Pxy.z).frm.toNat) : bJ ks x (ps.drop k) k = some (k : Int) := by
 rw [dE Pxy.z hk, bJ, mh h0 h1, yk]; simp
theorem oA {k : Nat} (hk : k < ps.length) (h0 : 0 ≤ (ps.getD k Pxy.z).frm) (h1 : (ps.getD k Pxy.z).frm.toNat < ks.length) (h2 : ¬ (ps.getD k Pxy.z).sig = sealH (ks.getD (ps.getD k Pxy.z).frm.toNat []) (ps.getD k Pxy.z).content) :
  bJ ks x (ps.drop k) k = some (k : Int) := by
 rw [dE Pxy.z hk, bJ, iw h0 h1, yk]
 rw [Option.any_some, xW h2]; simp
theorem mc {k : Nat} (h0 : 0 ≤ x.signer) (h1 : ks.length ≤ x.signer.toNat) : bJ ks x [] k = some (-1) := by
 rw [bJ, mh h0 h1, yk]; simp
theorem mG {k : Nat} (h0 : 0 ≤ x.signer) (h1 : x.signer.toNat < ks.length) (h2 : ¬ x.sig = sealH (ks.getD x.signer.toNat []) x.content) : bJ ks x [] k = some (-1) := by
 rw [bJ, iw h0 h1, yk]
 rw [Option.any_some, xW h2]; simp
theorem sb {k : Nat} (h0 : 0 ≤ x.signer) (h1 : x.signer.toNat < ks.length) (h2 : x.sig = sealH (ks.getD x.signer.toNat []) x.content) : bJ ks x [] k = none := by
 rw [bJ, iw h0 h1, yl]
 exact xS h2
end
theorem tf {x : Wsh} {ps : List Pxy} (h : (scopeV x ps).2 = false) : bA x none ps 0 = none := by
 unfold scopeV at h
 cases hs : bA x none ps 0 with
 | none => rfl
 | some n => rw [hs] at h; cases h
theorem sj {x : Wsh} {ps : List Pxy} (h : (scopeV x ps).2 = true) : bA x none ps 0 = some (scopeV x ps).1 := by
 unfold scopeV at h ⊢
 cases hs : bA x none ps 0 with
 | none => rw [hs] at h; cases h
 | some n => rfl
theorem xy (kv lv : Value) (ks : List By) (x : Wsh) (ps : List Pxy) (number t : Int) (w0 : World) (hkv : SlAt w0 kv 1 (ks.map fun s => [sv s])) (hlv : SlAt w0 lv 7 (ps.map Pxy.cells)) (hk0 : (blk 0 (kOf.map wv) 258).ok w0) :
  Ret Tryz.prog 103 #[kv, .agg #[jv x.signer, jv x.holder, jv x.rf, jv x.rt, jv x.carrier, jv x.serial, jv x.sf, jv x.st, sv x.sig], lv, jv number, jv t] w0 fun v w => v = .tuple #[jv (whyH ks x ps number t).1, jv (whyH ks x ps number t).2] ∧ Ext No w0 w := by
 have hxb := hlv.2.1
 simp only [xO, big] at hxb
 have hyb := hkv.2.1
 simp only [xO, big] at hyb
 refine zQ func103 O ntmps103 (lb O) fun a Z Y => ?_
 refine aa fun _ G1 => aS Z Y O [jv x.signer, jv x.holder, jv x.rf, jv x.rt, jv x.carrier, jv x.serial, jv x.sf, jv x.st, sv x.sig] O fun a w1 Z Y => aS Z Y O [lv] (by rw [(Y.arg hlv).cells]) fun a w2 Z Y => aD Z Y (zeroValue3 _) [jv 0] O fun a w3 Z Y => aD Z Y (zeroValue3 _) [jv 0] O fun a w4 Z Y => G1 <| aa fun _ G2 => ?_
 refine wla Z O fun a Z => G2 <| ah fun _ G3 => ?_
 refine aa fun _ G4 => nv Z <| xK O <| xJ ((aI (sT := 44) (Y.arg hkv) O O (runUnderlying44 _)).asi (m' := (ks.length : Int)) Ai) <| xJ (v_gt O O) <| xK O <| fun a Z => ?_
 rcases Decidable.em (64 < (ks.length : Int)) with hb1 | hb1
 ·rw [xS hb1] at Z
  refine nv Z <| xN <| xN <| xN <| xJ (ax O O) <| xK O <| xN <| xN <| xN <| xJ (ax O O) <| xK O <| xN <| xN <| xN <| xJ (ax O O) <| fun a Z => G4 ?_
  replace Z := Z.p8 0 3 4 6 7 10 11 37 O
  refine aK Z O ?_
  refine aa fun _ G5 => az 1 Z Y [jv 1] O (sizeOf3 _) fun a w5 Z Y => az 0 Z Y [jv (-1)] O (sizeOf3 _) fun a w6 Z Y => G5 <| ap ?_
  refine am Z results103 (al O (aH (Y.g 1 O) (isAgg3 _)) (al O (aH (Y.g 0 O) (isAgg3 _)) ae)) ?_
  exact ⟨by rw [fX (by unfold formB; first | exact .inl om | exact .inr (.inr (.inr om)) | exact .inr (.inr (.inl hb1)) | exact .inr (.inl (by rw [gn] at hb1; simpa using hb1)))]; rfl, Y.ext⟩
 rw [xW hb1] at Z
 refine nv Z <| xM (ay O) <| xM (ay O) <| fun a Z => aF Z Y call146 O (qL (fun s => !decide ((s.length : Int) = 32)) _ call145 (Y.arg hkv) (fun x w _ => wn x w)) fun a w7 Z Y => nv Z <| xJ (ak O O) <| xK O <| fun a Z => ?_
 rcases xU (ks.any fun s => !decide ((s.length : Int) = 32)) with hb2 | hb2
 ·rw [hb2] at Z
  try simp only [qz] at hb2
  refine nv Z <| xN <| xN <| xN <| xJ (ax O O) <| xK O <| xN <| xN <| xN <| xJ (ax O O) <| fun a Z => G4 ?_
  replace Z := Z.p8 0 3 4 6 7 10 11 37 O
  refine aK Z O ?_
  refine aa fun _ G6 => az 1 Z Y [jv 1] O (sizeOf3 _) fun a w8 Z Y => az 0 Z Y [jv (-1)] O (sizeOf3 _) fun a w9 Z Y => G6 <| ap ?_
  refine am Z results103 (al O (aH (Y.g 1 O) (isAgg3 _)) (al O (aH (Y.g 0 O) (isAgg3 _)) ae)) ?_
  exact ⟨by rw [fX (by unfold formB; first | exact .inl om | exact .inr (.inr (.inr om)) | exact .inr (.inr (.inl hb2)) | exact .inr (.inl (by rw [gn] at hb2; simpa using hb2)))]; rfl, Y.ext⟩
 rw [hb2] at Z
 try simp only [qz] at hb2
 refine wly Z (ao (Y.g 3 O) O (isAgg90 _) (sizeOf90 _)) fun a Z => aF Z Y call85 O (iV x _) fun a w10 Z Y => nv Z <| xM (bE O) <| xJ (ak O O) <| xK O <| fun a Z => ?_
 rcases xU (!x.ok) with hb3 | hb3
 ·rw [hb3] at Z
  try simp only [qz] at hb3
  refine nv Z <| xN <| xN <| xN <| xJ (ax O O) <| fun a Z => G4 ?_
  replace Z := Z.p8 0 3 4 6 7 10 11 37 O
  refine aK Z O ?_
  refine aa fun _ G7 => az 1 Z Y [jv 1] O (sizeOf3 _) fun a w11 Z Y => az 0 Z Y [jv (-1)] O (sizeOf3 _) fun a w12 Z Y => G7 <| ap ?_
  refine am Z results103 (al O (aH (Y.g 1 O) (isAgg3 _)) (al O (aH (Y.g 0 O) (isAgg3 _)) ae)) ?_
  exact ⟨by rw [fX (by unfold formB; first | exact .inl om | exact .inr (.inr (.inr om)) | exact .inr (.inr (.inl hb3)) | exact .inr (.inl (by rw [gn] at hb3; simpa using hb3)))]; rfl, Y.ext⟩
 rw [hb3] at Z
 try simp only [qz] at hb3
 refine nv Z <| xM (ld Y 2 O O (isAgg91 _) O) <| xM ((aI (sT := 91) (Y.arg hlv) O O (runUnderlying91 _)).asi (m' := (ps.length : Int)) Ai) <| xM (v_gt O O) <| xJ (ak O O) <| fun a Z => G4 ?_
 replace Z := Z.p8 0 3 4 6 7 10 11 37 O
 refine aA Z O (fun hc4 => ?_) (fun hc4 => ?_)
 ·refine aa fun _ G8 => az 1 Z Y [jv 1] O (sizeOf3 _) fun a w13 Z Y => az 0 Z Y [jv (-1)] O (sizeOf3 _) fun a w14 Z Y => G8 <| ap ?_
  refine am Z results103 (al O (aH (Y.g 1 O) (isAgg3 _)) (al O (aH (Y.g 0 O) (isAgg3 _)) ae)) ?_
  exact ⟨by rw [fX (by unfold formB; first | exact .inl om | exact .inr (.inr (.inr om)) | exact .inr (.inr (.inl hc4)) | exact .inr (.inl (by rw [gn] at hc4; simpa using hc4)))]; rfl, Y.ext⟩
 refine au <| G3 <| ah fun _ G9 => ?_
 have hxo : x.ok = true := hb3
 have hnf : ¬ formB ks x ps := by
  rintro (h | h | h | h)
  ·omega
  ·rw [gn, h] at hb2; simp at hb2
  ·rw [hxo] at h; cases h
  ·omega
 have hk32 := vO hnf
 have hxd := Wsh.ok_bnd hxo
 have hxg := Wsh.ok_signer hxo
 refine aa fun _ G10 => wlv Z (ld Y 2 O O (isAgg91 _) O) fun a Z => aw Z Y call140 O (jA lv ps _ (Y.arg hlv)) fun a w15 Z Y => wla Z O fun a Z => G10 <| aa fun _ G11 => ?_
 refine nv Z <| xK O <| xJ (v_ge O O) <| fun a Z => G11 <| aA Z O (fun hc5 => ?_) (fun hc5 => ?_)
 ·refine aa fun _ G12 => wlm Z O fun a Z => az 1 Z Y [jv 1] O (sizeOf3 _) fun a w16 Z Y => az 0 Z Y [jv (badN ps)] O (sizeOf3 _) fun a w17 Z Y => G12 ?_
  replace Z := Z.p7 0 3 4 6 7 10 11 O
  refine ap <| am Z results103 (al O (aH (Y.g 1 O) (isAgg3 _)) (al O (aH (Y.g 0 O) (isAgg3 _)) ae)) ?_
  exact ⟨by rw [q8 hnf hc5]; rfl, Y.ext⟩
 refine au <| G9 <| ah fun _ G13 => ?_
 have hbn := nH (l := ps) om
 refine aa fun _ G14 => nv Z <| xK O <| xJ (ac (v := pw2 w0.hz 6) O kr) <| xJ (ac (v := pw2 w0.hz 6) O kr) <| xJ (ld Y 3 O O (isAgg3 _) O) <| xJ (ac (v := pw2 w0.hz 6) O kr) <| xJ (ac (v := pw2 w0.hz 7) O kr) <| xJ (ld Y 3 O O (isAgg3 _) O) <| xJ (bH O O ⟨om, om⟩) <| fun a Z => aw Z Y call100 O (cU t x.sf (x.st - 1) _) fun a w18 Z Y => wlv Z (bE O) fun a Z => G14 ?_
 replace Z := Z.p7 0 3 6 7 10 11 52 O
 refine bt Z O (fun hc6 => ?_) (fun hc6 => ?_)
 ·try simp only [qz] at hc6
  refine aa fun _ G15 => az 1 Z Y [jv 2] O (sizeOf3 _) fun a w19 Z Y => az 0 Z Y [jv (-1)] O (sizeOf3 _) fun a w20 Z Y => G15 <| ap ?_
  refine am Z results103 (al O (aH (Y.g 1 O) (isAgg3 _)) (al O (aH (Y.g 0 O) (isAgg3 _)) ae)) ?_
  exact ⟨by rw [kR hnf hbn hc6]; rfl, Y.ext⟩
 try simp only [qz] at hc6
 refine au <| G13 <| ah fun _ G16 => aa fun _ G17 => nv Z <| xK O <| xJ (ac (v := pw2 w0.hz 2) O kr) <| xJ (ac (v := pw2 w0.hz 2) O kr) <| xJ (ld Y 3 O O (isAgg3 _) O) <| xJ (ac (v := pw2 w0.hz 2) O kr) <| xJ (ac (v := pw2 w0.hz 3) O kr) <| xJ (ld Y 3 O O (isAgg3 _) O) <| xJ (bH O O ⟨om, om⟩) <| fun a Z => aw Z Y call100 O (cU number x.rf (x.rt - 1) _) fun a w21 Z Y => wlv Z (bE O) fun a Z => G17 ?_
 replace Z := Z.p6 0 6 7 10 11 62 O
 refine bt Z O (fun hc7 => ?_) (fun hc7 => ?_)
 ·try simp only [qz] at hc7
  refine aa fun _ G18 => az 1 Z Y [jv 3] O (sizeOf3 _) fun a w22 Z Y => az 0 Z Y [jv (-1)] O (sizeOf3 _) fun a w23 Z Y => G18 <| ap ?_
  refine am Z results103 (al O (aH (Y.g 1 O) (isAgg3 _)) (al O (aH (Y.g 0 O) (isAgg3 _)) ae)) ?_
  exact ⟨by rw [nd hnf hbn hc6 hc7]; rfl, Y.ext⟩
 try simp only [qz] at hc7
 refine au <| G16 <| ah fun _ G19 => ?_
 have hwp : whyP ks x ps number t := ⟨hnf, hbn, hc6, hc7⟩
 refine aa fun _ G20 => nv Z <| xJ (ac (v := pw2 w0.hz 1) O kr) <| xJ (ld Y 3 O O (isAgg3 _) O) <| xJ (ld Y 2 O O (isAgg91 _) O) <| fun a Z => bD Z Y call147 O (pU x.holder lv ps _ (Y.arg hlv)) fun a w24 x8 hp Z Y => ?_
 obtain ⟨bh, bl⟩ := x8
 clear hp
 try dsimp only at Y
 replace Y := Y.n6 O
 refine G20 <| ar ?_
 replace Y := Y.s6 [5, 4, 3, 2, 1, 0] de rfl
 replace Z := Z.p9 0 6 7 10 11 63 64 65 66 O
 refine dG (M := No) (w0 := w0) (encs := encQ) (Hi := [blk bh [jv x.holder] 3, blk bl [lv] 91]) (Hc := [blk w0.hz [jv x.signer, jv x.holder, jv x.rf, jv x.rt, jv x.carrier, jv x.serial, jv x.sf, jv x.st, sv x.sig] 90, blk w1.hz [lv] 91, blk w2.hz [jv 0] 3, blk w3.hz [jv 0] 3]) (fun pre H => (∀ z ∈ pre, okQ ps x.signer z = true) ∧ H = [blk w0.hz [jv x.signer, jv x.holder, jv x.rf, jv x.rt, jv x.carrier, jv x.serial, jv x.sf, jv x.st, sv x.sig] 90, blk w1.hz [lv] 91, blk w2.hz [jv 0] 3, blk w3.hz [jv 0] 3]) (fun c pre H => c = .ret ∧ ∃ (i : Int), (cg x.signer x.holder ps 0 = some i) ∧ H = [blk w0.hz [jv x.signer, jv x.holder, jv x.rf, jv x.rt, jv x.carrier, jv x.serial, jv x.sf, jv x.st, sv x.sig] 90, blk w1.hz [lv] 91, blk w2.hz [jv 4] 3, blk w3.hz [jv i] 3]) (fun pre xs H a => Fr 142 [(6, pq w0.hz), (7, pq w1.hz), (10, pq w2.hz), (11, pq w3.hz), (14, jv xs.1), (15, jv xs.2)] [] a ∧ (∀ z ∈ pre, okQ ps x.signer z = true) ∧ H = [blk w0.hz [jv x.signer, jv x.holder, jv x.rf, jv x.rt, jv x.carrier, jv x.serial, jv x.sf, jv x.st, sv x.sig] 90, blk w1.hz [lv] 91, blk w2.hz [jv 0] 3, blk w3.hz [jv 0] 3]) O call183 Z Y (mS x.holder lv ps bh bl (fun H w h => h.arg hlv)) de (fun _ => O) ⟨sm, O⟩ ?_ ?_ ?_ ?_
 ·clear Z Y
  rintro lp pre xs _ a w25 hnx ⟨hpq, rfl⟩ Z Y
  generalize (join [blk w0.hz [jv x.signer, jv x.holder, jv x.rf, jv x.rt, jv x.carrier, jv x.serial, jv x.sf, jv x.st, sv x.sig] 90, blk w1.hz [lv] 91, blk w2.hz [jv 0] 3, blk w3.hz [jv 0] 3]).foot = M1 at Y ⊢
  refine aa fun _ G21 => wla (Z.p11 68 67 0 6 7 10 11 63 64 65 66 O) O fun a Z => G21 ?_
  refine ai <| wla (Z.p6 68 6 7 10 11 14 O) O fun a Z => ab ?_
  exact ⟨_, ⟨Z.pick [6, 7, 10, 11, 14, 15], hpq, O⟩, Y⟩
 ·rintro lp pre xs _ a w26 hnx ⟨Z, hpq, rfl⟩ hout hrec hnl Y
  clear hrec hnl
  generalize (join [blk w0.hz [jv x.signer, jv x.holder, jv x.rf, jv x.rt, jv x.carrier, jv x.serial, jv x.sf, jv x.st, sv x.sig] 90, blk w1.hz [lv] 91, blk w2.hz [jv 0] 3, blk w3.hz [jv 0] 3]).foot = M1 at Y hout ⊢
  refine ar <| aa fun _ G22 => nv Z <| xK O <| xJ (v_ge O O) <| xK O <| fun a Z => ?_
  rcases Decidable.em (0 ≤ xs.1) with hb9 | hb9
  ·rw [xS hb9] at Z
   have hqlt := qO hnx
   refine nv Z <| xM (ld Y 1 O O (isAgg91 _) O) <| xM (ay O) <| xM ((aj (i := xs.1) (sT := 91) (hlv.grow (hout _ Y.ext)) O O (runUnderlying91 _) (sizeOf144 _) om zY).as (v' := slAddr lv (xs.1.toNat * 7)) (by rw [show (xs.1).toNat = xs.1.toNat from by omega])) <| xM (bI (k := xs.1.toNat * 7) (j := 0) (hlv.grow (hout _ Y.ext)) (i := xs.1.toNat) zY O (fun _ _ => by kernel_rfl)) <| xM (aB (u := jv ((ps.getD xs.1.toNat Pxy.z).frm)) (i := xs.1.toNat) (j := 0) (hlv.grow (hout _ Y.ext)) zY O (isAgg3 _) AF) <| xM (ay O) <| xM (v_ne O O) <| xJ (ax O O) <| xK O <| fun a Z => ?_
   rcases (Decidable.em ((ps.getD xs.1.toNat Pxy.z).frm = xs.2)).symm with hb10 | hb10
   ·rw [xW hb10] at Z
    refine nv Z <| xN <| xN <| xN <| fun a Z => bV Z fun a Z => bV Z fun a Z => bV Z fun a Z => bV Z fun a Z => nv Z <| xN <| xJ (ax O O) <| fun a Z => G22 ?_
    replace Z := Z.p4 10 11 14 89 O
    refine aK Z O ?_
    refine aa fun _ G23 => wlm Z O fun a Z => az 2 Z Y [jv 4] O (sizeOf3 _) fun a w27 Z Y => az 3 Z Y [jv xs.1] O (sizeOf3 _) fun a w28 Z Y => G23 <| ap ?_
    exact ⟨_, ⟨O, xs.1, lK hnx hpq (vJ hb9 hb10), O⟩, Y.select [0, 1, 2, 3] de⟩
   rw [xS hb10] at Z
   refine nv Z <| xM (ay O) <| xM ((v_lt O O).asb (b' := false) A5) <| xM (ay O) <| xN <| xN <| xN <| xN <| xM (ak O O) <| xJ (ak O O) <| fun a Z => G22 ?_
   replace Z := Z.p4 10 11 14 89 O
   refine aG Z O ?_
   refine au ?_
   exact ⟨_, ⟨qW hpq (vp hb9 hb10), O⟩, Y.select [0, 1, 2, 3] de⟩
  rw [xW hb9] at Z
  have hqlt := qO hnx
  refine nv Z <| xN <| xN <| xN <| xN <| xN <| xN <| xN <| xJ (ak O O) <| xK O <| xM (ay O) <| xM ((v_lt O O).asb (b' := true) (by exact xS om)) <| xM (ay O) <| xM (ac (v := pq w0.hz) O kr) <| xM (ld Y 0 O O (isAgg3 _) O) <| xM (ay O) <| xM (v_ne O O) <| xM (ax O O) <| xJ (ak O O) <| fun a Z => G22 ?_
  replace Z := Z.p4 10 11 14 89 O
  refine dk Z O (fun hc11 => ?_) (fun hc11 => ?_)
  ·refine aa fun _ G24 => wlm Z O fun a Z => az 2 Z Y [jv 4] O (sizeOf3 _) fun a w29 Z Y => az 3 Z Y [jv xs.1] O (sizeOf3 _) fun a w30 Z Y => G24 <| ap ?_
   exact ⟨_, ⟨O, xs.1, lK hnx hpq (wj om hc11), O⟩, Y.select [0, 1, 2, 3] de⟩
  refine au ?_
  exact ⟨_, ⟨qW hpq (vw om hc11), O⟩, Y.select [0, 1, 2, 3] de⟩
 ·rintro D pre _ _ a w31 ⟨rfl, rfl⟩ ⟨hpq, rfl⟩ Y Z
  replace Z := Z.p9 0 6 7 10 11 63 64 65 66 O
  replace Y := Y.n7 O
  refine G19 <| ah fun _ G25 => ?_
  have hch := sr hpq
  refine aa fun _ G26 => nv Z <| xJ (ao (Y.g 1 O) O (isAgg90 _) (sizeOf90 _)) <| xJ (ld Y 2 O O (isAgg91 _) O) <| fun a Z => aw Z Y call148 O (tQ x lv ps _ (Y.arg hlv)) fun a w32 Z Y => nv Z <| xK O <| xJ (aq O O) <| xJ (aq O O) <| xL O <| xL O <| fun a Z => G26 ?_
  replace Z := Z.p7 0 6 7 10 11 16 17 O
  refine aa fun _ G27 => wlm Z O fun a Z => G27 <| bt Z O (fun hc12 => ?_) (fun hc12 => ?_)
  ·refine aa fun _ G28 => wlm Z O fun a Z => az 3 Z Y [jv 5] O (sizeOf3 _) fun a w33 Z Y => az 4 Z Y [jv ((scopeV x ps).1)] O (sizeOf3 _) fun a w34 Z Y => G28 <| ap ?_
   have hD := Y.g 0 rfl
   replace Y := Y.unmark (i := 0) (o' := .deferred none) O
   replace Y := Y.n6 O
   refine ct Z hD results103 (al O (aH (Y.g 2 O) (isAgg3 _)) (al O (aH (Y.g 3 O) (isAgg3 _)) ae)) ?_
   exact ⟨by rw [mF hwp hch (sj hc12)]; rfl, Y.ext⟩
  refine au <| G25 <| ah fun _ G29 => ?_
  have hsc : bA x none ps 0 = none := tf hc12
  refine aa fun _ G30 => nv Z <| xJ (ld Y 2 O O (isAgg91 _) O) <| xJ ((aI (sT := 91) (Y.arg hlv) O O (runUnderlying91 _)).asi (m' := (ps.length : Int)) Ai) <| xK O <| fun a Z => G30 <| ar ?_
  refine aW (fun m a w => ∃ (k : Nat), m = ps.length - k ∧ (k ≤ ps.length) ∧ (bJ ks x ps 0 = bJ ks x (ps.drop k) k) ∧ Fr 142 [(0, kv), (6, pq w0.hz), (10, pq w2.hz), (11, pq w3.hz), (99, lv), (100, jv (ps.length : Int)), (101, jv (k : Int))] [{ target := .collected D, args := #[] }] a ∧ St No w0 [obj D (.deferred (some [])), blk w0.hz [jv x.signer, jv x.holder, jv x.rf, jv x.rt, jv x.carrier, jv x.serial, jv x.sf, jv x.st, sv x.sig] 90, blk w1.hz [lv] 91, blk w2.hz [jv 0] 3, blk w3.hz [jv 0] 3, blk bh [jv x.holder] 3, blk bl [lv] 91] w) _ ⟨0, O, ym _, O, Z.pick [0, 6, 10, 11, 99, 100, 101], Y.select [0, 1, 2, 3, 4, 5, 6] de⟩ ?_
  rintro _ a w35 ⟨k, rfl, hk, hsb, Z, Y⟩
  refine aa fun _ G31 => wlv Z (v_lt O O) fun a Z => G31 <| ah fun _ G32 => ?_
  refine aA Z O (fun hc13 => ?_) (fun hc13 => ?_)
  ·have hkx : k < ps.length := by omega
   have hpk := dV hbn _ (bc (d := Pxy.z) hkx)
   have hp0 := Pxy.ok_frm hpk
   refine au <| G32 <| ah fun _ G33 => ar <| aa fun _ G34 => nv Z <| xK O <| xJ ((aj (i := (k : Int)) (sT := 91) (Y.arg hlv) O O (runUnderlying91 _) (sizeOf144 _) om zY).as (v' := slAddr lv (k * 7)) O) <| xJ ((bP (Y.arg hlv) (i := k) zY O (isAgg144 _) (sizeOf144 _)).as (v' := .agg #[jv ((ps.getD k Pxy.z).frm), jv ((ps.getD k Pxy.z).to), jv ((ps.getD k Pxy.z).rf), jv ((ps.getD k Pxy.z).rt), jv ((ps.getD k Pxy.z).sf), jv ((ps.getD k Pxy.z).st), sv ((ps.getD k Pxy.z).sig)]) AF) <| fun a Z => aD Z Y (zeroValue144 _) [jv 0, jv 0, jv 0, jv 0, jv 0, jv 0, .string (⟨#[]⟩)] O fun a w36 Z Y => ?_
   refine wla Z O fun a Z => az 0 Z Y [jv ((ps.getD k Pxy.z).frm), jv ((ps.getD k Pxy.z).to), jv ((ps.getD k Pxy.z).rf), jv ((ps.getD k Pxy.z).rt), jv ((ps.getD k Pxy.z).sf), jv ((ps.getD k Pxy.z).st), sv ((ps.getD k Pxy.z).sig)] O (sizeOf144 _) fun a w37 Z Y => G34 ?_
   replace Z := Z.p9 0 6 10 11 99 100 101 19 18 O
   refine ah fun _ G35 => aL (aN fun w38 hxz => ?_)
   replace Y := Y.grow hxz
   refine aU (k := 0) 4 [1, 3] Z ?_
   refine bN 4 (Z.p9 0 6 10 11 99 100 101 19 18 O) Y <| pl_v (ac (v := pq w35.hz) O kr) <| pl_w (fun Y => ld Y 0 O O (isAgg3 _) O) <| pl_m O <| pl_w (fun Y => (aI (sT := 44) (Y.arg hkv) O O (runUnderlying44 _)).asi (m' := (ks.length : Int)) Ai) fun a w39 Z Y => ab <| aM (k := 4) 6 [5] ?_
   refine nv Z <| xJ (v_ge O O) <| xK O <| fun a Z => ab ?_
   rcases Decidable.em ((ks.length : Int) ≤ (ps.getD k Pxy.z).frm) with hb14 | hb14
   ·rw [xS hb14] at Z
    refine dr (k := 6) 15 [7, 14] (Z.p15 0 6 10 11 99 100 101 19 18 106 107 108 109 110 111 O) fun a Z => ?_
    replace Z : Fr 142 [(112, undef), (113, undef), (114, undef), (115, undef), (116, undef), (117, undef), (118, undef), (119, undef), (120, undef), (0, kv), (6, pq w0.hz), (10, pq w2.hz), (11, pq w3.hz), (99, lv), (100, jv (ps.length : Int)), (101, jv (k : Int)), (19, pq w35.hz), (18, jv (k : Int)), (106, pq w35.hz), (107, jv ((ps.getD k Pxy.z).frm)), (108, kv), (109, jv (ks.length : Int)), (110, .bool true), (111, .bool true)] [{ target := .collected D, args := #[] }] a := Z
    refine aM (k := 15) 17 [16] ?_
    refine nv Z <| xN <| xJ (ax O O) <| fun a Z => ab <| aT <| G35 ?_
    replace Z := Z.p9 0 6 10 11 99 100 101 18 122 O
    replace Y := Y.k7 254 O
    refine aK Z O ?_
    refine aa fun _ G36 => wlm Z O fun a Z => az 3 Z Y [jv 6] O (sizeOf3 _) fun a w40 Z Y => az 4 Z Y [jv (k : Int)] O (sizeOf3 _) fun a w41 Z Y => G36 <| ap ?_
    have hD := Y.g 0 rfl
    replace Y := Y.unmark (i := 0) (o' := .deferred none) O
    replace Y := Y.n6 O
    refine ct Z hD results103 (al O (aH (Y.g 2 O) (isAgg3 _)) (al O (aH (Y.g 3 O) (isAgg3 _)) ae)) ?_
    exact ⟨by rw [gj hwp hch hsc (by rw [hsb]; first | exact od hkx hp0.1 om | exact oA hkx hp0.1 om hb14)]; rfl, Y.ext⟩
   rw [xW hb14] at Z
   refine aU (k := 6) 15 [7, 14] Z ?_
   replace Z := Z.p15 0 6 10 11 99 100 101 19 18 106 107 108 109 110 111 O
   refine bN 9 Z Y <| pl_v (ac (v := pw2 w35.hz 6) O kr) <| pl_w (fun Y => ld Y 0 O O (isAgg9 _) O) <| pl_m O <| pl_v (ac (v := pq w35.hz) O kr) <| pl_w (fun Y => ld Y 0 O O (isAgg3 _) O) <| pl_w (fun Y => (aj (i := (ps.getD k Pxy.z).frm) (sT := 44) (Y.arg hkv) O O (runUnderlying44 _) (sizeOf9 _) om zY).as (v' := slAddr kv (((ps.getD k Pxy.z).frm.toNat) * 1)) (by rw [show ((ps.getD k Pxy.z).frm).toNat = (ps.getD k Pxy.z).frm.toNat from by omega])) ?_
   refine pl_w (fun Y => aB (u := sv (ks.getD ((ps.getD k Pxy.z).frm.toNat) [])) (i := ((ps.getD k Pxy.z).frm.toNat)) (j := 0) (Y.arg hkv) zY O (isAgg9 _) BD) <| pl_v (cd O O) ?_
   refine pl_r (fun Y => bF call86 O (lZ (ks.getD ((ps.getD k Pxy.z).frm.toNat) []) (ps.getD k Pxy.z).content 149 w35.hz [jv ((ps.getD k Pxy.z).frm), jv ((ps.getD k Pxy.z).to), jv ((ps.getD k Pxy.z).rf), jv ((ps.getD k Pxy.z).rt), jv ((ps.getD k Pxy.z).sf), jv ((ps.getD k Pxy.z).st), sv ((ps.getD k Pxy.z).sig)] 144 _ call149 (fun b v ws h => wD b w35.hz v (ps.getD k Pxy.z) ws (Pxy.smalls_of hpk) h) iB (by have := hk32 _ (bc (d := []) (by omega : ((ps.getD k Pxy.z).frm.toNat) < ks.length)); omega) (yL ((ps.getD k Pxy.z).content_len) de) (Y.keepb hk0) (Y.g 0 O) (ot Y (i := 0) O hk0))) fun a w42 Z Y => ?_
   replace Z := Z.p11 0 6 10 11 99 100 101 18 111 113 120 O
   refine ab <| aM (k := 15) 17 [16] ?_
   refine nv Z <| xM (tG O O) <| xJ (ak O O) <| fun a Z => ab <| aT <| G35 <| dk Z O (fun hc15 => ?_) (fun hc15 => ?_)
   ·refine aa fun _ G37 => wlm Z O fun a Z => az 4 Z Y [jv 6] O (sizeOf3 _) fun a w43 Z Y => az 5 Z Y [jv (k : Int)] O (sizeOf3 _) fun a w44 Z Y => G37 ?_
    replace Z := Z.p7 0 6 10 11 99 100 101 O
    replace Y := Y.k7 254 O
    refine ap ?_
    have hD := Y.g 0 rfl
    replace Y := Y.unmark (i := 0) (o' := .deferred none) O
    replace Y := Y.n6 O
    refine ct Z hD results103 (al O (aH (Y.g 2 O) (isAgg3 _)) (al O (aH (Y.g 3 O) (isAgg3 _)) ae)) ?_
    exact ⟨by rw [gj hwp hch hsc (by rw [hsb]; first | exact od hkx hp0.1 om | exact oA hkx hp0.1 om hc15)]; rfl, Y.ext⟩
   refine au <| G33 <| ai <| nv Z <| xJ (aP O O ⟨om, om⟩) <| xK O <| fun a Z => ab ?_
   refine ⟨_, ?_, k + 1, O, om, (by rw [hsb]; exact rc hkx hp0.1 om hc15), Z.pick [0, 6, 10, 11, 99, 100, 101], Y.select [1, 2, 3, 4, 5, 6, 7] de⟩
   omega
  have hke : k = ps.length := by omega
  rw [hke, List.drop_length] at hsb
  refine aO <| G29 <| ah fun _ G38 => ah fun _ G39 => aL (aN fun w45 hxz => ?_)
  replace Y := Y.grow hxz
  refine aU (k := 0) 4 [1, 3] Z ?_
  refine bN 4 (Z.p7 0 6 10 11 99 100 101 O) Y <| pl_v (ac (v := pq w0.hz) O kr) <| pl_w (fun Y => ld Y 1 O O (isAgg3 _) O) <| pl_m O <| pl_w (fun Y => (aI (sT := 44) (Y.arg hkv) O O (runUnderlying44 _)).asi (m' := (ks.length : Int)) Ai) fun a w46 Z Y => ?_
  replace Z := Z.p6 0 6 10 11 126 128 O
  refine ab <| aM (k := 4) 6 [5] ?_
  refine nv Z <| xJ (v_ge O O) <| xK O <| fun a Z => ab ?_
  rcases Decidable.em ((ks.length : Int) ≤ x.signer) with hb16 | hb16
  ·rw [xS hb16] at Z
   refine dr (k := 6) 15 [7, 14] (Z.p8 0 6 10 11 126 128 129 130 O) fun a Z => ?_
   replace Z : Fr 142 [(131, undef), (132, undef), (133, undef), (134, undef), (135, undef), (136, undef), (137, undef), (138, undef), (139, undef), (0, kv), (6, pq w0.hz), (10, pq w2.hz), (11, pq w3.hz), (126, jv x.signer), (128, jv (ks.length : Int)), (129, .bool true), (130, .bool true)] [{ target := .collected D, args := #[] }] a := Z
   refine aM (k := 15) 17 [16] ?_
   refine nv Z <| xN <| xJ (ax O O) <| fun a Z => ab <| aT <| G39 ?_
   replace Z := Z.p3 10 11 141 O
   refine aK Z O ?_
   refine aa fun _ G40 => az 3 Z Y [jv 6] O (sizeOf3 _) fun a w47 Z Y => az 4 Z Y [jv (-1)] O (sizeOf3 _) fun a w48 Z Y => G40 <| ap ?_
   have hD := Y.g 0 rfl
   replace Y := Y.unmark (i := 0) (o' := .deferred none) O
   replace Y := Y.n6 O
   refine ct Z hD results103 (al O (aH (Y.g 2 O) (isAgg3 _)) (al O (aH (Y.g 3 O) (isAgg3 _)) ae)) ?_
   exact ⟨by rw [gj hwp hch hsc (by rw [hsb]; first | exact mc (Wsh.ok_signer hxo).1 om | exact mG (Wsh.ok_signer hxo).1 om hb16)]; rfl, Y.ext⟩
  rw [xW hb16] at Z
  refine aU (k := 6) 15 [7, 14] Z ?_
  replace Z := Z.p8 0 6 10 11 126 128 129 130 O
  refine bN 9 Z Y <| pl_v (ac (v := pw2 w0.hz 8) O kr) <| pl_w (fun Y => ld Y 1 O O (isAgg9 _) O) <| pl_m O <| pl_v (ac (v := pq w0.hz) O kr) <| pl_w (fun Y => ld Y 1 O O (isAgg3 _) O) <| pl_w (fun Y => (aj (i := x.signer) (sT := 44) (Y.arg hkv) O O (runUnderlying44 _) (sizeOf9 _) om zY).as (v' := slAddr kv (x.signer.toNat * 1)) (by rw [show (x.signer).toNat = x.signer.toNat from by omega])) <| pl_w (fun Y => aB (u := sv (ks.getD x.signer.toNat [])) (i := x.signer.toNat) (j := 0) (Y.arg hkv) zY O (isAgg9 _) BD) <| pl_v (cd O O) ?_
  refine pl_r (fun Y => bF call86 O (lZ (ks.getD x.signer.toNat []) x.content 150 w0.hz [jv x.signer, jv x.holder, jv x.rf, jv x.rt, jv x.carrier, jv x.serial, jv x.sf, jv x.st, sv x.sig] 90 _ call150 (fun b v ws h => vK b w0.hz v x ws (Wsh.smalls_of hxo) h) iB (by have := hk32 _ (bc (d := []) (by omega : x.signer.toNat < ks.length)); omega) (yL (x.content_len) de) (Y.keepb hk0) (Y.g 1 O) (ot Y (i := 1) O hk0))) fun a w49 Z Y => ?_
  replace Z := Z.p5 10 11 130 132 139 O
  refine ab <| aM (k := 15) 17 [16] ?_
  refine nv Z <| xM (tG O O) <| xJ (ak O O) <| fun a Z => ab <| aT <| G39 <| dk Z O (fun hc17 => ?_) (fun hc17 => ?_)
  ·refine aa fun _ G41 => az 3 Z Y [jv 6] O (sizeOf3 _) fun a w50 Z Y => az 4 Z Y [jv (-1)] O (sizeOf3 _) fun a w51 Z Y => G41 <| ap ?_
   have hD := Y.g 0 rfl
   replace Y := Y.unmark (i := 0) (o' := .deferred none) O
   replace Y := Y.n6 O
   refine ct Z hD results103 (al O (aH (Y.g 2 O) (isAgg3 _)) (al O (aH (Y.g 3 O) (isAgg3 _)) ae)) ?_
   exact ⟨by rw [gj hwp hch hsc (by rw [hsb]; first | exact mc (Wsh.ok_signer hxo).1 om | exact mG (Wsh.ok_signer hxo).1 om hc17)]; rfl, Y.ext⟩
  refine au <| G38 <| aa fun _ G42 => az 3 Z Y [jv 0] O (sizeOf3 _) fun a w52 Z Y => az 4 Z Y [jv (-1)] O (sizeOf3 _) fun a w53 Z Y => G42 <| ap ?_
  have hD := Y.g 0 rfl
  replace Y := Y.unmark (i := 0) (o' := .deferred none) O
  replace Y := Y.n6 O
  refine ct Z hD results103 (al O (aH (Y.g 2 O) (isAgg3 _)) (al O (aH (Y.g 3 O) (isAgg3 _)) ae)) ?_
  exact ⟨by rw [kH hwp hch hsc (by rw [hsb]; exact sb (Wsh.ok_signer hxo).1 om hc17)]; rfl, Y.ext⟩
 ·rintro D _ pre _ _ a w54 rfl ⟨rfl, i, hci, rfl⟩ Y Z
  replace Z := Z.p9 0 6 7 10 11 63 64 65 66 O
  replace Y := Y.n7 O
  refine ap ?_
  have hD := Y.g 0 rfl
  replace Y := Y.unmark (i := 0) (o' := .deferred none) O
  replace Y := Y.n6 O
  refine ct Z hD results103 (al O (aH (Y.g 2 O) (isAgg3 _)) (al O (aH (Y.g 3 O) (isAgg3 _)) ae)) ?_
  exact ⟨by rw [lO hwp hci]; rfl, Y.ext⟩
end Go.Proofs.YtliklcmddmpdfaaGreatDoor
namespace Go.Proofs.YtliklcmddmpdfaaGreatDoor
open Go.RowKit Go.PW _root_.Go.Proofs.Tryz
theorem tz (kv lv : Value) (ks : List By) (x : Wsh) (ps : List Pxy) (number t : Int) (w0 : World) (hkv : SlAt w0 kv 1 (ks.map fun s => [sv s])) (hlv : SlAt w0 lv 7 (ps.map Pxy.cells)) (hk0 : (blk 0 (kOf.map wv) 258).ok w0) :
  Ret Tryz.prog 40 #[kv, .agg #[jv x.signer, jv x.holder, jv x.rf, jv x.rt, jv x.carrier, jv x.serial, jv x.sf, jv x.st, sv x.sig], lv, jv number, jv t] w0 fun v w => v = .bool (validH ks x ps number t) ∧ Ext No w0 w := by
 refine zQ func40 O ntmps40 (lb O) fun a Z Y => ?_
 refine aa fun _ G1 => aS Z Y O [jv x.signer, jv x.holder, jv x.rf, jv x.rt, jv x.carrier, jv x.serial, jv x.sf, jv x.st, sv x.sig] O fun a w1 Z Y => wla Z O fun a Z => G1 <| aa fun _ G2 => ?_
 refine nv Z <| xK O <| xJ (ao (Y.g 0 O) O (isAgg90 _) (sizeOf90 _)) <| xK O <| xK O <| xK O <| fun a Z => aw Z Y call103 O (xy kv lv ks x ps number t _ (Y.arg hkv) (Y.arg hlv) (Y.keepb hk0)) fun a w2 Z Y => nv Z <| xK O <| xJ (aq O O) <| xJ (aq O O) <| xL O <| xL O <| fun a Z => G2 ?_
 replace Y := Y.k0 0 O
 refine aa fun _ G3 => nv (Z.p2 10 11 O) <| xK O <| xJ (v_eq O O) <| xL O <| fun a Z => G3 <| ap ?_
 refine am Z results40 (ag O ae) ?_
 exact ⟨by rfl, Y.ext⟩
end Go.Proofs.YtliklcmddmpdfaaGreatDoor
