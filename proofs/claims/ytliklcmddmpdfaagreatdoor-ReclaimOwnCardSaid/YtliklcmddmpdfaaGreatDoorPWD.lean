/- Texts joined: RefA, RefB, RefC, RefD, WirA, WshA, WshB, WshC, WshD. -/
import Derived.Test.YtliklcmddmpdfaaGreatDoorPWC
import Derived.Test.YtliklcmddmpdfaaGreatDoorPWB
import Derived.Test.YtliklcmddmpdfaaGreatDoorPWA
import Derived.Laws.StructEq
set_option linter.unusedVariables false
set_option linter.unusedSimpArgs false
set_option maxRecDepth 4000
set_option maxHeartbeats 4000000
namespace Go.Proofs.YtliklcmddmpdfaaGreatDoor
open Go.RowKit Go.PW _root_.Go.Proofs.Tryz
theorem ng (w0 : World) :
  Ret Tryz.prog 181 #[] w0 (MemR w0 (fun v : Value => v) (fun v => [own v 206 1 ((kOf).map fun x => [wv x])]) (fun _ => True)) := by
 refine aC func181 O ntmps181 (lb O) fun a Y => ?_
 replace Y : Fr 2 [] [] a := Y
 replace U : St No w0 [] w0 := St.init w0
 refine aa fun _ G1 => wla Y O fun a Y => G1 <| aa fun _ G2 => aE (E := 206) (sz := 1) O [[wv (1116352408#32)], [wv (1899447441#32)], [wv (3049323471#32)], [wv (3921009573#32)], [wv (961987163#32)], [wv (1508970993#32)], [wv (2453635748#32)], [wv (2870763221#32)], [wv (3624381080#32)], [wv (310598401#32)], [wv (607225278#32)], [wv (1426881987#32)], [wv (1925078388#32)], [wv (2162078206#32)], [wv (2614888103#32)], [wv (3248222580#32)], [wv (3835390401#32)], [wv (4022224774#32)], [wv (264347078#32)], [wv (604807628#32)], [wv (770255983#32)], [wv (1249150122#32)], [wv (1555081692#32)], [wv (1996064986#32)], [wv (2554220882#32)], [wv (2821834349#32)], [wv (2952996808#32)], [wv (3210313671#32)], [wv (3336571891#32)], [wv (3584528711#32)], [wv (113926993#32)], [wv (338241895#32)], [wv (666307205#32)], [wv (773529912#32)], [wv (1294757372#32)], [wv (1396182291#32)], [wv (1695183700#32)], [wv (1986661051#32)], [wv (2177026350#32)], [wv (2456956037#32)], [wv (2730485921#32)], [wv (2820302411#32)], [wv (3259730800#32)], [wv (3345764771#32)], [wv (3516065817#32)], [wv (3600352804#32)], [wv (4094571909#32)], [wv (275423344#32)], [wv (430227734#32)], [wv (506948616#32)], [wv (659060556#32)], [wv (883997877#32)], [wv (958139571#32)], [wv (1322822218#32)], [wv (1537002063#32)], [wv (1747873779#32)], [wv (1955562222#32)], [wv (2024104815#32)], [wv (2227730452#32)], [wv (2361852424#32)], [wv (2428436474#32)], [wv (2756734187#32)], [wv (3204031479#32)], [wv (3329325298#32)]] kr sm O de de Y U fun a w1 Y U => wla Y O fun a Y => G2 <| aq <| am Y results181 (ae O ag) ?_
 exact ⟨(.slice (some ⟨w0.hz, 0, none⟩) 64 64), O, trivial, U.ext, St.out (E := [own (.slice (some ⟨w0.hz, 0, none⟩) 64 64) 206 1 ((kOf).map fun x => [wv x])]) (H := []) U⟩
theorem gI {α : Type} {l : List α} {i k : Nat} (d : α) (h : i < k) : (l.take k).getD i d = l.getD i d := by
 rw [yA, List.getElem?_take_of_lt h, ← yA]
theorem oV (s : By) (w0 : World) (hs : s.length ≤ 100000000) :
  Ret Tryz.prog 143 #[sv s] w0 (MemR w0 (fun v : Value => v) (fun v => [own v 5 1 ((padded s).map fun b => [yv b])]) (fun _ => True)) := by
 refine An func143 O ntmps143 (lb O) fun a Y U => aa fun _ G1 => wla Y O fun a Y => G1 <| aa fun _ G2 => wla Y O fun a Y => G2 <| ah fun _ G3 => aa fun _ G4 => wla Y O fun a Y => G4 <| au ?_
 replace U : St No w0 [own (.slice none 0 0) 5 1 ((s.take 0).map fun b => [yv b])] w0 := U.nil_own
 refine aZ (fun m a w => ∃ (k : Nat) (v : Value), m = s.length - k ∧ (k ≤ s.length) ∧ Fr 43 [(0, sv s), (2, .slice none 0 0), (3, v), (4, jv (k : Int))] [] a ∧ St No w0 [own v 5 1 ((s.take k).map fun b => [yv b])] w) _ ⟨0, .slice none 0 0, O, yQ _, Y.pick [0, 2, 3, 4], U.select [0] de⟩ ?_
 rintro _ a w1 ⟨k, v, rfl, hk, Y, U⟩
 refine ah fun _ G5 => aa fun _ G6 => nv Y <| yp O <| yp O <| yo (bd O O (runUnderlying9 _)) <| yo (v_lt O O) <| fun a Y => G6 <| aA Y O (fun hc1 => ?_) (fun hc1 => ?_)
 ·refine ar <| G5 <| ah fun _ G7 => au <| al <| nv Y <| yp O <| yp O <| yp O <| yo (gn (k := k) O O (runUnderlying9 _) om om) <| fun a Y => aE (E := 5) (sz := 1) O [[yv (s.getD k 0)]] kr sm O de de Y U fun a w2 Y U => ba (i := 1) (sT := 60) (inf := Tryz.t5) (z := yv (0 : UInt8)) (b := 0) (off := 0) (m := 0) (c := 0) O O O (U.ow 0 O) sm underlying60 O O O O de Az Ax Ax de Y U fun a w3 s2 Y U _ => wla Y O fun a Y => ab <| G7 ?_
  replace U := U.k1 2 O
  refine al <| nv (Y.p4 0 2 4 3 O) <| yp O <| yo (aM O O ⟨om, om⟩) <| yq O <| fun a Y => ab ?_
  rw [show ((s.take k).map fun b => [yv b]) ++ ([[yv (s.getD k 0)]]) = ((s.take (k + 1)).map fun b => [yv b]) from by rw [cF 0 om]; simp] at U
  refine ⟨_, ?_, k + 1, s2, O, om, Y.pick [0, 2, 3, 4], U.select [0] de⟩
  omega
 obtain rfl : k = s.length := by omega
 rw [List.take_length] at U
 refine aP <| G3 <| aa fun _ G8 => wlm Y O fun a Y => aE (E := 5) (sz := 1) O [[yv (128 : UInt8)]] kr sm O de de Y U fun a w4 Y U => ba (i := 1) (sT := 60) (inf := Tryz.t5) (z := yv (0 : UInt8)) (b := 0) (off := 0) (m := 0) (c := 0) O O O (U.ow 0 O) sm underlying60 O O O O de Az Ax Ax de Y U fun a w5 s3 Y U _ => wla Y O fun a Y => G8 ?_
 replace Y := Y.p3 0 2 3 O
 replace U := U.k1 2 O
 refine ah fun _ G9 => au ?_
 rw [show ((s).map fun b => [yv b]) ++ ([[yv (128 : UInt8)]]) = ((sum1 s 0).map fun b => [yv b]) from by simp [sum1]] at U
 refine aZ (fun m a w => ∃ (z : Nat) (v : Value), m = 64 - z ∧ (z ≤ zeros s.length) ∧ Fr 43 [(0, sv s), (2, .slice none 0 0), (3, v)] [] a ∧ St No w0 [own v 5 1 ((sum1 s z).map fun b => [yv b])] w) _ ⟨0, s3, O, yQ _, Y.pick [0, 2, 3], U.select [0] de⟩ ?_
 rintro _ a w6 ⟨z, v, rfl, hz, Y, U⟩
 refine ah fun _ G10 => aa fun _ G11 => nv Y <| yp O <| yo ((aO (sT := 60) (U.ow 0 O) O O (runUnderlying60 _)).asi (m' := ((s.length + 1 + z : Nat) : Int)) (by rw [yu, oR])) <| yo (fi O O om om) <| yo (v_ne O O) <| fun a Y => G11 <| cG Y O (fun hc4 => ?_) (fun hc4 => ?_)
 ·have hz2 : z + 1 ≤ zeros s.length := by unfold zeros at hz ⊢; omega
  have hz3 : zeros s.length < 64 := by unfold zeros; omega
  refine ar <| G10 <| au <| al <| wlm Y O fun a Y => aE (E := 5) (sz := 1) O [[yv (0 : UInt8)]] kr sm O de de Y U fun a w7 Y U => ba (i := 1) (sT := 60) (inf := Tryz.t5) (z := yv (0 : UInt8)) (b := 0) (off := 0) (m := 0) (c := 0) O O O (U.ow 0 O) sm underlying60 O O O O de Az Ax Ax de Y U fun a w8 s5 Y U _ => wla Y O fun a Y => ab ?_
  rw [show ((sum1 s z).map fun b => [yv b]) ++ ([[yv (0 : UInt8)]]) = ((sum1 s (z + 1)).map fun b => [yv b]) from by simp [sum1, List.replicate_succ']] at U
  refine ⟨_, ?_, z + 1, s5, O, hz2, Y.pick [0, 2, 3], U.select [1] de⟩
  omega
 obtain rfl : z = zeros s.length := by unfold zeros at hz ⊢; omega
 refine aP <| G9 <| ah fun _ G12 => aa fun _ G13 => wla Y O fun a Y => G13 <| au ?_
 rw [show ((sum1 s (zeros s.length)).map fun b => [yv b]) = ((sum2 s 0).map fun b => [yv b]) from by simp [sum1, sum2]] at U
 rw [show (7 : Int) = 7 - ((0 : Nat) : Int) from by omega] at Y
 refine aZ (fun m a w => ∃ (r : Nat) (v : Value), m = 8 - r ∧ (r ≤ 8) ∧ Fr 43 [(0, sv s), (2, .slice none 0 0), (3, v), (5, jv (7 - (r : Int)))] [] a ∧ St No w0 [own v 5 1 ((sum2 s r).map fun b => [yv b])] w) _ ⟨0, v, O, yQ _, Y.pick [0, 2, 3, 5], U.select [0] de⟩ ?_
 rintro _ a w9 ⟨r, v, rfl, hr, Y, U⟩
 refine ah fun _ G14 => aa fun _ G15 => nv Y <| yp O <| yo (v_ge O O) <| fun a Y => G15 <| aA Y O (fun hc6 => ?_) (fun hc6 => ?_)
 ·refine ar <| G14 <| ah fun _ G16 => au <| al <| nv Y <| yp O <| yp O <| yo (bd O O (runUnderlying9 _)) <| yo ((eo O O ⟨om, om⟩).asi (m' := ((8 * s.length : Nat) : Int)) om) <| yp O <| yo ((eo O O ⟨om, om⟩).asi (m' := ((8 * (7 - r) : Nat) : Int)) om) <| yo (tY (m := (8 * s.length)) (n := (8 * (7 - r))) O O om) <| yo (mc (n := 8 * s.length / 2 ^ (8 * (7 - r))) O kr underlying5) <| fun a Y => aE (E := 5) (sz := 1) O [[yv (UInt8.ofNat (8 * s.length / 2 ^ (8 * (7 - r))))]] kr sm O de de Y U fun a w10 Y U => ba (i := 1) (sT := 60) (inf := Tryz.t5) (z := yv (0 : UInt8)) (b := 0) (off := 0) (m := 0) (c := 0) O O O (U.ow 0 O) sm underlying60 O O O O de Az Ax Ax de Y U fun a w11 s7 Y U _ => wla Y O fun a Y => ab <| G16 ?_
  replace U := U.k1 2 O
  refine al <| nv (Y.p4 0 2 5 3 O) <| yp O <| yo (bK O O ⟨om, om⟩) <| yq O <| fun a Y => ab ?_
  rw [show ((sum2 s r).map fun b => [yv b]) ++ ([[yv (UInt8.ofNat (8 * s.length / 2 ^ (8 * (7 - r))))]]) = ((sum2 s (r + 1)).map fun b => [yv b]) from by unfold sum2; rw [gN om]; simp] at U
  rw [show 7 - (r : Int) - 1 = 7 - ((r + 1 : Nat) : Int) from by omega] at Y
  refine ⟨_, ?_, r + 1, s7, O, om, Y.pick [0, 2, 3, 5], U.select [0] de⟩
  omega
 obtain rfl : r = 8 := by omega
 rw [show sum2 s 8 = padded s from rfl] at U
 refine aP <| G12 <| aa fun _ G17 => nv Y <| yp O <| yq O <| fun a Y => G17 ?_
 replace Y := Y.p1 2 O
 refine aq <| am Y results143 (ae O ag) ?_
 exact ⟨v, O, trivial, U.ext, St.out (E := [own v 5 1 ((padded s).map fun b => [yv b])]) (H := []) U⟩
theorem ed (x : Wd) (n : Nat) (w0 : World) (hn : 0 < n) (hn2 : n < 32) : Ret Tryz.prog 180 #[wv x, jv (n : Int)] w0 fun v w => v = wv (ror x n) ∧ Ext No w0 w := by
 have := qp x n w0 hn hn2
 rw [show (x >>> n) ||| (x <<< (32 - n)) = ror x n from BitVec.or_comm _ _] at this
 exact this
theorem mix2 (x : Wd) (a b : Nat) : mix x [a, b] = ror x a ^^^ ror x b := by simp [mix]
theorem mix3 (x : Wd) (a b c : Nat) : mix x [a, b, c] = ror x a ^^^ ror x b ^^^ ror x c := by simp [mix]
theorem mW (bs : List UInt8) {j : Nat} : ∀ {i : Nat}, j < i → (d : Nat) → (sch bs (i + d)).getD j 0#32 = (sch bs i).getD j 0#32
 | i, h, 0 => rfl
 | i, h, d + 1 => by
  have e : sch bs (i + (d + 1)) = (sch bs (i + d)).set (i + d) (if i + d < 16 then be bs (i + d) else nx (sch bs (i + d)) (i + d)) := rfl
  rw [e, yA, List.getElem?_set_ne om, ← yA]
  exact mW bs h d
theorem uo (bs : List UInt8) {j : Nat} (h : j < 64) : (sch bs 64).getD j 0#32 = if j < 16 then be bs j else nx (sch bs j) j := by
 have := mW bs (j := j) (i := j + 1) om (63 - j)
 rw [show j + 1 + (63 - j) = 64 from by omega] at this
 rw [this, sch, yA, List.getElem?_set_self (by rw [aN]; omega)]; rfl
theorem na (bs : List UInt8) {i j : Nat} (h : i < j) (hj : j ≤ 64) : (sch bs j).getD i 0#32 = (sch bs 64).getD i 0#32 := by
 have := mW bs h (64 - j)
 rw [show j + (64 - j) = 64 from by omega] at this
 exact this.symm
theorem rX (bs : List UInt8) {k : Nat} (h : k < 16) : (sch bs 64).take (k + 1) = (sch bs 64).take k ++ [be bs k] := by
 rw [cF 0#32 (by rw [aN]; omega), uo bs om, yR h]
theorem rS (bs : List UInt8) {j : Nat} (h : 16 ≤ j) (hj : j < 64) : (sch bs 64).take (j + 1) = (sch bs 64).take j ++ [((((sch bs 64).take j).getD (j - 16) 0#32 + (ror (((sch bs 64).take j).getD (j - 15) 0#32) 7 ^^^ ror (((sch bs 64).take j).getD (j - 15) 0#32) 18 ^^^ ((sch bs 64).take j).getD (j - 15) 0#32 >>> 3)) + ((sch bs 64).take j).getD (j - 7) 0#32) + (ror (((sch bs 64).take j).getD (j - 2) 0#32) 17 ^^^ ror (((sch bs 64).take j).getD (j - 2) 0#32) 19 ^^^ ((sch bs 64).take j).getD (j - 2) 0#32 >>> 10)] := by
 rw [cF 0#32 (by rw [aN]; omega), uo bs om, yO om, nx, mix2, mix2]
 rw [na bs (i := j - 16) (j := j) om om, na bs (i := j - 15) (j := j) om om, na bs (i := j - 7) (j := j) om om, na bs (i := j - 2) (j := j) om om]
 rw [gI _ om, gI _ om, gI _ om, gI _ om]
theorem tW (x y : W8) {q : Nat} (h : q < 8) : (x.add y).l.take (q + 1) = (x.add y).l.take q ++ [x.l.getD q 0#32 + y.l.getD q 0#32] := by
 rw [cF 0#32 (by exact h)]
 congr 2
 have : q = 0 ∨ q = 1 ∨ q = 2 ∨ q = 3 ∨ q = 4 ∨ q = 5 ∨ q = 6 ∨ q = 7 := by omega
 rcases this with rfl | rfl | rfl | rfl | rfl | rfl | rfl | rfl <;> rfl
theorem sH (hvv bv : Value) (hv : W8) (bs : List UInt8) (w0 : World) (hhv : SlAt w0 hvv 1 ((hv.l).map fun x => [wv x])) (hbv : SlAt w0 bv 1 (bs.map fun b => [yv b])) (hbl : bs.length = 64) :
  Ret Tryz.prog 144 #[hvv, bv] w0 (MemR w0 (fun v : Value => v) (fun v => [own v 206 1 (((block hv bs).l).map fun x => [wv x])]) (fun _ => True)) := by
 refine Am func144 O ntmps144 (lb O) fun a Y U => aa fun _ G1 => wla Y O fun a Y => G1 <| aa fun _ G2 => wla Y O fun a Y => G2 <| ah fun _ G3 => aa fun _ G4 => wla Y O fun a Y => G4 <| au ?_
 replace U : St No w0 [own (.slice none 0 0) 206 1 (((sch bs 64).take 0).map fun x => [wv x])] w0 := U.nil_own
 refine aZ (fun m a w => ∃ (k : Nat) (u : Value), m = 16 - k ∧ (k ≤ 16) ∧ Fr 238 [(0, hvv), (1, bv), (4, .slice none 0 0), (5, u), (6, jv (k : Int))] [] a ∧ St No w0 [own u 206 1 (((sch bs 64).take k).map fun x => [wv x])] w) _ ⟨0, .slice none 0 0, O, yQ _, Y.pick [0, 1, 4, 5, 6], U.select [0] de⟩ ?_
 rintro _ a w1 ⟨k, u, rfl, hk, Y, U⟩
 refine ah fun _ G5 => aa fun _ G6 => nv Y <| yp O <| yo (v_lt O O) <| fun a Y => G6 <| aA Y O (fun hc1 => ?_) (fun hc1 => ?_)
 ·refine ar <| G5 <| ah fun _ G7 => au <| aH (aI fun w2 hxz => ?_)
  replace U := U.grow hxz
  refine aR (k := 0) 35 [0, 34] Y ?_
  replace Y := Y.p6 0 1 4 5 6 19 O
  refine bJ [34] (fun i => match i with | 34 => pm (fun b : Nat => .slice (some ⟨b, 0, none⟩) 1 1) (fun b => [own (.slice (some ⟨b, 0, none⟩) 1 1) 206 1 [[wv (((((BitVec.ofNat 32 (bs.getD (4 * k) 0).toNat) <<< 24) ||| ((BitVec.ofNat 32 (bs.getD (4 * k + 1) 0).toNat) <<< 16)) ||| ((BitVec.ofNat 32 (bs.getD (4 * k + 2) 0).toNat) <<< 8)) ||| (BitVec.ofNat 32 (bs.getD (4 * k + 3) 0).toNat))]]]) (fun _ => True) | _ => fun _ _ => False) 35 [[], [], [], [2], [1, 3], [4], [5], [6], [], [], [9], [10], [8, 11], [12], [13], [14], [7, 15], [], [], [18], [19], [17, 20], [21], [22], [23], [16, 24], [], [], [27], [28], [26, 29], [30], [31], [25, 32], [33]] [u, bv, jv (k : Int), jv (4 * (k : Int)), slAddr bv ((4 * k) * 1), yv (bs.getD (4 * k) 0), wv (BitVec.ofNat 32 (bs.getD (4 * k) 0).toNat), wv ((BitVec.ofNat 32 (bs.getD (4 * k) 0).toNat) <<< 24), bv, jv (k : Int), jv (4 * (k : Int)), jv ((4 * (k : Int)) + 1), slAddr bv ((4 * k + 1) * 1), yv (bs.getD (4 * k + 1) 0), wv (BitVec.ofNat 32 (bs.getD (4 * k + 1) 0).toNat), wv ((BitVec.ofNat 32 (bs.getD (4 * k + 1) 0).toNat) <<< 16), wv (((BitVec.ofNat 32 (bs.getD (4 * k) 0).toNat) <<< 24) ||| ((BitVec.ofNat 32 (bs.getD (4 * k + 1) 0).toNat) <<< 16)), bv, jv (k : Int), jv (4 * (k : Int)), jv ((4 * (k : Int)) + 2), slAddr bv ((4 * k + 2) * 1), yv (bs.getD (4 * k + 2) 0), wv (BitVec.ofNat 32 (bs.getD (4 * k + 2) 0).toNat), wv ((BitVec.ofNat 32 (bs.getD (4 * k + 2) 0).toNat) <<< 8), wv ((((BitVec.ofNat 32 (bs.getD (4 * k) 0).toNat) <<< 24) ||| ((BitVec.ofNat 32 (bs.getD (4 * k + 1) 0).toNat) <<< 16)) ||| ((BitVec.ofNat 32 (bs.getD (4 * k + 2) 0).toNat) <<< 8)), bv, jv (k : Int), jv (4 * (k : Int)), jv ((4 * (k : Int)) + 3), slAddr bv ((4 * k + 3) * 1), yv (bs.getD (4 * k + 3) 0), wv (BitVec.ofNat 32 (bs.getD (4 * k + 3) 0).toNat), wv (((((BitVec.ofNat 32 (bs.getD (4 * k) 0).toNat) <<< 24) ||| ((BitVec.ofNat 32 (bs.getD (4 * k + 1) 0).toNat) <<< 16)) ||| ((BitVec.ofNat 32 (bs.getD (4 * k + 2) 0).toNat) <<< 8)) ||| (BitVec.ofNat 32 (bs.getD (4 * k + 3) 0).toNat)), undef] Y U ?_ ?_ ?_
  ·exact Au <| hqv (ay rfl) <| hqv (ay rfl) <| hqv (ay rfl) <| hqv (eo rfl rfl ⟨om, om⟩) <| hqw (fun U => (aj (i := 4 * (k : Int)) (sT := 60) (U.arg hbv) rfl rfl (runUnderlying60 _) (sizeOf5 _) om Av).as (v' := slAddr bv ((4 * k) * 1)) (by rw [show (4 * (k : Int)).toNat = (4 * k) from by omega])) <| hqw (fun U => aB (u := yv (bs.getD (4 * k) 0)) (i := (4 * k)) (j := 0) (U.arg hbv) Av rfl (isAgg5 _) (by simp [yA, yF (show (4 * k) < bs.length by omega)])) <| hqv (dN rfl kr underlying206) <| hqv (fW (n := 24) rfl rfl) <| hqv (ay rfl) <| hqv (ay rfl) <| hqv (eo rfl rfl ⟨om, om⟩) <| hqv (aM rfl rfl ⟨om, om⟩) <|
    hqw (fun U => (aj (i := (4 * (k : Int)) + 1) (sT := 60) (U.arg hbv) rfl rfl (runUnderlying60 _) (sizeOf5 _) om Av).as (v' := slAddr bv ((4 * k + 1) * 1)) (by rw [show ((4 * (k : Int)) + 1).toNat = (4 * k + 1) from by omega])) <| hqw (fun U => aB (u := yv (bs.getD (4 * k + 1) 0)) (i := (4 * k + 1)) (j := 0) (U.arg hbv) Av rfl (isAgg5 _) (by simp [yA, yF (show (4 * k + 1) < bs.length by omega)])) <| hqv (dN rfl kr underlying206) <| hqv (fW (n := 16) rfl rfl) <| hqv (jP rfl rfl) <| hqv (ay rfl) <| hqv (ay rfl) <| hqv (eo rfl rfl ⟨om, om⟩) <| hqv (aM rfl rfl ⟨om, om⟩) <|
    hqw (fun U => (aj (i := (4 * (k : Int)) + 2) (sT := 60) (U.arg hbv) rfl rfl (runUnderlying60 _) (sizeOf5 _) om Av).as (v' := slAddr bv ((4 * k + 2) * 1)) (by rw [show ((4 * (k : Int)) + 2).toNat = (4 * k + 2) from by omega])) <| hqw (fun U => aB (u := yv (bs.getD (4 * k + 2) 0)) (i := (4 * k + 2)) (j := 0) (U.arg hbv) Av rfl (isAgg5 _) (by simp [yA, yF (show (4 * k + 2) < bs.length by omega)])) <| hqv (dN rfl kr underlying206) <| hqv (fW (n := 8) rfl rfl) <| hqv (jP rfl rfl) <| hqv (ay rfl) <| hqv (ay rfl) <| hqv (eo rfl rfl ⟨om, om⟩) <| hqv (aM rfl rfl ⟨om, om⟩) <|
    hqw (fun U => (aj (i := (4 * (k : Int)) + 3) (sT := 60) (U.arg hbv) rfl rfl (runUnderlying60 _) (sizeOf5 _) om Av).as (v' := slAddr bv ((4 * k + 3) * 1)) (by rw [show ((4 * (k : Int)) + 3).toNat = (4 * k + 3) from by omega])) <| hqw (fun U => aB (u := yv (bs.getD (4 * k + 3) 0)) (i := (4 * k + 3)) (j := 0) (U.arg hbv) Av rfl (isAgg5 _) (by simp [yA, yF (show (4 * k + 3) < bs.length by omega)])) <| hqv (dN rfl kr underlying206) <| hqv (jP rfl rfl) <| As (fun h => absurd sm h) <| At
  ·intro i hi
   simp only [yE, yI, y9] at hi
   subst hi
   ·intro w U
    exact bG (E := 206) (sz := 1) O [[wv (((((BitVec.ofNat 32 (bs.getD (4 * k) 0).toNat) <<< 24) ||| ((BitVec.ofNat 32 (bs.getD (4 * k + 1) 0).toNat) <<< 16)) ||| ((BitVec.ofNat 32 (bs.getD (4 * k + 2) 0).toNat) <<< 8)) ||| (BitVec.ofNat 32 (bs.getD (4 * k + 3) 0).toNat))]] (fun _ => by kernel_rfl) sm O de
  clear Y U
  rintro _ _ ⟨b2, rfl, -, rfl⟩ a w3 Y U
  replace Y := Y.p6 23 57 0 1 4 6 O
  replace U := U.n2 O
  refine ab <| aL (k := 35) 37 [36] ?_
  refine ba (i := 1) (sT := 207) (inf := Tryz.t206) (z := wv (0#32)) (b := 0) (off := 0) (m := 0) (c := 0) O O O (U.ow 0 O) sm underlying207 O O O O de Az AD AD de Y U fun a w4 s3 Y U _ => wla Y O fun a Y => ab <| aS <| G7 ?_
  replace U := U.k1 2 O
  refine al <| nv (Y.p5 0 1 4 6 5 O) <| yp O <| yo (aM O O ⟨om, om⟩) <| yq O <| fun a Y => ab ?_
  rw [show (((sch bs 64).take k).map fun x => [wv x]) ++ ([[wv (((((BitVec.ofNat 32 (bs.getD (4 * k) 0).toNat) <<< 24) ||| ((BitVec.ofNat 32 (bs.getD (4 * k + 1) 0).toNat) <<< 16)) ||| ((BitVec.ofNat 32 (bs.getD (4 * k + 2) 0).toNat) <<< 8)) ||| (BitVec.ofNat 32 (bs.getD (4 * k + 3) 0).toNat))]]) = (((sch bs 64).take (k + 1)).map fun x => [wv x]) from by rw [rX bs om]; simp [be]] at U
  refine ⟨_, ?_, k + 1, s3, O, om, Y.pick [0, 1, 4, 5, 6], U.select [0] de⟩
  omega
 obtain rfl : k = 16 := by omega
 refine aP <| G3 <| ah fun _ G8 => aa fun _ G9 => wla Y O fun a Y => G9 <| au <| aZ (fun m a w => ∃ (j : Nat) (u : Value), m = 64 - j ∧ (16 ≤ j) ∧ (j ≤ 64) ∧ Fr 238 [(0, hvv), (4, .slice none 0 0), (5, u), (7, jv (j : Int))] [] a ∧ St No w0 [own u 206 1 (((sch bs 64).take j).map fun x => [wv x])] w) _ ⟨16, u, O, om, om, Y.pick [0, 4, 5, 7], U.select [0] de⟩ ?_
 rintro _ a w5 ⟨j, u, rfl, hj, hj2, Y, U⟩
 refine ah fun _ G10 => aa fun _ G11 => nv Y <| yp O <| yo (v_lt O O) <| fun a Y => G11 <| aA Y O (fun hc4 => ?_) (fun hc4 => ?_)
 ·refine ar <| G10 <| ah fun _ G12 => au <| ah fun _ G13 => aH (aI fun w6 hxz => ?_)
  replace U := U.grow hxz
  refine aR (k := 0) 19 [12, 18] Y ?_
  replace Y := Y.p5 0 4 5 7 59 O
  refine bL 19 Y U <| pl_m O <| pl_m O <| pl_v (bK O O ⟨om, om⟩) <| pl_w (fun U => (aj (i := (j : Int) - 15) (sT := 207) (U.ow 0 O) O O (runUnderlying207 _) (sizeOf206 _) om Av).as (v' := slAddr u ((j - 15) * 1)) Bv) <| pl_w (fun U => aB (u := wv (((sch bs 64).take j).getD (j - 15) 0#32)) (i := (j - 15)) (j := 0) (U.ow 0 O) Av O (isAgg206 _) A0) ?_
  refine pl_r (fun U => br call180 O (ed (((sch bs 64).take j).getD (j - 15) 0#32) 7 _ de de)) <| pl_m O <| pl_m O <| pl_v (bK O O ⟨om, om⟩) <| pl_w (fun U => (aj (i := (j : Int) - 15) (sT := 207) (U.ow 0 O) O O (runUnderlying207 _) (sizeOf206 _) om Av).as (v' := slAddr u ((j - 15) * 1)) Bv) ?_
  refine pl_w (fun U => aB (u := wv (((sch bs 64).take j).getD (j - 15) 0#32)) (i := (j - 15)) (j := 0) (U.ow 0 O) Av O (isAgg206 _) A0) <| pl_r (fun U => br call180 O (ed (((sch bs 64).take j).getD (j - 15) 0#32) 18 _ de de)) <| pl_v (dy O O) <| pl_m O <| pl_m O <| pl_v (bK O O ⟨om, om⟩) ?_
  refine pl_w (fun U => (aj (i := (j : Int) - 15) (sT := 207) (U.ow 0 O) O O (runUnderlying207 _) (sizeOf206 _) om Av).as (v' := slAddr u ((j - 15) * 1)) Bv) <| pl_w (fun U => aB (u := wv (((sch bs 64).take j).getD (j - 15) 0#32)) (i := (j - 15)) (j := 0) (U.ow 0 O) Av O (isAgg206 _) A0) <| pl_v (fg (n := 3) O O) fun a w7 Y U => ?_
  replace Y := Y.p6 0 4 5 7 75 81 O
  refine ab <| aL (k := 19) 21 [20] ?_
  refine nv Y <| yo (dy O O) <| yq O <| fun a Y => ab <| aS <| G13 <| ah fun _ G14 => aH (aI fun w8 hxz => ?_)
  replace U := U.grow hxz
  refine aR (k := 0) 19 [12, 18] Y ?_
  replace Y := Y.p8 0 4 5 7 75 81 82 8 O
  refine bL 19 Y U <| pl_m O <| pl_m O <| pl_v (bK O O ⟨om, om⟩) <| pl_w (fun U => (aj (i := (j : Int) - 2) (sT := 207) (U.ow 0 O) O O (runUnderlying207 _) (sizeOf206 _) om Av).as (v' := slAddr u ((j - 2) * 1)) Bw) <| pl_w (fun U => aB (u := wv (((sch bs 64).take j).getD (j - 2) 0#32)) (i := (j - 2)) (j := 0) (U.ow 0 O) Av O (isAgg206 _) A0) ?_
  refine pl_r (fun U => br call180 O (ed (((sch bs 64).take j).getD (j - 2) 0#32) 17 _ de de)) <| pl_m O <| pl_m O <| pl_v (bK O O ⟨om, om⟩) <| pl_w (fun U => (aj (i := (j : Int) - 2) (sT := 207) (U.ow 0 O) O O (runUnderlying207 _) (sizeOf206 _) om Av).as (v' := slAddr u ((j - 2) * 1)) Bw) ?_
  refine pl_w (fun U => aB (u := wv (((sch bs 64).take j).getD (j - 2) 0#32)) (i := (j - 2)) (j := 0) (U.ow 0 O) Av O (isAgg206 _) A0) <| pl_r (fun U => br call180 O (ed (((sch bs 64).take j).getD (j - 2) 0#32) 19 _ de de)) <| pl_v (dy O O) <| pl_m O <| pl_m O <| pl_v (bK O O ⟨om, om⟩) ?_
  refine pl_w (fun U => (aj (i := (j : Int) - 2) (sT := 207) (U.ow 0 O) O O (runUnderlying207 _) (sizeOf206 _) om Av).as (v' := slAddr u ((j - 2) * 1)) Bw) <| pl_w (fun U => aB (u := wv (((sch bs 64).take j).getD (j - 2) 0#32)) (i := (j - 2)) (j := 0) (U.ow 0 O) Av O (isAgg206 _) A0) <| pl_v (fg (n := 10) O O) fun a w9 Y U => ?_
  replace Y := Y.p7 0 4 5 7 8 95 101 O
  refine ab <| aL (k := 19) 21 [20] ?_
  refine nv Y <| yo (dy O O) <| yq O <| fun a Y => ab <| aS <| G14 <| aH (aI fun w10 hxz => ?_)
  replace U := U.grow hxz
  refine aR (k := 0) 17 [0, 16] Y ?_
  replace Y := Y.p9 0 4 5 7 8 95 101 102 9 O
  refine bJ [16] (fun i => match i with | 16 => pm (fun b : Nat => .slice (some ⟨b, 0, none⟩) 1 1) (fun b => [own (.slice (some ⟨b, 0, none⟩) 1 1) 206 1 [[wv ((((((sch bs 64).take j).getD (j - 16) 0#32) + (((ror (((sch bs 64).take j).getD (j - 15) 0#32) 7) ^^^ (ror (((sch bs 64).take j).getD (j - 15) 0#32) 18)) ^^^ ((((sch bs 64).take j).getD (j - 15) 0#32) >>> 3))) + (((sch bs 64).take j).getD (j - 7) 0#32)) + (((ror (((sch bs 64).take j).getD (j - 2) 0#32) 17) ^^^ (ror (((sch bs 64).take j).getD (j - 2) 0#32) 19)) ^^^ ((((sch bs 64).take j).getD (j - 2) 0#32) >>> 10)))]]]) (fun _ => True) | _ => fun _ _ => False) 17 [[], [], [], [2], [1, 3], [4], [], [5, 6], [], [], [9], [8, 10], [11], [7, 12], [], [13, 14], [15]] [u, u, jv (j : Int), jv ((j : Int) - 16), slAddr u ((j - 16) * 1), wv (((sch bs 64).take j).getD (j - 16) 0#32), wv (((ror (((sch bs 64).take j).getD (j - 15) 0#32) 7) ^^^ (ror (((sch bs 64).take j).getD (j - 15) 0#32) 18)) ^^^ ((((sch bs 64).take j).getD (j - 15) 0#32) >>> 3)), wv ((((sch bs 64).take j).getD (j - 16) 0#32) + (((ror (((sch bs 64).take j).getD (j - 15) 0#32) 7) ^^^ (ror (((sch bs 64).take j).getD (j - 15) 0#32) 18)) ^^^ ((((sch bs 64).take j).getD (j - 15) 0#32) >>> 3))), u, jv (j : Int), jv ((j : Int) - 7), slAddr u ((j - 7) * 1), wv (((sch bs 64).take j).getD (j - 7) 0#32), wv (((((sch bs 64).take j).getD (j - 16) 0#32) + (((ror (((sch bs 64).take j).getD (j - 15) 0#32) 7) ^^^ (ror (((sch bs 64).take j).getD (j - 15) 0#32) 18)) ^^^ ((((sch bs 64).take j).getD (j - 15) 0#32) >>> 3))) + (((sch bs 64).take j).getD (j - 7) 0#32)), wv (((ror (((sch bs 64).take j).getD (j - 2) 0#32) 17) ^^^ (ror (((sch bs 64).take j).getD (j - 2) 0#32) 19)) ^^^ ((((sch bs 64).take j).getD (j - 2) 0#32) >>> 10)), wv ((((((sch bs 64).take j).getD (j - 16) 0#32) + (((ror (((sch bs 64).take j).getD (j - 15) 0#32) 7) ^^^ (ror (((sch bs 64).take j).getD (j - 15) 0#32) 18)) ^^^ ((((sch bs 64).take j).getD (j - 15) 0#32) >>> 3))) + (((sch bs 64).take j).getD (j - 7) 0#32)) + (((ror (((sch bs 64).take j).getD (j - 2) 0#32) 17) ^^^ (ror (((sch bs 64).take j).getD (j - 2) 0#32) 19)) ^^^ ((((sch bs 64).take j).getD (j - 2) 0#32) >>> 10))), undef] Y U ?_ ?_ ?_
  ·exact Au <| hqv (ay rfl) <| hqv (ay rfl) <| hqv (ay rfl) <| hqv (bK rfl rfl ⟨om, om⟩) <| hqw (fun U => (aj (i := (j : Int) - 16) (sT := 207) (U.ow 0 rfl) rfl rfl (runUnderlying207 _) (sizeOf206 _) om Av).as (v' := slAddr u ((j - 16) * 1)) (by rw [show ((j : Int) - 16).toNat = (j - 16) from by omega])) <| hqw (fun U => aB (u := wv (((sch bs 64).take j).getD (j - 16) 0#32)) (i := (j - 16)) (j := 0) (U.ow 0 rfl) Av rfl (isAgg206 _) A0) <| hqv (ay rfl) <| hqv (cU rfl rfl) <| hqv (ay rfl) <| hqv (ay rfl) <| hqv (bK rfl rfl ⟨om, om⟩) <|
    hqw (fun U => (aj (i := (j : Int) - 7) (sT := 207) (U.ow 0 rfl) rfl rfl (runUnderlying207 _) (sizeOf206 _) om Av).as (v' := slAddr u ((j - 7) * 1)) (by rw [show ((j : Int) - 7).toNat = (j - 7) from by omega])) <| hqw (fun U => aB (u := wv (((sch bs 64).take j).getD (j - 7) 0#32)) (i := (j - 7)) (j := 0) (U.ow 0 rfl) Av rfl (isAgg206 _) A0) <| hqv (cU rfl rfl) <| hqv (ay rfl) <| hqv (cU rfl rfl) <| As (fun h => absurd sm h) <| At
  ·intro i hi
   simp only [yE, yI, y9] at hi
   subst hi
   ·intro w U
    exact bG (E := 206) (sz := 1) O [[wv ((((((sch bs 64).take j).getD (j - 16) 0#32) + (((ror (((sch bs 64).take j).getD (j - 15) 0#32) 7) ^^^ (ror (((sch bs 64).take j).getD (j - 15) 0#32) 18)) ^^^ ((((sch bs 64).take j).getD (j - 15) 0#32) >>> 3))) + (((sch bs 64).take j).getD (j - 7) 0#32)) + (((ror (((sch bs 64).take j).getD (j - 2) 0#32) 17) ^^^ (ror (((sch bs 64).take j).getD (j - 2) 0#32) 19)) ^^^ ((((sch bs 64).take j).getD (j - 2) 0#32) >>> 10)))]] (fun _ => by kernel_rfl) sm O de
  clear Y U
  rintro _ _ ⟨b5, rfl, -, rfl⟩ a w11 Y U
  replace Y := Y.p5 103 119 0 4 7 O
  replace U := U.n2 O
  refine ab <| aL (k := 17) 19 [18] ?_
  refine ba (i := 1) (sT := 207) (inf := Tryz.t206) (z := wv (0#32)) (b := 0) (off := 0) (m := 0) (c := 0) O O O (U.ow 0 O) sm underlying207 O O O O de Az AD AD de Y U fun a w12 s6 Y U _ => wla Y O fun a Y => ab <| aS <| G12 ?_
  replace U := U.k1 2 O
  refine al <| nv (Y.p4 0 4 7 5 O) <| yp O <| yo (aM O O ⟨om, om⟩) <| yq O <| fun a Y => ab ?_
  rw [show (((sch bs 64).take j).map fun x => [wv x]) ++ ([[wv ((((((sch bs 64).take j).getD (j - 16) 0#32) + (((ror (((sch bs 64).take j).getD (j - 15) 0#32) 7) ^^^ (ror (((sch bs 64).take j).getD (j - 15) 0#32) 18)) ^^^ ((((sch bs 64).take j).getD (j - 15) 0#32) >>> 3))) + (((sch bs 64).take j).getD (j - 7) 0#32)) + (((ror (((sch bs 64).take j).getD (j - 2) 0#32) 17) ^^^ (ror (((sch bs 64).take j).getD (j - 2) 0#32) 19)) ^^^ ((((sch bs 64).take j).getD (j - 2) 0#32) >>> 10)))]]) = (((sch bs 64).take (j + 1)).map fun x => [wv x]) from by rw [rS bs om om]; simp] at U
  refine ⟨_, ?_, j + 1, s6, O, om, om, Y.pick [0, 4, 5, 7], U.select [0] de⟩
  omega
 obtain rfl : j = 64 := by omega
 rw [zA (by rw [aN]; omega)] at U
 refine aP <| G8 <| aa fun _ G15 => bu Y U call181 O (ng _) fun a w13 x7 hp Y U => ?_
 revert x7 hp Y U; rintro kz hp Y U
 clear hp
 replace U := U.n2 O
 refine wla Y O fun a Y => G15 <| aa fun _ G16 => wla Y O fun a Y => G16 <| aa fun _ G17 => nv Y <| yp O <| yp O <| fun a Y => ?_
 replace U : St No w0 (own (.slice none 0 0) 206 1 [] :: [_, _]) w13 := U.nil_own
 refine lD (i := 0) (sT := 207) (inf := Tryz.t206) (z := wv (0#32)) O O O (U.arg hhv) underlying207 O O O O de Az AD AD de Y U fun a w14 s8 Y U => wla Y O fun a Y => G17 ?_
 refine ah fun _ G18 => aa fun _ G19 => wla (Y.p5 0 4 5 10 11 O) O fun a Y => G19 <| au ?_
 rw [show ([]) ++ ((hv.l).map fun x => [wv x]) = ((hv.l).map fun x => [wv x]) from by simp] at U
 refine aZ (fun m a w => ∃ (ix : Nat) (v : W8) (z : Value), m = 64 - ix ∧ (ix ≤ 64) ∧ (rounds (sch bs 64) hv ix = v) ∧ Fr 238 [(0, hvv), (4, .slice none 0 0), (5, u), (10, kz), (11, z), (12, jv (ix : Int))] [] a ∧ St No w0 [own z 206 1 ((v.l).map fun x => [wv x]), own u 206 1 ((sch bs 64).map fun x => [wv x]), own kz 206 1 ((kOf).map fun x => [wv x])] w) _ ⟨0, hv, s8, O, yQ _, O, Y.pick [0, 4, 5, 10, 11, 12], U.select [0, 2, 1] de⟩ ?_
 rintro _ a w15 ⟨ix, v, z, rfl, hi, hrv, Y, U⟩
 refine ah fun _ G20 => aa fun _ G21 => nv Y <| yp O <| yo (v_lt O O) <| fun a Y => G21 <| aA Y O (fun hc9 => ?_) (fun hc9 => ?_)
 ·refine ar <| G20 <| ah fun _ G22 => au <| aa fun _ G23 => nv Y <| yp O <| yo ((aj (i := 0) (sT := 207) (U.ow 0 O) O O (runUnderlying207 _) (sizeOf206 _) om AB).as (v' := slAddr z (0 * 1)) O) <| yo (aB (u := wv v.a) (i := 0) (j := 0) (U.ow 0 O) AB O (isAgg206 _) rfx) <| yq O <| fun a Y => G23 <| aa fun _ G24 => nv Y <| yp O <| yo ((aj (i := 4) (sT := 207) (U.ow 0 O) O O (runUnderlying207 _) (sizeOf206 _) om AB).as (v' := slAddr z (4 * 1)) O) <| yo (aB (u := wv v.e) (i := 4) (j := 0) (U.ow 0 O) AB O (isAgg206 _) rfx) <| yq O <| fun a Y => G24 ?_
  replace Y := Y.p8 0 4 5 10 11 12 13 14 O
  refine ah fun _ G25 => aH (aI fun w16 hxz => ?_)
  replace U := U.grow hxz
  refine aR (k := 0) 34 [29, 33] Y ?_
  replace Y := Y.p8 0 4 5 10 11 12 13 14 O
  refine bL 34 Y U <| pl_m O <| pl_w (fun U => (aj (i := 7) (sT := 207) (U.ow 0 O) O O (runUnderlying207 _) (sizeOf206 _) om AB).as (v' := slAddr z (7 * 1)) O) <| pl_w (fun U => aB (u := wv v.h) (i := 7) (j := 0) (U.ow 0 O) AB O (isAgg206 _) rfx) <| pl_m O <| pl_r (fun U => br call180 O (ed v.e 6 _ de de)) <| pl_m O <| pl_r (fun U => br call180 O (ed v.e 11 _ de de)) <| pl_v (dy O O) <| pl_m O <| pl_r (fun U => br call180 O (ed v.e 25 _ de de)) <| pl_v (dy O O) <| pl_v (cU O O) <| pl_m O <| pl_m O ?_
  refine pl_w (fun U => (aj (i := 5) (sT := 207) (U.ow 0 O) O O (runUnderlying207 _) (sizeOf206 _) om AB).as (v' := slAddr z (5 * 1)) O) <| pl_w (fun U => aB (u := wv v.f) (i := 5) (j := 0) (U.ow 0 O) AB O (isAgg206 _) rfx) <| pl_v (fh O O) <| pl_m O <| pl_v (uS O) <| pl_m O <| pl_w (fun U => (aj (i := 6) (sT := 207) (U.ow 0 O) O O (runUnderlying207 _) (sizeOf206 _) om AB).as (v' := slAddr z (6 * 1)) O) <| pl_w (fun U => aB (u := wv v.g) (i := 6) (j := 0) (U.ow 0 O) AB O (isAgg206 _) rfx) <| pl_v (fh O O) <| pl_v (dy O O) ?_
  refine pl_v (cU O O) <| pl_m O <| pl_m O <| pl_w (fun U => (aj (i := (ix : Int)) (sT := 207) (U.ow 2 O) O O (runUnderlying207 _) (sizeOf206 _) om Av).as (v' := slAddr kz (ix * 1)) O) <| pl_w (fun U => aB (u := wv ((kOf).getD ix 0#32)) (i := ix) (j := 0) (U.ow 2 O) Av O (isAgg206 _) A0) <| pl_v (cU O O) <| pl_m O <| pl_m O ?_
  refine pl_w (fun U => (aj (i := (ix : Int)) (sT := 207) (U.ow 1 O) O O (runUnderlying207 _) (sizeOf206 _) om Av).as (v' := slAddr u (ix * 1)) O) <| pl_w (fun U => aB (u := wv ((sch bs 64).getD ix 0#32)) (i := ix) (j := 0) (U.ow 1 O) Av O (isAgg206 _) A0) fun a w17 Y U => ?_
  replace Y := Y.p10 0 4 5 10 11 12 13 14 164 168 O
  refine ab <| aL (k := 34) 36 [35] ?_
  refine nv Y <| yo (cU O O) <| yq O <| fun a Y => ab <| aS <| G25 <| ah fun _ G26 => aH (aI fun w18 hxz => ?_)
  replace U := U.grow hxz
  refine aR (k := 0) 27 [7, 26] Y ?_
  replace Y := Y.p12 0 4 5 10 11 12 13 14 164 168 169 15 O
  refine bL 27 Y U <| pl_m O <| pl_r (fun U => br call180 O (ed v.a 2 _ de de)) <| pl_m O <| pl_r (fun U => br call180 O (ed v.a 13 _ de de)) <| pl_v (dy O O) <| pl_m O <| pl_r (fun U => br call180 O (ed v.a 22 _ de de)) <| pl_v (dy O O) <| pl_m O <| pl_m O <| pl_w (fun U => (aj (i := 1) (sT := 207) (U.ow 0 O) O O (runUnderlying207 _) (sizeOf206 _) om AB).as (v' := slAddr z (1 * 1)) O) <| pl_w (fun U => aB (u := wv v.b) (i := 1) (j := 0) (U.ow 0 O) AB O (isAgg206 _) rfx) <| pl_v (fh O O) <| pl_m O <| pl_m O ?_
  refine pl_w (fun U => (aj (i := 2) (sT := 207) (U.ow 0 O) O O (runUnderlying207 _) (sizeOf206 _) om AB).as (v' := slAddr z (2 * 1)) O) <| pl_w (fun U => aB (u := wv v.c) (i := 2) (j := 0) (U.ow 0 O) AB O (isAgg206 _) rfx) <| pl_v (fh O O) <| pl_v (dy O O) <| pl_m O <| pl_w (fun U => (aj (i := 1) (sT := 207) (U.ow 0 O) O O (runUnderlying207 _) (sizeOf206 _) om AB).as (v' := slAddr z (1 * 1)) O) <| pl_w (fun U => aB (u := wv v.b) (i := 1) (j := 0) (U.ow 0 O) AB O (isAgg206 _) rfx) <| pl_m O ?_
  refine pl_w (fun U => (aj (i := 2) (sT := 207) (U.ow 0 O) O O (runUnderlying207 _) (sizeOf206 _) om AB).as (v' := slAddr z (2 * 1)) O) <| pl_w (fun U => aB (u := wv v.c) (i := 2) (j := 0) (U.ow 0 O) AB O (isAgg206 _) rfx) <| pl_v (fh O O) <| pl_v (dy O O) fun a w19 Y U => ?_
  replace Y := Y.p11 0 4 5 10 11 12 13 14 15 177 196 O
  refine ab <| aL (k := 27) 29 [28] ?_
  refine nv Y <| yo (cU O O) <| yq O <| fun a Y => ab <| aS <| G26 ?_
  rw [show (((v.h + (((ror v.e 6) ^^^ (ror v.e 11)) ^^^ (ror v.e 25))) + ((v.e &&& v.f) ^^^ ((~~~v.e) &&& v.g))) + ((kOf).getD ix 0#32)) + ((sch bs 64).getD ix 0#32) = tOf v (kOf.getD ix 0#32) ((sch bs 64).getD ix 0#32) from by rw [tOf, mix3]] at Y
  rw [show (((ror v.a 2) ^^^ (ror v.a 13)) ^^^ (ror v.a 22)) + (((v.a &&& v.b) ^^^ (v.a &&& v.c)) ^^^ (v.b &&& v.c)) = uOf v from by rw [uOf, mix3]] at Y
  refine aH (aI fun w20 hxz => ?_)
  replace U := U.grow hxz
  refine aR (k := 0) 22 [2, 3, 6, 9, 14, 15, 18, 21] Y ?_
  replace Y := Y.p13 0 4 5 10 11 12 13 14 15 177 196 197 16 O
  refine bL 22 Y U <| pl_m O <| pl_m O <| pl_v (cU O O) <| pl_m O <| pl_m O <| pl_w (fun U => (aj (i := 1) (sT := 207) (U.ow 0 O) O O (runUnderlying207 _) (sizeOf206 _) om AB).as (v' := slAddr z (1 * 1)) O) <| pl_w (fun U => aB (u := wv v.b) (i := 1) (j := 0) (U.ow 0 O) AB O (isAgg206 _) rfx) <| pl_m O <| pl_w (fun U => (aj (i := 2) (sT := 207) (U.ow 0 O) O O (runUnderlying207 _) (sizeOf206 _) om AB).as (v' := slAddr z (2 * 1)) O) <| pl_w (fun U => aB (u := wv v.c) (i := 2) (j := 0) (U.ow 0 O) AB O (isAgg206 _) rfx) <| pl_m O ?_
  refine pl_w (fun U => (aj (i := 3) (sT := 207) (U.ow 0 O) O O (runUnderlying207 _) (sizeOf206 _) om AB).as (v' := slAddr z (3 * 1)) O) <| pl_w (fun U => aB (u := wv v.d) (i := 3) (j := 0) (U.ow 0 O) AB O (isAgg206 _) rfx) <| pl_m O <| pl_v (cU O O) <| pl_m O <| pl_m O <| pl_w (fun U => (aj (i := 5) (sT := 207) (U.ow 0 O) O O (runUnderlying207 _) (sizeOf206 _) om AB).as (v' := slAddr z (5 * 1)) O) <| pl_w (fun U => aB (u := wv v.f) (i := 5) (j := 0) (U.ow 0 O) AB O (isAgg206 _) rfx) <| pl_m O ?_
  refine pl_w (fun U => (aj (i := 6) (sT := 207) (U.ow 0 O) O O (runUnderlying207 _) (sizeOf206 _) om AB).as (v' := slAddr z (6 * 1)) O) <| pl_w (fun U => aB (u := wv v.g) (i := 6) (j := 0) (U.ow 0 O) AB O (isAgg206 _) rfx) fun a w21 Y U => ?_
  replace Y := Y.p13 0 4 5 10 12 200 201 204 207 212 213 216 219 O
  refine ab <| aL (k := 22) 24 [23] ?_
  refine aE (E := 206) (sz := 1) O [[wv ((tOf v (kOf.getD ix 0#32) ((sch bs 64).getD ix 0#32)) + (uOf v))], [wv v.a], [wv v.b], [wv v.c], [wv (v.d + (tOf v (kOf.getD ix 0#32) ((sch bs 64).getD ix 0#32)))], [wv v.e], [wv v.f], [wv v.g]] kr sm O de de Y U fun a w22 Y U => wla Y O fun a Y => ab <| aS <| G22 <| al <| nv (Y.p6 0 4 5 10 12 11 O) <| yp O <| yo (aM O O ⟨om, om⟩) <| yq O <| fun a Y => ab ?_
  replace U := U.n4 O
  refine ⟨_, ?_, ix + 1, (rnd v (kOf.getD ix 0#32) ((sch bs 64).getD ix 0#32)), (.slice (some ⟨w21.hz, 0, none⟩) 8 8), O, om, (by rw [rounds, hrv]), Y.pick [0, 4, 5, 10, 11, 12], U.select [0, 2, 3] de⟩
  omega
 obtain rfl : ix = 64 := by omega
 refine aP <| G18 <| aa fun _ G27 => wla Y O fun a Y => G27 <| ah fun _ G28 => aa fun _ G29 => wla Y O fun a Y => G29 <| au ?_
 replace U : St No w0 [own (.slice none 0 0) 206 1 (((hv.add v).l.take 0).map fun x => [wv x]), own z 206 1 ((v.l).map fun x => [wv x]), own u 206 1 ((sch bs 64).map fun x => [wv x]), own kz 206 1 ((kOf).map fun x => [wv x])] w15 := U.nil_own
 refine aZ (fun m a w => ∃ (q : Nat) (y : Value), m = 8 - q ∧ (q ≤ 8) ∧ Fr 238 [(0, hvv), (4, .slice none 0 0), (11, z), (17, y), (18, jv (q : Int))] [] a ∧ St No w0 [own y 206 1 (((hv.add v).l.take q).map fun x => [wv x]), own z 206 1 ((v.l).map fun x => [wv x])] w) _ ⟨0, .slice none 0 0, O, yQ _, Y.pick [0, 4, 11, 17, 18], U.select [0, 1] de⟩ ?_
 rintro _ a w23 ⟨q, y, rfl, hq, Y, U⟩
 refine ah fun _ G30 => aa fun _ G31 => nv Y <| yp O <| yo (v_lt O O) <| fun a Y => G31 <| aA Y O (fun hc10 => ?_) (fun hc10 => ?_)
 ·refine ar <| G30 <| ah fun _ G32 => au <| aH (aI fun w24 hxz => ?_)
  replace U := U.grow hxz
  refine aR (k := 0) 11 [0, 10] Y ?_
  replace Y := Y.p6 0 4 11 17 18 221 O
  refine bJ [10] (fun i => match i with | 10 => pm (fun b : Nat => .slice (some ⟨b, 0, none⟩) 1 1) (fun b => [own (.slice (some ⟨b, 0, none⟩) 1 1) 206 1 [[wv ((hv.l.getD q 0#32) + (v.l.getD q 0#32))]]]) (fun _ => True) | _ => fun _ _ => False) 11 [[], [], [], [1, 2], [3], [], [], [5, 6], [7], [4, 8], [9]] [y, hvv, jv (q : Int), slAddr hvv (q * 1), wv (hv.l.getD q 0#32), z, jv (q : Int), slAddr z (q * 1), wv (v.l.getD q 0#32), wv ((hv.l.getD q 0#32) + (v.l.getD q 0#32)), undef] Y U ?_ ?_ ?_
  ·exact Au <| hqv (ay rfl) <| hqv (ay rfl) <| hqv (ay rfl) <| hqw (fun U => (aj (i := (q : Int)) (sT := 207) (U.arg hhv) rfl rfl (runUnderlying207 _) (sizeOf206 _) om Av).as (v' := slAddr hvv (q * 1)) rfl) <| hqw (fun U => aB (u := wv (hv.l.getD q 0#32)) (i := q) (j := 0) (U.arg hhv) Av rfl (isAgg206 _) A0) <| hqv (ay rfl) <| hqv (ay rfl) <| hqw (fun U => (aj (i := (q : Int)) (sT := 207) (U.ow 1 rfl) rfl rfl (runUnderlying207 _) (sizeOf206 _) om Av).as (v' := slAddr z (q * 1)) rfl) <|
    hqw (fun U => aB (u := wv (v.l.getD q 0#32)) (i := q) (j := 0) (U.ow 1 rfl) Av rfl (isAgg206 _) A0) <| hqv (cU rfl rfl) <| As (fun h => absurd sm h) <| At
  ·intro i hi
   simp only [yE, yI, y9] at hi
   subst hi
   ·intro w U
    exact bG (E := 206) (sz := 1) O [[wv ((hv.l.getD q 0#32) + (v.l.getD q 0#32))]] (fun _ => by kernel_rfl) sm O de
  clear Y U
  rintro _ _ ⟨b11, rfl, -, rfl⟩ a w25 Y U
  replace Y := Y.p6 225 235 0 4 11 18 O
  replace U := U.n3 O
  refine ab <| aL (k := 11) 13 [12] ?_
  refine ba (i := 1) (sT := 207) (inf := Tryz.t206) (z := wv (0#32)) (b := 0) (off := 0) (m := 0) (c := 0) O O O (U.ow 0 O) sm underlying207 O O O O de Az AD AD de Y U fun a w26 s12 Y U _ => wla Y O fun a Y => ab <| aS <| G32 ?_
  replace U := U.k2 6 O
  refine al <| nv (Y.p5 0 4 11 18 17 O) <| yp O <| yo (aM O O ⟨om, om⟩) <| yq O <| fun a Y => ab ?_
  rw [show (((hv.add v).l.take q).map fun x => [wv x]) ++ ([[wv ((hv.l.getD q 0#32) + (v.l.getD q 0#32))]]) = (((hv.add v).l.take (q + 1)).map fun x => [wv x]) from by rw [tW hv v om]; simp] at U
  refine ⟨_, ?_, q + 1, s12, O, om, Y.pick [0, 4, 11, 17, 18], U.select [0, 1] de⟩
  omega
 refine aP <| G28 <| aa fun _ G33 => nv Y <| yp O <| yq O <| fun a Y => G33 ?_
 replace Y := Y.p1 4 O
 refine aq <| am Y results144 (ae O ag) ?_
 obtain rfl : q = 8 := by omega
 exact ⟨y, O, trivial, U.ext, St.out (E := [own y 206 1 (((block hv bs).l).map fun x => [wv x])]) (H := []) (by rw [block, hrv]; exact U.select [0] de)⟩
theorem uX (v : W8) {q : Nat} (h : q < 8) : v.out.take (4 * (q + 1)) = v.out.take (4 * q) ++ [UInt8.ofNat (v.l.getD q 0#32 >>> 24).toNat, UInt8.ofNat (v.l.getD q 0#32 >>> 16).toNat, UInt8.ofNat (v.l.getD q 0#32 >>> 8).toNat, UInt8.ofNat (v.l.getD q 0#32).toNat] := by
 have : q = 0 ∨ q = 1 ∨ q = 2 ∨ q = 3 ∨ q = 4 ∨ q = 5 ∨ q = 6 ∨ q = 7 := by omega
 rcases this with rfl | rfl | rfl | rfl | rfl | rfl | rfl | rfl <;> simp [W8.out, W8.l, rp]
theorem rj (s : By) (w0 : World) (hs : s.length ≤ 100000000) :
  Ret Tryz.prog 96 #[sv s] w0 fun v w => v = sv (sha s) ∧ Ext No w0 w := by
 have hpb := iP s
 refine An func96 O ntmps96 (lb O) fun a Y U => aa fun _ G1 => wla Y O fun a Y => G1 <| aa fun _ G2 => aE (E := 206) (sz := 1) O [[wv (1779033703#32)], [wv (3144134277#32)], [wv (1013904242#32)], [wv (2773480762#32)], [wv (1359893119#32)], [wv (2600822924#32)], [wv (528734635#32)], [wv (1541459225#32)]] kr sm O de de Y U fun a w1 Y U => wla Y O fun a Y => G2 <| aa fun _ G3 => wlm Y O fun a Y => bu Y U call143 O (oV s _ hs) fun a w2 x1 hp Y U => ?_
 revert x1 hp Y U; rintro bz hp Y U
 clear hp
 replace U := U.n2 O
 refine wla Y O fun a Y => G3 <| ah fun _ G4 => aa fun _ G5 => wla Y O fun a Y => G5 <| au ?_
 replace U := U.n2 O
 refine aZ (fun m a w => ∃ (q : Nat) (hz : Value), m = (padded s).length / 64 - q ∧ (q ≤ (padded s).length / 64) ∧ Fr 56 [(2, sv ([])), (4, bz), (3, hz), (5, jv ((64 * q : Nat) : Int))] [] a ∧ St No w0 [own hz 206 1 (((blocks h0 (padded s) q).l).map fun x => [wv x]), own bz 5 1 ((padded s).map fun b => [yv b])] w) _ ⟨0, (.slice (some ⟨w0.hz, 0, none⟩) 8 8), O, yQ _, Y.pick [2, 4, 3, 5], U.select [1, 0] de⟩ ?_
 rintro _ a w3 ⟨q, hz, rfl, hq, Y, U⟩
 refine ah fun _ G6 => aa fun _ G7 => nv Y <| yp O <| yp O <| yo ((aO (sT := 60) (U.ow 1 O) O O (runUnderlying60 _)).asi (m' := ((padded s).length : Int)) AO) <| yo (v_lt O O) <| fun a Y => G7 <| aA Y O (fun hc2 => ?_) (fun hc2 => ?_)
 ·have hpl := gQ s
  refine ar <| G6 <| ah fun _ G8 => au <| al <| nv Y <| yp O <| yp O <| yp O <| yp O <| yo (aM O O ⟨om, om⟩) <| yo (dt (l := (64 * q)) (h := (64 * q + 64)) (U.ow 1 O) O O O underlying60 kr (.inr (by first | rfl | (rw [show (((64 * q : Nat) : Int) : Int) = (((64 * q) : Nat) : Int) from by omega] <;> rfl))) (.inr (by first | rfl | (rw [show (((64 * q : Nat) : Int) + 64 : Int) = (((64 * q + 64) : Nat) : Int) from by omega] <;> rfl))) om AZ) <| fun a Y => bu Y U call144 O (sH hz (cut bz 1 (64 * q) (64 * q + 64) (slCap bz)) (blocks h0 (padded s) q) (((padded s).drop (64 * q)).take 64) _ (U.ow 0 O) (by have h := ((U.ow 1 O).cutm (l := (64 * q)) (h := (64 * q + 64)) om (by first | omega | (simp; omega))); rwa [show 64 * q + 64 - 64 * q = 64 from by omega] at h) AX) fun a w4 x4 hp Y U => ?_
  revert x4 hp Y U; rintro v3 hp Y U
  clear hp
  replace U := U.n3 O
  refine wla Y O fun a Y => ab <| G8 <| al <| nv (Y.p4 2 4 5 3 O) <| yp O <| yo (aM O O ⟨om, om⟩) <| yq O <| fun a Y => ab ?_
  replace U := U.n3 O
  rw [show ((64 * q : Nat) : Int) + 64 = ((64 * (q + 1) : Nat) : Int) from by omega] at Y
  refine ⟨_, ?_, q + 1, v3, O, om, Y.pick [2, 4, 3, 5], U.select [0, 2] de⟩
  omega
 have hpl := gQ s
 obtain rfl : q = (padded s).length / 64 := by omega
 refine aP <| G4 <| aa fun _ G9 => wla Y O fun a Y => G9 ?_
 refine ah fun _ G10 => aa fun _ G11 => wla (Y.p3 2 3 6 O) O fun a Y => G11 <| au ?_
 replace U : St No w0 [own (.slice none 0 0) 5 1 (((blocks h0 (padded s) ((padded s).length / 64)).out.take (4 * 0)).map fun b => [yv b]), own hz 206 1 (((blocks h0 (padded s) ((padded s).length / 64)).l).map fun x => [wv x]), own bz 5 1 ((padded s).map fun b => [yv b])] w3 := U.nil_own
 refine aZ (fun m a w => ∃ (r : Nat) (oz : Value), m = 8 - r ∧ (r ≤ 8) ∧ Fr 56 [(2, sv ([])), (3, hz), (6, oz), (7, jv (r : Int))] [] a ∧ St No w0 [own oz 5 1 (((blocks h0 (padded s) ((padded s).length / 64)).out.take (4 * r)).map fun b => [yv b]), own hz 206 1 (((blocks h0 (padded s) ((padded s).length / 64)).l).map fun x => [wv x])] w) _ ⟨0, .slice none 0 0, O, yQ _, Y.pick [2, 3, 6, 7], U.select [0, 1] de⟩ ?_
 rintro _ a w5 ⟨r, oz, rfl, hr, Y, U⟩
 refine ah fun _ G12 => aa fun _ G13 => nv Y <| yp O <| yo (v_lt O O) <| fun a Y => G13 <| aA Y O (fun hc5 => ?_) (fun hc5 => ?_)
 ·refine ar <| G12 <| ah fun _ G14 => au <| aH (aI fun w6 hxz => ?_)
  replace U := U.grow hxz
  refine aR (k := 0) 25 [0, 24] Y ?_
  replace Y := Y.p5 2 3 6 7 24 O
  refine bJ [24] (fun i => match i with | 24 => pm (fun b : Nat => .slice (some ⟨b, 0, none⟩) 4 4) (fun b => [own (.slice (some ⟨b, 0, none⟩) 4 4) 5 1 [[yv (UInt8.ofNat (((blocks h0 (padded s) ((padded s).length / 64)).l.getD r 0#32) >>> 24).toNat)], [yv (UInt8.ofNat (((blocks h0 (padded s) ((padded s).length / 64)).l.getD r 0#32) >>> 16).toNat)], [yv (UInt8.ofNat (((blocks h0 (padded s) ((padded s).length / 64)).l.getD r 0#32) >>> 8).toNat)], [yv (UInt8.ofNat ((blocks h0 (padded s) ((padded s).length / 64)).l.getD r 0#32).toNat)]]]) (fun _ => True) | _ => fun _ _ => False) 25 [[], [], [], [1, 2], [3], [4], [5], [], [], [7, 8], [9], [10], [11], [], [], [13, 14], [15], [16], [17], [], [], [19, 20], [21], [22], [6, 12, 18, 23]] [oz, hz, jv (r : Int), slAddr hz (r * 1), wv ((blocks h0 (padded s) ((padded s).length / 64)).l.getD r 0#32), wv (((blocks h0 (padded s) ((padded s).length / 64)).l.getD r 0#32) >>> 24), yv (UInt8.ofNat (((blocks h0 (padded s) ((padded s).length / 64)).l.getD r 0#32) >>> 24).toNat), hz, jv (r : Int), slAddr hz (r * 1), wv ((blocks h0 (padded s) ((padded s).length / 64)).l.getD r 0#32), wv (((blocks h0 (padded s) ((padded s).length / 64)).l.getD r 0#32) >>> 16), yv (UInt8.ofNat (((blocks h0 (padded s) ((padded s).length / 64)).l.getD r 0#32) >>> 16).toNat), hz, jv (r : Int), slAddr hz (r * 1), wv ((blocks h0 (padded s) ((padded s).length / 64)).l.getD r 0#32), wv (((blocks h0 (padded s) ((padded s).length / 64)).l.getD r 0#32) >>> 8), yv (UInt8.ofNat (((blocks h0 (padded s) ((padded s).length / 64)).l.getD r 0#32) >>> 8).toNat), hz, jv (r : Int), slAddr hz (r * 1), wv ((blocks h0 (padded s) ((padded s).length / 64)).l.getD r 0#32), yv (UInt8.ofNat ((blocks h0 (padded s) ((padded s).length / 64)).l.getD r 0#32).toNat), undef] Y U ?_ ?_ ?_
  ·exact Au <| hqv (ay rfl) <| hqv (ay rfl) <| hqv (ay rfl) <| hqw (fun U => (aj (i := (r : Int)) (sT := 207) (U.ow 1 rfl) rfl rfl (runUnderlying207 _) (sizeOf206 _) om AU).as (v' := slAddr hz (r * 1)) rfl) <| hqw (fun U => aB (u := wv ((blocks h0 (padded s) ((padded s).length / 64)).l.getD r 0#32)) (i := r) (j := 0) (U.ow 1 rfl) AU rfl (isAgg206 _) A0) <| hqv (fg (n := 24) rfl rfl) <| hqv (fp rfl kr underlying5) <| hqv (ay rfl) <| hqv (ay rfl) <| hqw (fun U => (aj (i := (r : Int)) (sT := 207) (U.ow 1 rfl) rfl rfl (runUnderlying207 _) (sizeOf206 _) om AU).as (v' := slAddr hz (r * 1)) rfl) <|
    hqw (fun U => aB (u := wv ((blocks h0 (padded s) ((padded s).length / 64)).l.getD r 0#32)) (i := r) (j := 0) (U.ow 1 rfl) AU rfl (isAgg206 _) A0) <| hqv (fg (n := 16) rfl rfl) <| hqv (fp rfl kr underlying5) <| hqv (ay rfl) <| hqv (ay rfl) <| hqw (fun U => (aj (i := (r : Int)) (sT := 207) (U.ow 1 rfl) rfl rfl (runUnderlying207 _) (sizeOf206 _) om AU).as (v' := slAddr hz (r * 1)) rfl) <| hqw (fun U => aB (u := wv ((blocks h0 (padded s) ((padded s).length / 64)).l.getD r 0#32)) (i := r) (j := 0) (U.ow 1 rfl) AU rfl (isAgg206 _) A0) <| hqv (fg (n := 8) rfl rfl) <| hqv (fp rfl kr underlying5) <| hqv (ay rfl) <| hqv (ay rfl) <|
    hqw (fun U => (aj (i := (r : Int)) (sT := 207) (U.ow 1 rfl) rfl rfl (runUnderlying207 _) (sizeOf206 _) om AU).as (v' := slAddr hz (r * 1)) rfl) <| hqw (fun U => aB (u := wv ((blocks h0 (padded s) ((padded s).length / 64)).l.getD r 0#32)) (i := r) (j := 0) (U.ow 1 rfl) AU rfl (isAgg206 _) A0) <| hqv (fp rfl kr underlying5) <| As (fun h => absurd sm h) <| At
  ·intro i hi
   simp only [yE, yI, y9] at hi
   subst hi
   ·intro w U
    exact bG (E := 5) (sz := 1) O [[yv (UInt8.ofNat (((blocks h0 (padded s) ((padded s).length / 64)).l.getD r 0#32) >>> 24).toNat)], [yv (UInt8.ofNat (((blocks h0 (padded s) ((padded s).length / 64)).l.getD r 0#32) >>> 16).toNat)], [yv (UInt8.ofNat (((blocks h0 (padded s) ((padded s).length / 64)).l.getD r 0#32) >>> 8).toNat)], [yv (UInt8.ofNat ((blocks h0 (padded s) ((padded s).length / 64)).l.getD r 0#32).toNat)]] (fun _ => by kernel_rfl) sm O de
  clear Y U
  rintro _ _ ⟨b6, rfl, -, rfl⟩ a w7 Y U
  replace Y := Y.p5 28 52 2 3 7 O
  replace U := U.n3 O
  refine ab <| aL (k := 25) 27 [26] ?_
  refine ba (i := 1) (sT := 60) (inf := Tryz.t5) (z := yv (0 : UInt8)) (b := 0) (off := 0) (m := 0) (c := 0) O O O (U.ow 0 O) sm underlying60 O O O O de Az BL BL de Y U fun a w8 s7 Y U _ => wla Y O fun a Y => ab <| aS <| G14 ?_
  replace U := U.k2 6 O
  refine al <| nv (Y.p4 2 3 7 6 O) <| yp O <| yo (aM O O ⟨om, om⟩) <| yq O <| fun a Y => ab ?_
  rw [show (((blocks h0 (padded s) ((padded s).length / 64)).out.take (4 * r)).map fun b => [yv b]) ++ ([[yv (UInt8.ofNat (((blocks h0 (padded s) ((padded s).length / 64)).l.getD r 0#32) >>> 24).toNat)], [yv (UInt8.ofNat (((blocks h0 (padded s) ((padded s).length / 64)).l.getD r 0#32) >>> 16).toNat)], [yv (UInt8.ofNat (((blocks h0 (padded s) ((padded s).length / 64)).l.getD r 0#32) >>> 8).toNat)], [yv (UInt8.ofNat ((blocks h0 (padded s) ((padded s).length / 64)).l.getD r 0#32).toNat)]]) = (((blocks h0 (padded s) ((padded s).length / 64)).out.take (4 * (r + 1))).map fun b => [yv b]) from by rw [uX _ om]; simp] at U
  refine ⟨_, ?_, r + 1, s7, O, om, Y.pick [2, 3, 6, 7], U.select [0, 1] de⟩
  omega
 obtain rfl : r = 8 := by omega
 rw [show 4 * 8 = 32 from rfl, zA (by rw [jX]; decide)] at U
 refine aP <| G10 <| aa fun _ G15 => nv Y <| yp O <| yo (eG (U.ow 0 O) O underlying60 underlying5 underlying9) <| yq O <| fun a Y => G15 ?_
 replace Y := Y.p1 2 O
 refine aq <| am Y results96 (ae O ag) ?_
 exact ⟨by rfl, U.ext⟩
theorem ui (s : By) (w0 : World) (hs : s.length ≤ 40000000) :
  Ret Tryz.prog 36 #[sv s] w0 fun v w => v = sv (leafH sha s) ∧ Ext No w0 w := by
 refine An func36 O ntmps36 (lb O) fun a Y U => aa fun _ G1 => wla Y O fun a Y => G1 <| aa fun _ G2 => nv Y <| yp O <| yo (dJ O O Cf) <| fun a Y => aw Y U call96 O (rj (([0]) ++ s) _ (by simp only [yx, yG, yJ]; omega)) fun a w1 Y U => wla Y O fun a Y => G2 <| aq <| am Y results36 (ae O ag) ?_
 exact ⟨by rfl, U.ext⟩
theorem tI (s t : By) (w0 : World) (hs : s.length ≤ 40000000) (ht : t.length ≤ 40000000) :
  Ret Tryz.prog 175 #[sv s, sv t] w0 fun v w => v = sv (nodeH sha s t) ∧ Ext No w0 w := by
 refine Am func175 O ntmps175 (lb O) fun a Y U => aa fun _ G1 => wla Y O fun a Y => G1 <| aa fun _ G2 => nv Y <| yp O <| yo (dJ O O Cf) <| yp O <| yo (dJ O O Cf) <| fun a Y => aw Y U call96 O (rj ((([1]) ++ s) ++ t) _ (by simp only [yx, yG, yJ]; omega)) fun a w1 Y U => wla Y O fun a Y => G2 ?_
 replace Y := Y.p1 4 O
 refine aq <| am Y results175 (ae O ag) ?_
 exact ⟨by rfl, U.ext⟩
theorem uL {f z : Nat} (h : z < 128 ^ (f + 1)) (hz : 128 ≤ z) : ∃ g, f = g + 1 := by
 cases f with
 | zero => exfalso; simp at h; omega
 | succ g => exact ⟨g, rfl⟩
theorem ni {f z : Nat} (h : z < 128 ^ (f + 1 + 1)) : z / 128 < 128 ^ (f + 1) := by
 rw [Nat.pow_succ] at h
 exact Nat.div_lt_of_lt_mul (by rw [Nat.mul_comm]; exact h)
theorem vK {f z : Nat} (h : 128 ≤ z) : vb (f + 1) z = UInt8.ofNat (z % 128 + 128) :: vb f (z / 128) := by rw [vb, yO om]
theorem wr {f z : Nat} (h : z < 128) : vb f z = [UInt8.ofNat z] := by cases f <;> simp [vb, h]
theorem pP {n : Int} (h : small n) : zz n < 128 ^ (8 + 1) := by
 have := ub h.1 h.2
 have e : (128 : Nat) ^ (8 + 1) = 9223372036854775808 := by decide
 rw [e]; exact this
theorem uv {n : Int} (h : small n) : zz n < 18446744073709551616 := by have := ub h.1 h.2; omega
def gs : Nat → Nat → List (UInt8 × Bool)
 | 0, z => [(UInt8.ofNat (z % 128), true)]
 | f + 1, z => if z < 128 then [(UInt8.ofNat (z % 128), true)] else (UInt8.ofNat (z % 128), false) :: gs f (z / 128)
def enc1 (x : UInt8 × Bool) : UInt8 := if x.2 then x.1 else x.1 ||| 128
def encG (x : UInt8 × Bool) : List Value := [yv x.1, .bool x.2]
def NxG (pre : List (UInt8 × Bool)) (x : UInt8 × Bool) : Prop := pre.length < 9
theorem xq {f z : Nat} (h : ¬ z < 128) : gs (f + 1) z = (UInt8.ofNat (z % 128), false) :: gs f (z / 128) := by rw [gs, yO h]
theorem vT {f z : Nat} (h : z < 128) : gs f z = [(UInt8.ofNat (z % 128), true)] := by cases f <;> simp [gs, h]
theorem or128 : ∀ k, k < 128 → UInt8.ofNat k ||| 128 = UInt8.ofNat (k + 128) := by decide
theorem xz : ∀ (f z : Nat), z < 128 ^ (f + 1) → (gs f z).map enc1 = vb f z
 | 0, z, h => by simp [gs, vb, enc1] at h ⊢; rw [Nat.mod_eq_of_lt h]
 | f + 1, z, h => by
  unfold gs vb
  split
  ·rename_i h1
   simp [enc1, Nat.mod_eq_of_lt h1]
  ·rw [zo, xz f _ (ni h), enc1]
   simp only [Af, if_false]
   rw [or128 _ (Nat.mod_lt _ de)]
def cu (n : Int) : Nat := (n % 18446744073709551616).toNat
theorem v_zz {P : Program} {w : World} {L : List (Nat × Value)} {dst : Option Tmp} {T T' ty : TypeId} {pos : String} {af : Array Edge} {gd : Option (Nat × Bool)} {x y : Operand} {n : Int} (hs : small n)
  (hx : ev L x = some (.int .u64 ((cu n * 2 % 18446744073709551616 : Nat) : Int))) (hy : ev L y = some (.int .u64 ((cu (if n < 0 then -1 else 0) : Nat) : Int))) : OpV P ⟨dst, .binOp .xor T x y T', ty, pos, af, gd⟩ L w (.int .u64 ((zz n : Nat) : Int)) := by
 have h1 := hs.1
 have h2 := hs.2
 by_cases hn : n < 0
 ·rw [yR hn] at hy
  have e : zz n = 18446744073709551615 - cu n * 2 % 18446744073709551616 := by unfold zz cu; rw [yR hn]; omega
  rw [e]
  exact xf (Nat.mod_lt _ de) hx (by rw [hy]; rfl)
 ·rw [yO hn] at hy
  have e : zz n = cu n * 2 % 18446744073709551616 := by unfold zz cu; rw [yO hn]; omega
  rw [e]
  exact wO (Nat.mod_lt _ de) hx (by rw [hy]; rfl)
theorem so (n : Int) (w0 : World) (hs : small n) :
  Ret Tryz.prog 172 #[jv n] w0 fun v w => v = .int .u64 ((zz n : Nat) : Int) ∧ Ext No w0 w := by
 have hs1 := hs.1
 have hs2 := hs.2
 refine An func172 O ntmps172 (lb O) fun a Y U => aa fun _ G1 => wla Y O fun a Y => G1 <| ah fun _ G2 => aa fun _ G3 => nv Y <| yp O <| yo (v_lt O O) <| fun a Y => G3 <| aA Y O (fun hc1 => ?_) (fun hc1 => ?_)
 ·refine aa fun _ G4 => nv Y <| yp O <| yo (kc O om om) <| yo ((eb O kr underlying190).asi (m' := (((-n).toNat : Nat) : Int)) om) <| yo (vu (m := (-n).toNat) (n := 2) om O O) <| yo (uu (m := ((-n).toNat * 2)) (n := 1) om om O O) <| yq O <| fun a Y => G4 ?_
  replace Y := Y.p2 0 2 O
  refine aq <| am Y results172 (ae O ag) ?_
  refine ⟨yZ (Value.int .u64) ?_, U.ext⟩
  unfold zz
  split <;> omega
 refine ar <| G2 <| aa fun _ G5 => nv Y <| yp O <| yo ((eb O kr underlying190).asi (m' := (((n).toNat : Nat) : Int)) om) <| yo (vu (m := (n).toNat) (n := 2) om O O) <| yq O <| fun a Y => G5 ?_
 replace Y := Y.p1 2 O
 refine aq <| am Y results172 (ae O ag) ?_
 refine ⟨yZ (Value.int .u64) ?_, U.ext⟩
 unfold zz
 split <;> omega
theorem eM (n : Int) (w0 : World) (hs : small n) :
  Ret Tryz.prog 129 #[jv n] w0 fun v w => v = .tuple #[sv (putI n), jv 0] ∧ Ext No w0 w := by
 refine An func129 O ntmps129 (lb O) fun a Y U => aa fun _ G1 => nv Y <| yq O <| yq O <| fun a Y => G1 <| ah fun _ G2 => aa fun _ G3 => nv Y <| yp O <| yo ((v_lt O O).asb (b' := false) (by rw [yX]; have := hs.1; omega)) <| yp O <| yr (ay O) <| yr ((v_gt O O).asb (b' := false) (by rw [yX]; have := hs.2; omega)) <| yo (ak O O) <| fun a Y => G3 <| aJ Y O ?_
 refine ar <| G2 <| aa fun _ G4 => wlm Y O fun a Y => aw Y U call172 O (so n _ hs) fun a w1 Y U => wla Y O fun a Y => G4 ?_
 refine aa fun _ G5 => wla (Y.p3 2 3 4 O) O fun a Y => G5 <| ah fun _ G6 => au ?_
 replace U : St No w0 [own (.slice none 0 0) 5 1 ((([] : By)).map fun b => [yv b])] w1 := U.nil_own
 refine aZ (fun m a w => ∃ (f : Nat) (z : Nat) (bs : By) (v : Value), m = f ∧ (bs ++ vb f z = putI n) ∧ (z < 128 ^ (f + 1)) ∧ (bs.length + f = 8) ∧ (z < 18446744073709551616) ∧ Fr 31 [(2, sv ([])), (3, jv 0), (4, .int .u64 (z : Int)), (5, v)] [] a ∧ St No w0 [own v 5 1 ((bs).map fun b => [yv b])] w) _ ⟨8, zz n, [], .slice none 0 0, O, O, pP hs, O, uv hs, Y.pick [2, 3, 4, 5], U⟩ ?_
 rintro _ a w2 ⟨f, z, bs, v, rfl, hb, hz, hl, hz6, Y, U⟩
 refine ah fun _ G7 => aa fun _ G8 => nv Y <| yp O <| yo (v_ge O O) <| fun a Y => G8 <| aA Y O (fun hc1 => ?_) (fun hc1 => ?_)
 ·obtain ⟨g, rfl⟩ := uL hz om
  rw [vK om] at hb
  refine ar <| G7 <| au <| aa fun _ G9 => nv Y <| yp O <| yp O <| yo (py (m := z) (n := 128) om O O) <| yo (uA (m := (z % 128)) (n := 128) om O O) <| yo (ji (n := ((z % 128) + 128)) O kr underlying5) <| fun a Y => aE (E := 5) (sz := 1) O [[yv (UInt8.ofNat ((z % 128) + 128))]] kr sm O de de Y U fun a w3 Y U => ba (i := 1) (sT := 60) (inf := Tryz.t5) (z := yv (0 : UInt8)) (b := 0) (off := 0) (m := 0) (c := 0) O O O (U.ow 0 O) sm underlying60 O O O O de Az Bb Bb de Y U fun a w4 s2 Y U _ => ?_
  rw [show ((bs).map fun b => [yv b]) ++ ([[yv (UInt8.ofNat ((z % 128) + 128))]]) = ((bs ++ [(UInt8.ofNat ((z % 128) + 128))]).map fun b => [yv b]) from by simp] at U
  refine wla Y O fun a Y => G9 ?_
  replace U := U.k1 2 O
  refine al <| nv (Y.p4 2 3 4 5 O) <| yp O <| yo (tv (m := z) (n := 128) om om O O) <| yq O <| fun a Y => ab ?_
  refine ⟨_, ?_, g, z / 128, bs ++ [UInt8.ofNat (z % 128 + 128)], s2, O, (by rw [za]; exact hb), (ni hz), (by rw [yx]; simp; omega), om, Y.pick [2, 3, 4, 5], U⟩
  omega
 rw [wr om] at hb
 refine aP <| G6 <| aa fun _ G10 => nv Y <| yp O <| yp O <| yo (ji (n := z) O kr underlying5) <| fun a Y => aE (E := 5) (sz := 1) O [[yv (UInt8.ofNat z)]] kr sm O de de Y U fun a w5 Y U => ba (i := 1) (sT := 60) (inf := Tryz.t5) (z := yv (0 : UInt8)) (b := 0) (off := 0) (m := 0) (c := 0) O O O (U.ow 0 O) sm underlying60 O O O O de Az Bb Bb de Y U fun a w6 s3 Y U _ => ?_
 rw [show ((bs).map fun b => [yv b]) ++ ([[yv (UInt8.ofNat z)]]) = ((bs ++ [(UInt8.ofNat z)]).map fun b => [yv b]) from by simp] at U
 refine nv Y <| yo (eG (U.ow 1 O) O underlying60 underlying5 underlying9) <| yq O <| yq O <| fun a Y => G10 ?_
 replace Y := Y.p2 2 3 O
 replace U := U.k0 0 O
 refine aq <| am Y results129 (ae O (ae O ag)) ?_
 exact ⟨by rw [← hb]; rfl, U.ext⟩
theorem r8 (z : Nat) (w0 : World) :
  Ret Tryz.prog 115 #[.int .u64 (z : Int)] w0 (MemR w0 (fun b : Nat => .func (.func 162) #[] #[pq b]) (fun b => [blk b [.int .u64 (z : Int)] 190]) (fun _ => True)) := by
 refine An func115 O ntmps115 (lb O) fun a Y U => aa fun _ G1 => aV Y U O [.int .u64 (z : Int)] O fun a w1 Y U => wla Y O fun a Y => G1 <| aa fun _ G2 => nv Y <| yo (cb O O) <| yq O <| fun a Y => G2 <| aq <| am Y results115 (ae O ag) ?_
 exact ⟨w0.hz, O, trivial, U.ext, St.out (H := []) U⟩
theorem pB {M : Nat → Prop} {w0 : World} (z0 lp bg : Nat) (J Jx : List (UInt8 × Bool) → Ent → Prop) (hY : Rounds Tryz.prog M w0 lp encG NxG J Jx) (e0 : Ent) (ws : World) (hz0 : z0 < 128 ^ (8 + 1)) (hz06 : z0 < 18446744073709551616) (hJ : J [] e0) (U : St M w0 [e0, blk bg [.int .u64 (z0 : Int)] 190] ws) :
  Ret Tryz.prog 162 #[.func (.yield lp) #[] #[], pq bg] ws fun _ w => ∃ e1 Hi1, St M w0 (e1 :: Hi1) w ∧ ((∃ xs, (xs = gs 8 z0 ∧ ∃ z1 : Nat, Hi1 = [blk bg [.int .u64 (z1 : Int)] 190]) ∧ J xs e1) ∨ (∃ pre, (∃ z1 : Nat, Hi1 = [blk bg [.int .u64 (z1 : Int)] 190]) ∧ Jx pre e1)) := by
 refine aC func162 O ntmps162 (lb O) fun a Y => ?_
 replace Y := Y.p2 0 1 O
 skip
 refine au <| aZ (fun m a w => ∃ (f : Nat) (z : Nat) (e : Ent) (dn : List (UInt8 × Bool)), m = f ∧ (dn ++ gs f z = gs 8 z0) ∧ (z < 128 ^ (f + 1)) ∧ (dn.length + f = 8) ∧ (z < 18446744073709551616) ∧ (J dn e) ∧ Fr 18 [(0, .func (.yield lp) #[] #[]), (1, pq bg)] [] a ∧ St M w0 [e, blk bg [.int .u64 (z : Int)] 190] w) _ ⟨8, z0, e0, [], O, O, hz0, O, hz06, hJ, Y.pick [0, 1], U⟩ ?_
 rintro _ a w1 ⟨f, z, e, dn, rfl, hg, hz, hl, hz6, hJ, Y, U⟩
 refine au <| aa fun _ G1 => nv Y <| yo (ld U 1 O O (isAgg190 _) O) <| yo (v_lt O O) <| yq O <| fun a Y => G1 <| ah fun _ G2 => aa fun _ G3 => nv Y <| yp O <| yo (ld U 1 O O (isAgg190 _) O) <| yo ((t6 (m := z) (k := 7) om om O O).asi (m' := ((z % 128 : Nat) : Int)) O) <| yo (ji (n := (z % 128)) O kr underlying5) <| yp O <| fun a Y => wl_r (fL O O (hY.yield (pre := dn) (x := (UInt8.ofNat (z % 128), decide ((z : Int) < 128))) (by show dn.length < 9; omega) hJ (U.only (i := 0) O))) O O Y fun a v w2 hR Y => ?_
 obtain ⟨y1, e2, rfl, hx, hok, hft, hJt, hJf⟩ := hR
 replace U := U.exchange (k := 0) rfl hx hok hft
 replace U := U.n2 O
 clear hx hok hft
 refine nv Y <| yo (bB O) <| yp O <| fun a Y => ?_
 rcases yz (!y1) with hb3 | hb3
 ·rw [hb3] at Y
  try simp only [qz] at hb3
  have hJ := hJf hb3
  refine nv Y <| yt <| yo (ax O O) <| fun a Y => G3 ?_
  replace Y := Y.p3 0 1 15 O
  refine aG Y O ?_
  refine aq <| am Y results162 ag ?_
  first | exact ⟨_, _, U, .inl ⟨_, ⟨rfl, _, rfl⟩, hJ⟩⟩ | exact ⟨_, _, U, .inr ⟨_, ⟨_, rfl⟩, hJ⟩⟩
 rw [hb3] at Y
 try simp only [qz] at hb3
 have hJ := hJt hb3
 refine nv Y <| yr (ay O) <| yo (ak O O) <| fun a Y => G3 ?_
 replace Y := Y.p3 0 1 15 O
 refine aA Y O (fun hc4 => ?_) (fun hc4 => ?_)
 ·rw [yy hc4] at hJ
  rw [vT om] at hg
  rw [hg] at hJ
  refine aq <| am Y results162 ag ?_
  first | exact ⟨_, _, U, .inl ⟨_, ⟨rfl, _, rfl⟩, hJ⟩⟩ | exact ⟨_, _, U, .inr ⟨_, ⟨_, rfl⟩, hJ⟩⟩
 rw [yD hc4] at hJ
 obtain ⟨g, rfl⟩ := uL hz om
 rw [xq om] at hg
 refine ar <| G2 <| al <| nv Y <| yo (ld U 1 O O (isAgg190 _) O) <| yo ((qf (m := z) (n := 7) om O O).asi (m' := ((z / 128 : Nat) : Int)) O) <| fun a Y => az 1 Y U [.int .u64 ((z / 128 : Nat) : Int)] O (sizeOf190 _) fun a w3 Y U => ab ?_
 refine ⟨_, ?_, g, z / 128, e2, dn ++ [(UInt8.ofNat (z % 128), false)], O, (by rw [za]; exact hg), (ni hz), (by rw [yx]; simp; omega), om, hJ, Y.pick [0, 1], U⟩
 omega
theorem o5 {M : Nat → Prop} {w0 : World} (z0 bg : Nat) (hz0 : z0 < 128 ^ (8 + 1)) (hz06 : z0 < 18446744073709551616) :
  Iter Tryz.prog 162 [pq bg] encG NxG (fun xs Hi1 => xs = gs 8 z0 ∧ ∃ z1 : Nat, Hi1 = [blk bg [.int .u64 (z1 : Int)] 190]) (fun pre Hi1 => ∃ z1 : Nat, Hi1 = [blk bg [.int .u64 (z1 : Int)] 190]) M w0 [blk bg [.int .u64 (z0 : Int)] 190] :=
 fun lp J Jx w e hY hJ U => pB z0 lp bg J Jx hY e w hz0 hz06 hJ U
theorem ft (n : Int) (w0 : World) (hs : small n) :
  Ret Tryz.prog 60 #[jv n] w0 fun v w => v = .tuple #[sv (putI n), jv 0] ∧ Ext No w0 w := by
 have hs1 := hs.1
 have hs2 := hs.2
 refine An func60 O ntmps60 (lb O) fun a Y U => aa fun _ G1 => nv Y <| yq O <| yq O <| fun a Y => G1 <| ah fun _ G2 => aa fun _ G3 => nv Y <| yp O <| yo ((v_lt O O).asb (b' := false) (by rw [yX]; have := hs.1; omega)) <| yp O <| yr (ay O) <| yr ((v_gt O O).asb (b' := false) (by rw [yX]; have := hs.2; omega)) <| yo (ak O O) <| fun a Y => G3 <| aJ Y O ?_
 refine ar <| G2 <| aa fun _ G4 => aD Y U (zeroValue60 _) [.slice none 0 0] O fun a w1 Y U => G4 ?_
 refine ah fun _ G5 => aa fun _ G6 => nv (Y.p4 0 2 3 4 O) <| yp O <| yo ((eb O kr underlying190).asi (m' := ((cu (n) : Nat) : Int)) O) <| yo (qG (m := cu n) (n := 1) om O O) <| yp O <| yo (xr om om O O) <| yo ((eb O kr underlying190).asi (m' := ((cu (if n < 0 then -1 else 0) : Nat) : Int)) O) <| yo (v_zz hs O O) <| fun a Y => bu Y U call115 O (r8 (zz n) _) fun a w2 x1 hp Y U => ?_
 revert x1 hp Y U; rintro bg hp Y U
 clear hp
 replace U := U.n2 O
 refine G6 ?_
 replace Y := Y.p4 2 3 4 20 O
 refine au ?_
 replace U : St No w0 [own (.slice none 0 0) 5 1 ((([] : List (UInt8 × Bool)).map enc1).map fun b => [yv b]), blk bg [.int .u64 (zz n : Int)] 190, blk w0.hz [.slice none 0 0] 60] w2 := U.nil_own
 replace U := U.s3 [2, 0, 1] de rfl
 replace Y := Y.p4 2 3 4 20 O
 refine dD (M := No) (w0 := w0) (encs := encG) (Hi := [blk bg [.int .u64 (zz n : Int)] 190]) (Hc := [blk w0.hz [.slice none 0 0] 60, own (.slice none 0 0) 5 1 ((([] : List (UInt8 × Bool)).map enc1).map fun b => [yv b])]) (fun pre H => ∃ (v : Value), H = [blk w0.hz [v] 60, own v 5 1 ((pre.map enc1).map fun b => [yv b])]) (fun _ _ _ => False) (fun pre xs H a => Fr 33 [(2, sv ([])), (3, jv 0), (4, pq w0.hz), (20, .func (.func 162) #[] #[pq bg]), (5, yv xs.1), (6, .bool xs.2)] [] a ∧ ∃ (v : Value), H = [blk w0.hz [v] 60, own v 5 1 ((pre.map enc1).map fun b => [yv b])]) O call162 Y U (o5 (zz n) bg (pP hs) (uv hs)) de (fun _ => O) ⟨.slice none 0 0, O⟩ ?_ ?_ ?_ ?_
 ·clear Y U
  rintro lp pre xs _ a w3 hnx ⟨v, rfl⟩ Y U
  generalize (join [blk w0.hz [v] 60, own v 5 1 ((pre.map enc1).map fun b => [yv b])]).foot = M1 at U ⊢
  refine aa fun _ G7 => wla (Y.p6 22 21 2 3 4 20 O) O fun a Y => G7 <| al <| wla Y O fun a Y => ab ?_
  exact ⟨_, ⟨Y.pick [2, 3, 4, 20, 5, 6], v, O⟩, U⟩
 ·rintro lp pre xs _ a w4 hnx ⟨Y, v, rfl⟩ hout hrec hnl U
  clear hrec hnl
  generalize (join [blk w0.hz [v] 60, own v 5 1 ((pre.map enc1).map fun b => [yv b])]).foot = M1 at U hout ⊢
  refine au <| ah fun _ G8 => aa fun _ G9 => nv Y <| yp O <| yo (bB O) <| fun a Y => G9 <| bC Y O (fun hc2 => ?_) (fun hc2 => ?_)
  ·try simp only [qz] at hc2
   refine al <| nv Y <| yp O <| yo (v_yor (a := xs.1) (b := (128 : UInt8)) O O) <| yq O <| fun a Y => ab <| G8 <| al <| nv (Y.p4 2 3 4 5 O) <| yo (ld U 0 O O (isAgg60 _) O) <| yp O <| fun a Y => aE (E := 5) (sz := 1) O [[yv (xs.1 ||| (128 : UInt8))]] kr sm O de de Y U fun a w5 Y U => ba (i := 2) (sT := 60) (inf := Tryz.t5) (z := yv (0 : UInt8)) (b := 0) (off := 0) (m := 0) (c := 0) O O O (U.ow 0 O) sm underlying60 O O O O de Az A2 A2 de Y U fun a w6 s3 Y U _ => ?_
   rw [show ((pre.map enc1).map fun b => [yv b]) ++ ([[yv (xs.1 ||| (128 : UInt8))]]) = (((pre ++ [xs]).map enc1).map fun b => [yv b]) from by simp [enc1, hc2]] at U
   refine ce 1 Y U (U.ow 2 O) O O O (sizeOf60 _) (lb O) (ds := [s3]) O O fun a w7 Y U => ab ?_
   exact ⟨_, ⟨s3, O⟩, U.select [1, 2] de⟩
  try simp only [qz] at hc2
  refine ar <| G8 <| al <| nv Y <| yo (ld U 0 O O (isAgg60 _) O) <| yp O <| fun a Y => aE (E := 5) (sz := 1) O [[yv xs.1]] kr sm O de de Y U fun a w8 Y U => ba (i := 2) (sT := 60) (inf := Tryz.t5) (z := yv (0 : UInt8)) (b := 0) (off := 0) (m := 0) (c := 0) O O O (U.ow 0 O) sm underlying60 O O O O de Az A2 A2 de Y U fun a w9 s4 Y U _ => ?_
  rw [show ((pre.map enc1).map fun b => [yv b]) ++ ([[yv xs.1]]) = (((pre ++ [xs]).map enc1).map fun b => [yv b]) from by simp [enc1, hc2]] at U
  refine ce 1 Y U (U.ow 2 O) O O O (sizeOf60 _) (lb O) (ds := [s4]) O O fun a w10 Y U => ab ?_
  exact ⟨_, ⟨s4, O⟩, U.select [1, 2] de⟩
 ·rintro D pre _ _ a w11 ⟨rfl, z1, rfl⟩ ⟨v, rfl⟩ U Y
  replace Y := Y.p4 2 3 4 20 O
  replace U := U.n4 O
  refine G5 <| aa fun _ G10 => nv Y <| yo (ld U 1 O O (isAgg60 _) O) <| yo (eG (U.ow 2 O) O underlying60 underlying5 underlying9) <| yq O <| yq O <| fun a Y => G10 <| aq ?_
  have hD := U.g 0 rfl
  replace U := U.unmark (i := 0) (o' := .deferred none) O
  replace U := U.n3 O
  refine cx Y hD results60 (ae O (ae O ag)) ?_
  exact ⟨by rw [xz 8 _ (pP hs)]; rfl, U.ext⟩
 ·rintro D c pre _ _ a w12 _ h
  exact h.elim
def Wsh.nums (x : Wsh) : List Int := [1, x.signer, x.holder, x.rf, x.rt, x.carrier, x.serial, x.sf, x.st]
def Pxy.nums (x : Pxy) : List Int := [2, x.frm, x.to, x.rf, x.rt, x.sf, x.st]
def smalls (l : List Int) : Prop := ∀ n ∈ l, small n
theorem Wsh.smalls_of {x : Wsh} (h : x.ok = true) : smalls x.nums := by
 simp only [Wsh.ok, inB, cy, cZ, yw, yB] at h
 intro n hn
 simp only [Wsh.nums, yE, yI, y9] at hn
 unfold small
 rcases hn with rfl | rfl | rfl | rfl | rfl | rfl | rfl | rfl | rfl <;> omega
theorem Pxy.smalls_of {x : Pxy} (h : x.ok = true) : smalls x.nums := by
 simp only [Pxy.ok, inB, cy, cZ, yw, yB] at h
 intro n hn
 simp only [Pxy.nums, yE, yI, y9] at hn
 unfold small
 rcases hn with rfl | rfl | rfl | rfl | rfl | rfl | rfl <;> omega
theorem Wsh.content_len (x : Wsh) : x.content.length ≤ 81 := zl (dT _) (zb _)
theorem Pxy.content_len (x : Pxy) : x.content.length ≤ 63 := zl (dT _) (zb _)
theorem lq (n lo hi : Int) (w0 : World) :
  Ret Tryz.prog 108 #[jv n, jv lo, jv hi] w0 fun v w => v = .bool (inB n lo hi) ∧ Ext No w0 w := by
 refine Ao func108 O ntmps108 (lb O) fun a Y U => aa fun _ G1 => wla Y O fun a Y => G1 <| aa fun _ G2 => nv Y <| yp O <| yp O <| yo (v_ge O O) <| yp O <| fun a Y => dk (N := 15) (df := []) 4 [(14, .bool ((decide (lo ≤ n)) && (decide (n ≤ hi)))), (0, jv n), (1, jv lo), (2, jv hi), (6, .bool false)] ?_ (fun hj => ?_)
 rotate_left
 ·rcases yz (decide (lo ≤ n)) with hb1 | hb1
  ·rw [hb1] at Y
   have hb1b := hb1
   try simp only [qz, yw, yS, yM, yU] at hb1
   refine nv Y <| yr (ay O) <| yr (ay O) <| yr (v_le O O) <| yo (ax O O) <| fun a Y => hj _ ?_
   try rw [hb1b]
   exact Y.pick [14, 0, 1, 2, 6]
  rw [hb1] at Y
  have hb1b := hb1
  try simp only [qz, yw, yS, yM, yU] at hb1
  refine nv Y <| yt <| yt <| yt <| yo (ak O O) <| fun a Y => hj _ ?_
  try rw [hb1b]
  exact Y.pick [14, 0, 1, 2, 6]
 intro a Y
 refine wla Y O fun a Y => G2 <| aq <| am Y results108 (ae O ag) ?_
 exact ⟨by rfl, U.ext⟩
theorem mS (b d : Int) (w0 : World) :
  Ret Tryz.prog 173 #[.agg #[jv b, jv d]] w0 fun v w => v = .bool (cy b d) ∧ Ext No w0 w := by
 refine An func173 O ntmps173 (lb O) fun a Y U => aa fun _ G1 => aV Y U O [jv b, jv d] O fun a w1 Y U => wla Y O fun a Y => G1 <| aa fun _ G2 => nv Y <| yo (ac (v := pq w0.hz) O kr) <| yo (ld U 0 O O (isAgg3 _) O) <| yo (v_ge O O) <| yp O <| fun a Y => dk (N := 18) (df := []) 6 [(12, .bool ((decide (0 ≤ b)) && (decide (b < d)))), (0, .agg #[jv b, jv d]), (1, pq w0.hz), (2, .bool false)] ?_ (fun hj => ?_)
 rotate_left
 ·rcases yz (decide (0 ≤ b)) with hb1 | hb1
  ·rw [hb1] at Y
   have hb1b := hb1
   try simp only [qz, yw, yS, yM, yU] at hb1
   refine nv Y <| yr (ac (v := pq w0.hz) O kr) <| yr (ld U 0 O O (isAgg3 _) O) <| yr (ac (v := po w0.hz 1) O kr) <| yr (ld U 0 O O (isAgg3 _) O) <| yr (v_lt O O) <| yo (ax O O) <| fun a Y => hj _ ?_
   try rw [hb1b]
   exact Y.pick [12, 0, 1, 2]
  rw [hb1] at Y
  have hb1b := hb1
  try simp only [qz, yw, yS, yM, yU] at hb1
  refine nv Y <| yt <| yt <| yt <| yt <| yt <| yo (ak O O) <| fun a Y => hj _ ?_
  try rw [hb1b]
  exact Y.pick [12, 0, 1, 2]
 intro a Y
 refine wlm Y O fun a Y => dk (N := 18) (df := []) 4 [(17, .bool (((decide (0 ≤ b)) && (decide (b < d))) && (decide (d ≤ 100000000)))), (0, .agg #[jv b, jv d]), (1, pq w0.hz), (2, .bool false)] ?_ (fun hj => ?_)
 rotate_left
 ·rcases yz ((decide (0 ≤ b)) && (decide (b < d))) with hb2 | hb2
  ·rw [hb2] at Y
   have hb2b := hb2
   try simp only [qz, yw, yS, yM, yU] at hb2
   refine nv Y <| yr (ac (v := po w0.hz 1) O kr) <| yr (ld U 0 O O (isAgg3 _) O) <| yr (v_le O O) <| yo (ax O O) <| fun a Y => hj _ ?_
   try rw [hb2b]
   exact Y.pick [17, 0, 1, 2]
  rw [hb2] at Y
  have hb2b := hb2
  try simp only [qz, yw, yS, yM, yU] at hb2
  refine nv Y <| yt <| yt <| yt <| yo (ak O O) <| fun a Y => hj _ ?_
  try rw [hb2b]
  exact Y.pick [17, 0, 1, 2]
 intro a Y
 refine wla Y O fun a Y => G2 <| aq <| am Y results173 (ae O ag) ?_
 exact ⟨by rfl, U.ext⟩
theorem lJ (b d : Int) (w0 : World) :
  Ret Tryz.prog 174 #[.agg #[jv b, jv d]] w0 fun v w => v = .bool (cZ b d) ∧ Ext No w0 w := by
 refine An func174 O ntmps174 (lb O) fun a Y U => aa fun _ G1 => aV Y U O [jv b, jv d] O fun a w1 Y U => wla Y O fun a Y => G1 <| aa fun _ G2 => nv Y <| yo (ac (v := pq w0.hz) O kr) <| yo (ld U 0 O O (isAgg3 _) O) <| yo (v_ge O O) <| yp O <| fun a Y => dk (N := 18) (df := []) 6 [(12, .bool ((decide (0 ≤ b)) && (decide (b < d)))), (0, .agg #[jv b, jv d]), (1, pq w0.hz), (2, .bool false)] ?_ (fun hj => ?_)
 rotate_left
 ·rcases yz (decide (0 ≤ b)) with hb1 | hb1
  ·rw [hb1] at Y
   have hb1b := hb1
   try simp only [qz, yw, yS, yM, yU] at hb1
   refine nv Y <| yr (ac (v := pq w0.hz) O kr) <| yr (ld U 0 O O (isAgg3 _) O) <| yr (ac (v := po w0.hz 1) O kr) <| yr (ld U 0 O O (isAgg3 _) O) <| yr (v_lt O O) <| yo (ax O O) <| fun a Y => hj _ ?_
   try rw [hb1b]
   exact Y.pick [12, 0, 1, 2]
  rw [hb1] at Y
  have hb1b := hb1
  try simp only [qz, yw, yS, yM, yU] at hb1
  refine nv Y <| yt <| yt <| yt <| yt <| yt <| yo (ak O O) <| fun a Y => hj _ ?_
  try rw [hb1b]
  exact Y.pick [12, 0, 1, 2]
 intro a Y
 refine wlm Y O fun a Y => dk (N := 18) (df := []) 4 [(17, .bool (((decide (0 ≤ b)) && (decide (b < d))) && (decide (d ≤ 10000001)))), (0, .agg #[jv b, jv d]), (1, pq w0.hz), (2, .bool false)] ?_ (fun hj => ?_)
 rotate_left
 ·rcases yz ((decide (0 ≤ b)) && (decide (b < d))) with hb2 | hb2
  ·rw [hb2] at Y
   have hb2b := hb2
   try simp only [qz, yw, yS, yM, yU] at hb2
   refine nv Y <| yr (ac (v := po w0.hz 1) O kr) <| yr (ld U 0 O O (isAgg3 _) O) <| yr (v_le O O) <| yo (ax O O) <| fun a Y => hj _ ?_
   try rw [hb2b]
   exact Y.pick [17, 0, 1, 2]
  rw [hb2] at Y
  have hb2b := hb2
  try simp only [qz, yw, yS, yM, yU] at hb2
  refine nv Y <| yt <| yt <| yt <| yo (ak O O) <| fun a Y => hj _ ?_
  try rw [hb2b]
  exact Y.pick [17, 0, 1, 2]
 intro a Y
 refine wla Y O fun a Y => G2 <| aq <| am Y results174 (ae O ag) ?_
 exact ⟨by rfl, U.ext⟩
theorem nH (x : Wsh) (w0 : World) :
  Ret Tryz.prog 135 #[.agg #[jv x.signer, jv x.holder, jv x.rf, jv x.rt, jv x.carrier, jv x.serial, jv x.sf, jv x.st, sv x.sig]] w0 fun v w => v = .bool x.ok ∧ Ext No w0 w := by
 refine An func135 O ntmps135 (lb O) fun a Y U => aa fun _ G1 => aV Y U O [jv x.signer, jv x.holder, jv x.rf, jv x.rt, jv x.carrier, jv x.serial, jv x.sf, jv x.st, sv x.sig] O fun a w1 Y U => wla Y O fun a Y => G1 <| aa fun _ G2 => nv Y <| yo (ac (v := pq w0.hz) O kr) <| yo (ld U 0 O O (isAgg3 _) O) <| fun a Y => aw Y U call108 O (lq x.signer 0 63 _) fun a w2 Y U => wlm Y O fun a Y => ?_
 rcases yz (inB x.signer 0 63) with hb1 | hb1
 ·rw [hb1] at Y
  refine nv Y <| yr (ac (v := po w0.hz 1) O kr) <| yr (ld U 0 O O (isAgg3 _) O) <| fun a Y => aF Y U call108 O (lq x.holder 0 63 _) fun a w3 Y U => nv Y <| yo (ax O O) <| yp O <| fun a Y => ?_
  rcases yz (inB x.holder 0 63) with hb2 | hb2
  ·rw [hb2] at Y
   refine nv Y <| yr (ac (v := po w0.hz 2) O kr) <| yr (bS (ds := [jv x.rf, jv x.rt]) (U.g 0 O) O (isAgg87 _) (sizeOf87 _) O) <| fun a Y => aF Y U call173 O (mS x.rf x.rt _) fun a w4 Y U => nv Y <| yo (ax O O) <| yp O <| fun a Y => ?_
   rcases yz (cy x.rf x.rt) with hb3 | hb3
   ·rw [hb3] at Y
    refine nv Y <| yr (ac (v := po w0.hz 4) O kr) <| yr (ld U 0 O O (isAgg3 _) O) <| fun a Y => aF Y U call108 O (lq x.carrier 0 7 _) fun a w5 Y U => nv Y <| yo (ax O O) <| yp O <| fun a Y => ?_
    rcases yz (inB x.carrier 0 7) with hb4 | hb4
    ·rw [hb4] at Y
     refine nv Y <| yr (ac (v := po w0.hz 5) O kr) <| yr (ld U 0 O O (isAgg3 _) O) <| fun a Y => aF Y U call108 O (lq x.serial 0 1000000 _) fun a w6 Y U => nv Y <| yo (ax O O) <| yp O <| fun a Y => ?_
     rcases yz (inB x.serial 0 1000000) with hb5 | hb5
     ·rw [hb5] at Y
      refine nv Y <| yr (ac (v := po w0.hz 6) O kr) <| yr (bS (ds := [jv x.sf, jv x.st]) (U.g 0 O) O (isAgg88 _) (sizeOf88 _) O) <| fun a Y => aF Y U call174 O (lJ x.sf x.st _) fun a w7 Y U => nv Y <| yo (ax O O) <| yq O <| fun a Y => G2 ?_
      replace Y := Y.p1 2 O
      replace U := U.k0 0 O
      refine aq <| am Y results135 (ae O ag) ?_
      exact ⟨by simp only [retv]; unfold Wsh.ok; simp [hb1, hb2, hb3, hb4, hb5], U.ext⟩
     rw [hb5] at Y
     refine nv Y <| yt <| yt <| yt <| yo (ak O O) <| yq O <| fun a Y => G2 ?_
     replace Y := Y.p1 2 O
     replace U := U.k0 0 O
     refine aq <| am Y results135 (ae O ag) ?_
     exact ⟨by simp only [retv]; unfold Wsh.ok; simp [hb1, hb2, hb3, hb4, hb5], U.ext⟩
    rw [hb4] at Y
    refine nv Y <| yt <| yt <| yt <| yo (ak O O) <| yp O <| yt <| yt <| yt <| yo (ak O O) <| yq O <| fun a Y => G2 ?_
    replace Y := Y.p1 2 O
    replace U := U.k0 0 O
    refine aq <| am Y results135 (ae O ag) ?_
    exact ⟨by simp only [retv]; unfold Wsh.ok; simp [hb1, hb2, hb3, hb4], U.ext⟩
   rw [hb3] at Y
   refine nv Y <| yt <| yt <| yt <| yo (ak O O) <| yp O <| yt <| yt <| yt <| yo (ak O O) <| yp O <| yt <| yt <| yt <| yo (ak O O) <| yq O <| fun a Y => G2 ?_
   replace Y := Y.p1 2 O
   replace U := U.k0 0 O
   refine aq <| am Y results135 (ae O ag) ?_
   exact ⟨by simp only [retv]; unfold Wsh.ok; simp [hb1, hb2, hb3], U.ext⟩
  rw [hb2] at Y
  refine nv Y <| yt <| yt <| yt <| yo (ak O O) <| yp O <| yt <| yt <| yt <| yo (ak O O) <| yp O <| yt <| yt <| yt <| yo (ak O O) <| yp O <| yt <| yt <| yt <| yo (ak O O) <| yq O <| fun a Y => G2 ?_
  replace Y := Y.p1 2 O
  replace U := U.k0 0 O
  refine aq <| am Y results135 (ae O ag) ?_
  exact ⟨by simp only [retv]; unfold Wsh.ok; simp [hb1, hb2], U.ext⟩
 rw [hb1] at Y
 refine nv Y <| yt <| yt <| yt <| yo (ak O O) <| yp O <| yt <| yt <| yt <| yo (ak O O) <| yp O <| yt <| yt <| yt <| yo (ak O O) <| yp O <| yt <| yt <| yt <| yo (ak O O) <| yp O <| yt <| yt <| yt <| yo (ak O O) <| yq O <| fun a Y => G2 ?_
 replace Y := Y.p1 2 O
 replace U := U.k0 0 O
 refine aq <| am Y results135 (ae O ag) ?_
 exact ⟨by simp only [retv]; unfold Wsh.ok; simp [hb1], U.ext⟩
theorem mG (x : Pxy) (w0 : World) :
  Ret Tryz.prog 132 #[.agg #[jv x.frm, jv x.to, jv x.rf, jv x.rt, jv x.sf, jv x.st, sv x.sig]] w0 fun v w => v = .bool x.ok ∧ Ext No w0 w := by
 refine An func132 O ntmps132 (lb O) fun a Y U => aa fun _ G1 => aV Y U O [jv x.frm, jv x.to, jv x.rf, jv x.rt, jv x.sf, jv x.st, sv x.sig] O fun a w1 Y U => wla Y O fun a Y => G1 <| aa fun _ G2 => nv Y <| yo (ac (v := pq w0.hz) O kr) <| yo (ld U 0 O O (isAgg3 _) O) <| fun a Y => aw Y U call108 O (lq x.frm 0 63 _) fun a w2 Y U => wlm Y O fun a Y => ?_
 rcases yz (inB x.frm 0 63) with hb1 | hb1
 ·rw [hb1] at Y
  refine nv Y <| yr (ac (v := po w0.hz 1) O kr) <| yr (ld U 0 O O (isAgg3 _) O) <| fun a Y => aF Y U call108 O (lq x.to 0 63 _) fun a w3 Y U => nv Y <| yo (ax O O) <| yp O <| fun a Y => ?_
  rcases yz (inB x.to 0 63) with hb2 | hb2
  ·rw [hb2] at Y
   refine nv Y <| yr (ac (v := pq w0.hz) O kr) <| yr (ld U 0 O O (isAgg3 _) O) <| yr (ac (v := po w0.hz 1) O kr) <| yr (ld U 0 O O (isAgg3 _) O) <| yr (v_ne O O) <| yo (ax O O) <| yp O <| fun a Y => ?_
   rcases (Decidable.em (x.frm = x.to)).symm with hb3 | hb3
   ·rw [yD hb3] at Y
    refine nv Y <| yr (ac (v := po w0.hz 2) O kr) <| yr (bS (ds := [jv x.rf, jv x.rt]) (U.g 0 O) O (isAgg87 _) (sizeOf87 _) O) <| fun a Y => aF Y U call173 O (mS x.rf x.rt _) fun a w4 Y U => nv Y <| yo (ax O O) <| yp O <| fun a Y => ?_
    rcases yz (cy x.rf x.rt) with hb4 | hb4
    ·rw [hb4] at Y
     refine nv Y <| yr (ac (v := po w0.hz 4) O kr) <| yr (bS (ds := [jv x.sf, jv x.st]) (U.g 0 O) O (isAgg88 _) (sizeOf88 _) O) <| fun a Y => aF Y U call174 O (lJ x.sf x.st _) fun a w5 Y U => nv Y <| yo (ax O O) <| yq O <| fun a Y => G2 ?_
     replace Y := Y.p1 2 O
     replace U := U.k0 0 O
     refine aq <| am Y results132 (ae O ag) ?_
     exact ⟨by simp only [retv]; unfold Pxy.ok; simp [hb1, hb2, hb3, hb4], U.ext⟩
    rw [hb4] at Y
    refine nv Y <| yt <| yt <| yt <| yo (ak O O) <| yq O <| fun a Y => G2 ?_
    replace Y := Y.p1 2 O
    replace U := U.k0 0 O
    refine aq <| am Y results132 (ae O ag) ?_
    exact ⟨by simp only [retv]; unfold Pxy.ok; simp [hb1, hb2, hb3, hb4], U.ext⟩
   rw [yy hb3] at Y
   refine nv Y <| yt <| yt <| yt <| yo (ak O O) <| yp O <| yt <| yt <| yt <| yo (ak O O) <| yq O <| fun a Y => G2 ?_
   replace Y := Y.p1 2 O
   replace U := U.k0 0 O
   refine aq <| am Y results132 (ae O ag) ?_
   exact ⟨by simp only [retv]; unfold Pxy.ok; simp [hb1, hb2, hb3], U.ext⟩
  rw [hb2] at Y
  refine nv Y <| yt <| yt <| yt <| yt <| yt <| yo (ak O O) <| yp O <| yt <| yt <| yt <| yo (ak O O) <| yp O <| yt <| yt <| yt <| yo (ak O O) <| yq O <| fun a Y => G2 ?_
  replace Y := Y.p1 2 O
  replace U := U.k0 0 O
  refine aq <| am Y results132 (ae O ag) ?_
  exact ⟨by simp only [retv]; unfold Pxy.ok; simp [hb1, hb2], U.ext⟩
 rw [hb1] at Y
 refine nv Y <| yt <| yt <| yt <| yo (ak O O) <| yp O <| yt <| yt <| yt <| yt <| yt <| yo (ak O O) <| yp O <| yt <| yt <| yt <| yo (ak O O) <| yp O <| yt <| yt <| yt <| yo (ak O O) <| yq O <| fun a Y => G2 ?_
 replace Y := Y.p1 2 O
 replace U := U.k0 0 O
 refine aq <| am Y results132 (ae O ag) ?_
 exact ⟨by simp only [retv]; unfold Pxy.ok; simp [hb1], U.ext⟩
theorem kD (ns : List Int) (lv : Value) (w0 : World) (hlv : SlAt w0 lv 1 ((ns).map fun n => [jv n])) (hns : smalls ns) (hnl : ns.length ≤ 1000) :
  Ret Tryz.prog 97 #[lv] w0 fun v w => v = sv (puts ns) ∧ Ext No w0 w := by
 refine An func97 O ntmps97 (lb O) fun a Y U => aa fun _ G1 => wla Y O fun a Y => G1 <| aa fun _ G2 => wla Y O fun a Y => G2 <| ah fun _ G3 => aa fun _ G4 => wla Y O fun a Y => G4 <| au ?_
 have hp0 : ([] : By) = puts (ns.take 0) := rfl
 rw [hp0] at Y
 refine aZ (fun m a w => ∃ (k : Nat), m = ns.length - k ∧ (k ≤ ns.length) ∧ Fr 25 [(0, lv), (2, sv (puts (ns.take 0))), (4, jv (k : Int)), (3, sv (puts (ns.take k)))] [] a ∧ St No w0 [] w) _ ⟨0, O, yQ _, Y.pick [0, 2, 4, 3], U.select [] de⟩ ?_
 rintro _ a w1 ⟨k, rfl, hk, Y, U⟩
 refine ah fun _ G5 => aa fun _ G6 => nv Y <| yp O <| yp O <| yo ((aO (sT := 24) (U.arg hlv) O O (runUnderlying24 _)).asi (m' := (ns.length : Int)) AO) <| yo (v_lt O O) <| fun a Y => G6 <| aA Y O (fun hc1 => ?_) (fun hc1 => ?_)
 ·refine ar <| G5 <| ah fun _ G7 => au <| aa fun _ G8 => nv Y <| yp O <| yp O <| yo ((aj (i := (k : Int)) (sT := 24) (U.arg hlv) O O (runUnderlying24 _) (sizeOf3 _) om Aw).as (v' := slAddr lv (k * 1)) O) <| yo (aB (u := jv (ns.getD k 0)) (i := k) (j := 0) (U.arg hlv) Aw O (isAgg3 _) AM) <| fun a Y => aw Y U call129 O (eM (ns.getD k 0) _ (hns _ (bD om))) fun a w2 Y U => nv Y <| yp O <| yo (ao O O) <| yo (ao O O) <| yq O <| yq O <| fun a Y => G8 ?_
  refine al <| nv (Y.p5 0 2 4 3 5 O) <| yp O <| yp O <| yo (dJ O O (by have h1 := dT (ns.take k); have h2 := (bW (ns.getD k 0)).2; rw [yC] at h1; omega)) <| yq O <| fun a Y => ?_
  refine ab <| G7 <| al <| nv Y <| yp O <| yo (aM O O ⟨om, om⟩) <| yq O <| fun a Y => ab ?_
  rw [show puts (ns.take k) ++ putI (ns.getD k 0) = puts (ns.take (k + 1)) from by rw [cF 0 om, mq]] at Y
  refine ⟨_, ?_, k + 1, O, om, Y.pick [0, 2, 4, 3], U.select [] de⟩
  omega
 obtain rfl : k = ns.length := by omega
 rw [List.take_length] at Y
 refine aP <| G3 <| aa fun _ G9 => nv Y <| yp O <| yq O <| fun a Y => G9 ?_
 replace Y := Y.p1 2 O
 refine aq <| am Y results97 (ae O ag) ?_
 exact ⟨O, U.ext⟩
theorem im (x : Wsh) (w0 : World) (hx : smalls x.nums) :
  Ret Tryz.prog 37 #[.agg #[jv x.signer, jv x.holder, jv x.rf, jv x.rt, jv x.carrier, jv x.serial, jv x.sf, jv x.st, sv x.sig]] w0 fun v w => v = sv x.content ∧ Ext No w0 w := by
 refine An func37 O ntmps37 (lb O) fun a Y U => aa fun _ G1 => aV Y U O [jv x.signer, jv x.holder, jv x.rf, jv x.rt, jv x.carrier, jv x.serial, jv x.sf, jv x.st, sv x.sig] O fun a w1 Y U => wla Y O fun a Y => G1 <| aa fun _ G2 => nv Y <| yo (ac (v := pq w0.hz) O kr) <| yo (ld U 0 O O (isAgg3 _) O) <| yo (ac (v := po w0.hz 1) O kr) <| yo (ld U 0 O O (isAgg3 _) O) <| yo (ac (v := po w0.hz 2) O kr) <| yo (ac (v := po w0.hz 2) O kr) <| yo (ld U 0 O O (isAgg3 _) O) <| yo (ac (v := po w0.hz 2) O kr) <| yo (ac (v := po w0.hz 3) O kr) <| yo (ld U 0 O O (isAgg3 _) O) <| fun a Y => nv Y <| yo (ac (v := po w0.hz 4) O kr) <| yo (ld U 0 O O (isAgg3 _) O) <| yo (ac (v := po w0.hz 5) O kr) <| yo (ld U 0 O O (isAgg3 _) O) <| yo (ac (v := po w0.hz 6) O kr) <| yo (ac (v := po w0.hz 6) O kr) <| yo (ld U 0 O O (isAgg3 _) O) <| yo (ac (v := po w0.hz 6) O kr) <| yo (ac (v := po w0.hz 7) O kr) <| yo (ld U 0 O O (isAgg3 _) O) <| fun a Y => aE (E := 3) (sz := 1) O [[jv 1], [jv x.signer], [jv x.holder], [jv x.rf], [jv x.rt], [jv x.carrier], [jv x.serial], [jv x.sf], [jv x.st]] kr sm O de de Y U fun a w2 Y U => aw Y U call97 O (kD [1, x.signer, x.holder, x.rf, x.rt, x.carrier, x.serial, x.sf, x.st] (.slice (some ⟨w1.hz, 0, none⟩) 9 9) _ (U.ow 0 O) (hx) sm) fun a w3 Y U => wla Y O fun a Y => G2 ?_
 replace Y := Y.p1 2 O
 replace U := U.k0 0 O
 refine aq <| am Y results37 (ae O ag) ?_
 exact ⟨by rfl, U.ext⟩
theorem ie (x : Pxy) (w0 : World) (hx : smalls x.nums) :
  Ret Tryz.prog 134 #[.agg #[jv x.frm, jv x.to, jv x.rf, jv x.rt, jv x.sf, jv x.st, sv x.sig]] w0 fun v w => v = sv x.content ∧ Ext No w0 w := by
 refine An func134 O ntmps134 (lb O) fun a Y U => aa fun _ G1 => aV Y U O [jv x.frm, jv x.to, jv x.rf, jv x.rt, jv x.sf, jv x.st, sv x.sig] O fun a w1 Y U => wla Y O fun a Y => G1 <| aa fun _ G2 => nv Y <| yo (ac (v := pq w0.hz) O kr) <| yo (ld U 0 O O (isAgg3 _) O) <| yo (ac (v := po w0.hz 1) O kr) <| yo (ld U 0 O O (isAgg3 _) O) <| yo (ac (v := po w0.hz 2) O kr) <| yo (ac (v := po w0.hz 2) O kr) <| yo (ld U 0 O O (isAgg3 _) O) <| yo (ac (v := po w0.hz 2) O kr) <| yo (ac (v := po w0.hz 3) O kr) <| yo (ld U 0 O O (isAgg3 _) O) <| fun a Y => nv Y <| yo (ac (v := po w0.hz 4) O kr) <| yo (ac (v := po w0.hz 4) O kr) <| yo (ld U 0 O O (isAgg3 _) O) <| yo (ac (v := po w0.hz 4) O kr) <| yo (ac (v := po w0.hz 5) O kr) <| yo (ld U 0 O O (isAgg3 _) O) <| fun a Y => aE (E := 3) (sz := 1) O [[jv 2], [jv x.frm], [jv x.to], [jv x.rf], [jv x.rt], [jv x.sf], [jv x.st]] kr sm O de de Y U fun a w2 Y U => aw Y U call97 O (kD [2, x.frm, x.to, x.rf, x.rt, x.sf, x.st] (.slice (some ⟨w1.hz, 0, none⟩) 7 7) _ (U.ow 0 O) (hx) sm) fun a w3 Y U => wla Y O fun a Y => G2 ?_
 replace Y := Y.p1 2 O
 replace U := U.k0 0 O
 refine aq <| am Y results134 (ae O ag) ?_
 exact ⟨by rfl, U.ext⟩
theorem oF (key s : By) (w0 : World) (hk : key.length ≤ 40000000) (hs : s.length ≤ 40000000) :
  Ret Tryz.prog 133 #[sv key, sv s] w0 fun v w => v = sv (sealH key s) ∧ Ext No w0 w := by
 refine Am func133 O ntmps133 (lb O) fun a Y U => aa fun _ G1 => wla Y O fun a Y => G1 <| aa fun _ G2 => nv Y <| yp O <| yp O <| fun a Y => aw Y U call36 O (ui s _ om) fun a w1 Y U => aw Y U call175 O (tI key (leafH sha s) _ om (by rw [iR dH]; decide)) fun a w2 Y U => wla Y O fun a Y => G2 ?_
 replace Y := Y.p1 4 O
 refine aq <| am Y results133 (ae O ag) ?_
 exact ⟨by rfl, U.ext⟩
theorem ll {P : Program} {w : World} {L : List (Nat × Value)} {dst : Option Tmp} {T T' ty : TypeId} {pos : String} {af : Array Edge} {gd : Option (Nat × Bool)} {x : Operand} {n : Int} (hx : ev L x = some (jv n)) (hs : (P.underlying T).isSome = true) (hd : P.underlying T' = some (.int .u8)) : OpV P ⟨dst, .convert T T' x, ty, pos, af, gd⟩ L w (yv (UInt8.ofNat (n % 256).toNat)) :=
 (fc hx hs hd).as (by
  have h1 : 0 ≤ n % 256 := Al _ de
  have h2 : n % 256 < 256 := Int.emod_lt_of_pos _ de
  have e : ((UInt8.ofNat (n % 256).toNat).toNat : Int) = n % 256 := by rw [eF om]; omega
  unfold yv
  rw [e]
  simp [IntKind.wrap, IntKind.signed, IntKind.bits])
def kfill (b : UInt8) (k : Nat) : By := List.replicate k b ++ List.replicate (32 - k) 0
theorem lU {b : UInt8} {k : Nat} (h : k < 32) : (kfill b k).set k b = kfill b (k + 1) := by
 unfold kfill
 rw [List.set_append_right _ _ sm, zL, Ae, show 32 - k = (32 - (k + 1)) + 1 from by omega, List.replicate_succ, List.set_cons_zero, List.replicate_succ']
 simp
theorem eA {b : UInt8} {k : Nat} (h : k ≤ 32) : (kfill b k).length = 32 := by simp [kfill]; omega
theorem mJ (b : UInt8) : kfill b 32 = List.replicate 32 b := by simp [kfill]
theorem dp (n m : Int) (w0 : World) (hn : -9223372036854775808 ≤ n ∧ n ≤ 9223372036854775807) (hm : 0 < m ∧ m ≤ 9223372036854775807) :
  Ret Tryz.prog 80 #[jv n, jv m] w0 fun v w => v = jv (pickI n m) ∧ Ext No w0 w := by
 refine Am func80 O ntmps80 (lb O) fun a Y U => aa fun _ G1 => wla Y O fun a Y => G1 <| ah fun _ G2 => aa fun _ G3 => nv Y <| yp O <| yo (v_lt O O) <| fun a Y => G3 <| aA Y O (fun hc1 => ?_) (fun hc1 => ?_)
 ·refine al <| nv Y <| yp O <| yo (aM O O ⟨om, om⟩) <| yo (kc O om om) <| yq O <| fun a Y => ab <| G2 <| aa fun _ G4 => nv Y <| yp O <| yp O <| yo (fi O O om om) <| yq O <| fun a Y => G4 ?_
  replace Y := Y.p1 4 O
  refine aq <| am Y results80 (ae O ag) ?_
  exact ⟨by simp only [retv, pickI]; simp [hc1], U.ext⟩
 refine ar <| G2 <| aa fun _ G5 => nv Y <| yp O <| yp O <| yo (fi O O om om) <| yq O <| fun a Y => G5 ?_
 replace Y := Y.p1 4 O
 refine aq <| am Y results80 (ae O ag) ?_
 exact ⟨by simp only [retv, pickI]; simp [hc1], U.ext⟩
theorem je (h : Int) (w0 : World) :
  Ret Tryz.prog 33 #[jv h] w0 fun v w => v = sv (keyH h) ∧ Ext No w0 w := by
 refine An func33 O ntmps33 (lb O) fun a Y U => aa fun _ G1 => wla Y O fun a Y => G1 <| aa fun _ G2 => iu (n := 32) (E := 5) (sz := 1) O O ((kfill (UInt8.ofNat (h % 256).toNat) 0).map fun b => [yv b]) kr BI (by simp [kfill]) de de Y U fun a w1 Y U => wla Y O fun a Y => G2 <| ah fun _ G3 => aa fun _ G4 => wla Y O fun a Y => G4 <| au <| aZ (fun m a w => ∃ (k : Nat), m = 32 - k ∧ (k ≤ 32) ∧ Fr 19 [(0, jv h), (2, sv ([])), (3, (.slice (some ⟨w0.hz, 0, none⟩) 32 32)), (4, jv (k : Int))] [] a ∧ St No w0 [own (.slice (some ⟨w0.hz, 0, none⟩) 32 32) 5 1 ((kfill (UInt8.ofNat (h % 256).toNat) k).map fun b => [yv b])] w) _ ⟨0, O, yQ _, Y.pick [0, 2, 3, 4], U⟩ ?_
 rintro _ a w2 ⟨k, rfl, hk, Y, U⟩
 refine ah fun _ G5 => aa fun _ G6 => nv Y <| yp O <| yp O <| yo ((aO (sT := 60) (U.ow 0 O) O O (runUnderlying60 _)).asi (m' := 32) (by rw [yu, eA om]; rfl)) <| yo (v_lt O O) <| fun a Y => G6 <| aA Y O (fun hc1 => ?_) (fun hc1 => ?_)
 ·have hk2 : k < 32 := by omega
  refine ar <| G5 <| ah fun _ G7 => au <| al <| nv Y <| yp O <| yp O <| yp O <| yo (ll (n := h) O kr underlying5) <| yo ((aj (i := (k : Int)) (sT := 60) (U.ow 0 O) O O (runUnderlying60 _) (sizeOf5 _) om Ca).as (v' := slAddr (.slice (some ⟨w0.hz, 0, none⟩) 32 32) (k * 1)) O) <| fun a Y => jN (k := k) (us := [yv (UInt8.ofNat (h % 256).toNat)]) 0 Y U O O O Ca om (sizeOf5 _) O (by first | rfl | simp [Value.oneCell', yv, wv, sv]) O O fun a w3 Y U => ab <| G7 <| al <| nv (Y.p4 0 2 3 4 O) <| yp O <| yo (aM O O ⟨om, om⟩) <| yq O <| fun a Y => ab ?_
  rw [show ((kfill (UInt8.ofNat (h % 256).toNat) k).map fun b => [yv b]).set k [yv (UInt8.ofNat (h % 256).toNat)] = ((kfill (UInt8.ofNat (h % 256).toNat) (k + 1)).map fun b => [yv b]) from by rw [← lU hk2, Aj]] at U
  refine ⟨_, ?_, k + 1, O, om, Y.pick [0, 2, 3, 4], U⟩
  omega
 obtain rfl : k = 32 := by omega
 refine aP <| G3 <| aa fun _ G8 => nv Y <| yp O <| yo (eG (U.ow 0 O) O underlying60 underlying5 underlying9) <| yq O <| fun a Y => G8 ?_
 replace Y := Y.p1 2 O
 replace U := U.k0 0 O
 refine aq <| am Y results33 (ae O ag) ?_
 exact ⟨by rw [mJ]; rfl, U.ext⟩
def keysTo (k : Nat) : List By := (List.range k).map fun h : Nat => keyH (h : Int)
theorem ol (k : Nat) : keysTo (k + 1) = keysTo k ++ [keyH (k : Int)] := by simp [keysTo, Ak]
theorem kU (k : Nat) : (keysTo k).length = k := by simp [keysTo]
theorem nC (w0 : World) :
  Ret Tryz.prog 18 #[] w0 (MemR w0 (fun v : Value => v) (fun v => [own v 9 1 (keysH.map fun s => [sv s])]) (fun _ => True)) := by
 refine aC func18 O ntmps18 (lb O) fun a Y => ?_
 replace Y : Fr 13 [] [] a := Y
 replace U : St No w0 [] w0 := St.init w0
 refine aa fun _ G1 => wla Y O fun a Y => G1 <| aa fun _ G2 => wla Y O fun a Y => G2 <| ah fun _ G3 => aa fun _ G4 => wla Y O fun a Y => G4 <| au ?_
 replace U : St No w0 [own (.slice none 0 0) 9 1 ((keysTo 0).map fun s => [sv s])] w0 := U.nil_own
 refine aZ (fun m a w => ∃ (k : Nat) (v : Value), m = 10 - k ∧ (k ≤ 10) ∧ Fr 13 [(0, .slice none 0 0), (1, v), (2, jv (k : Int))] [] a ∧ St No w0 [own v 9 1 ((keysTo k).map fun s => [sv s])] w) _ ⟨0, .slice none 0 0, O, yQ _, Y.pick [0, 1, 2], U⟩ ?_
 rintro _ a w1 ⟨k, v, rfl, hk, Y, U⟩
 refine ah fun _ G5 => aa fun _ G6 => nv Y <| yp O <| yo (v_lt O O) <| fun a Y => G6 <| aA Y O (fun hc1 => ?_) (fun hc1 => ?_)
 ·refine ar <| G5 <| ah fun _ G7 => au <| al <| nv Y <| yp O <| yp O <| fun a Y => aw Y U call33 O (je (k : Int) _) fun a w2 Y U => aE (E := 9) (sz := 1) O [[sv (keyH (k : Int))]] kr sm O de de Y U fun a w3 Y U => ba (i := 1) (sT := 44) (inf := Tryz.t9) (z := .string (⟨#[]⟩)) (b := 0) (off := 0) (m := 0) (c := 0) O O O (U.ow 0 O) sm underlying44 O O O O de Az Cd Cd de Y U fun a w4 s2 Y U _ => ?_
  rw [show ((keysTo k).map fun s => [sv s]) ++ ([[sv (keyH (k : Int))]]) = ((keysTo (k + 1)).map fun s => [sv s]) from by rw [ol]; simp] at U
  refine wla Y O fun a Y => ab <| G7 ?_
  replace U := U.k1 2 O
  refine al <| nv (Y.p3 0 2 1 O) <| yp O <| yo (aM O O ⟨om, om⟩) <| yq O <| fun a Y => ab ?_
  refine ⟨_, ?_, k + 1, s2, O, om, Y.pick [0, 1, 2], U⟩
  omega
 obtain rfl : k = 10 := by omega
 refine aP <| G3 <| aa fun _ G8 => nv Y <| yp O <| yq O <| fun a Y => G8 <| aq <| am Y results18 (ae O ag) ?_
 exact ⟨v, O, trivial, U.ext, St.out (E := [own v 9 1 (keysH.map fun s => [sv s])]) (H := []) U⟩
theorem jE (b d l r : Int) (w0 : World) (hb : 0 ≤ b) (hbd : b < d) (hd : d ≤ 1000000000) (hl : (-9223372036854775808 ≤ l ∧ l ≤ 9223372036854775807)) (hr : (-9223372036854775808 ≤ r ∧ r ≤ 9223372036854775807)) :
  Ret Tryz.prog 82 #[jv b, jv d, jv l, jv r] w0 fun v w => v = .tuple #[jv (b + pickI l (d - b)), jv (d - pickI r (d - (b + pickI l (d - b))))] ∧ Ext No w0 w := by
 refine Ap func82 O ntmps82 (lb O) fun a Y U => ?_
 have hp1 := aX l (n := d - b) om
 refine aa fun _ G1 => nv Y <| yq O <| yq O <| fun a Y => G1 <| aa fun _ G2 => nv Y <| yp O <| yp O <| yp O <| yp O <| yo (bK O O ⟨om, om⟩) <| fun a Y => aw Y U call80 O (dp l (d - b) _ om om) fun a w1 Y U => nv Y <| yo (aM O O ⟨om, om⟩) <| yq O <| fun a Y => G2 ?_
 replace Y := Y.p5 1 3 8 9 10 O
 have hp2 := aX r (n := d - (b + pickI l (d - b))) om
 refine aa fun _ G3 => nv Y <| yp O <| yp O <| yp O <| yp O <| yp O <| yo (bK O O ⟨om, om⟩) <| fun a Y => aw Y U call80 O (dp r (d - (b + (pickI l (d - b)))) _ om om) fun a w2 Y U => nv Y <| yo (bK O O ⟨om, om⟩) <| yq O <| yq O <| fun a Y => G3 ?_
 replace Y := Y.p2 8 9 O
 refine aq <| am Y results82 (ae O (ae O ag)) ?_
 exact ⟨by rfl, U.ext⟩
theorem iX (key : By) (x : Wsh) (w0 : World) (hk : key.length = 32) (hok : x.ok = true) :
  Ret Tryz.prog 83 #[sv key, .agg #[jv x.signer, jv x.holder, jv x.rf, jv x.rt, jv x.carrier, jv x.serial, jv x.sf, jv x.st, sv x.sig]] w0 fun v w => v = .tuple #[.agg #[jv x.signer, jv x.holder, jv x.rf, jv x.rt, jv x.carrier, jv x.serial, jv x.sf, jv x.st, sv (sealH key x.content)], jv 0] ∧ Ext No w0 w := by
 refine Am func83 O ntmps83 (lb O) fun a Y U => aa fun _ G1 => aV Y U O [jv x.signer, jv x.holder, jv x.rf, jv x.rt, jv x.carrier, jv x.serial, jv x.sf, jv x.st, sv x.sig] O fun a w1 Y U => aD Y U (zeroValue90 _) [jv 0, jv 0, jv 0, jv 0, jv 0, jv 0, jv 0, jv 0, .string (⟨#[]⟩)] O fun a w2 Y U => wla Y O fun a Y => G1 <| ah fun _ G2 => aa fun _ G3 => nv Y <| yp O <| yo (bd O O (runUnderlying9 _)) <| yo ((v_ne O O).asb (b' := false) (by simp [hk])) <| yp O <| yr (ap (U.g 1 O) O (isAgg90 _) (sizeOf90 _)) <| fun a Y => aF Y U call135 O (nH x _) fun a w3 Y U => nv Y <| yr (bB O) <| yo (ak O O) <| fun a Y => G3 ?_
 replace Y := Y.p5 0 3 4 5 13 O
 refine bC Y O (fun hc1 => ?_) (fun hc1 => ?_)
 ·try simp only [qz] at hc1
  simp [hok] at hc1
 try simp only [qz] at hc1
 refine ar <| G2 <| aa fun _ G4 => nv Y <| yp O <| yo (ap (U.g 1 O) O (isAgg90 _) (sizeOf90 _)) <| fun a Y => aw Y U call37 O (im x _ (Wsh.smalls_of hok)) fun a w4 Y U => aw Y U call133 O (oF key x.content _ om (zl x.content_len de)) fun a w5 Y U => wlv Y (ac (v := po w0.hz 8) O kr) fun a Y => az 1 Y U [jv x.signer, jv x.holder, jv x.rf, jv x.rt, jv x.carrier, jv x.serial, jv x.sf, jv x.st, sv (sealH key x.content)] O (sizeOf9 _) fun a w6 Y U => G4 ?_
 refine aa fun _ G5 => wlv (Y.p3 3 4 5 O) (ap (U.g 1 O) O (isAgg90 _) (sizeOf90 _)) fun a Y => az 0 Y U [jv x.signer, jv x.holder, jv x.rf, jv x.rt, jv x.carrier, jv x.serial, jv x.sf, jv x.st, sv (sealH key x.content)] O (sizeOf90 _) fun a w7 Y U => wla Y O fun a Y => G5 <| aq <| am Y results83 (ai O (aY (U.g 0 O) (isAgg90 _) (sizeOf90 _)) (ae O ag)) ?_
 exact ⟨by rfl, U.ext⟩
theorem lA (key : By) (x : Pxy) (w0 : World) (hk : key.length = 32) (hok : x.ok = true) :
  Ret Tryz.prog 81 #[sv key, .agg #[jv x.frm, jv x.to, jv x.rf, jv x.rt, jv x.sf, jv x.st, sv x.sig]] w0 fun v w => v = .tuple #[.agg #[jv x.frm, jv x.to, jv x.rf, jv x.rt, jv x.sf, jv x.st, sv (sealH key x.content)], jv 0] ∧ Ext No w0 w := by
 refine Am func81 O ntmps81 (lb O) fun a Y U => aa fun _ G1 => aV Y U O [jv x.frm, jv x.to, jv x.rf, jv x.rt, jv x.sf, jv x.st, sv x.sig] O fun a w1 Y U => aD Y U (zeroValue144 _) [jv 0, jv 0, jv 0, jv 0, jv 0, jv 0, .string (⟨#[]⟩)] O fun a w2 Y U => wla Y O fun a Y => G1 <| ah fun _ G2 => aa fun _ G3 => nv Y <| yp O <| yo (bd O O (runUnderlying9 _)) <| yo ((v_ne O O).asb (b' := false) (by simp [hk])) <| yp O <| yr (ap (U.g 1 O) O (isAgg144 _) (sizeOf144 _)) <| fun a Y => aF Y U call132 O (mG x _) fun a w3 Y U => nv Y <| yr (bB O) <| yo (ak O O) <| fun a Y => G3 ?_
 replace Y := Y.p5 0 3 4 5 13 O
 refine bC Y O (fun hc1 => ?_) (fun hc1 => ?_)
 ·try simp only [qz] at hc1
  simp [hok] at hc1
 try simp only [qz] at hc1
 refine ar <| G2 <| aa fun _ G4 => nv Y <| yp O <| yo (ap (U.g 1 O) O (isAgg144 _) (sizeOf144 _)) <| fun a Y => aw Y U call134 O (ie x _ (Pxy.smalls_of hok)) fun a w4 Y U => aw Y U call133 O (oF key x.content _ om (zl x.content_len de)) fun a w5 Y U => wlv Y (ac (v := po w0.hz 6) O kr) fun a Y => az 1 Y U [jv x.frm, jv x.to, jv x.rf, jv x.rt, jv x.sf, jv x.st, sv (sealH key x.content)] O (sizeOf9 _) fun a w6 Y U => G4 ?_
 refine aa fun _ G5 => wlv (Y.p3 3 4 5 O) (ap (U.g 1 O) O (isAgg144 _) (sizeOf144 _)) fun a Y => az 0 Y U [jv x.frm, jv x.to, jv x.rf, jv x.rt, jv x.sf, jv x.st, sv (sealH key x.content)] O (sizeOf144 _) fun a w7 Y U => wla Y O fun a Y => G5 <| aq <| am Y results81 (ai O (aY (U.g 0 O) (isAgg144 _) (sizeOf144 _)) (ae O ag)) ?_
 exact ⟨by rfl, U.ext⟩
def Pxy.cells (x : Pxy) : List Value := [jv x.frm, jv x.to, jv x.rf, jv x.rt, jv x.sf, jv x.st, sv x.sig]
def Pxy.z : Pxy := ⟨0, 0, 0, 0, 0, 0, []⟩
def Wsh.cells (x : Wsh) : List Value := [jv x.signer, jv x.holder, jv x.rf, jv x.rt, jv x.carrier, jv x.serial, jv x.sf, jv x.st, sv x.sig]
def Cin.cells (y : Cin) : List Value := [jv y.y0, jv y.y1, jv y.y2, jv y.y3, jv y.y4]
def Cin.z : Cin := ⟨0, 0, 0, 0, 0⟩
def i64 (n : Int) : Prop := -9223372036854775808 ≤ n ∧ n ≤ 9223372036854775807
def Cin.wt (y : Cin) : Prop := i64 y.y0 ∧ i64 y.y1 ∧ i64 y.y2 ∧ i64 y.y3 ∧ i64 y.y4
theorem jR : ∀ (l : List Cin) (o : Left) (y : Cin), leftOf o (l ++ [y]) = (leftOf o l).next y
 | [], o, y => rfl
 | x :: l, o, y => jR l (o.next x) y
theorem jC : ∀ (l : List Cin) (o : Left) (y : Cin), pxysOf o (l ++ [y]) = pxysOf o l ++ [(leftOf o l).pxy y]
 | [], o, y => rfl
 | x :: l, o, y => by rw [zn, pxysOf, jC l (o.next x) y]; rfl
theorem o3 {o : Left} (h : o.ok) (holder carrier serial : Int) : (bareW o holder carrier serial).ok = true := by
 obtain ⟨a1, a2, a3, a4, a5, a6, a7, a8⟩ := h
 have h1 := aX holder (n := 10) om
 have h2 := aX carrier (n := 8) om
 have h3 := aX serial (n := 1000) om
 show (Wsh.mk o.who (pickI holder 10) o.rf o.rt (pickI carrier 8) (pickI serial 1000) o.sf o.st []).ok = true
 simp only [Wsh.ok, inB, cy, cZ, yw, yB]
 omega
theorem mh {α : Type} (l : List α) : l.take (min 4 l.length) = l.take 4 := by
 rw [Nat.min_def]
 split
 ·rfl
 ·rw [zA (zb _), zA om]
theorem vU (holder r0 r1 s0 s1 carrier serial : Int) (cv : Value) (ys : List Cin) (w0 : World) (hcv : SlAt w0 cv 5 (ys.map Cin.cells)) (hys : ∀ y ∈ ys, y.wt) (h0 : i64 holder) (h1 : i64 r0) (h2 : i64 r1) (h3 : i64 s0) (h4 : i64 s1) (h5 : i64 carrier) (h6 : i64 serial) :
  Ret Tryz.prog 32 #[.agg #[jv holder, jv r0, jv r1, jv s0, jv s1, jv carrier, jv serial, cv]] w0 (MemR w0 (fun v : Value => .tuple #[.agg (madeW holder r0 r1 s0 s1 carrier serial ys).cells.toArray, v]) (fun v => [own v 144 7 ((madeL holder r0 r1 s0 s1 ys).map Pxy.cells)]) (fun _ => True)) := by
 have hp0 := aX holder (n := 10) om
 have hp1 := aX r0 (n := 10000) om
 have hp2 := aX r1 (n := 1000) om
 have hp3 := aX s0 (n := 10000) om
 have hp4 := aX s1 (n := 1000) om
 have hp5 := aX carrier (n := 8) om
 have hp6 := aX serial (n := 1000) om
 refine An func32 O ntmps32 (lb O) fun a Y U => aa fun _ G1 => aV Y U O [jv holder, jv r0, jv r1, jv s0, jv s1, jv carrier, jv serial, cv] O fun a w1 Y U => aD Y U (zeroValue90 _) [jv 0, jv 0, jv 0, jv 0, jv 0, jv 0, jv 0, jv 0, .string (⟨#[]⟩)] O fun a w2 Y U => wla Y O fun a Y => G1 <| aa fun _ G2 => nv Y <| yo (ac (v := po w0.hz 1) O kr) <| yo (aQ (v := po w0.hz 1) O O kr) <| yo (ld U 1 O O (isAgg3 _) O) <| fun a Y => aw Y U call80 O (dp r0 10000 _ AC om) fun a w3 Y U => wla Y O fun a Y => G2 <| aa fun _ G3 => nv Y <| yp O <| yp O <| yo (aM O O ⟨om, om⟩) <| yo (ac (v := po w0.hz 1) O kr) <| yo (aQ (v := po w0.hz 2) O O kr) <| yo (ld U 1 O O (isAgg3 _) O) <| fun a Y => aw Y U call80 O (dp r1 1000 _ AC om) fun a w4 Y U => nv Y <| yo (aM O O ⟨om, om⟩) <| yo (aW (v := .agg #[jv (pickI r0 10000), jv (((pickI r0 10000) + 1) + (pickI r1 1000))]) O kr) <| fun a Y => aD Y U (zeroValue87 _) [jv 0, jv 0] O fun a w5 Y U => az 0 Y U [jv (pickI r0 10000), jv (((pickI r0 10000) + 1) + (pickI r1 1000))] O (sizeOf87 _) fun a w6 Y U => G3 ?_
 refine aa fun _ G4 => nv (Y.p4 1 2 3 5 O) <| yo (ac (v := po w0.hz 3) O kr) <| yo (aQ (v := po w0.hz 3) O O kr) <| yo (ld U 2 O O (isAgg3 _) O) <| fun a Y => aw Y U call80 O (dp s0 10000 _ AC om) fun a w7 Y U => wla Y O fun a Y => G4 <| aa fun _ G5 => nv Y <| yp O <| yp O <| yo (aM O O ⟨om, om⟩) <| yo (ac (v := po w0.hz 3) O kr) <| yo (aQ (v := po w0.hz 4) O O kr) <| yo (ld U 2 O O (isAgg3 _) O) <| fun a Y => aw Y U call80 O (dp s1 1000 _ AC om) fun a w8 Y U => nv Y <| yo (aM O O ⟨om, om⟩) <| yo (aW (v := .agg #[jv (pickI s0 10000), jv (((pickI s0 10000) + 1) + (pickI s1 1000))]) O kr) <| fun a Y => aD Y U (zeroValue88 _) [jv 0, jv 0] O fun a w9 Y U => az 0 Y U [jv (pickI s0 10000), jv (((pickI s0 10000) + 1) + (pickI s1 1000))] O (sizeOf88 _) fun a w10 Y U => G5 ?_
 refine aa fun _ G6 => nv (Y.p5 1 2 3 5 7 O) <| yo (ac (v := pq w0.hz) O kr) <| yo (ld U 3 O O (isAgg3 _) O) <| fun a Y => aw Y U call80 O (dp holder 10 _ AC om) fun a w11 Y U => wla Y O fun a Y => G6 <| ah fun _ G7 => aH (aI fun w12 hxz => ?_)
 replace U := U.grow hxz
 refine aR (k := 0) 9 [7, 8] Y ?_
 replace Y := Y.p9 1 2 3 5 7 44 45 46 8 O
 refine bJ [8] (fun i => match i with | 8 => pm (fun b : Nat => pq b) (fun b => [blk b [jv 0, jv 0, jv 0, jv 0, jv 0, jv 0, jv 0, jv 0, .string (⟨#[]⟩)] 90]) (fun _ => True) | _ => fun _ _ => False) 9 [[], [], [1], [2], [], [4], [5], [0, 3, 6], []] [jv (pickI holder 10), po w0.hz 5, jv carrier, jv (pickI carrier 8), po w0.hz 6, jv serial, jv (pickI serial 1000), .agg #[jv 0, jv (pickI holder 10), jv 0, jv 0, jv (pickI carrier 8), jv (pickI serial 1000), jv 0, jv 0, .string (⟨#[]⟩)], undef] Y U ?_ ?_ ?_
 ·exact Au <| hqv (ay rfl) <| hqv (ac (v := po w0.hz 5) rfl kr) <| hqw (fun U => ld U 3 rfl rfl (isAgg3 _) rfl) <| As (fun _ _ _ => br call80 rfl (dp carrier 8 _ AC om)) <| hqv (ac (v := po w0.hz 6) rfl kr) <| hqw (fun U => ld U 3 rfl rfl (isAgg3 _) rfl) <| As (fun _ _ _ => br call80 rfl (dp serial 1000 _ AC om)) <| hqv (aW (v := .agg #[jv 0, jv (pickI holder 10), jv 0, jv 0, jv (pickI carrier 8), jv (pickI serial 1000), jv 0, jv 0, .string (⟨#[]⟩)]) rfl kr) <| As (fun h => absurd sm h) <| At
 ·intro i hi
  simp only [yE, yI, y9] at hi
  subst hi
  ·intro w U
   exact gG (zeroValue90 _) (cs := [jv 0, jv 0, jv 0, jv 0, jv 0, jv 0, jv 0, jv 0, .string (⟨#[]⟩)]) O
 clear Y U
 rintro _ _ ⟨b1, rfl, -, rfl⟩ a w13 Y U
 replace Y := Y.p8 54 9 1 2 3 5 7 8 O
 replace U := U.n5 O
 refine ab <| aL (k := 9) 10 [9] ?_
 refine az 0 Y U [jv 0, jv (pickI holder 10), jv 0, jv 0, jv (pickI carrier 8), jv (pickI serial 1000), jv 0, jv 0, .string (⟨#[]⟩)] O (sizeOf90 _) fun a w14 Y U => ab <| aS <| G7 <| aa fun _ G8 => wla (Y.p7 1 2 3 5 7 8 9 O) O fun a Y => G8 <| ah fun _ G9 => aa fun _ G10 => wla Y O fun a Y => G10 <| au ?_
 replace U : St No w0 [own (.slice none 0 0) 144 7 ((pxysOf (cf holder r0 r1 s0 s1) (ys.take 0)).map Pxy.cells), blk b1 [jv 0, jv (pickI holder 10), jv 0, jv 0, jv (pickI carrier 8), jv (pickI serial 1000), jv 0, jv 0, .string (⟨#[]⟩)] 90, blk w8.hz [jv (pickI s0 10000), jv (((pickI s0 10000) + 1) + (pickI s1 1000))] 88, blk w4.hz [jv (pickI r0 10000), jv (((pickI r0 10000) + 1) + (pickI r1 1000))] 87, blk w1.hz [jv 0, jv 0, jv 0, jv 0, jv 0, jv 0, jv 0, jv 0, .string (⟨#[]⟩)] 90, blk w0.hz [jv holder, jv r0, jv r1, jv s0, jv s1, jv carrier, jv serial, cv] 84] w14 := U.nil_own
 refine aZ (fun m a w => ∃ (k : Nat) (o : Left) (v : Value), m = 4 - k ∧ (k ≤ min 4 ys.length) ∧ (leftOf (cf holder r0 r1 s0 s1) (ys.take k) = o) ∧ (o.ok) ∧ Fr 138 [(1, pq w0.hz), (2, pq w1.hz), (3, .slice none 0 0), (5, pq w4.hz), (7, pq w8.hz), (9, pq b1), (8, jv o.who), (10, v), (11, jv (k : Int))] [] a ∧ St No w0 [blk w0.hz [jv holder, jv r0, jv r1, jv s0, jv s1, jv carrier, jv serial, cv] 84, blk w1.hz [jv 0, jv 0, jv 0, jv 0, jv 0, jv 0, jv 0, jv 0, .string (⟨#[]⟩)] 90, blk w4.hz [jv o.rf, jv o.rt] 87, blk w8.hz [jv o.sf, jv o.st] 88, blk b1 [jv 0, jv (pickI holder 10), jv 0, jv 0, jv (pickI carrier 8), jv (pickI serial 1000), jv 0, jv 0, .string (⟨#[]⟩)] 90, own v 144 7 ((pxysOf (cf holder r0 r1 s0 s1) (ys.take k)).map Pxy.cells)] w) _ ⟨0, (cf holder r0 r1 s0 s1), .slice none 0 0, O, (yQ _), O, gT _ _ _ _ _, Y.pick [1, 2, 3, 5, 7, 9, 8, 10, 11], U.select [5, 4, 3, 2, 1, 0] de⟩ ?_
 rintro _ a w15 ⟨k, o, v, rfl, hk, ho, hok, Y, U⟩
 refine ah fun _ G11 => aa fun _ G12 => nv Y <| yp O <| yo (ac (v := po w0.hz 7) O kr) <| yo (ld U 0 O O (isAgg82 _) O) <| yo ((aO (sT := 82) (U.arg hcv) O O (runUnderlying82 _)).asi (m' := (ys.length : Int)) AO) <| yo (v_lt O O) <| yp O <| fun a Y => ?_
 rcases Decidable.em ((k : Int) < (ys.length : Int)) with hb2 | hb2
 ·rw [yy hb2] at Y
  have hky : k < ys.length := by omega
  obtain ⟨y, hy⟩ : ∃ y, ys.getD k Cin.z = y := ⟨_, rfl⟩
  obtain ⟨hy0, hy1, hy2, hy3, hy4⟩ : y.wt := by rw [← hy]; exact hys _ (bD hky)
  obtain ⟨ho1, ho2, ho3, ho4, ho5, ho6, ho7, ho8⟩ := id hok
  have hp9 := aX y.y0 (n := 9) om
  refine nv Y <| yr (ay O) <| yr (v_lt O O) <| yo (ax O O) <| fun a Y => G12 ?_
  replace Y := Y.p10 1 2 3 5 7 9 8 10 11 63 O
  refine aA Y O (fun hc3 => ?_) (fun hc3 => ?_)
  ·refine ar <| G11 <| ah fun _ G13 => au <| aa fun _ G14 => nv Y <| yo (ac (v := po w0.hz 7) O kr) <| yo (ld U 0 O O (isAgg82 _) O) <| yp O <| yo ((aj (i := (k : Int)) (sT := 82) (U.arg hcv) O O (runUnderlying82 _) (sizeOf142 _) om (by rw [yu]; exact hky)).as (v' := slAddr cv (k * 5)) O) <| yo ((bP (U.arg hcv) (i := k) (by rw [yu]; exact hky) O (isAgg142 _) (sizeOf142 _)).as (v' := .agg #[jv y.y0, jv y.y1, jv y.y2, jv y.y3, jv y.y4]) (by rw [bf Cin.z, hy]; rfl)) <| fun a Y => aD Y U (zeroValue142 _) [jv 0, jv 0, jv 0, jv 0, jv 0] O fun a w16 Y U => az 0 Y U [jv y.y0, jv y.y1, jv y.y2, jv y.y3, jv y.y4] O (sizeOf142 _) fun a w17 Y U => G14 ?_
   replace Y := Y.p10 1 2 3 5 7 9 8 10 11 12 O
   refine ah fun _ G15 => aH (aI fun w18 hxz => ?_)
   replace U := U.grow hxz
   refine aR (k := 0) 12 [10, 11] Y ?_
   replace Y := Y.p10 1 2 3 5 7 9 8 10 11 12 O
   refine bJ [11] (fun i => match i with | 11 => pm (fun b : Nat => pq b) (fun b => [blk b [jv 0, jv 0, jv 0, jv 0, jv 0, jv 0, .string (⟨#[]⟩)] 144]) (fun _ => True) | _ => fun _ _ => False) 12 [[], [], [1], [], [3], [4], [2, 5], [6], [], [], [0, 7, 8, 9], []] [jv o.who, jv o.who, jv (o.who + 1), pq w15.hz, jv y.y0, jv (pickI y.y0 9), jv ((o.who + 1) + (pickI y.y0 9)), jv (((o.who + 1) + (pickI y.y0 9)) % 10), .agg #[jv o.rf, jv o.rt], .agg #[jv o.sf, jv o.st], .agg #[jv o.who, jv (((o.who + 1) + (pickI y.y0 9)) % 10), jv o.rf, jv o.rt, jv o.sf, jv o.st, .string (⟨#[]⟩)], undef] Y U ?_ ?_ ?_
   ·exact Au <| hqv (ay rfl) <| hqv (ay rfl) <| hqv (aM rfl rfl ⟨om, om⟩) <| hqv (aQ (v := pq w15.hz) rfl rfl kr) <| hqw (fun U => ld U 0 rfl rfl (isAgg3 _) rfl) <| As (fun _ _ _ => br call80 rfl (dp y.y0 9 _ AC om)) <| hqv (aM rfl rfl ⟨om, om⟩) <| hqv (fi rfl rfl om om) <| hqw (fun U => ap (U.g 3 rfl) rfl (isAgg87 _) (sizeOf87 _)) <| hqw (fun U => ap (U.g 4 rfl) rfl (isAgg88 _) (sizeOf88 _)) <| hqv (aW (v := .agg #[jv o.who, jv (((o.who + 1) + (pickI y.y0 9)) % 10), jv o.rf, jv o.rt, jv o.sf, jv o.st, .string (⟨#[]⟩)]) rfl kr) <| As (fun h => absurd sm h) <| At
   ·intro i hi
    simp only [yE, yI, y9] at hi
    subst hi
    ·intro w U
     exact gG (zeroValue144 _) (cs := [jv 0, jv 0, jv 0, jv 0, jv 0, jv 0, .string (⟨#[]⟩)]) O
   clear Y U
   rintro _ _ ⟨b4, rfl, -, rfl⟩ a w19 Y U
   replace Y := Y.p12 81 13 1 2 3 5 7 9 8 10 11 12 O
   replace U := U.n8 O
   refine ab <| aL (k := 12) 13 [12] ?_
   refine az 0 Y U [jv o.who, jv (((o.who + 1) + (pickI y.y0 9)) % 10), jv o.rf, jv o.rt, jv o.sf, jv o.st, .string (⟨#[]⟩)] O (sizeOf144 _) fun a w20 Y U => ab <| aS <| G15 ?_
   replace Y := Y.p11 1 2 3 5 7 9 8 10 11 12 13 O
   refine ah fun _ G16 => aH (aI fun w21 hxz => ?_)
   replace U := U.grow hxz
   refine aR (k := 0) 9 [6, 8] Y ?_
   replace Y := Y.p11 1 2 3 5 7 9 8 10 11 12 13 O
   refine ef 7 8 144 [jv 0, jv 0, jv 0, jv 0, jv 0, jv 0, .string (⟨#[]⟩)] [jv o.who, jv ((o.who + 1 + pickI y.y0 9) % 10), jv o.rf, jv o.rt, jv o.sf, jv o.st, sv (sealH (keyH o.who) (o.bare y).content)] 9 [[], [0], [], [1, 2], [3], [4], [4], [], [5, 7]] (fun i => match i with | 0 => pv (jv o.who) | 1 => pv (sv (keyH o.who)) | 2 => pv (.agg #[jv o.who, jv (((o.who + 1) + (pickI y.y0 9)) % 10), jv o.rf, jv o.rt, jv o.sf, jv o.st, .string (⟨#[]⟩)]) | 3 => pv (.tuple #[.agg #[jv o.who, jv ((o.who + 1 + pickI y.y0 9) % 10), jv o.rf, jv o.rt, jv o.sf, jv o.st, sv (sealH (keyH o.who) (o.bare y).content)], jv 0]) | 4 => pv (.tuple #[.agg #[jv o.who, jv ((o.who + 1 + pickI y.y0 9) % 10), jv o.rf, jv o.rt, jv o.sf, jv o.st, sv (sealH (keyH o.who) (o.bare y).content)], jv 0]) | 5 => pv (.agg #[jv o.who, jv ((o.who + 1 + pickI y.y0 9) % 10), jv o.rf, jv o.rt, jv o.sf, jv o.st, sv (sealH (keyH o.who) (o.bare y).content)]) | 6 => pv (jv 0) | 7 => fun v E => ∃ b, v = ptr b ∧ E = [] | 8 => fun v E => v = undef ∧ E = [] | _ => fun _ _ => False) Y (H := [blk b4 [jv o.who, jv (((o.who + 1) + (pickI y.y0 9)) % 10), jv o.rf, jv o.rt, jv o.sf, jv o.st, .string (⟨#[]⟩)] 144, blk w15.hz [jv y.y0, jv y.y1, jv y.y2, jv y.y3, jv y.y4] 142, blk w0.hz [jv holder, jv r0, jv r1, jv s0, jv s1, jv carrier, jv serial, cv] 84, blk w1.hz [jv 0, jv 0, jv 0, jv 0, jv 0, jv 0, jv 0, jv 0, .string (⟨#[]⟩)] 90, blk w4.hz [jv o.rf, jv o.rt] 87, blk w8.hz [jv o.sf, jv o.st] 88, blk b1 [jv 0, jv (pickI holder 10), jv 0, jv 0, jv (pickI carrier 8), jv (pickI serial 1000), jv 0, jv 0, .string (⟨#[]⟩)] 90, own v 144 7 ((pxysOf (cf holder r0 r1 s0 s1) (ys.take k)).map Pxy.cells)]) U kr kr kr kr de de de de de ?_ (fun v E h => h) ⟨O, O⟩ (fun v E => Iff.rfl) ?_ ?_ ?_ ?_
   ·intro i v E h
    match i, h with
    | 0, _ => exact by decide
    | 1, _ => exact by decide
    | 2, _ => exact by decide
    | 3, _ => exact by decide
    | 4, _ => exact by decide
    | 5, _ => exact by decide
    | 6, _ => exact by decide
    | 7, _ => exact by decide
    | 8, _ => exact by decide
    | i + 9, h => exact h.elim
   ·intro i hi hia hij e
    match i, hi, hia, hij with
    | 0, _, _, _ => exact fun w U => OpV.g (ay O)
    | 1, _, _, _ =>
     rintro _ _ ⟨rfl, rfl⟩
     intro w U
     exact br call33 O (je o.who _)
    | 2, _, _, _ => exact fun w U => OpV.g (ap (U.g 1 O) O (isAgg144 _) (sizeOf144 _))
    | 3, _, _, _ =>
     rintro _ _ ⟨rfl, rfl⟩ _ _ ⟨rfl, rfl⟩
     intro w U
     exact br call81 O (lA (keyH o.who) (o.bare y) _ (fV _) (Left.pxy_ok hok y))
    | 4, _, _, _ =>
     rintro _ _ ⟨rfl, rfl⟩
     intro w U
     exact OpV.g (ay O)
    | 5, _, _, _ =>
     rintro _ _ ⟨rfl, rfl⟩
     intro w U
     exact OpV.g (ao O O)
    | 6, _, _, _ =>
     rintro _ _ ⟨rfl, rfl⟩
     intro w U
     exact OpV.g (ao O O)
    | 7, _, h, _ => exact absurd O h
    | 8, _, _, h => exact absurd O h
   ·exact fun Lv w => eq (zeroValue144 _)
   ·rintro _ _ ⟨rfl, rfl⟩ _ _ ⟨b5, rfl, rfl⟩
    intro b hb w h
    have hb : some (ptr b5) = some (ptr b) := hb
    cases hb
    exact dE O O h (sizeOf144 _) O (lb O) O
   clear Y U
   rintro bq _ _ ⟨⟨rfl, rfl⟩, -⟩ _ _ ⟨⟨rfl, rfl⟩, -⟩ _ _ ⟨⟨rfl, rfl⟩, -⟩ _ _ ⟨⟨rfl, rfl⟩, -⟩ _ _ ⟨⟨rfl, rfl⟩, -⟩ _ _ ⟨⟨rfl, rfl⟩, -⟩ _ _ ⟨⟨rfl, rfl⟩, -⟩ _ _ ⟨⟨b5, rfl, rfl⟩, hva⟩ a w22 Y U
   obtain rfl : b5 = bq := fO (hva rfl)
   replace Y : Fr 138 [(83, _), (84, _), (85, _), (86, _), (82, _), (87, _), (88, _), (14, _), (1, _), (2, _), (3, _), (5, _), (7, _), (9, _), (8, _), (10, _), (11, _), (12, _), (13, _)] [] a := Y
   try dsimp only at U
   replace U := U.n9 O
   refine ab <| aL (k := 9) 10 [9] ?_
   refine wla Y O fun a Y => ab <| aS <| G16 <| aa fun _ G17 => nv (Y.p11 1 2 3 5 7 9 10 11 12 13 14 O) <| yp O <| yo (ap (U.g 0 O) O (isAgg144 _) (sizeOf144 _)) <| fun a Y => aE (E := 144) (sz := 7) O [[jv o.who, jv ((o.who + 1 + pickI y.y0 9) % 10), jv o.rf, jv o.rt, jv o.sf, jv o.st, sv (sealH (keyH o.who) (o.bare y).content)]] kr sm O de de Y U fun a w23 Y U => ba (i := 9) (sT := 91) (inf := Tryz.t144) (z := .agg #[jv 0, jv 0, jv 0, jv 0, jv 0, jv 0, .string (⟨#[]⟩)]) (b := 0) (off := 0) (m := 0) (c := 0) O O O (U.ow 0 O) sm underlying91 O O O O de Az Cb Cb de Y U fun a w24 s6 Y U _ => ?_
   rw [show ((pxysOf (cf holder r0 r1 s0 s1) (ys.take k)).map Pxy.cells) ++ ([[jv o.who, jv ((o.who + 1 + pickI y.y0 9) % 10), jv o.rf, jv o.rt, jv o.sf, jv o.st, sv (sealH (keyH o.who) (o.bare y).content)]]) = ((pxysOf (cf holder r0 r1 s0 s1) (ys.take (k + 1))).map Pxy.cells) from by rw [cF Cin.z hky, jC, ho, hy, zu]; rfl] at U
   refine wla Y O fun a Y => G17 <| aa fun _ G18 => nv Y <| yo (ac (v := po b4 1) O kr) <| yo (ld U 2 O O (isAgg3 _) O) <| yq O <| fun a Y => G18 ?_
   replace U := U.k7 1016 O
   refine aa fun _ G19 => nv (Y.p10 1 2 3 5 7 9 11 12 10 8 O) <| yo (ac (v := pq w4.hz) O kr) <| yo (ld U 3 O O (isAgg3 _) O) <| yo (ac (v := po w4.hz 1) O kr) <| yo (ld U 3 O O (isAgg3 _) O) <| yo (aQ (v := po w15.hz 1) O O kr) <| yo (ld U 0 O O (isAgg3 _) O) <| yo (aQ (v := po w15.hz 2) O O kr) <| yo (ld U 0 O O (isAgg3 _) O) <| fun a Y => aw Y U call82 O (jE o.rf o.rt y.y1 y.y2 _ om om om Ay Ay) fun a w25 Y U => nv Y <| yp O <| yo (ao O O) <| yo (ao O O) <| yo (ac (v := pq w4.hz) O kr) <| fun a Y => az 3 Y U [jv (o.rf + pickI y.y1 (o.rt - o.rf)), jv o.rt] O (sizeOf3 _) fun a w26 Y U => wlv Y (ac (v := po w4.hz 1) O kr) fun a Y => az 3 Y U [jv (o.rf + pickI y.y1 (o.rt - o.rf)), jv (o.rt - pickI y.y2 (o.rt - (o.rf + pickI y.y1 (o.rt - o.rf))))] O (sizeOf3 _) fun a w27 Y U => G19 ?_
   refine al <| nv (Y.p10 1 2 3 5 7 9 11 12 10 8 O) <| yo (ac (v := pq w8.hz) O kr) <| yo (ld U 4 O O (isAgg3 _) O) <| yo (ac (v := po w8.hz 1) O kr) <| yo (ld U 4 O O (isAgg3 _) O) <| yo (aQ (v := po w15.hz 3) O O kr) <| yo (ld U 0 O O (isAgg3 _) O) <| yo (aQ (v := po w15.hz 4) O O kr) <| yo (ld U 0 O O (isAgg3 _) O) <| fun a Y => aw Y U call82 O (jE o.sf o.st y.y3 y.y4 _ om om om Ay Ay) fun a w28 Y U => nv Y <| yp O <| yo (ao O O) <| yo (ao O O) <| yo (ac (v := pq w8.hz) O kr) <| fun a Y => az 4 Y U [jv (o.sf + pickI y.y3 (o.st - o.sf)), jv o.st] O (sizeOf3 _) fun a w29 Y U => wlv Y (ac (v := po w8.hz 1) O kr) fun a Y => az 4 Y U [jv (o.sf + pickI y.y3 (o.st - o.sf)), jv (o.st - pickI y.y4 (o.st - (o.sf + pickI y.y3 (o.st - o.sf))))] O (sizeOf3 _) fun a w30 Y U => ab <| G13 ?_
   replace U := U.k6 126 O
   refine al <| nv (Y.p9 1 2 3 5 7 9 11 10 8 O) <| yp O <| yo (aM O O ⟨om, om⟩) <| yq O <| fun a Y => ab ?_
   refine ⟨_, ?_, k + 1, o.next y, s6, O, om, (by rw [cF Cin.z hky, jR, ho, hy]), (Left.next_ok hok y).1, Y.pick [1, 2, 3, 5, 7, 9, 8, 10, 11], U.select [0, 1, 2, 3, 4, 5] de⟩
   omega
  refine aP <| G9 ?_
  obtain ⟨ho1, ho2, ho3, ho4, ho5, ho6, ho7, ho8⟩ := id hok
  have hwok := o3 hok holder carrier serial
  have hkm : k = min 4 ys.length := by omega
  have hk4 : ys.take k = ys.take 4 := by rw [hkm]; exact mh ys
  refine aa fun _ G20 => nv Y <| yp O <| yo (ac (v := pq b1) O kr) <| fun a Y => az 4 Y U [jv o.who, jv (pickI holder 10), jv 0, jv 0, jv (pickI carrier 8), jv (pickI serial 1000), jv 0, jv 0, .string (⟨#[]⟩)] O (sizeOf3 _) fun a w31 Y U => G20 <| aa fun _ G21 => nv Y <| yo (ap (U.g 2 O) O (isAgg87 _) (sizeOf87 _)) <| yo (ac (v := po b1 2) O kr) <| fun a Y => az 4 Y U [jv o.who, jv (pickI holder 10), jv o.rf, jv o.rt, jv (pickI carrier 8), jv (pickI serial 1000), jv 0, jv 0, .string (⟨#[]⟩)] O (sizeOf87 _) fun a w32 Y U => G21 ?_
  replace U := U.k4 58 O
  refine aa fun _ G22 => nv (Y.p6 2 3 7 9 8 10 O) <| yo (ap (U.g 1 O) O (isAgg88 _) (sizeOf88 _)) <| yo (ac (v := po b1 6) O kr) <| fun a Y => az 2 Y U [jv o.who, jv (pickI holder 10), jv o.rf, jv o.rt, jv (pickI carrier 8), jv (pickI serial 1000), jv o.sf, jv o.st, .string (⟨#[]⟩)] O (sizeOf88 _) fun a w33 Y U => G22 <| ah fun _ G23 => aH (aI fun w34 hxz => ?_)
  replace U := U.grow hxz
  refine aR (k := 0) 9 [6, 8] Y ?_
  replace Y := Y.p8 2 3 7 9 8 10 127 128 O
  refine ef 7 8 90 [jv 0, jv 0, jv 0, jv 0, jv 0, jv 0, jv 0, jv 0, .string (⟨#[]⟩)] [jv o.who, jv (pickI holder 10), jv o.rf, jv o.rt, jv (pickI carrier 8), jv (pickI serial 1000), jv o.sf, jv o.st, sv (sealH (keyH o.who) (bareW o holder carrier serial).content)] 9 [[], [0], [], [1, 2], [3], [4], [4], [], [5, 7]] (fun i => match i with | 0 => pv (jv o.who) | 1 => pv (sv (keyH o.who)) | 2 => pv (.agg #[jv o.who, jv (pickI holder 10), jv o.rf, jv o.rt, jv (pickI carrier 8), jv (pickI serial 1000), jv o.sf, jv o.st, .string (⟨#[]⟩)]) | 3 => pv (.tuple #[.agg #[jv o.who, jv (pickI holder 10), jv o.rf, jv o.rt, jv (pickI carrier 8), jv (pickI serial 1000), jv o.sf, jv o.st, sv (sealH (keyH o.who) (bareW o holder carrier serial).content)], jv 0]) | 4 => pv (.tuple #[.agg #[jv o.who, jv (pickI holder 10), jv o.rf, jv o.rt, jv (pickI carrier 8), jv (pickI serial 1000), jv o.sf, jv o.st, sv (sealH (keyH o.who) (bareW o holder carrier serial).content)], jv 0]) | 5 => pv (.agg #[jv o.who, jv (pickI holder 10), jv o.rf, jv o.rt, jv (pickI carrier 8), jv (pickI serial 1000), jv o.sf, jv o.st, sv (sealH (keyH o.who) (bareW o holder carrier serial).content)]) | 6 => pv (jv 0) | 7 => fun v E => ∃ b, v = ptr b ∧ E = [] | 8 => fun v E => v = undef ∧ E = [] | _ => fun _ _ => False) Y (H := [blk w1.hz [jv 0, jv 0, jv 0, jv 0, jv 0, jv 0, jv 0, jv 0, .string (⟨#[]⟩)] 90, blk w8.hz [jv o.sf, jv o.st] 88, blk b1 [jv o.who, jv (pickI holder 10), jv o.rf, jv o.rt, jv (pickI carrier 8), jv (pickI serial 1000), jv o.sf, jv o.st, .string (⟨#[]⟩)] 90, own v 144 7 ((pxysOf (cf holder r0 r1 s0 s1) (ys.take k)).map Pxy.cells)]) U kr kr kr kr de de de de de ?_ (fun v E h => h) ⟨O, O⟩ (fun v E => Iff.rfl) ?_ ?_ ?_ ?_
  ·intro i v E h
   match i, h with
   | 0, _ => exact by decide
   | 1, _ => exact by decide
   | 2, _ => exact by decide
   | 3, _ => exact by decide
   | 4, _ => exact by decide
   | 5, _ => exact by decide
   | 6, _ => exact by decide
   | 7, _ => exact by decide
   | 8, _ => exact by decide
   | i + 9, h => exact h.elim
  ·intro i hi hia hij e
   match i, hi, hia, hij with
   | 0, _, _, _ => exact fun w U => OpV.g (ay O)
   | 1, _, _, _ =>
    rintro _ _ ⟨rfl, rfl⟩
    intro w U
    exact br call33 O (je o.who _)
   | 2, _, _, _ => exact fun w U => OpV.g (ap (U.g 3 O) O (isAgg90 _) (sizeOf90 _))
   | 3, _, _, _ =>
    rintro _ _ ⟨rfl, rfl⟩ _ _ ⟨rfl, rfl⟩
    intro w U
    exact br call83 O (iX (keyH o.who) (bareW o holder carrier serial) _ (fV _) hwok)
   | 4, _, _, _ =>
    rintro _ _ ⟨rfl, rfl⟩
    intro w U
    exact OpV.g (ay O)
   | 5, _, _, _ =>
    rintro _ _ ⟨rfl, rfl⟩
    intro w U
    exact OpV.g (ao O O)
   | 6, _, _, _ =>
    rintro _ _ ⟨rfl, rfl⟩
    intro w U
    exact OpV.g (ao O O)
   | 7, _, h, _ => exact absurd O h
   | 8, _, _, h => exact absurd O h
  ·exact fun Lv w => eq (zeroValue90 _)
  ·rintro _ _ ⟨rfl, rfl⟩ _ _ ⟨b7, rfl, rfl⟩
   intro b hb w h
   have hb : some (ptr b7) = some (ptr b) := hb
   cases hb
   exact dE O O h (sizeOf90 _) O (lb O) O
  clear Y U
  rintro bq _ _ ⟨⟨rfl, rfl⟩, -⟩ _ _ ⟨⟨rfl, rfl⟩, -⟩ _ _ ⟨⟨rfl, rfl⟩, -⟩ _ _ ⟨⟨rfl, rfl⟩, -⟩ _ _ ⟨⟨rfl, rfl⟩, -⟩ _ _ ⟨⟨rfl, rfl⟩, -⟩ _ _ ⟨⟨rfl, rfl⟩, -⟩ _ _ ⟨⟨b7, rfl, rfl⟩, hva⟩ a w35 Y U
  obtain rfl : b7 = bq := fO (hva rfl)
  replace Y := Y.p16 130 131 132 133 129 134 135 16 2 3 7 9 8 10 127 128 O
  try dsimp only at U
  replace U := U.n5 O
  refine ab <| aL (k := 9) 10 [9] ?_
  refine wla Y O fun a Y => ab <| aS <| G23 ?_
  replace U := U.k3 19 O
  refine aa fun _ G24 => nv (Y.p4 2 3 10 16 O) <| yo (ap (U.g 0 O) O (isAgg90 _) (sizeOf90 _)) <| yp O <| fun a Y => az 1 Y U [jv o.who, jv (pickI holder 10), jv o.rf, jv o.rt, jv (pickI carrier 8), jv (pickI serial 1000), jv o.sf, jv o.st, sv (sealH (keyH o.who) (bareW o holder carrier serial).content)] O (sizeOf90 _) fun a w36 Y U => wla Y O fun a Y => G24 <| aq <| am Y results32 (ai O (aY (U.g 1 O) (isAgg90 _) (sizeOf90 _)) (ae O ag)) ?_
  rw [hk4] at U ho
  subst ho
  exact ⟨v, O, trivial, U.ext, St.out (E := [own v 144 7 ((madeL holder r0 r1 s0 s1 ys).map Pxy.cells)]) (H := []) (U.select [2] de)⟩
 rw [yD hb2] at Y
 refine nv Y <| yt <| yt <| yo (ak O O) <| fun a Y => G12 ?_
 replace Y := Y.p10 1 2 3 5 7 9 8 10 11 63 O
 refine aJ Y O ?_
 refine aP <| G9 ?_
 obtain ⟨ho1, ho2, ho3, ho4, ho5, ho6, ho7, ho8⟩ := id hok
 have hwok := o3 hok holder carrier serial
 have hkm : k = min 4 ys.length := by omega
 have hk4 : ys.take k = ys.take 4 := by rw [hkm]; exact mh ys
 refine aa fun _ G25 => nv Y <| yp O <| yo (ac (v := pq b1) O kr) <| fun a Y => az 4 Y U [jv o.who, jv (pickI holder 10), jv 0, jv 0, jv (pickI carrier 8), jv (pickI serial 1000), jv 0, jv 0, .string (⟨#[]⟩)] O (sizeOf3 _) fun a w37 Y U => G25 <| aa fun _ G26 => nv Y <| yo (ap (U.g 2 O) O (isAgg87 _) (sizeOf87 _)) <| yo (ac (v := po b1 2) O kr) <| fun a Y => az 4 Y U [jv o.who, jv (pickI holder 10), jv o.rf, jv o.rt, jv (pickI carrier 8), jv (pickI serial 1000), jv 0, jv 0, .string (⟨#[]⟩)] O (sizeOf87 _) fun a w38 Y U => G26 ?_
 replace U := U.k4 58 O
 refine aa fun _ G27 => nv (Y.p6 2 3 7 9 8 10 O) <| yo (ap (U.g 1 O) O (isAgg88 _) (sizeOf88 _)) <| yo (ac (v := po b1 6) O kr) <| fun a Y => az 2 Y U [jv o.who, jv (pickI holder 10), jv o.rf, jv o.rt, jv (pickI carrier 8), jv (pickI serial 1000), jv o.sf, jv o.st, .string (⟨#[]⟩)] O (sizeOf88 _) fun a w39 Y U => G27 <| ah fun _ G28 => aH (aI fun w40 hxz => ?_)
 replace U := U.grow hxz
 refine aR (k := 0) 9 [6, 8] Y ?_
 replace Y := Y.p8 2 3 7 9 8 10 127 128 O
 refine ef 7 8 90 [jv 0, jv 0, jv 0, jv 0, jv 0, jv 0, jv 0, jv 0, .string (⟨#[]⟩)] [jv o.who, jv (pickI holder 10), jv o.rf, jv o.rt, jv (pickI carrier 8), jv (pickI serial 1000), jv o.sf, jv o.st, sv (sealH (keyH o.who) (bareW o holder carrier serial).content)] 9 [[], [0], [], [1, 2], [3], [4], [4], [], [5, 7]] (fun i => match i with | 0 => pv (jv o.who) | 1 => pv (sv (keyH o.who)) | 2 => pv (.agg #[jv o.who, jv (pickI holder 10), jv o.rf, jv o.rt, jv (pickI carrier 8), jv (pickI serial 1000), jv o.sf, jv o.st, .string (⟨#[]⟩)]) | 3 => pv (.tuple #[.agg #[jv o.who, jv (pickI holder 10), jv o.rf, jv o.rt, jv (pickI carrier 8), jv (pickI serial 1000), jv o.sf, jv o.st, sv (sealH (keyH o.who) (bareW o holder carrier serial).content)], jv 0]) | 4 => pv (.tuple #[.agg #[jv o.who, jv (pickI holder 10), jv o.rf, jv o.rt, jv (pickI carrier 8), jv (pickI serial 1000), jv o.sf, jv o.st, sv (sealH (keyH o.who) (bareW o holder carrier serial).content)], jv 0]) | 5 => pv (.agg #[jv o.who, jv (pickI holder 10), jv o.rf, jv o.rt, jv (pickI carrier 8), jv (pickI serial 1000), jv o.sf, jv o.st, sv (sealH (keyH o.who) (bareW o holder carrier serial).content)]) | 6 => pv (jv 0) | 7 => fun v E => ∃ b, v = ptr b ∧ E = [] | 8 => fun v E => v = undef ∧ E = [] | _ => fun _ _ => False) Y (H := [blk w1.hz [jv 0, jv 0, jv 0, jv 0, jv 0, jv 0, jv 0, jv 0, .string (⟨#[]⟩)] 90, blk w8.hz [jv o.sf, jv o.st] 88, blk b1 [jv o.who, jv (pickI holder 10), jv o.rf, jv o.rt, jv (pickI carrier 8), jv (pickI serial 1000), jv o.sf, jv o.st, .string (⟨#[]⟩)] 90, own v 144 7 ((pxysOf (cf holder r0 r1 s0 s1) (ys.take k)).map Pxy.cells)]) U kr kr kr kr de de de de de ?_ (fun v E h => h) ⟨O, O⟩ (fun v E => Iff.rfl) ?_ ?_ ?_ ?_
 ·intro i v E h
  match i, h with
  | 0, _ => exact by decide
  | 1, _ => exact by decide
  | 2, _ => exact by decide
  | 3, _ => exact by decide
  | 4, _ => exact by decide
  | 5, _ => exact by decide
  | 6, _ => exact by decide
  | 7, _ => exact by decide
  | 8, _ => exact by decide
  | i + 9, h => exact h.elim
 ·intro i hi hia hij e
  match i, hi, hia, hij with
  | 0, _, _, _ => exact fun w U => OpV.g (ay O)
  | 1, _, _, _ =>
   rintro _ _ ⟨rfl, rfl⟩
   intro w U
   exact br call33 O (je o.who _)
  | 2, _, _, _ => exact fun w U => OpV.g (ap (U.g 3 O) O (isAgg90 _) (sizeOf90 _))
  | 3, _, _, _ =>
   rintro _ _ ⟨rfl, rfl⟩ _ _ ⟨rfl, rfl⟩
   intro w U
   exact br call83 O (iX (keyH o.who) (bareW o holder carrier serial) _ (fV _) hwok)
  | 4, _, _, _ =>
   rintro _ _ ⟨rfl, rfl⟩
   intro w U
   exact OpV.g (ay O)
  | 5, _, _, _ =>
   rintro _ _ ⟨rfl, rfl⟩
   intro w U
   exact OpV.g (ao O O)
  | 6, _, _, _ =>
   rintro _ _ ⟨rfl, rfl⟩
   intro w U
   exact OpV.g (ao O O)
  | 7, _, h, _ => exact absurd O h
  | 8, _, _, h => exact absurd O h
 ·exact fun Lv w => eq (zeroValue90 _)
 ·rintro _ _ ⟨rfl, rfl⟩ _ _ ⟨b8, rfl, rfl⟩
  intro b hb w h
  have hb : some (ptr b8) = some (ptr b) := hb
  cases hb
  exact dE O O h (sizeOf90 _) O (lb O) O
 clear Y U
 rintro bq _ _ ⟨⟨rfl, rfl⟩, -⟩ _ _ ⟨⟨rfl, rfl⟩, -⟩ _ _ ⟨⟨rfl, rfl⟩, -⟩ _ _ ⟨⟨rfl, rfl⟩, -⟩ _ _ ⟨⟨rfl, rfl⟩, -⟩ _ _ ⟨⟨rfl, rfl⟩, -⟩ _ _ ⟨⟨rfl, rfl⟩, -⟩ _ _ ⟨⟨b8, rfl, rfl⟩, hva⟩ a w41 Y U
 obtain rfl : b8 = bq := fO (hva rfl)
 replace Y := Y.p16 130 131 132 133 129 134 135 16 2 3 7 9 8 10 127 128 O
 try dsimp only at U
 replace U := U.n5 O
 refine ab <| aL (k := 9) 10 [9] ?_
 refine wla Y O fun a Y => ab <| aS <| G28 ?_
 replace U := U.k3 19 O
 refine aa fun _ G29 => nv (Y.p4 2 3 10 16 O) <| yo (ap (U.g 0 O) O (isAgg90 _) (sizeOf90 _)) <| yp O <| fun a Y => az 1 Y U [jv o.who, jv (pickI holder 10), jv o.rf, jv o.rt, jv (pickI carrier 8), jv (pickI serial 1000), jv o.sf, jv o.st, sv (sealH (keyH o.who) (bareW o holder carrier serial).content)] O (sizeOf90 _) fun a w42 Y U => wla Y O fun a Y => G29 <| aq <| am Y results32 (ai O (aY (U.g 1 O) (isAgg90 _) (sizeOf90 _)) (ae O ag)) ?_
 rw [hk4] at U ho
 subst ho
 exact ⟨v, O, trivial, U.ext, St.out (E := [own v 144 7 ((madeL holder r0 r1 s0 s1 ys).map Pxy.cells)]) (H := []) (U.select [2] de)⟩
theorem cD {P : Program} {w : World} {d : Nat} {xs ys : Array Value} {f : Field} {fs : List Field} {a b : Value} {r r' : Bool} (hn : f.name ≠ "_") (h1 : (part f.type xs f.offset).run P w = .ok a w) (h2 : (part f.type ys f.offset).run P w = .ok b w)
  (h3 : (Op.equalIn d f.type a b).run P w = .ok r w) (h4 : (Op.eqFields d xs ys fs).run P w = .ok r' w) : (Op.eqFields d xs ys (f :: fs)).run P w = .ok (r && r') w := by
 simp only [Op.eqFields, hn, ne_eq, not_false_eq_true, if_true, y7, h1, h2, h3, yP]
 cases r
 ·simp
 ·simpa using h4
theorem iS {P : Program} {w : World} {d : Nat} {xs ys : Array Value} : (Op.eqFields d xs ys []).run P w = .ok true w := by simp [Op.eqFields]
theorem eqI {w : World} (d : Nat) (a b : Int) : (Op.equalIn (d + 1) 3 (jv a) (jv b)).run Tryz.prog w = .ok (decide (a = b)) w := by
 rw [run_equalIn_int w d 3 .i64 .i64 a b underlying3]; congr 1
theorem eqS {w : World} (d : Nat) (a b : By) : (Op.equalIn (d + 1) 9 (sv a) (sv b)).run Tryz.prog w = .ok (decide (a = b)) w := by
 unfold sv
 rw [run_equalIn_string w d 9 _ _ underlying9, ByteArray.toList_mk, ByteArray.toList_mk]; congr 1
 rw [Bool.eq_iff_iff]; simp
theorem xe {w : World} (d : Nat) (a0 a1 c0 c1 : Int) : (Op.equalIn (d + 1 + 1) 87 (.agg #[jv a0, jv a1]) (.agg #[jv c0, jv c1])).run Tryz.prog w = .ok (decide (a0 = c0) && (decide (a1 = c1) && true)) w := by
 rw [run_equalIn_struct w (d + 1) 87 _ _ kr kr]
 simp only [Program.fieldsOf, underlying87]
 refine cD (a := jv a0) (b := jv c0) (r := decide (a0 = c0)) de AF AF (eqI _ _ _) ?_
 refine cD (a := jv a1) (b := jv c1) (r := decide (a1 = c1)) de AF AF (eqI _ _ _) ?_
 exact iS
theorem wG {w : World} (d : Nat) (a0 a1 c0 c1 : Int) : (Op.equalIn (d + 1 + 1) 88 (.agg #[jv a0, jv a1]) (.agg #[jv c0, jv c1])).run Tryz.prog w = .ok (decide (a0 = c0) && (decide (a1 = c1) && true)) w := by
 rw [run_equalIn_struct w (d + 1) 88 _ _ kr kr]
 simp only [Program.fieldsOf, underlying88]
 refine cD (a := jv a0) (b := jv c0) (r := decide (a0 = c0)) de AF AF (eqI _ _ _) ?_
 refine cD (a := jv a1) (b := jv c1) (r := decide (a1 = c1)) de AF AF (eqI _ _ _) ?_
 exact iS
theorem eqWsh (a0 a1 a2 a3 a4 a5 a6 a7 : Int) (a8 : By) (c0 c1 c2 c3 c4 c5 c6 c7 : Int) (c8 : By) (w : World) : (Op.equal 90 (.agg #[jv a0, jv a1, jv a2, jv a3, jv a4, jv a5, jv a6, jv a7, sv a8]) (.agg #[jv c0, jv c1, jv c2, jv c3, jv c4, jv c5, jv c6, jv c7, sv c8])).run Tryz.prog w = .ok (decide (Wsh.mk a0 a1 a2 a3 a4 a5 a6 a7 a8 = Wsh.mk c0 c1 c2 c3 c4 c5 c6 c7 c8)) w := by
 have e : decide (Wsh.mk a0 a1 a2 a3 a4 a5 a6 a7 a8 = Wsh.mk c0 c1 c2 c3 c4 c5 c6 c7 c8) = (decide (a0 = c0) && (decide (a1 = c1) && ((decide (a2 = c2) && (decide (a3 = c3) && true)) && (decide (a4 = c4) && (decide (a5 = c5) && ((decide (a6 = c6) && (decide (a7 = c7) && true)) && (decide (a8 = c8) && true))))))) := by
  rw [Bool.eq_iff_iff]; simp [and_assoc]
 rw [e]
 unfold Op.equal Op.maxDepth
 obtain ⟨dd, hd⟩ : ∃ dd, 10000 = dd + 1 + 1 + 1 := ⟨9997, rfl⟩
 rw [hd, run_equalIn_struct w (dd + 1 + 1) 90 _ _ kr kr]
 simp only [Program.fieldsOf, underlying90]
 refine cD (a := jv a0) (b := jv c0) (r := decide (a0 = c0)) de AF AF (eqI _ _ _) ?_
 refine cD (a := jv a1) (b := jv c1) (r := decide (a1 = c1)) de AF AF (eqI _ _ _) ?_
 refine cD (a := .agg #[jv a2, jv a3]) (b := .agg #[jv c2, jv c3]) (r := (decide (a2 = c2) && (decide (a3 = c3) && true))) de (by simp [part, isAgg87, sizeOf87]) (by simp [part, isAgg87, sizeOf87]) (xe _ _ _ _ _) ?_
 refine cD (a := jv a4) (b := jv c4) (r := decide (a4 = c4)) de AF AF (eqI _ _ _) ?_
 refine cD (a := jv a5) (b := jv c5) (r := decide (a5 = c5)) de AF AF (eqI _ _ _) ?_
 refine cD (a := .agg #[jv a6, jv a7]) (b := .agg #[jv c6, jv c7]) (r := (decide (a6 = c6) && (decide (a7 = c7) && true))) de (by simp [part, isAgg88, sizeOf88]) (by simp [part, isAgg88, sizeOf88]) (wG _ _ _ _ _) ?_
 refine cD (a := sv a8) (b := sv c8) (r := decide (a8 = c8)) de Be Be (eqS _ _ _) ?_
 exact iS
def bentW (x : Wsh) (how n : Int) : Wsh :=
 if pickI how 9 = 0 then { x with signer := n } else if pickI how 9 = 1 then { x with holder := n } else if pickI how 9 = 2 then { x with rf := n } else if pickI how 9 = 3 then { x with rt := n } else
 if pickI how 9 = 4 then { x with carrier := n } else if pickI how 9 = 5 then { x with serial := n } else if pickI how 9 = 6 then { x with sf := n } else if pickI how 9 = 7 then { x with st := n } else { x with rt := x.rt + 1 }
theorem vS (x : Wsh) (how n : Int) (w0 : World) (hh : -9223372036854775808 ≤ how ∧ how ≤ 9223372036854775807) (hx : x.rt < 9223372036854775807) (hx2 : -9223372036854775808 ≤ x.rt) :
  Ret Tryz.prog 105 #[.agg #[jv x.signer, jv x.holder, jv x.rf, jv x.rt, jv x.carrier, jv x.serial, jv x.sf, jv x.st, sv x.sig], jv how, jv n] w0 fun v w => v = .tuple #[.agg (bentW x how n).cells.toArray, .bool (!(decide (bentW x how n = x)))] ∧ Ext No w0 w := by
 refine Ao func105 O ntmps105 (lb O) fun a Y U => aa fun _ G1 => aV Y U O [jv x.signer, jv x.holder, jv x.rf, jv x.rt, jv x.carrier, jv x.serial, jv x.sf, jv x.st, sv x.sig] O fun a w1 Y U => aD Y U (zeroValue90 _) [jv 0, jv 0, jv 0, jv 0, jv 0, jv 0, jv 0, jv 0, .string (⟨#[]⟩)] O fun a w2 Y U => wla Y O fun a Y => G1 <| aa fun _ G2 => wlv Y (ap (U.g 1 O) O (isAgg90 _) (sizeOf90 _)) fun a Y => aD Y U (zeroValue90 _) [jv 0, jv 0, jv 0, jv 0, jv 0, jv 0, jv 0, jv 0, .string (⟨#[]⟩)] O fun a w3 Y U => az 0 Y U [jv x.signer, jv x.holder, jv x.rf, jv x.rt, jv x.carrier, jv x.serial, jv x.sf, jv x.st, sv x.sig] O (sizeOf90 _) fun a w4 Y U => G2 <| ah fun _ G3 => aa fun _ G4 => wlm Y O fun a Y => aw Y U call80 O (dp how 9 _ AC om) fun a w5 Y U => G4 <| io (fun a w => ∃ (o : Wsh), (bentW x how n = o) ∧ Fr 58 [(3, pq w0.hz), (6, pq w1.hz), (7, .bool false), (8, pq w2.hz)] [] a ∧ St No w0 [blk w2.hz [jv o.signer, jv o.holder, jv o.rf, jv o.rt, jv o.carrier, jv o.serial, jv o.sf, jv o.st, sv o.sig] 90, blk w1.hz [jv 0, jv 0, jv 0, jv 0, jv 0, jv 0, jv 0, jv 0, .string (⟨#[]⟩)] 90, blk w0.hz [jv x.signer, jv x.holder, jv x.rf, jv x.rt, jv x.carrier, jv x.serial, jv x.sf, jv x.st, sv x.sig] 90] w) ?_ ?_
 ·refine au <| aa fun _ G5 => nv Y <| yo (v_eq O O) <| yq O <| fun a Y => G5 <| aA Y O (fun hc1 => ?_) (fun hc1 => ?_)
  ·refine al <| nv Y <| yp O <| yo (ac (v := pq w2.hz) O kr) <| fun a Y => az 0 Y U [jv n, jv x.holder, jv x.rf, jv x.rt, jv x.carrier, jv x.serial, jv x.sf, jv x.st, sv x.sig] O (sizeOf3 _) fun a w6 Y U => ab ?_
   exact ⟨⟨n, x.holder, x.rf, x.rt, x.carrier, x.serial, x.sf, x.st, x.sig⟩, (by unfold bentW; simp [hc1]), Y.pick [3, 6, 7, 8], U.select [0, 1, 2] de⟩
  refine aa fun _ G6 => nv Y <| yo (v_eq O O) <| yq O <| fun a Y => G6 ?_
  replace Y := Y.p7 2 3 6 7 8 11 22 O
  refine aA Y O (fun hc2 => ?_) (fun hc2 => ?_)
  ·refine al <| nv Y <| yp O <| yo (ac (v := po w2.hz 1) O kr) <| fun a Y => az 0 Y U [jv x.signer, jv n, jv x.rf, jv x.rt, jv x.carrier, jv x.serial, jv x.sf, jv x.st, sv x.sig] O (sizeOf3 _) fun a w7 Y U => ab ?_
   exact ⟨⟨x.signer, n, x.rf, x.rt, x.carrier, x.serial, x.sf, x.st, x.sig⟩, (by unfold bentW; simp [hc1, hc2]), Y.pick [3, 6, 7, 8], U.select [0, 1, 2] de⟩
  refine aa fun _ G7 => nv Y <| yo (v_eq O O) <| yq O <| fun a Y => G7 <| aA Y O (fun hc3 => ?_) (fun hc3 => ?_)
  ·refine al <| nv Y <| yp O <| yo (ac (v := po w2.hz 2) O kr) <| yo (ac (v := po w2.hz 2) O kr) <| fun a Y => az 0 Y U [jv x.signer, jv x.holder, jv n, jv x.rt, jv x.carrier, jv x.serial, jv x.sf, jv x.st, sv x.sig] O (sizeOf3 _) fun a w8 Y U => ab ?_
   exact ⟨⟨x.signer, x.holder, n, x.rt, x.carrier, x.serial, x.sf, x.st, x.sig⟩, (by unfold bentW; simp [hc1, hc2, hc3]), Y.pick [3, 6, 7, 8], U.select [0, 1, 2] de⟩
  refine aa fun _ G8 => nv Y <| yo (v_eq O O) <| yq O <| fun a Y => G8 <| aA Y O (fun hc4 => ?_) (fun hc4 => ?_)
  ·refine al <| nv Y <| yp O <| yo (ac (v := po w2.hz 2) O kr) <| yo (ac (v := po w2.hz 3) O kr) <| fun a Y => az 0 Y U [jv x.signer, jv x.holder, jv x.rf, jv n, jv x.carrier, jv x.serial, jv x.sf, jv x.st, sv x.sig] O (sizeOf3 _) fun a w9 Y U => ab ?_
   exact ⟨⟨x.signer, x.holder, x.rf, n, x.carrier, x.serial, x.sf, x.st, x.sig⟩, (by unfold bentW; simp [hc1, hc2, hc3, hc4]), Y.pick [3, 6, 7, 8], U.select [0, 1, 2] de⟩
  refine aa fun _ G9 => nv Y <| yo (v_eq O O) <| yq O <| fun a Y => G9 ?_
  replace Y := Y.p7 2 3 6 7 8 11 36 O
  refine aA Y O (fun hc5 => ?_) (fun hc5 => ?_)
  ·refine al <| nv Y <| yp O <| yo (ac (v := po w2.hz 4) O kr) <| fun a Y => az 0 Y U [jv x.signer, jv x.holder, jv x.rf, jv x.rt, jv n, jv x.serial, jv x.sf, jv x.st, sv x.sig] O (sizeOf3 _) fun a w10 Y U => ab ?_
   exact ⟨⟨x.signer, x.holder, x.rf, x.rt, n, x.serial, x.sf, x.st, x.sig⟩, (by unfold bentW; simp [hc1, hc2, hc3, hc4, hc5]), Y.pick [3, 6, 7, 8], U.select [0, 1, 2] de⟩
  refine aa fun _ G10 => nv Y <| yo (v_eq O O) <| yq O <| fun a Y => G10 <| aA Y O (fun hc6 => ?_) (fun hc6 => ?_)
  ·refine al <| nv Y <| yp O <| yo (ac (v := po w2.hz 5) O kr) <| fun a Y => az 0 Y U [jv x.signer, jv x.holder, jv x.rf, jv x.rt, jv x.carrier, jv n, jv x.sf, jv x.st, sv x.sig] O (sizeOf3 _) fun a w11 Y U => ab ?_
   exact ⟨⟨x.signer, x.holder, x.rf, x.rt, x.carrier, n, x.sf, x.st, x.sig⟩, (by unfold bentW; simp [hc1, hc2, hc3, hc4, hc5, hc6]), Y.pick [3, 6, 7, 8], U.select [0, 1, 2] de⟩
  refine aa fun _ G11 => nv Y <| yo (v_eq O O) <| yq O <| fun a Y => G11 <| aA Y O (fun hc7 => ?_) (fun hc7 => ?_)
  ·refine al <| nv Y <| yp O <| yo (ac (v := po w2.hz 6) O kr) <| yo (ac (v := po w2.hz 6) O kr) <| fun a Y => az 0 Y U [jv x.signer, jv x.holder, jv x.rf, jv x.rt, jv x.carrier, jv x.serial, jv n, jv x.st, sv x.sig] O (sizeOf3 _) fun a w12 Y U => ab ?_
   exact ⟨⟨x.signer, x.holder, x.rf, x.rt, x.carrier, x.serial, n, x.st, x.sig⟩, (by unfold bentW; simp [hc1, hc2, hc3, hc4, hc5, hc6, hc7]), Y.pick [3, 6, 7, 8], U.select [0, 1, 2] de⟩
  refine aa fun _ G12 => nv Y <| yo (v_eq O O) <| yq O <| fun a Y => G12 ?_
  replace Y := Y.p6 2 3 6 7 8 49 O
  refine aA Y O (fun hc8 => ?_) (fun hc8 => ?_)
  ·refine al <| nv Y <| yp O <| yo (ac (v := po w2.hz 6) O kr) <| yo (ac (v := po w2.hz 7) O kr) <| fun a Y => az 0 Y U [jv x.signer, jv x.holder, jv x.rf, jv x.rt, jv x.carrier, jv x.serial, jv x.sf, jv n, sv x.sig] O (sizeOf3 _) fun a w13 Y U => ab ?_
   exact ⟨⟨x.signer, x.holder, x.rf, x.rt, x.carrier, x.serial, x.sf, n, x.sig⟩, (by unfold bentW; simp [hc1, hc2, hc3, hc4, hc5, hc6, hc7, hc8]), Y.pick [3, 6, 7, 8], U.select [0, 1, 2] de⟩
  refine al <| nv Y <| yo (ac (v := po w2.hz 2) O kr) <| yo (ac (v := po w2.hz 3) O kr) <| yo (ld U 0 O O (isAgg3 _) O) <| yo (aM O O ⟨om, om⟩) <| yo (ac (v := po w2.hz 2) O kr) <| yo (ac (v := po w2.hz 3) O kr) <| fun a Y => az 0 Y U [jv x.signer, jv x.holder, jv x.rf, jv (x.rt + 1), jv x.carrier, jv x.serial, jv x.sf, jv x.st, sv x.sig] O (sizeOf3 _) fun a w14 Y U => ab ?_
  exact ⟨⟨x.signer, x.holder, x.rf, x.rt + 1, x.carrier, x.serial, x.sf, x.st, x.sig⟩, (by unfold bentW; simp [hc1, hc2, hc3, hc4, hc5, hc6, hc7, hc8]), Y.pick [3, 6, 7, 8], U.select [0, 1, 2] de⟩
 rintro a w15 ⟨o, ho, Y, U⟩
 refine G3 <| ah fun _ G13 => aH (aI fun w16 hxz => ?_)
 replace U := U.grow hxz
 refine aR (k := 0) 5 [3, 4] Y ?_
 replace Y := Y.p4 3 6 7 8 O
 replace U := U.s3 [1, 0, 2] de rfl
 refine gJ [4] (fun q => if q = 4 then blk w1.hz [jv 0, jv 0, jv 0, jv 0, jv 0, jv 0, jv 0, jv 0, .string (⟨#[]⟩)] 90 else join []) (fun q => if q = 4 then blk w1.hz [jv o.signer, jv o.holder, jv o.rf, jv o.rt, jv o.carrier, jv o.serial, jv o.sf, jv o.st, sv o.sig] 90 else join []) 5 [[], [], [], [1, 2], [0]] (fun i => match i with | 0 => pv (.agg #[jv o.signer, jv o.holder, jv o.rf, jv o.rt, jv o.carrier, jv o.serial, jv o.sf, jv o.st, sv o.sig]) | 1 => pv (.agg #[jv o.signer, jv o.holder, jv o.rf, jv o.rt, jv o.carrier, jv o.serial, jv o.sf, jv o.st, sv o.sig]) | 2 => pv (.agg #[jv x.signer, jv x.holder, jv x.rf, jv x.rt, jv x.carrier, jv x.serial, jv x.sf, jv x.st, sv x.sig]) | 3 => pv (.bool (!(decide (o = x)))) | 4 => fun v E => v = undef ∧ E = [] | _ => fun _ _ => False) (by intro q; by_cases h4 : q = 4; (subst h4; rfl); simp only [h4, if_false]) Y (H := [blk w2.hz [jv o.signer, jv o.holder, jv o.rf, jv o.rt, jv o.carrier, jv o.serial, jv o.sf, jv o.st, sv o.sig] 90, blk w0.hz [jv x.signer, jv x.holder, jv x.rf, jv x.rt, jv x.carrier, jv x.serial, jv x.sf, jv x.st, sv x.sig] 90]) U kr kr kr kr de de ?_ ?_ ?_ ?_ ?_ ?_
 ·intro i v E h
  match i, h with
  | 0, _ => exact by decide
  | 1, _ => exact by decide
  | 2, _ => exact by decide
  | 3, _ => exact by decide
  | 4, _ => exact by decide
  | i + 5, h => exact h.elim
 ·intro q v E hq h
  simp only [yE, yI, y9] at hq
  rcases hq with rfl <;> exact h
 ·intro q hq
  simp only [yE, yI, y9] at hq
  rcases hq with rfl <;> exact ⟨rfl, rfl⟩
 ·intro i hi hiq e
  match i, hi, hiq with
  | 0, _, _ => exact fun w U => OpV.g (ap (U.g 1 O) O (isAgg90 _) (sizeOf90 _))
  | 1, _, _ => exact fun w U => OpV.g (ap (U.g 1 O) O (isAgg90 _) (sizeOf90 _))
  | 2, _, _ => exact fun w U => OpV.g (ap (U.g 2 O) O (isAgg90 _) (sizeOf90 _))
  | 3, _, _ =>
   rintro _ _ ⟨rfl, rfl⟩ _ _ ⟨rfl, rfl⟩
   intro w U
   exact OpV.g ((oB O O kr (eqWsh o.signer o.holder o.rf o.rt o.carrier o.serial o.sf o.st o.sig x.signer x.holder x.rf x.rt x.carrier x.serial x.sf x.st x.sig _)).asb (b' := !(decide (o = x))) rfx)
  | 4, _, h => exact absurd de h
 ·intro q hq
  simp only [yE, yI, y9] at hq
  rcases hq with rfl
  ·rintro _ _ ⟨rfl, rfl⟩
   intro w h
   exact dE (cs := [jv 0, jv 0, jv 0, jv 0, jv 0, jv 0, jv 0, jv 0, .string (⟨#[]⟩)]) (ds := [jv o.signer, jv o.holder, jv o.rf, jv o.rt, jv o.carrier, jv o.serial, jv o.sf, jv o.st, sv o.sig]) O O h (sizeOf90 _) O (lb O) O
 clear Y U
 rintro _ _ ⟨rfl, rfl⟩ _ _ ⟨rfl, rfl⟩ _ _ ⟨rfl, rfl⟩ _ _ ⟨rfl, rfl⟩ a w17 Y U
 replace Y := Y.p8 54 55 56 57 3 6 7 8 O
 try dsimp only at U
 replace U := U.n3 O
 refine ab <| aL (k := 5) 6 [5] ?_
 refine wla Y O fun a Y => ab <| aS <| G13 ?_
 replace Y := Y.p2 6 7 O
 replace U := U.k1 1 O
 refine aq <| am Y results105 (ai O (aY (U.g 0 O) (isAgg90 _) (sizeOf90 _)) (ae O ag)) ?_
 rw [ho]
 exact ⟨O, U.ext⟩
end Go.Proofs.YtliklcmddmpdfaaGreatDoor
