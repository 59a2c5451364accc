/- Texts joined: RefA, RefB, RefC, RefD, WirA, WshA, WshB, WshC. -/
import Derived.Test.YtliklcmddmpdfaaGreatDoorPEC
import Derived.Test.YtliklcmddmpdfaaGreatDoorPEB
import Derived.Test.YtliklcmddmpdfaaGreatDoorPEA
set_option linter.unusedVariables false
set_option linter.unusedSimpArgs false
set_option maxRecDepth 4000
set_option maxHeartbeats 4000000
namespace Go.Proofs.YtliklcmddmpdfaaGreatDoor
open Go.RowKit Go.PW _root_.Go.Proofs.Tryz
theorem nr (w0 : World) :
  Ret Tryz.prog 181 #[] w0 (MemR w0 (fun v : Value => v) (fun v => [own v 206 1 ((kOf).map fun x => [wv x])]) (fun _ => True)) := by
 refine aC func181 O ntmps181 (lb O) fun a Z => ?_
 replace Z : Fr 2 [] [] a := Z
 replace Y : St No w0 [] w0 := St.init w0
 refine aa fun _ G1 => wla Z O fun a Z => G1 <| aa fun _ G2 => ?_
 refine aE (E := 206) (sz := 1) O [[wv (1116352408#32)], [wv (1899447441#32)], [wv (3049323471#32)], [wv (3921009573#32)], [wv (961987163#32)], [wv (1508970993#32)], [wv (2453635748#32)], [wv (2870763221#32)], [wv (3624381080#32)], [wv (310598401#32)], [wv (607225278#32)], [wv (1426881987#32)], [wv (1925078388#32)], [wv (2162078206#32)], [wv (2614888103#32)], [wv (3248222580#32)], [wv (3835390401#32)], [wv (4022224774#32)], [wv (264347078#32)], [wv (604807628#32)], [wv (770255983#32)], [wv (1249150122#32)], [wv (1555081692#32)], [wv (1996064986#32)], [wv (2554220882#32)], [wv (2821834349#32)], [wv (2952996808#32)], [wv (3210313671#32)], [wv (3336571891#32)], [wv (3584528711#32)], [wv (113926993#32)], [wv (338241895#32)], [wv (666307205#32)], [wv (773529912#32)], [wv (1294757372#32)], [wv (1396182291#32)], [wv (1695183700#32)], [wv (1986661051#32)], [wv (2177026350#32)], [wv (2456956037#32)], [wv (2730485921#32)], [wv (2820302411#32)], [wv (3259730800#32)], [wv (3345764771#32)], [wv (3516065817#32)], [wv (3600352804#32)], [wv (4094571909#32)], [wv (275423344#32)], [wv (430227734#32)], [wv (506948616#32)], [wv (659060556#32)], [wv (883997877#32)], [wv (958139571#32)], [wv (1322822218#32)], [wv (1537002063#32)], [wv (1747873779#32)], [wv (1955562222#32)], [wv (2024104815#32)], [wv (2227730452#32)], [wv (2361852424#32)], [wv (2428436474#32)], [wv (2756734187#32)], [wv (3204031479#32)], [wv (3329325298#32)]] kr sm O de de Z Y fun a w1 Z Y => ?_
 refine wla Z O fun a Z => G2 <| ap ?_
 refine am Z results181 (ag O ae) ?_
 exact ⟨(.slice (some ⟨w0.hz, 0, none⟩) 64 64), O, trivial, Y.ext, St.out (E := [own (.slice (some ⟨w0.hz, 0, none⟩) 64 64) 206 1 ((kOf).map fun x => [wv x])]) (H := []) Y⟩
theorem gx {α : Type} {l : List α} {i k : Nat} (d : α) (h : i < k) : (l.take k).getD i d = l.getD i d := by
 rw [xR, List.getElem?_take_of_lt h, ← xR]
theorem oG (s : By) (w0 : World) (hs : s.length ≤ 100000000) :
  Ret Tryz.prog 143 #[sv s] w0 (MemR w0 (fun v : Value => v) (fun v => [own v 5 1 ((padded s).map fun b => [yv b])]) (fun _ => True)) := by
 refine zN func143 O ntmps143 (lb O) fun a Z Y => ?_
 refine aa fun _ G1 => wla Z O fun a Z => G1 <| aa fun _ G2 => ?_
 refine wla Z O fun a Z => G2 <| ah fun _ G3 => ?_
 refine aa fun _ G4 => wla Z O fun a Z => G4 <| ar ?_
 replace Y : St No w0 [own (.slice none 0 0) 5 1 ((s.take 0).map fun b => [yv b])] w0 := Y.nil_own
 refine aW (fun m a w => ∃ (k : Nat) (v : Value), m = s.length - k ∧ (k ≤ s.length) ∧ Fr 43 [(0, sv s), (2, .slice none 0 0), (3, v), (4, jv (k : Int))] [] a ∧ St No w0 [own v 5 1 ((s.take k).map fun b => [yv b])] w) _ ⟨0, .slice none 0 0, O, ym _, Z.pick [0, 2, 3, 4], Y.select [0] de⟩ ?_
 rintro _ a w1 ⟨k, v, rfl, hk, Z, Y⟩
 refine ah fun _ G5 => aa fun _ G6 => nv Z <| xK O <| xK O <| xJ (br O O (runUnderlying9 _)) <| xJ (v_lt O O) <| fun a Z => G6 <| aA Z O (fun hc1 => ?_) (fun hc1 => ?_)
 ·refine au <| G5 <| ah fun _ G7 => ar <| ai <| nv Z <| xK O <| xK O <| xK O <| xJ (jp (k := k) O O (runUnderlying9 _) om om) <| fun a Z => aE (E := 5) (sz := 1) O [[yv (s.getD k 0)]] kr sm O de de Z Y fun a w2 Z Y => aY (i := 1) (sT := 60) (inf := Tryz.t5) (z := yv (0 : UInt8)) (b := 0) (off := 0) (m := 0) (c := 0) O O O (Y.ow 0 O) sm underlying60 O O O O de z6 zX zX de Z Y fun a w3 s2 Z Y _ => wla Z O fun a Z => ab <| G7 ?_
  replace Y := Y.k1 2 O
  refine ai <| nv (Z.p4 0 2 4 3 O) <| xK O <| xJ (aP O O ⟨om, om⟩) <| xL O <| fun a Z => ab ?_
  rw [show ((s.take k).map fun b => [yv b]) ++ ([[yv (s.getD k 0)]]) = ((s.take (k + 1)).map fun b => [yv b]) from by rw [cz 0 om]; simp] at Y
  refine ⟨_, ?_, k + 1, s2, O, om, Z.pick [0, 2, 3, 4], Y.select [0] de⟩
  omega
 obtain rfl : k = s.length := by omega
 rw [List.take_length] at Y
 refine aO <| G3 <| aa fun _ G8 => wlm Z O fun a Z => aE (E := 5) (sz := 1) O [[yv (128 : UInt8)]] kr sm O de de Z Y fun a w4 Z Y => aY (i := 1) (sT := 60) (inf := Tryz.t5) (z := yv (0 : UInt8)) (b := 0) (off := 0) (m := 0) (c := 0) O O O (Y.ow 0 O) sm underlying60 O O O O de z6 zX zX de Z Y fun a w5 s3 Z Y _ => wla Z O fun a Z => G8 ?_
 replace Z := Z.p3 0 2 3 O
 replace Y := Y.k1 2 O
 refine ah fun _ G9 => ar ?_
 rw [show ((s).map fun b => [yv b]) ++ ([[yv (128 : UInt8)]]) = ((sum1 s 0).map fun b => [yv b]) from by simp [sum1]] at Y
 refine aW (fun m a w => ∃ (z : Nat) (v : Value), m = 64 - z ∧ (z ≤ zeros s.length) ∧ Fr 43 [(0, sv s), (2, .slice none 0 0), (3, v)] [] a ∧ St No w0 [own v 5 1 ((sum1 s z).map fun b => [yv b])] w) _ ⟨0, s3, O, ym _, Z.pick [0, 2, 3], Y.select [0] de⟩ ?_
 rintro _ a w6 ⟨z, v, rfl, hz, Z, Y⟩
 refine ah fun _ G10 => aa fun _ G11 => nv Z <| xK O <| xJ ((aI (sT := 60) (Y.ow 0 O) O O (runUnderlying60 _)).asi (m' := ((s.length + 1 + z : Nat) : Int)) (by rw [xO, nO])) <| xJ (fR O O om om) <| xJ (v_ne O O) <| fun a Z => G11 <| dk Z O (fun hc4 => ?_) (fun hc4 => ?_)
 ·have hz2 : z + 1 ≤ zeros s.length := by unfold zeros at hz ⊢; omega
  have hz3 : zeros s.length < 64 := by unfold zeros; omega
  refine au <| G10 <| ar <| ai <| wlm Z O fun a Z => aE (E := 5) (sz := 1) O [[yv (0 : UInt8)]] kr sm O de de Z Y fun a w7 Z Y => aY (i := 1) (sT := 60) (inf := Tryz.t5) (z := yv (0 : UInt8)) (b := 0) (off := 0) (m := 0) (c := 0) O O O (Y.ow 0 O) sm underlying60 O O O O de z6 zX zX de Z Y fun a w8 s5 Z Y _ => wla Z O fun a Z => ab ?_
  rw [show ((sum1 s z).map fun b => [yv b]) ++ ([[yv (0 : UInt8)]]) = ((sum1 s (z + 1)).map fun b => [yv b]) from by simp [sum1, List.replicate_succ']] at Y
  refine ⟨_, ?_, z + 1, s5, O, hz2, Z.pick [0, 2, 3], Y.select [1] de⟩
  omega
 obtain rfl : z = zeros s.length := by unfold zeros at hz ⊢; omega
 refine aO <| G9 <| ah fun _ G12 => aa fun _ G13 => wla Z O fun a Z => G13 <| ar ?_
 rw [show ((sum1 s (zeros s.length)).map fun b => [yv b]) = ((sum2 s 0).map fun b => [yv b]) from by simp [sum1, sum2]] at Y
 rw [show (7 : Int) = 7 - ((0 : Nat) : Int) from by omega] at Z
 refine aW (fun m a w => ∃ (r : Nat) (v : Value), m = 8 - r ∧ (r ≤ 8) ∧ Fr 43 [(0, sv s), (2, .slice none 0 0), (3, v), (5, jv (7 - (r : Int)))] [] a ∧ St No w0 [own v 5 1 ((sum2 s r).map fun b => [yv b])] w) _ ⟨0, v, O, ym _, Z.pick [0, 2, 3, 5], Y.select [0] de⟩ ?_
 rintro _ a w9 ⟨r, v, rfl, hr, Z, Y⟩
 refine ah fun _ G14 => aa fun _ G15 => nv Z <| xK O <| xJ (v_ge O O) <| fun a Z => G15 <| aA Z O (fun hc6 => ?_) (fun hc6 => ?_)
 ·refine au <| G14 <| ah fun _ G16 => ar <| ai <| nv Z <| xK O <| xK O <| xJ (br O O (runUnderlying9 _)) <| xJ ((er O O ⟨om, om⟩).asi (m' := ((8 * s.length : Nat) : Int)) om) <| xK O <| xJ ((er O O ⟨om, om⟩).asi (m' := ((8 * (7 - r) : Nat) : Int)) om) <| xJ (pu (m := (8 * s.length)) (n := (8 * (7 - r))) O O om) <| xJ (lF (n := 8 * s.length / 2 ^ (8 * (7 - r))) O kr underlying5) <| fun a Z => aE (E := 5) (sz := 1) O [[yv (UInt8.ofNat (8 * s.length / 2 ^ (8 * (7 - r))))]] kr sm O de de Z Y fun a w10 Z Y => ?_
  refine aY (i := 1) (sT := 60) (inf := Tryz.t5) (z := yv (0 : UInt8)) (b := 0) (off := 0) (m := 0) (c := 0) O O O (Y.ow 0 O) sm underlying60 O O O O de z6 zX zX de Z Y fun a w11 s7 Z Y _ => wla Z O fun a Z => ab <| G16 ?_
  replace Y := Y.k1 2 O
  refine ai <| nv (Z.p4 0 2 5 3 O) <| xK O <| xJ (bH O O ⟨om, om⟩) <| xL O <| fun a Z => ab ?_
  rw [show ((sum2 s r).map fun b => [yv b]) ++ ([[yv (UInt8.ofNat (8 * s.length / 2 ^ (8 * (7 - r))))]]) = ((sum2 s (r + 1)).map fun b => [yv b]) from by unfold sum2; rw [gJ om]; simp] at Y
  rw [show 7 - (r : Int) - 1 = 7 - ((r + 1 : Nat) : Int) from by omega] at Z
  refine ⟨_, ?_, r + 1, s7, O, om, Z.pick [0, 2, 3, 5], Y.select [0] de⟩
  omega
 obtain rfl : r = 8 := by omega
 rw [show sum2 s 8 = padded s from rfl] at Y
 refine aO <| G12 <| aa fun _ G17 => nv Z <| xK O <| xL O <| fun a Z => G17 ?_
 replace Z := Z.p1 2 O
 refine ap <| am Z results143 (ag O ae) ?_
 exact ⟨v, O, trivial, Y.ext, St.out (E := [own v 5 1 ((padded s).map fun b => [yv b])]) (H := []) Y⟩
theorem ed (x : Wd) (n : Nat) (w0 : World) (hn : 0 < n) (hn2 : n < 32) : Ret Tryz.prog 180 #[wv x, jv (n : Int)] w0 fun v w => v = wv (ror x n) ∧ Ext No w0 w := by
 have := pp x n w0 hn hn2
 rw [show (x >>> n) ||| (x <<< (32 - n)) = ror x n from BitVec.or_comm _ _] at this
 exact this
theorem mix2 (x : Wd) (a b : Nat) : mix x [a, b] = ror x a ^^^ ror x b := by simp [mix]
theorem mix3 (x : Wd) (a b c : Nat) : mix x [a, b, c] = ror x a ^^^ ror x b ^^^ ror x c := by simp [mix]
theorem nc (bs : List UInt8) {j : Nat} : ∀ {i : Nat}, j < i → (d : Nat) → (sch bs (i + d)).getD j 0#32 = (sch bs i).getD j 0#32
 | i, h, 0 => rfl
 | i, h, d + 1 => by
  have e : sch bs (i + (d + 1)) = (sch bs (i + d)).set (i + d) (if i + d < 16 then be bs (i + d) else nx (sch bs (i + d)) (i + d)) := rfl
  rw [e, xR, List.getElem?_set_ne om, ← xR]
  exact nc bs h d
theorem tY (bs : List UInt8) {j : Nat} (h : j < 64) : (sch bs 64).getD j 0#32 = if j < 16 then be bs j else nx (sch bs j) j := by
 have := nc bs (j := j) (i := j + 1) om (63 - j)
 rw [show j + 1 + (63 - j) = 64 from by omega] at this
 rw [this, sch, xR, List.getElem?_set_self (by rw [aJ]; omega)]; rfl
theorem mV (bs : List UInt8) {i j : Nat} (h : i < j) (hj : j ≤ 64) : (sch bs j).getD i 0#32 = (sch bs 64).getD i 0#32 := by
 have := nc bs h (64 - j)
 rw [show j + (64 - j) = 64 from by omega] at this
 exact this.symm
theorem sO (bs : List UInt8) {k : Nat} (h : k < 16) : (sch bs 64).take (k + 1) = (sch bs 64).take k ++ [be bs k] := by
 rw [cz 0#32 (by rw [aJ]; omega), tY bs om, yl h]
theorem sB (bs : List UInt8) {j : Nat} (h : 16 ≤ j) (hj : j < 64) : (sch bs 64).take (j + 1) = (sch bs 64).take j ++ [((((sch bs 64).take j).getD (j - 16) 0#32 + (ror (((sch bs 64).take j).getD (j - 15) 0#32) 7 ^^^ ror (((sch bs 64).take j).getD (j - 15) 0#32) 18 ^^^ ((sch bs 64).take j).getD (j - 15) 0#32 >>> 3)) + ((sch bs 64).take j).getD (j - 7) 0#32) + (ror (((sch bs 64).take j).getD (j - 2) 0#32) 17 ^^^ ror (((sch bs 64).take j).getD (j - 2) 0#32) 19 ^^^ ((sch bs 64).take j).getD (j - 2) 0#32 >>> 10)] := by
 rw [cz 0#32 (by rw [aJ]; omega), tY bs om, yk om, nx, mix2, mix2]
 rw [mV bs (i := j - 16) (j := j) om om, mV bs (i := j - 15) (j := j) om om, mV bs (i := j - 7) (j := j) om om, mV bs (i := j - 2) (j := j) om om]
 rw [gx _ om, gx _ om, gx _ om, gx _ om]
theorem t2 (x y : W8) {q : Nat} (h : q < 8) : (x.add y).l.take (q + 1) = (x.add y).l.take q ++ [x.l.getD q 0#32 + y.l.getD q 0#32] := by
 rw [cz 0#32 (by exact h)]
 congr 2
 have : q = 0 ∨ q = 1 ∨ q = 2 ∨ q = 3 ∨ q = 4 ∨ q = 5 ∨ q = 6 ∨ q = 7 := by omega
 rcases this with rfl | rfl | rfl | rfl | rfl | rfl | rfl | rfl <;> rfl
theorem sW (hvv bv : Value) (hv : W8) (bs : List UInt8) (w0 : World) (hhv : SlAt w0 hvv 1 ((hv.l).map fun x => [wv x])) (hbv : SlAt w0 bv 1 (bs.map fun b => [yv b])) (hbl : bs.length = 64) :
  Ret Tryz.prog 144 #[hvv, bv] w0 (MemR w0 (fun v : Value => v) (fun v => [own v 206 1 (((block hv bs).l).map fun x => [wv x])]) (fun _ => True)) := by
 refine zM func144 O ntmps144 (lb O) fun a Z Y => ?_
 refine aa fun _ G1 => wla Z O fun a Z => G1 <| aa fun _ G2 => ?_
 refine wla Z O fun a Z => G2 <| ah fun _ G3 => ?_
 refine aa fun _ G4 => wla Z O fun a Z => G4 <| ar ?_
 replace Y : St No w0 [own (.slice none 0 0) 206 1 (((sch bs 64).take 0).map fun x => [wv x])] w0 := Y.nil_own
 refine aW (fun m a w => ∃ (k : Nat) (u : Value), m = 16 - k ∧ (k ≤ 16) ∧ Fr 238 [(0, hvv), (1, bv), (4, .slice none 0 0), (5, u), (6, jv (k : Int))] [] a ∧ St No w0 [own u 206 1 (((sch bs 64).take k).map fun x => [wv x])] w) _ ⟨0, .slice none 0 0, O, ym _, Z.pick [0, 1, 4, 5, 6], Y.select [0] de⟩ ?_
 rintro _ a w1 ⟨k, u, rfl, hk, Z, Y⟩
 refine ah fun _ G5 => aa fun _ G6 => nv Z <| xK O <| xJ (v_lt O O) <| fun a Z => G6 <| aA Z O (fun hc1 => ?_) (fun hc1 => ?_)
 ·refine au <| G5 <| ah fun _ G7 => ar <| aL (aN fun w2 hxz => ?_)
  replace Y := Y.grow hxz
  refine aU (k := 0) 35 [0, 34] Z ?_
  replace Z := Z.p6 0 1 4 5 6 19 O
  refine bO [34] (fun i => match i with | 34 => pm (fun b : Nat => .slice (some ⟨b, 0, none⟩) 1 1) (fun b => [own (.slice (some ⟨b, 0, none⟩) 1 1) 206 1 [[wv (((((BitVec.ofNat 32 (bs.getD (4 * k) 0).toNat) <<< 24) ||| ((BitVec.ofNat 32 (bs.getD (4 * k + 1) 0).toNat) <<< 16)) ||| ((BitVec.ofNat 32 (bs.getD (4 * k + 2) 0).toNat) <<< 8)) ||| (BitVec.ofNat 32 (bs.getD (4 * k + 3) 0).toNat))]]]) (fun _ => True) | _ => fun _ _ => False) 35 [[], [], [], [2], [1, 3], [4], [5], [6], [], [], [9], [10], [8, 11], [12], [13], [14], [7, 15], [], [], [18], [19], [17, 20], [21], [22], [23], [16, 24], [], [], [27], [28], [26, 29], [30], [31], [25, 32], [33]] [u, bv, jv (k : Int), jv (4 * (k : Int)), slAddr bv ((4 * k) * 1), yv (bs.getD (4 * k) 0), wv (BitVec.ofNat 32 (bs.getD (4 * k) 0).toNat), wv ((BitVec.ofNat 32 (bs.getD (4 * k) 0).toNat) <<< 24), bv, jv (k : Int), jv (4 * (k : Int)), jv ((4 * (k : Int)) + 1), slAddr bv ((4 * k + 1) * 1), yv (bs.getD (4 * k + 1) 0), wv (BitVec.ofNat 32 (bs.getD (4 * k + 1) 0).toNat), wv ((BitVec.ofNat 32 (bs.getD (4 * k + 1) 0).toNat) <<< 16), wv (((BitVec.ofNat 32 (bs.getD (4 * k) 0).toNat) <<< 24) ||| ((BitVec.ofNat 32 (bs.getD (4 * k + 1) 0).toNat) <<< 16)), bv, jv (k : Int), jv (4 * (k : Int)), jv ((4 * (k : Int)) + 2), slAddr bv ((4 * k + 2) * 1), yv (bs.getD (4 * k + 2) 0), wv (BitVec.ofNat 32 (bs.getD (4 * k + 2) 0).toNat), wv ((BitVec.ofNat 32 (bs.getD (4 * k + 2) 0).toNat) <<< 8), wv ((((BitVec.ofNat 32 (bs.getD (4 * k) 0).toNat) <<< 24) ||| ((BitVec.ofNat 32 (bs.getD (4 * k + 1) 0).toNat) <<< 16)) ||| ((BitVec.ofNat 32 (bs.getD (4 * k + 2) 0).toNat) <<< 8)), bv, jv (k : Int), jv (4 * (k : Int)), jv ((4 * (k : Int)) + 3), slAddr bv ((4 * k + 3) * 1), yv (bs.getD (4 * k + 3) 0), wv (BitVec.ofNat 32 (bs.getD (4 * k + 3) 0).toNat), wv (((((BitVec.ofNat 32 (bs.getD (4 * k) 0).toNat) <<< 24) ||| ((BitVec.ofNat 32 (bs.getD (4 * k + 1) 0).toNat) <<< 16)) ||| ((BitVec.ofNat 32 (bs.getD (4 * k + 2) 0).toNat) <<< 8)) ||| (BitVec.ofNat 32 (bs.getD (4 * k + 3) 0).toNat)), undef] Z Y ?_ ?_ ?_
  ·exact zV <| hqv (ay rfl) <| hqv (ay rfl) <| hqv (ay rfl) <| hqv (er rfl rfl ⟨om, om⟩) <| hqw (fun Y => (aj (i := 4 * (k : Int)) (sT := 60) (Y.arg hbv) rfl rfl (runUnderlying60 _) (sizeOf5 _) om zW).as (v' := slAddr bv ((4 * k) * 1)) (by rw [show (4 * (k : Int)).toNat = (4 * k) from by omega])) <| hqw (fun Y => aB (u := yv (bs.getD (4 * k) 0)) (i := (4 * k)) (j := 0) (Y.arg hbv) zW rfl (isAgg5 _) (by simp [xR, xY (show (4 * k) < bs.length by omega)])) <| hqv (dO rfl kr underlying206) <| hqv (ga (n := 24) rfl rfl) <| hqv (ay rfl) <| hqv (ay rfl) <| hqv (er rfl rfl ⟨om, om⟩) <| hqv (aP rfl rfl ⟨om, om⟩) <|
    hqw (fun Y => (aj (i := (4 * (k : Int)) + 1) (sT := 60) (Y.arg hbv) rfl rfl (runUnderlying60 _) (sizeOf5 _) om zW).as (v' := slAddr bv ((4 * k + 1) * 1)) (by rw [show ((4 * (k : Int)) + 1).toNat = (4 * k + 1) from by omega])) <| hqw (fun Y => aB (u := yv (bs.getD (4 * k + 1) 0)) (i := (4 * k + 1)) (j := 0) (Y.arg hbv) zW rfl (isAgg5 _) (by simp [xR, xY (show (4 * k + 1) < bs.length by omega)])) <| hqv (dO rfl kr underlying206) <| hqv (ga (n := 16) rfl rfl) <| hqv (jo rfl rfl) <| hqv (ay rfl) <| hqv (ay rfl) <| hqv (er rfl rfl ⟨om, om⟩) <| hqv (aP rfl rfl ⟨om, om⟩) <|
    hqw (fun Y => (aj (i := (4 * (k : Int)) + 2) (sT := 60) (Y.arg hbv) rfl rfl (runUnderlying60 _) (sizeOf5 _) om zW).as (v' := slAddr bv ((4 * k + 2) * 1)) (by rw [show ((4 * (k : Int)) + 2).toNat = (4 * k + 2) from by omega])) <| hqw (fun Y => aB (u := yv (bs.getD (4 * k + 2) 0)) (i := (4 * k + 2)) (j := 0) (Y.arg hbv) zW rfl (isAgg5 _) (by simp [xR, xY (show (4 * k + 2) < bs.length by omega)])) <| hqv (dO rfl kr underlying206) <| hqv (ga (n := 8) rfl rfl) <| hqv (jo rfl rfl) <| hqv (ay rfl) <| hqv (ay rfl) <| hqv (er rfl rfl ⟨om, om⟩) <| hqv (aP rfl rfl ⟨om, om⟩) <|
    hqw (fun Y => (aj (i := (4 * (k : Int)) + 3) (sT := 60) (Y.arg hbv) rfl rfl (runUnderlying60 _) (sizeOf5 _) om zW).as (v' := slAddr bv ((4 * k + 3) * 1)) (by rw [show ((4 * (k : Int)) + 3).toNat = (4 * k + 3) from by omega])) <| hqw (fun Y => aB (u := yv (bs.getD (4 * k + 3) 0)) (i := (4 * k + 3)) (j := 0) (Y.arg hbv) zW rfl (isAgg5 _) (by simp [xR, xY (show (4 * k + 3) < bs.length by omega)])) <| hqv (dO rfl kr underlying206) <| hqv (jo rfl rfl) <| zT (fun h => absurd sm h) <| zU
  ·intro i hi
   simp only [xX, yc, yz] at hi
   subst hi
   ·intro w Y
    exact bR (E := 206) (sz := 1) O [[wv (((((BitVec.ofNat 32 (bs.getD (4 * k) 0).toNat) <<< 24) ||| ((BitVec.ofNat 32 (bs.getD (4 * k + 1) 0).toNat) <<< 16)) ||| ((BitVec.ofNat 32 (bs.getD (4 * k + 2) 0).toNat) <<< 8)) ||| (BitVec.ofNat 32 (bs.getD (4 * k + 3) 0).toNat))]] (fun _ => by kernel_rfl) sm O de
  clear Z Y
  rintro _ _ ⟨b2, rfl, -, rfl⟩ a w3 Z Y
  replace Z := Z.p6 23 57 0 1 4 6 O
  replace Y := Y.n2 O
  refine ab <| aM (k := 35) 37 [36] ?_
  refine aY (i := 1) (sT := 207) (inf := Tryz.t206) (z := wv (0#32)) (b := 0) (off := 0) (m := 0) (c := 0) O O O (Y.ow 0 O) sm underlying207 O O O O de z6 Aa Aa de Z Y fun a w4 s3 Z Y _ => wla Z O fun a Z => ab <| aT <| G7 ?_
  replace Y := Y.k1 2 O
  refine ai <| nv (Z.p5 0 1 4 6 5 O) <| xK O <| xJ (aP O O ⟨om, om⟩) <| xL O <| fun a Z => ab ?_
  rw [show (((sch bs 64).take k).map fun x => [wv x]) ++ ([[wv (((((BitVec.ofNat 32 (bs.getD (4 * k) 0).toNat) <<< 24) ||| ((BitVec.ofNat 32 (bs.getD (4 * k + 1) 0).toNat) <<< 16)) ||| ((BitVec.ofNat 32 (bs.getD (4 * k + 2) 0).toNat) <<< 8)) ||| (BitVec.ofNat 32 (bs.getD (4 * k + 3) 0).toNat))]]) = (((sch bs 64).take (k + 1)).map fun x => [wv x]) from by rw [sO bs om]; simp [be]] at Y
  refine ⟨_, ?_, k + 1, s3, O, om, Z.pick [0, 1, 4, 5, 6], Y.select [0] de⟩
  omega
 obtain rfl : k = 16 := by omega
 refine aO <| G3 <| ah fun _ G8 => aa fun _ G9 => wla Z O fun a Z => G9 <| ar ?_
 refine aW (fun m a w => ∃ (j : Nat) (u : Value), m = 64 - j ∧ (16 ≤ j) ∧ (j ≤ 64) ∧ Fr 238 [(0, hvv), (4, .slice none 0 0), (5, u), (7, jv (j : Int))] [] a ∧ St No w0 [own u 206 1 (((sch bs 64).take j).map fun x => [wv x])] w) _ ⟨16, u, O, om, om, Z.pick [0, 4, 5, 7], Y.select [0] de⟩ ?_
 rintro _ a w5 ⟨j, u, rfl, hj, hj2, Z, Y⟩
 refine ah fun _ G10 => aa fun _ G11 => nv Z <| xK O <| xJ (v_lt O O) <| fun a Z => G11 <| aA Z O (fun hc4 => ?_) (fun hc4 => ?_)
 ·refine au <| G10 <| ah fun _ G12 => ar <| ah fun _ G13 => aL (aN fun w6 hxz => ?_)
  replace Y := Y.grow hxz
  refine aU (k := 0) 19 [12, 18] Z ?_
  replace Z := Z.p5 0 4 5 7 59 O
  refine bN 19 Z Y <| pl_m O <| pl_m O <| pl_v (bH O O ⟨om, om⟩) <| pl_w (fun Y => (aj (i := (j : Int) - 15) (sT := 207) (Y.ow 0 O) O O (runUnderlying207 _) (sizeOf206 _) om zW).as (v' := slAddr u ((j - 15) * 1)) AZ) <| pl_w (fun Y => aB (u := wv (((sch bs 64).take j).getD (j - 15) 0#32)) (i := (j - 15)) (j := 0) (Y.ow 0 O) zW O (isAgg206 _) Aw) ?_
  refine pl_r (fun Y => bF call180 O (ed (((sch bs 64).take j).getD (j - 15) 0#32) 7 _ de de)) <| pl_m O <| pl_m O <| pl_v (bH O O ⟨om, om⟩) <| pl_w (fun Y => (aj (i := (j : Int) - 15) (sT := 207) (Y.ow 0 O) O O (runUnderlying207 _) (sizeOf206 _) om zW).as (v' := slAddr u ((j - 15) * 1)) AZ) ?_
  refine pl_w (fun Y => aB (u := wv (((sch bs 64).take j).getD (j - 15) 0#32)) (i := (j - 15)) (j := 0) (Y.ow 0 O) zW O (isAgg206 _) Aw) <| pl_r (fun Y => bF call180 O (ed (((sch bs 64).take j).getD (j - 15) 0#32) 18 _ de de)) <| pl_v (dA O O) <| pl_m O <| pl_m O <| pl_v (bH O O ⟨om, om⟩) ?_
  refine pl_w (fun Y => (aj (i := (j : Int) - 15) (sT := 207) (Y.ow 0 O) O O (runUnderlying207 _) (sizeOf206 _) om zW).as (v' := slAddr u ((j - 15) * 1)) AZ) <| pl_w (fun Y => aB (u := wv (((sch bs 64).take j).getD (j - 15) 0#32)) (i := (j - 15)) (j := 0) (Y.ow 0 O) zW O (isAgg206 _) Aw) <| pl_v (fh (n := 3) O O) fun a w7 Z Y => ?_
  replace Z := Z.p6 0 4 5 7 75 81 O
  refine ab <| aM (k := 19) 21 [20] ?_
  refine nv Z <| xJ (dA O O) <| xL O <| fun a Z => ab <| aT <| G13 <| ah fun _ G14 => aL (aN fun w8 hxz => ?_)
  replace Y := Y.grow hxz
  refine aU (k := 0) 19 [12, 18] Z ?_
  replace Z := Z.p8 0 4 5 7 75 81 82 8 O
  refine bN 19 Z Y <| pl_m O <| pl_m O <| pl_v (bH O O ⟨om, om⟩) <| pl_w (fun Y => (aj (i := (j : Int) - 2) (sT := 207) (Y.ow 0 O) O O (runUnderlying207 _) (sizeOf206 _) om zW).as (v' := slAddr u ((j - 2) * 1)) A0) <| pl_w (fun Y => aB (u := wv (((sch bs 64).take j).getD (j - 2) 0#32)) (i := (j - 2)) (j := 0) (Y.ow 0 O) zW O (isAgg206 _) Aw) ?_
  refine pl_r (fun Y => bF call180 O (ed (((sch bs 64).take j).getD (j - 2) 0#32) 17 _ de de)) <| pl_m O <| pl_m O <| pl_v (bH O O ⟨om, om⟩) <| pl_w (fun Y => (aj (i := (j : Int) - 2) (sT := 207) (Y.ow 0 O) O O (runUnderlying207 _) (sizeOf206 _) om zW).as (v' := slAddr u ((j - 2) * 1)) A0) ?_
  refine pl_w (fun Y => aB (u := wv (((sch bs 64).take j).getD (j - 2) 0#32)) (i := (j - 2)) (j := 0) (Y.ow 0 O) zW O (isAgg206 _) Aw) <| pl_r (fun Y => bF call180 O (ed (((sch bs 64).take j).getD (j - 2) 0#32) 19 _ de de)) <| pl_v (dA O O) <| pl_m O <| pl_m O <| pl_v (bH O O ⟨om, om⟩) ?_
  refine pl_w (fun Y => (aj (i := (j : Int) - 2) (sT := 207) (Y.ow 0 O) O O (runUnderlying207 _) (sizeOf206 _) om zW).as (v' := slAddr u ((j - 2) * 1)) A0) <| pl_w (fun Y => aB (u := wv (((sch bs 64).take j).getD (j - 2) 0#32)) (i := (j - 2)) (j := 0) (Y.ow 0 O) zW O (isAgg206 _) Aw) <| pl_v (fh (n := 10) O O) fun a w9 Z Y => ?_
  replace Z := Z.p7 0 4 5 7 8 95 101 O
  refine ab <| aM (k := 19) 21 [20] ?_
  refine nv Z <| xJ (dA O O) <| xL O <| fun a Z => ab <| aT <| G14 <| aL (aN fun w10 hxz => ?_)
  replace Y := Y.grow hxz
  refine aU (k := 0) 17 [0, 16] Z ?_
  replace Z := Z.p9 0 4 5 7 8 95 101 102 9 O
  refine bO [16] (fun i => match i with | 16 => pm (fun b : Nat => .slice (some ⟨b, 0, none⟩) 1 1) (fun b => [own (.slice (some ⟨b, 0, none⟩) 1 1) 206 1 [[wv ((((((sch bs 64).take j).getD (j - 16) 0#32) + (((ror (((sch bs 64).take j).getD (j - 15) 0#32) 7) ^^^ (ror (((sch bs 64).take j).getD (j - 15) 0#32) 18)) ^^^ ((((sch bs 64).take j).getD (j - 15) 0#32) >>> 3))) + (((sch bs 64).take j).getD (j - 7) 0#32)) + (((ror (((sch bs 64).take j).getD (j - 2) 0#32) 17) ^^^ (ror (((sch bs 64).take j).getD (j - 2) 0#32) 19)) ^^^ ((((sch bs 64).take j).getD (j - 2) 0#32) >>> 10)))]]]) (fun _ => True) | _ => fun _ _ => False) 17 [[], [], [], [2], [1, 3], [4], [], [5, 6], [], [], [9], [8, 10], [11], [7, 12], [], [13, 14], [15]] [u, u, jv (j : Int), jv ((j : Int) - 16), slAddr u ((j - 16) * 1), wv (((sch bs 64).take j).getD (j - 16) 0#32), wv (((ror (((sch bs 64).take j).getD (j - 15) 0#32) 7) ^^^ (ror (((sch bs 64).take j).getD (j - 15) 0#32) 18)) ^^^ ((((sch bs 64).take j).getD (j - 15) 0#32) >>> 3)), wv ((((sch bs 64).take j).getD (j - 16) 0#32) + (((ror (((sch bs 64).take j).getD (j - 15) 0#32) 7) ^^^ (ror (((sch bs 64).take j).getD (j - 15) 0#32) 18)) ^^^ ((((sch bs 64).take j).getD (j - 15) 0#32) >>> 3))), u, jv (j : Int), jv ((j : Int) - 7), slAddr u ((j - 7) * 1), wv (((sch bs 64).take j).getD (j - 7) 0#32), wv (((((sch bs 64).take j).getD (j - 16) 0#32) + (((ror (((sch bs 64).take j).getD (j - 15) 0#32) 7) ^^^ (ror (((sch bs 64).take j).getD (j - 15) 0#32) 18)) ^^^ ((((sch bs 64).take j).getD (j - 15) 0#32) >>> 3))) + (((sch bs 64).take j).getD (j - 7) 0#32)), wv (((ror (((sch bs 64).take j).getD (j - 2) 0#32) 17) ^^^ (ror (((sch bs 64).take j).getD (j - 2) 0#32) 19)) ^^^ ((((sch bs 64).take j).getD (j - 2) 0#32) >>> 10)), wv ((((((sch bs 64).take j).getD (j - 16) 0#32) + (((ror (((sch bs 64).take j).getD (j - 15) 0#32) 7) ^^^ (ror (((sch bs 64).take j).getD (j - 15) 0#32) 18)) ^^^ ((((sch bs 64).take j).getD (j - 15) 0#32) >>> 3))) + (((sch bs 64).take j).getD (j - 7) 0#32)) + (((ror (((sch bs 64).take j).getD (j - 2) 0#32) 17) ^^^ (ror (((sch bs 64).take j).getD (j - 2) 0#32) 19)) ^^^ ((((sch bs 64).take j).getD (j - 2) 0#32) >>> 10))), undef] Z Y ?_ ?_ ?_
  ·exact zV <| hqv (ay rfl) <| hqv (ay rfl) <| hqv (ay rfl) <| hqv (bH rfl rfl ⟨om, om⟩) <| hqw (fun Y => (aj (i := (j : Int) - 16) (sT := 207) (Y.ow 0 rfl) rfl rfl (runUnderlying207 _) (sizeOf206 _) om zW).as (v' := slAddr u ((j - 16) * 1)) (by rw [show ((j : Int) - 16).toNat = (j - 16) from by omega])) <| hqw (fun Y => aB (u := wv (((sch bs 64).take j).getD (j - 16) 0#32)) (i := (j - 16)) (j := 0) (Y.ow 0 rfl) zW rfl (isAgg206 _) Aw) <| hqv (ay rfl) <| hqv (cS rfl rfl) <| hqv (ay rfl) <| hqv (ay rfl) <| hqv (bH rfl rfl ⟨om, om⟩) <|
    hqw (fun Y => (aj (i := (j : Int) - 7) (sT := 207) (Y.ow 0 rfl) rfl rfl (runUnderlying207 _) (sizeOf206 _) om zW).as (v' := slAddr u ((j - 7) * 1)) (by rw [show ((j : Int) - 7).toNat = (j - 7) from by omega])) <| hqw (fun Y => aB (u := wv (((sch bs 64).take j).getD (j - 7) 0#32)) (i := (j - 7)) (j := 0) (Y.ow 0 rfl) zW rfl (isAgg206 _) Aw) <| hqv (cS rfl rfl) <| hqv (ay rfl) <| hqv (cS rfl rfl) <| zT (fun h => absurd sm h) <| zU
  ·intro i hi
   simp only [xX, yc, yz] at hi
   subst hi
   ·intro w Y
    exact bR (E := 206) (sz := 1) O [[wv ((((((sch bs 64).take j).getD (j - 16) 0#32) + (((ror (((sch bs 64).take j).getD (j - 15) 0#32) 7) ^^^ (ror (((sch bs 64).take j).getD (j - 15) 0#32) 18)) ^^^ ((((sch bs 64).take j).getD (j - 15) 0#32) >>> 3))) + (((sch bs 64).take j).getD (j - 7) 0#32)) + (((ror (((sch bs 64).take j).getD (j - 2) 0#32) 17) ^^^ (ror (((sch bs 64).take j).getD (j - 2) 0#32) 19)) ^^^ ((((sch bs 64).take j).getD (j - 2) 0#32) >>> 10)))]] (fun _ => by kernel_rfl) sm O de
  clear Z Y
  rintro _ _ ⟨b5, rfl, -, rfl⟩ a w11 Z Y
  replace Z := Z.p5 103 119 0 4 7 O
  replace Y := Y.n2 O
  refine ab <| aM (k := 17) 19 [18] ?_
  refine aY (i := 1) (sT := 207) (inf := Tryz.t206) (z := wv (0#32)) (b := 0) (off := 0) (m := 0) (c := 0) O O O (Y.ow 0 O) sm underlying207 O O O O de z6 Aa Aa de Z Y fun a w12 s6 Z Y _ => wla Z O fun a Z => ab <| aT <| G12 ?_
  replace Y := Y.k1 2 O
  refine ai <| nv (Z.p4 0 4 7 5 O) <| xK O <| xJ (aP O O ⟨om, om⟩) <| xL O <| fun a Z => ab ?_
  rw [show (((sch bs 64).take j).map fun x => [wv x]) ++ ([[wv ((((((sch bs 64).take j).getD (j - 16) 0#32) + (((ror (((sch bs 64).take j).getD (j - 15) 0#32) 7) ^^^ (ror (((sch bs 64).take j).getD (j - 15) 0#32) 18)) ^^^ ((((sch bs 64).take j).getD (j - 15) 0#32) >>> 3))) + (((sch bs 64).take j).getD (j - 7) 0#32)) + (((ror (((sch bs 64).take j).getD (j - 2) 0#32) 17) ^^^ (ror (((sch bs 64).take j).getD (j - 2) 0#32) 19)) ^^^ ((((sch bs 64).take j).getD (j - 2) 0#32) >>> 10)))]]) = (((sch bs 64).take (j + 1)).map fun x => [wv x]) from by rw [sB bs om om]; simp] at Y
  refine ⟨_, ?_, j + 1, s6, O, om, om, Z.pick [0, 4, 5, 7], Y.select [0] de⟩
  omega
 obtain rfl : j = 64 := by omega
 rw [y9 (by rw [aJ]; omega)] at Y
 refine aO <| G8 <| aa fun _ G15 => bD Z Y call181 O (nr _) fun a w13 x7 hp Z Y => ?_
 revert x7 hp Z Y; rintro kz hp Z Y
 clear hp
 replace Y := Y.n2 O
 refine wla Z O fun a Z => G15 <| aa fun _ G16 => ?_
 refine wla Z O fun a Z => G16 <| aa fun _ G17 => ?_
 refine nv Z <| xK O <| xK O <| fun a Z => ?_
 replace Y : St No w0 (own (.slice none 0 0) 206 1 [] :: [_, _]) w13 := Y.nil_own
 refine ll (i := 0) (sT := 207) (inf := Tryz.t206) (z := wv (0#32)) O O O (Y.arg hhv) underlying207 O O O O de z6 Aa Aa de Z Y fun a w14 s8 Z Y => wla Z O fun a Z => G17 ?_
 refine ah fun _ G18 => aa fun _ G19 => wla (Z.p5 0 4 5 10 11 O) O fun a Z => G19 <| ar ?_
 rw [show ([]) ++ ((hv.l).map fun x => [wv x]) = ((hv.l).map fun x => [wv x]) from by simp] at Y
 refine aW (fun m a w => ∃ (ix : Nat) (v : W8) (z : Value), m = 64 - ix ∧ (ix ≤ 64) ∧ (rounds (sch bs 64) hv ix = v) ∧ Fr 238 [(0, hvv), (4, .slice none 0 0), (5, u), (10, kz), (11, z), (12, jv (ix : Int))] [] a ∧ St No w0 [own z 206 1 ((v.l).map fun x => [wv x]), own u 206 1 ((sch bs 64).map fun x => [wv x]), own kz 206 1 ((kOf).map fun x => [wv x])] w) _ ⟨0, hv, s8, O, ym _, O, Z.pick [0, 4, 5, 10, 11, 12], Y.select [0, 2, 1] de⟩ ?_
 rintro _ a w15 ⟨ix, v, z, rfl, hi, hrv, Z, Y⟩
 refine ah fun _ G20 => aa fun _ G21 => nv Z <| xK O <| xJ (v_lt O O) <| fun a Z => G21 <| aA Z O (fun hc9 => ?_) (fun hc9 => ?_)
 ·refine au <| G20 <| ah fun _ G22 => ar <| aa fun _ G23 => nv Z <| xK O <| xJ ((aj (i := 0) (sT := 207) (Y.ow 0 O) O O (runUnderlying207 _) (sizeOf206 _) om z8).as (v' := slAddr z (0 * 1)) O) <| xJ (aB (u := wv v.a) (i := 0) (j := 0) (Y.ow 0 O) z8 O (isAgg206 _) rfx) <| xL O <| fun a Z => G23 <| aa fun _ G24 => ?_
  refine nv Z <| xK O <| xJ ((aj (i := 4) (sT := 207) (Y.ow 0 O) O O (runUnderlying207 _) (sizeOf206 _) om z8).as (v' := slAddr z (4 * 1)) O) <| xJ (aB (u := wv v.e) (i := 4) (j := 0) (Y.ow 0 O) z8 O (isAgg206 _) rfx) <| xL O <| fun a Z => G24 ?_
  replace Z := Z.p8 0 4 5 10 11 12 13 14 O
  refine ah fun _ G25 => aL (aN fun w16 hxz => ?_)
  replace Y := Y.grow hxz
  refine aU (k := 0) 34 [29, 33] Z ?_
  replace Z := Z.p8 0 4 5 10 11 12 13 14 O
  refine bN 34 Z Y <| pl_m O <| pl_w (fun Y => (aj (i := 7) (sT := 207) (Y.ow 0 O) O O (runUnderlying207 _) (sizeOf206 _) om z8).as (v' := slAddr z (7 * 1)) O) <| pl_w (fun Y => aB (u := wv v.h) (i := 7) (j := 0) (Y.ow 0 O) z8 O (isAgg206 _) rfx) <| pl_m O <| pl_r (fun Y => bF call180 O (ed v.e 6 _ de de)) <| pl_m O <| pl_r (fun Y => bF call180 O (ed v.e 11 _ de de)) <| pl_v (dA O O) <| pl_m O <| pl_r (fun Y => bF call180 O (ed v.e 25 _ de de)) <| pl_v (dA O O) <| pl_v (cS O O) <| pl_m O <| pl_m O ?_
  refine pl_w (fun Y => (aj (i := 5) (sT := 207) (Y.ow 0 O) O O (runUnderlying207 _) (sizeOf206 _) om z8).as (v' := slAddr z (5 * 1)) O) <| pl_w (fun Y => aB (u := wv v.f) (i := 5) (j := 0) (Y.ow 0 O) z8 O (isAgg206 _) rfx) <| pl_v (fi O O) <| pl_m O <| pl_v (tC O) <| pl_m O <| pl_w (fun Y => (aj (i := 6) (sT := 207) (Y.ow 0 O) O O (runUnderlying207 _) (sizeOf206 _) om z8).as (v' := slAddr z (6 * 1)) O) <| pl_w (fun Y => aB (u := wv v.g) (i := 6) (j := 0) (Y.ow 0 O) z8 O (isAgg206 _) rfx) <| pl_v (fi O O) <| pl_v (dA O O) ?_
  refine pl_v (cS O O) <| pl_m O <| pl_m O <| pl_w (fun Y => (aj (i := (ix : Int)) (sT := 207) (Y.ow 2 O) O O (runUnderlying207 _) (sizeOf206 _) om zW).as (v' := slAddr kz (ix * 1)) O) <| pl_w (fun Y => aB (u := wv ((kOf).getD ix 0#32)) (i := ix) (j := 0) (Y.ow 2 O) zW O (isAgg206 _) Aw) <| pl_v (cS O O) <| pl_m O <| pl_m O ?_
  refine pl_w (fun Y => (aj (i := (ix : Int)) (sT := 207) (Y.ow 1 O) O O (runUnderlying207 _) (sizeOf206 _) om zW).as (v' := slAddr u (ix * 1)) O) <| pl_w (fun Y => aB (u := wv ((sch bs 64).getD ix 0#32)) (i := ix) (j := 0) (Y.ow 1 O) zW O (isAgg206 _) Aw) fun a w17 Z Y => ?_
  replace Z := Z.p10 0 4 5 10 11 12 13 14 164 168 O
  refine ab <| aM (k := 34) 36 [35] ?_
  refine nv Z <| xJ (cS O O) <| xL O <| fun a Z => ab <| aT <| G25 <| ah fun _ G26 => aL (aN fun w18 hxz => ?_)
  replace Y := Y.grow hxz
  refine aU (k := 0) 27 [7, 26] Z ?_
  replace Z := Z.p12 0 4 5 10 11 12 13 14 164 168 169 15 O
  refine bN 27 Z Y <| pl_m O <| pl_r (fun Y => bF call180 O (ed v.a 2 _ de de)) <| pl_m O <| pl_r (fun Y => bF call180 O (ed v.a 13 _ de de)) <| pl_v (dA O O) <| pl_m O <| pl_r (fun Y => bF call180 O (ed v.a 22 _ de de)) <| pl_v (dA O O) <| pl_m O <| pl_m O <| pl_w (fun Y => (aj (i := 1) (sT := 207) (Y.ow 0 O) O O (runUnderlying207 _) (sizeOf206 _) om z8).as (v' := slAddr z (1 * 1)) O) <| pl_w (fun Y => aB (u := wv v.b) (i := 1) (j := 0) (Y.ow 0 O) z8 O (isAgg206 _) rfx) <| pl_v (fi O O) <| pl_m O <| pl_m O ?_
  refine pl_w (fun Y => (aj (i := 2) (sT := 207) (Y.ow 0 O) O O (runUnderlying207 _) (sizeOf206 _) om z8).as (v' := slAddr z (2 * 1)) O) <| pl_w (fun Y => aB (u := wv v.c) (i := 2) (j := 0) (Y.ow 0 O) z8 O (isAgg206 _) rfx) <| pl_v (fi O O) <| pl_v (dA O O) <| pl_m O <| pl_w (fun Y => (aj (i := 1) (sT := 207) (Y.ow 0 O) O O (runUnderlying207 _) (sizeOf206 _) om z8).as (v' := slAddr z (1 * 1)) O) <| pl_w (fun Y => aB (u := wv v.b) (i := 1) (j := 0) (Y.ow 0 O) z8 O (isAgg206 _) rfx) <| pl_m O ?_
  refine pl_w (fun Y => (aj (i := 2) (sT := 207) (Y.ow 0 O) O O (runUnderlying207 _) (sizeOf206 _) om z8).as (v' := slAddr z (2 * 1)) O) <| pl_w (fun Y => aB (u := wv v.c) (i := 2) (j := 0) (Y.ow 0 O) z8 O (isAgg206 _) rfx) <| pl_v (fi O O) <| pl_v (dA O O) fun a w19 Z Y => ?_
  replace Z := Z.p11 0 4 5 10 11 12 13 14 15 177 196 O
  refine ab <| aM (k := 27) 29 [28] ?_
  refine nv Z <| xJ (cS O O) <| xL O <| fun a Z => ab <| aT <| G26 ?_
  rw [show (((v.h + (((ror v.e 6) ^^^ (ror v.e 11)) ^^^ (ror v.e 25))) + ((v.e &&& v.f) ^^^ ((~~~v.e) &&& v.g))) + ((kOf).getD ix 0#32)) + ((sch bs 64).getD ix 0#32) = tOf v (kOf.getD ix 0#32) ((sch bs 64).getD ix 0#32) from by rw [tOf, mix3]] at Z
  rw [show (((ror v.a 2) ^^^ (ror v.a 13)) ^^^ (ror v.a 22)) + (((v.a &&& v.b) ^^^ (v.a &&& v.c)) ^^^ (v.b &&& v.c)) = uOf v from by rw [uOf, mix3]] at Z
  refine aL (aN fun w20 hxz => ?_)
  replace Y := Y.grow hxz
  refine aU (k := 0) 22 [2, 3, 6, 9, 14, 15, 18, 21] Z ?_
  replace Z := Z.p13 0 4 5 10 11 12 13 14 15 177 196 197 16 O
  refine bN 22 Z Y <| pl_m O <| pl_m O <| pl_v (cS O O) <| pl_m O <| pl_m O <| pl_w (fun Y => (aj (i := 1) (sT := 207) (Y.ow 0 O) O O (runUnderlying207 _) (sizeOf206 _) om z8).as (v' := slAddr z (1 * 1)) O) <| pl_w (fun Y => aB (u := wv v.b) (i := 1) (j := 0) (Y.ow 0 O) z8 O (isAgg206 _) rfx) <| pl_m O <| pl_w (fun Y => (aj (i := 2) (sT := 207) (Y.ow 0 O) O O (runUnderlying207 _) (sizeOf206 _) om z8).as (v' := slAddr z (2 * 1)) O) <| pl_w (fun Y => aB (u := wv v.c) (i := 2) (j := 0) (Y.ow 0 O) z8 O (isAgg206 _) rfx) <| pl_m O ?_
  refine pl_w (fun Y => (aj (i := 3) (sT := 207) (Y.ow 0 O) O O (runUnderlying207 _) (sizeOf206 _) om z8).as (v' := slAddr z (3 * 1)) O) <| pl_w (fun Y => aB (u := wv v.d) (i := 3) (j := 0) (Y.ow 0 O) z8 O (isAgg206 _) rfx) <| pl_m O <| pl_v (cS O O) <| pl_m O <| pl_m O <| pl_w (fun Y => (aj (i := 5) (sT := 207) (Y.ow 0 O) O O (runUnderlying207 _) (sizeOf206 _) om z8).as (v' := slAddr z (5 * 1)) O) <| pl_w (fun Y => aB (u := wv v.f) (i := 5) (j := 0) (Y.ow 0 O) z8 O (isAgg206 _) rfx) <| pl_m O ?_
  refine pl_w (fun Y => (aj (i := 6) (sT := 207) (Y.ow 0 O) O O (runUnderlying207 _) (sizeOf206 _) om z8).as (v' := slAddr z (6 * 1)) O) <| pl_w (fun Y => aB (u := wv v.g) (i := 6) (j := 0) (Y.ow 0 O) z8 O (isAgg206 _) rfx) fun a w21 Z Y => ?_
  replace Z := Z.p13 0 4 5 10 12 200 201 204 207 212 213 216 219 O
  refine ab <| aM (k := 22) 24 [23] ?_
  refine aE (E := 206) (sz := 1) O [[wv ((tOf v (kOf.getD ix 0#32) ((sch bs 64).getD ix 0#32)) + (uOf v))], [wv v.a], [wv v.b], [wv v.c], [wv (v.d + (tOf v (kOf.getD ix 0#32) ((sch bs 64).getD ix 0#32)))], [wv v.e], [wv v.f], [wv v.g]] kr sm O de de Z Y fun a w22 Z Y => wla Z O fun a Z => ab <| aT <| G22 ?_
  refine ai <| nv (Z.p6 0 4 5 10 12 11 O) <| xK O <| xJ (aP O O ⟨om, om⟩) <| xL O <| fun a Z => ab ?_
  replace Y := Y.n4 O
  refine ⟨_, ?_, ix + 1, (rnd v (kOf.getD ix 0#32) ((sch bs 64).getD ix 0#32)), (.slice (some ⟨w21.hz, 0, none⟩) 8 8), O, om, (by rw [rounds, hrv]), Z.pick [0, 4, 5, 10, 11, 12], Y.select [0, 2, 3] de⟩
  omega
 obtain rfl : ix = 64 := by omega
 refine aO <| G18 <| aa fun _ G27 => wla Z O fun a Z => G27 <| ah fun _ G28 => ?_
 refine aa fun _ G29 => wla Z O fun a Z => G29 <| ar ?_
 replace Y : St No w0 [own (.slice none 0 0) 206 1 (((hv.add v).l.take 0).map fun x => [wv x]), own z 206 1 ((v.l).map fun x => [wv x]), own u 206 1 ((sch bs 64).map fun x => [wv x]), own kz 206 1 ((kOf).map fun x => [wv x])] w15 := Y.nil_own
 refine aW (fun m a w => ∃ (q : Nat) (y : Value), m = 8 - q ∧ (q ≤ 8) ∧ Fr 238 [(0, hvv), (4, .slice none 0 0), (11, z), (17, y), (18, jv (q : Int))] [] a ∧ St No w0 [own y 206 1 (((hv.add v).l.take q).map fun x => [wv x]), own z 206 1 ((v.l).map fun x => [wv x])] w) _ ⟨0, .slice none 0 0, O, ym _, Z.pick [0, 4, 11, 17, 18], Y.select [0, 1] de⟩ ?_
 rintro _ a w23 ⟨q, y, rfl, hq, Z, Y⟩
 refine ah fun _ G30 => aa fun _ G31 => nv Z <| xK O <| xJ (v_lt O O) <| fun a Z => G31 <| aA Z O (fun hc10 => ?_) (fun hc10 => ?_)
 ·refine au <| G30 <| ah fun _ G32 => ar <| aL (aN fun w24 hxz => ?_)
  replace Y := Y.grow hxz
  refine aU (k := 0) 11 [0, 10] Z ?_
  replace Z := Z.p6 0 4 11 17 18 221 O
  refine bO [10] (fun i => match i with | 10 => pm (fun b : Nat => .slice (some ⟨b, 0, none⟩) 1 1) (fun b => [own (.slice (some ⟨b, 0, none⟩) 1 1) 206 1 [[wv ((hv.l.getD q 0#32) + (v.l.getD q 0#32))]]]) (fun _ => True) | _ => fun _ _ => False) 11 [[], [], [], [1, 2], [3], [], [], [5, 6], [7], [4, 8], [9]] [y, hvv, jv (q : Int), slAddr hvv (q * 1), wv (hv.l.getD q 0#32), z, jv (q : Int), slAddr z (q * 1), wv (v.l.getD q 0#32), wv ((hv.l.getD q 0#32) + (v.l.getD q 0#32)), undef] Z Y ?_ ?_ ?_
  ·exact zV <| hqv (ay rfl) <| hqv (ay rfl) <| hqv (ay rfl) <| hqw (fun Y => (aj (i := (q : Int)) (sT := 207) (Y.arg hhv) rfl rfl (runUnderlying207 _) (sizeOf206 _) om zW).as (v' := slAddr hvv (q * 1)) rfl) <| hqw (fun Y => aB (u := wv (hv.l.getD q 0#32)) (i := q) (j := 0) (Y.arg hhv) zW rfl (isAgg206 _) Aw) <| hqv (ay rfl) <| hqv (ay rfl) <| hqw (fun Y => (aj (i := (q : Int)) (sT := 207) (Y.ow 1 rfl) rfl rfl (runUnderlying207 _) (sizeOf206 _) om zW).as (v' := slAddr z (q * 1)) rfl) <|
    hqw (fun Y => aB (u := wv (v.l.getD q 0#32)) (i := q) (j := 0) (Y.ow 1 rfl) zW rfl (isAgg206 _) Aw) <| hqv (cS rfl rfl) <| zT (fun h => absurd sm h) <| zU
  ·intro i hi
   simp only [xX, yc, yz] at hi
   subst hi
   ·intro w Y
    exact bR (E := 206) (sz := 1) O [[wv ((hv.l.getD q 0#32) + (v.l.getD q 0#32))]] (fun _ => by kernel_rfl) sm O de
  clear Z Y
  rintro _ _ ⟨b11, rfl, -, rfl⟩ a w25 Z Y
  replace Z := Z.p6 225 235 0 4 11 18 O
  replace Y := Y.n3 O
  refine ab <| aM (k := 11) 13 [12] ?_
  refine aY (i := 1) (sT := 207) (inf := Tryz.t206) (z := wv (0#32)) (b := 0) (off := 0) (m := 0) (c := 0) O O O (Y.ow 0 O) sm underlying207 O O O O de z6 Aa Aa de Z Y fun a w26 s12 Z Y _ => wla Z O fun a Z => ab <| aT <| G32 ?_
  replace Y := Y.k2 6 O
  refine ai <| nv (Z.p5 0 4 11 18 17 O) <| xK O <| xJ (aP O O ⟨om, om⟩) <| xL O <| fun a Z => ab ?_
  rw [show (((hv.add v).l.take q).map fun x => [wv x]) ++ ([[wv ((hv.l.getD q 0#32) + (v.l.getD q 0#32))]]) = (((hv.add v).l.take (q + 1)).map fun x => [wv x]) from by rw [t2 hv v om]; simp] at Y
  refine ⟨_, ?_, q + 1, s12, O, om, Z.pick [0, 4, 11, 17, 18], Y.select [0, 1] de⟩
  omega
 refine aO <| G28 <| aa fun _ G33 => nv Z <| xK O <| xL O <| fun a Z => G33 ?_
 replace Z := Z.p1 4 O
 refine ap <| am Z results144 (ag O ae) ?_
 obtain rfl : q = 8 := by omega
 exact ⟨y, O, trivial, Y.ext, St.out (E := [own y 206 1 (((block hv bs).l).map fun x => [wv x])]) (H := []) (by rw [block, hrv]; exact Y.select [0] de)⟩
theorem tx (v : W8) {q : Nat} (h : q < 8) : v.out.take (4 * (q + 1)) = v.out.take (4 * q) ++ [UInt8.ofNat (v.l.getD q 0#32 >>> 24).toNat, UInt8.ofNat (v.l.getD q 0#32 >>> 16).toNat, UInt8.ofNat (v.l.getD q 0#32 >>> 8).toNat, UInt8.ofNat (v.l.getD q 0#32).toNat] := by
 have : q = 0 ∨ q = 1 ∨ q = 2 ∨ q = 3 ∨ q = 4 ∨ q = 5 ∨ q = 6 ∨ q = 7 := by omega
 rcases this with rfl | rfl | rfl | rfl | rfl | rfl | rfl | rfl <;> simp [W8.out, W8.l, qx]
theorem jF (s : By) (w0 : World) (hs : s.length ≤ 100000000) :
  Ret Tryz.prog 96 #[sv s] w0 fun v w => v = sv (sha s) ∧ Ext No w0 w := by
 have hpb := ip s
 refine zN func96 O ntmps96 (lb O) fun a Z Y => ?_
 refine aa fun _ G1 => wla Z O fun a Z => G1 <| aa fun _ G2 => ?_
 refine aE (E := 206) (sz := 1) O [[wv (1779033703#32)], [wv (3144134277#32)], [wv (1013904242#32)], [wv (2773480762#32)], [wv (1359893119#32)], [wv (2600822924#32)], [wv (528734635#32)], [wv (1541459225#32)]] kr sm O de de Z Y fun a w1 Z Y => wla Z O fun a Z => G2 <| aa fun _ G3 => ?_
 refine wlm Z O fun a Z => bD Z Y call143 O (oG s _ hs) fun a w2 x1 hp Z Y => ?_
 revert x1 hp Z Y; rintro bz hp Z Y
 clear hp
 replace Y := Y.n2 O
 refine wla Z O fun a Z => G3 <| ah fun _ G4 => ?_
 refine aa fun _ G5 => wla Z O fun a Z => G5 <| ar ?_
 replace Y := Y.n2 O
 refine aW (fun m a w => ∃ (q : Nat) (hz : Value), m = (padded s).length / 64 - q ∧ (q ≤ (padded s).length / 64) ∧ Fr 56 [(2, sv ([])), (4, bz), (3, hz), (5, jv ((64 * q : Nat) : Int))] [] a ∧ St No w0 [own hz 206 1 (((blocks h0 (padded s) q).l).map fun x => [wv x]), own bz 5 1 ((padded s).map fun b => [yv b])] w) _ ⟨0, (.slice (some ⟨w0.hz, 0, none⟩) 8 8), O, ym _, Z.pick [2, 4, 3, 5], Y.select [1, 0] de⟩ ?_
 rintro _ a w3 ⟨q, hz, rfl, hq, Z, Y⟩
 refine ah fun _ G6 => aa fun _ G7 => nv Z <| xK O <| xK O <| xJ ((aI (sT := 60) (Y.ow 1 O) O O (runUnderlying60 _)).asi (m' := ((padded s).length : Int)) Ai) <| xJ (v_lt O O) <| fun a Z => G7 <| aA Z O (fun hc2 => ?_) (fun hc2 => ?_)
 ·have hpl := gO s
  refine au <| G6 <| ah fun _ G8 => ar <| ai <| nv Z <| xK O <| xK O <| xK O <| xK O <| xJ (aP O O ⟨om, om⟩) <| xJ (dt (l := (64 * q)) (h := (64 * q + 64)) (Y.ow 1 O) O O O underlying60 kr (.inr (by first | rfl | (rw [show (((64 * q : Nat) : Int) : Int) = (((64 * q) : Nat) : Int) from by omega] <;> rfl))) (.inr (by first | rfl | (rw [show (((64 * q : Nat) : Int) + 64 : Int) = (((64 * q + 64) : Nat) : Int) from by omega] <;> rfl))) om Au) <| fun a Z => bD Z Y call144 O (sW hz (cut bz 1 (64 * q) (64 * q + 64) (slCap bz)) (blocks h0 (padded s) q) (((padded s).drop (64 * q)).take 64) _ (Y.ow 0 O) (by have h := ((Y.ow 1 O).cutm (l := (64 * q)) (h := (64 * q + 64)) om (by first | omega | (simp; omega))); rwa [show 64 * q + 64 - 64 * q = 64 from by omega] at h) As) fun a w4 x4 hp Z Y => ?_
  revert x4 hp Z Y; rintro v3 hp Z Y
  clear hp
  replace Y := Y.n3 O
  refine wla Z O fun a Z => ab <| G8 ?_
  refine ai <| nv (Z.p4 2 4 5 3 O) <| xK O <| xJ (aP O O ⟨om, om⟩) <| xL O <| fun a Z => ab ?_
  replace Y := Y.n3 O
  rw [show ((64 * q : Nat) : Int) + 64 = ((64 * (q + 1) : Nat) : Int) from by omega] at Z
  refine ⟨_, ?_, q + 1, v3, O, om, Z.pick [2, 4, 3, 5], Y.select [0, 2] de⟩
  omega
 have hpl := gO s
 obtain rfl : q = (padded s).length / 64 := by omega
 refine aO <| G4 <| aa fun _ G9 => wla Z O fun a Z => G9 ?_
 refine ah fun _ G10 => aa fun _ G11 => wla (Z.p3 2 3 6 O) O fun a Z => G11 <| ar ?_
 replace Y : St No w0 [own (.slice none 0 0) 5 1 (((blocks h0 (padded s) ((padded s).length / 64)).out.take (4 * 0)).map fun b => [yv b]), own hz 206 1 (((blocks h0 (padded s) ((padded s).length / 64)).l).map fun x => [wv x]), own bz 5 1 ((padded s).map fun b => [yv b])] w3 := Y.nil_own
 refine aW (fun m a w => ∃ (r : Nat) (oz : Value), m = 8 - r ∧ (r ≤ 8) ∧ Fr 56 [(2, sv ([])), (3, hz), (6, oz), (7, jv (r : Int))] [] a ∧ St No w0 [own oz 5 1 (((blocks h0 (padded s) ((padded s).length / 64)).out.take (4 * r)).map fun b => [yv b]), own hz 206 1 (((blocks h0 (padded s) ((padded s).length / 64)).l).map fun x => [wv x])] w) _ ⟨0, .slice none 0 0, O, ym _, Z.pick [2, 3, 6, 7], Y.select [0, 1] de⟩ ?_
 rintro _ a w5 ⟨r, oz, rfl, hr, Z, Y⟩
 refine ah fun _ G12 => aa fun _ G13 => nv Z <| xK O <| xJ (v_lt O O) <| fun a Z => G13 <| aA Z O (fun hc5 => ?_) (fun hc5 => ?_)
 ·refine au <| G12 <| ah fun _ G14 => ar <| aL (aN fun w6 hxz => ?_)
  replace Y := Y.grow hxz
  refine aU (k := 0) 25 [0, 24] Z ?_
  replace Z := Z.p5 2 3 6 7 24 O
  refine bO [24] (fun i => match i with | 24 => pm (fun b : Nat => .slice (some ⟨b, 0, none⟩) 4 4) (fun b => [own (.slice (some ⟨b, 0, none⟩) 4 4) 5 1 [[yv (UInt8.ofNat (((blocks h0 (padded s) ((padded s).length / 64)).l.getD r 0#32) >>> 24).toNat)], [yv (UInt8.ofNat (((blocks h0 (padded s) ((padded s).length / 64)).l.getD r 0#32) >>> 16).toNat)], [yv (UInt8.ofNat (((blocks h0 (padded s) ((padded s).length / 64)).l.getD r 0#32) >>> 8).toNat)], [yv (UInt8.ofNat ((blocks h0 (padded s) ((padded s).length / 64)).l.getD r 0#32).toNat)]]]) (fun _ => True) | _ => fun _ _ => False) 25 [[], [], [], [1, 2], [3], [4], [5], [], [], [7, 8], [9], [10], [11], [], [], [13, 14], [15], [16], [17], [], [], [19, 20], [21], [22], [6, 12, 18, 23]] [oz, hz, jv (r : Int), slAddr hz (r * 1), wv ((blocks h0 (padded s) ((padded s).length / 64)).l.getD r 0#32), wv (((blocks h0 (padded s) ((padded s).length / 64)).l.getD r 0#32) >>> 24), yv (UInt8.ofNat (((blocks h0 (padded s) ((padded s).length / 64)).l.getD r 0#32) >>> 24).toNat), hz, jv (r : Int), slAddr hz (r * 1), wv ((blocks h0 (padded s) ((padded s).length / 64)).l.getD r 0#32), wv (((blocks h0 (padded s) ((padded s).length / 64)).l.getD r 0#32) >>> 16), yv (UInt8.ofNat (((blocks h0 (padded s) ((padded s).length / 64)).l.getD r 0#32) >>> 16).toNat), hz, jv (r : Int), slAddr hz (r * 1), wv ((blocks h0 (padded s) ((padded s).length / 64)).l.getD r 0#32), wv (((blocks h0 (padded s) ((padded s).length / 64)).l.getD r 0#32) >>> 8), yv (UInt8.ofNat (((blocks h0 (padded s) ((padded s).length / 64)).l.getD r 0#32) >>> 8).toNat), hz, jv (r : Int), slAddr hz (r * 1), wv ((blocks h0 (padded s) ((padded s).length / 64)).l.getD r 0#32), yv (UInt8.ofNat ((blocks h0 (padded s) ((padded s).length / 64)).l.getD r 0#32).toNat), undef] Z Y ?_ ?_ ?_
  ·exact zV <| hqv (ay rfl) <| hqv (ay rfl) <| hqv (ay rfl) <| hqw (fun Y => (aj (i := (r : Int)) (sT := 207) (Y.ow 1 rfl) rfl rfl (runUnderlying207 _) (sizeOf206 _) om Ao).as (v' := slAddr hz (r * 1)) rfl) <| hqw (fun Y => aB (u := wv ((blocks h0 (padded s) ((padded s).length / 64)).l.getD r 0#32)) (i := r) (j := 0) (Y.ow 1 rfl) Ao rfl (isAgg206 _) Aw) <| hqv (fh (n := 24) rfl rfl) <| hqv (fw rfl kr underlying5) <| hqv (ay rfl) <| hqv (ay rfl) <| hqw (fun Y => (aj (i := (r : Int)) (sT := 207) (Y.ow 1 rfl) rfl rfl (runUnderlying207 _) (sizeOf206 _) om Ao).as (v' := slAddr hz (r * 1)) rfl) <|
    hqw (fun Y => aB (u := wv ((blocks h0 (padded s) ((padded s).length / 64)).l.getD r 0#32)) (i := r) (j := 0) (Y.ow 1 rfl) Ao rfl (isAgg206 _) Aw) <| hqv (fh (n := 16) rfl rfl) <| hqv (fw rfl kr underlying5) <| hqv (ay rfl) <| hqv (ay rfl) <| hqw (fun Y => (aj (i := (r : Int)) (sT := 207) (Y.ow 1 rfl) rfl rfl (runUnderlying207 _) (sizeOf206 _) om Ao).as (v' := slAddr hz (r * 1)) rfl) <| hqw (fun Y => aB (u := wv ((blocks h0 (padded s) ((padded s).length / 64)).l.getD r 0#32)) (i := r) (j := 0) (Y.ow 1 rfl) Ao rfl (isAgg206 _) Aw) <| hqv (fh (n := 8) rfl rfl) <| hqv (fw rfl kr underlying5) <| hqv (ay rfl) <| hqv (ay rfl) <|
    hqw (fun Y => (aj (i := (r : Int)) (sT := 207) (Y.ow 1 rfl) rfl rfl (runUnderlying207 _) (sizeOf206 _) om Ao).as (v' := slAddr hz (r * 1)) rfl) <| hqw (fun Y => aB (u := wv ((blocks h0 (padded s) ((padded s).length / 64)).l.getD r 0#32)) (i := r) (j := 0) (Y.ow 1 rfl) Ao rfl (isAgg206 _) Aw) <| hqv (fw rfl kr underlying5) <| zT (fun h => absurd sm h) <| zU
  ·intro i hi
   simp only [xX, yc, yz] at hi
   subst hi
   ·intro w Y
    exact bR (E := 5) (sz := 1) O [[yv (UInt8.ofNat (((blocks h0 (padded s) ((padded s).length / 64)).l.getD r 0#32) >>> 24).toNat)], [yv (UInt8.ofNat (((blocks h0 (padded s) ((padded s).length / 64)).l.getD r 0#32) >>> 16).toNat)], [yv (UInt8.ofNat (((blocks h0 (padded s) ((padded s).length / 64)).l.getD r 0#32) >>> 8).toNat)], [yv (UInt8.ofNat ((blocks h0 (padded s) ((padded s).length / 64)).l.getD r 0#32).toNat)]] (fun _ => by kernel_rfl) sm O de
  clear Z Y
  rintro _ _ ⟨b6, rfl, -, rfl⟩ a w7 Z Y
  replace Z := Z.p5 28 52 2 3 7 O
  replace Y := Y.n3 O
  refine ab <| aM (k := 25) 27 [26] ?_
  refine aY (i := 1) (sT := 60) (inf := Tryz.t5) (z := yv (0 : UInt8)) (b := 0) (off := 0) (m := 0) (c := 0) O O O (Y.ow 0 O) sm underlying60 O O O O de z6 Bg Bg de Z Y fun a w8 s7 Z Y _ => wla Z O fun a Z => ab <| aT <| G14 ?_
  replace Y := Y.k2 6 O
  refine ai <| nv (Z.p4 2 3 7 6 O) <| xK O <| xJ (aP O O ⟨om, om⟩) <| xL O <| fun a Z => ab ?_
  rw [show (((blocks h0 (padded s) ((padded s).length / 64)).out.take (4 * r)).map fun b => [yv b]) ++ ([[yv (UInt8.ofNat (((blocks h0 (padded s) ((padded s).length / 64)).l.getD r 0#32) >>> 24).toNat)], [yv (UInt8.ofNat (((blocks h0 (padded s) ((padded s).length / 64)).l.getD r 0#32) >>> 16).toNat)], [yv (UInt8.ofNat (((blocks h0 (padded s) ((padded s).length / 64)).l.getD r 0#32) >>> 8).toNat)], [yv (UInt8.ofNat ((blocks h0 (padded s) ((padded s).length / 64)).l.getD r 0#32).toNat)]]) = (((blocks h0 (padded s) ((padded s).length / 64)).out.take (4 * (r + 1))).map fun b => [yv b]) from by rw [tx _ om]; simp] at Y
  refine ⟨_, ?_, r + 1, s7, O, om, Z.pick [2, 3, 6, 7], Y.select [0, 1] de⟩
  omega
 obtain rfl : r = 8 := by omega
 rw [show 4 * 8 = 32 from rfl, y9 (by rw [jO]; decide)] at Y
 refine aO <| G10 <| aa fun _ G15 => nv Z <| xK O <| xJ (eI (Y.ow 0 O) O underlying60 underlying5 underlying9) <| xL O <| fun a Z => G15 ?_
 replace Z := Z.p1 2 O
 refine ap <| am Z results96 (ag O ae) ?_
 exact ⟨by rfl, Y.ext⟩
theorem kN (s : By) (w0 : World) (hs : s.length ≤ 40000000) :
  Ret Tryz.prog 36 #[sv s] w0 fun v w => v = sv (leafH sha s) ∧ Ext No w0 w := by
 refine zN func36 O ntmps36 (lb O) fun a Z Y => ?_
 refine aa fun _ G1 => wla Z O fun a Z => G1 <| aa fun _ G2 => ?_
 refine nv Z <| xK O <| xJ (cP O O BK) <| fun a Z => aw Z Y call96 O (jF (([0]) ++ s) _ (by simp only [xQ, xZ, ya]; omega)) fun a w1 Z Y => wla Z O fun a Z => G2 <| ap ?_
 refine am Z results36 (ag O ae) ?_
 exact ⟨by rfl, Y.ext⟩
theorem uu (s t : By) (w0 : World) (hs : s.length ≤ 40000000) (ht : t.length ≤ 40000000) :
  Ret Tryz.prog 175 #[sv s, sv t] w0 fun v w => v = sv (nodeH sha s t) ∧ Ext No w0 w := by
 refine zM func175 O ntmps175 (lb O) fun a Z Y => ?_
 refine aa fun _ G1 => wla Z O fun a Z => G1 <| aa fun _ G2 => ?_
 refine nv Z <| xK O <| xJ (cP O O BK) <| xK O <| xJ (cP O O BK) <| fun a Z => aw Z Y call96 O (jF ((([1]) ++ s) ++ t) _ (by simp only [xQ, xZ, ya]; omega)) fun a w1 Z Y => wla Z O fun a Z => G2 ?_
 replace Z := Z.p1 4 O
 refine ap <| am Z results175 (ag O ae) ?_
 exact ⟨by rfl, Y.ext⟩
theorem u9 {f z : Nat} (h : z < 128 ^ (f + 1)) (hz : 128 ≤ z) : ∃ g, f = g + 1 := by
 cases f with
 | zero => exfalso; simp at h; omega
 | succ g => exact ⟨g, rfl⟩
theorem mW {f z : Nat} (h : z < 128 ^ (f + 1 + 1)) : z / 128 < 128 ^ (f + 1) := by
 rw [Nat.pow_succ] at h
 exact Nat.div_lt_of_lt_mul (by rw [Nat.mul_comm]; exact h)
theorem we {f z : Nat} (h : 128 ≤ z) : vb (f + 1) z = UInt8.ofNat (z % 128 + 128) :: vb f (z / 128) := by rw [vb, yk om]
theorem vx {f z : Nat} (h : z < 128) : vb f z = [UInt8.ofNat z] := by cases f <;> simp [vb, h]
theorem ql {n : Int} (h : small n) : zz n < 128 ^ (8 + 1) := by
 have := tg h.1 h.2
 have e : (128 : Nat) ^ (8 + 1) = 9223372036854775808 := by decide
 rw [e]; exact this
theorem sX {n : Int} (h : small n) : zz n < 18446744073709551616 := by have := tg h.1 h.2; omega
def gs : Nat → Nat → List (UInt8 × Bool)
 | 0, z => [(UInt8.ofNat (z % 128), true)]
 | f + 1, z => if z < 128 then [(UInt8.ofNat (z % 128), true)] else (UInt8.ofNat (z % 128), false) :: gs f (z / 128)
def enc1 (x : UInt8 × Bool) : UInt8 := if x.2 then x.1 else x.1 ||| 128
def encG (x : UInt8 × Bool) : List Value := [yv x.1, .bool x.2]
def NxG (pre : List (UInt8 × Bool)) (x : UInt8 × Bool) : Prop := pre.length < 9
theorem vW {f z : Nat} (h : ¬ z < 128) : gs (f + 1) z = (UInt8.ofNat (z % 128), false) :: gs f (z / 128) := by rw [gs, yk h]
theorem vG {f z : Nat} (h : z < 128) : gs f z = [(UInt8.ofNat (z % 128), true)] := by cases f <;> simp [gs, h]
theorem or128 : ∀ k, k < 128 → UInt8.ofNat k ||| 128 = UInt8.ofNat (k + 128) := by decide
theorem wT : ∀ (f z : Nat), z < 128 ^ (f + 1) → (gs f z).map enc1 = vb f z
 | 0, z, h => by simp [gs, vb, enc1] at h ⊢; rw [Nat.mod_eq_of_lt h]
 | f + 1, z, h => by
  unfold gs vb
  split
  ·rename_i h1
   simp [enc1, Nat.mod_eq_of_lt h1]
  ·rw [yQ, wT f _ (mW h), enc1]
   simp only [zF, if_false]
   rw [or128 _ (Nat.mod_lt _ de)]
def cu (n : Int) : Nat := (n % 18446744073709551616).toNat
theorem v_zz {P : Program} {w : World} {L : List (Nat × Value)} {dst : Option Tmp} {T T' ty : TypeId} {pos : String} {af : Array Edge} {gd : Option (Nat × Bool)} {x y : Operand} {n : Int} (hs : small n)
  (hx : ev L x = some (.int .u64 ((cu n * 2 % 18446744073709551616 : Nat) : Int))) (hy : ev L y = some (.int .u64 ((cu (if n < 0 then -1 else 0) : Nat) : Int))) : OpV P ⟨dst, .binOp .xor T x y T', ty, pos, af, gd⟩ L w (.int .u64 ((zz n : Nat) : Int)) := by
 have h1 := hs.1
 have h2 := hs.2
 by_cases hn : n < 0
 ·rw [yl hn] at hy
  have e : zz n = 18446744073709551615 - cu n * 2 % 18446744073709551616 := by unfold zz cu; rw [yl hn]; omega
  rw [e]
  exact vk (Nat.mod_lt _ de) hx (by rw [hy]; rfl)
 ·rw [yk hn] at hy
  have e : zz n = cu n * 2 % 18446744073709551616 := by unfold zz cu; rw [yk hn]; omega
  rw [e]
  exact wy (Nat.mod_lt _ de) hx (by rw [hy]; rfl)
theorem rh (n : Int) (w0 : World) (hs : small n) :
  Ret Tryz.prog 172 #[jv n] w0 fun v w => v = .int .u64 ((zz n : Nat) : Int) ∧ Ext No w0 w := by
 have hs1 := hs.1
 have hs2 := hs.2
 refine zN func172 O ntmps172 (lb O) fun a Z Y => ?_
 refine aa fun _ G1 => wla Z O fun a Z => G1 <| ah fun _ G2 => ?_
 refine aa fun _ G3 => nv Z <| xK O <| xJ (v_lt O O) <| fun a Z => G3 <| aA Z O (fun hc1 => ?_) (fun hc1 => ?_)
 ·refine aa fun _ G4 => nv Z <| xK O <| xJ (kG O om om) <| xJ ((dX O kr underlying190).asi (m' := (((-n).toNat : Nat) : Int)) om) <| xJ (uB (m := (-n).toNat) (n := 2) om O O) <| xJ (uP (m := ((-n).toNat * 2)) (n := 1) om om O O) <| xL O <| fun a Z => G4 ?_
  replace Z := Z.p2 0 2 O
  refine ap <| am Z results172 (ag O ae) ?_
  refine ⟨yr (Value.int .u64) ?_, Y.ext⟩
  unfold zz
  split <;> omega
 refine au <| G2 <| aa fun _ G5 => nv Z <| xK O <| xJ ((dX O kr underlying190).asi (m' := (((n).toNat : Nat) : Int)) om) <| xJ (uB (m := (n).toNat) (n := 2) om O O) <| xL O <| fun a Z => G5 ?_
 replace Z := Z.p1 2 O
 refine ap <| am Z results172 (ag O ae) ?_
 refine ⟨yr (Value.int .u64) ?_, Y.ext⟩
 unfold zz
 split <;> omega
theorem fH (n : Int) (w0 : World) (hs : small n) :
  Ret Tryz.prog 129 #[jv n] w0 fun v w => v = .tuple #[sv (putI n), jv 0] ∧ Ext No w0 w := by
 refine zN func129 O ntmps129 (lb O) fun a Z Y => ?_
 refine aa fun _ G1 => nv Z <| xL O <| xL O <| fun a Z => G1 <| ah fun _ G2 => ?_
 refine aa fun _ G3 => nv Z <| xK O <| xJ ((v_lt O O).asb (b' := false) (by rw [yq]; have := hs.1; omega)) <| xK O <| xM (ay O) <| xM ((v_gt O O).asb (b' := false) (by rw [yq]; have := hs.2; omega)) <| xJ (ak O O) <| fun a Z => G3 <| aG Z O ?_
 refine au <| G2 <| aa fun _ G4 => wlm Z O fun a Z => aw Z Y call172 O (rh n _ hs) fun a w1 Z Y => wla Z O fun a Z => G4 ?_
 refine aa fun _ G5 => wla (Z.p3 2 3 4 O) O fun a Z => G5 <| ah fun _ G6 => ?_
 refine ar ?_
 replace Y : St No w0 [own (.slice none 0 0) 5 1 ((([] : By)).map fun b => [yv b])] w1 := Y.nil_own
 refine aW (fun m a w => ∃ (f : Nat) (z : Nat) (bs : By) (v : Value), m = f ∧ (bs ++ vb f z = putI n) ∧ (z < 128 ^ (f + 1)) ∧ (bs.length + f = 8) ∧ (z < 18446744073709551616) ∧ Fr 31 [(2, sv ([])), (3, jv 0), (4, .int .u64 (z : Int)), (5, v)] [] a ∧ St No w0 [own v 5 1 ((bs).map fun b => [yv b])] w) _ ⟨8, zz n, [], .slice none 0 0, O, O, ql hs, O, sX hs, Z.pick [2, 3, 4, 5], Y⟩ ?_
 rintro _ a w2 ⟨f, z, bs, v, rfl, hb, hz, hl, hz6, Z, Y⟩
 refine ah fun _ G7 => aa fun _ G8 => nv Z <| xK O <| xJ (v_ge O O) <| fun a Z => G8 <| aA Z O (fun hc1 => ?_) (fun hc1 => ?_)
 ·obtain ⟨g, rfl⟩ := u9 hz om
  rw [we om] at hb
  refine au <| G7 <| ar <| aa fun _ G9 => nv Z <| xK O <| xK O <| xJ (xg (m := z) (n := 128) om O O) <| xJ (xn (m := (z % 128)) (n := 128) om O O) <| xJ (je (n := ((z % 128) + 128)) O kr underlying5) <| fun a Z => aE (E := 5) (sz := 1) O [[yv (UInt8.ofNat ((z % 128) + 128))]] kr sm O de de Z Y fun a w3 Z Y => aY (i := 1) (sT := 60) (inf := Tryz.t5) (z := yv (0 : UInt8)) (b := 0) (off := 0) (m := 0) (c := 0) O O O (Y.ow 0 O) sm underlying60 O O O O de z6 AG AG de Z Y fun a w4 s2 Z Y _ => ?_
  rw [show ((bs).map fun b => [yv b]) ++ ([[yv (UInt8.ofNat ((z % 128) + 128))]]) = ((bs ++ [(UInt8.ofNat ((z % 128) + 128))]).map fun b => [yv b]) from by simp] at Y
  refine wla Z O fun a Z => G9 ?_
  replace Y := Y.k1 2 O
  refine ai <| nv (Z.p4 2 3 4 5 O) <| xK O <| xJ (wZ (m := z) (n := 128) om om O O) <| xL O <| fun a Z => ab ?_
  refine ⟨_, ?_, g, z / 128, bs ++ [UInt8.ofNat (z % 128 + 128)], s2, O, (by rw [yF]; exact hb), (mW hz), (by rw [xQ]; simp; omega), om, Z.pick [2, 3, 4, 5], Y⟩
  omega
 rw [vx om] at hb
 refine aO <| G6 <| aa fun _ G10 => nv Z <| xK O <| xK O <| xJ (je (n := z) O kr underlying5) <| fun a Z => aE (E := 5) (sz := 1) O [[yv (UInt8.ofNat z)]] kr sm O de de Z Y fun a w5 Z Y => aY (i := 1) (sT := 60) (inf := Tryz.t5) (z := yv (0 : UInt8)) (b := 0) (off := 0) (m := 0) (c := 0) O O O (Y.ow 0 O) sm underlying60 O O O O de z6 AG AG de Z Y fun a w6 s3 Z Y _ => ?_
 rw [show ((bs).map fun b => [yv b]) ++ ([[yv (UInt8.ofNat z)]]) = ((bs ++ [(UInt8.ofNat z)]).map fun b => [yv b]) from by simp] at Y
 refine nv Z <| xJ (eI (Y.ow 1 O) O underlying60 underlying5 underlying9) <| xL O <| xL O <| fun a Z => G10 ?_
 replace Z := Z.p2 2 3 O
 replace Y := Y.k0 0 O
 refine ap <| am Z results129 (ag O (ag O ae)) ?_
 exact ⟨by rw [← hb]; rfl, Y.ext⟩
theorem sS (z : Nat) (w0 : World) :
  Ret Tryz.prog 115 #[.int .u64 (z : Int)] w0 (MemR w0 (fun b : Nat => .func (.func 162) #[] #[pq b]) (fun b => [blk b [.int .u64 (z : Int)] 190]) (fun _ => True)) := by
 refine zN func115 O ntmps115 (lb O) fun a Z Y => ?_
 refine aa fun _ G1 => aS Z Y O [.int .u64 (z : Int)] O fun a w1 Z Y => wla Z O fun a Z => G1 <| aa fun _ G2 => ?_
 refine nv Z <| xJ (cd O O) <| xL O <| fun a Z => G2 <| ap ?_
 refine am Z results115 (ag O ae) ?_
 exact ⟨w0.hz, O, trivial, Y.ext, St.out (H := []) Y⟩
theorem pQ {M : Nat → Prop} {w0 : World} (z0 lp bg : Nat) (J Jx : List (UInt8 × Bool) → Ent → Prop) (hY : Rounds Tryz.prog M w0 lp encG NxG J Jx) (e0 : Ent) (ws : World) (hz0 : z0 < 128 ^ (8 + 1)) (hz06 : z0 < 18446744073709551616) (hJ : J [] e0) (Y : St M w0 [e0, blk bg [.int .u64 (z0 : Int)] 190] ws) :
  Ret Tryz.prog 162 #[.func (.yield lp) #[] #[], pq bg] ws fun _ w => ∃ e1 Hi1, St M w0 (e1 :: Hi1) w ∧ ((∃ xs, (xs = gs 8 z0 ∧ ∃ z1 : Nat, Hi1 = [blk bg [.int .u64 (z1 : Int)] 190]) ∧ J xs e1) ∨ (∃ pre, (∃ z1 : Nat, Hi1 = [blk bg [.int .u64 (z1 : Int)] 190]) ∧ Jx pre e1)) := by
 refine aC func162 O ntmps162 (lb O) fun a Z => ?_
 replace Z := Z.p2 0 1 O
 skip
 refine ar <| aW (fun m a w => ∃ (f : Nat) (z : Nat) (e : Ent) (dn : List (UInt8 × Bool)), m = f ∧ (dn ++ gs f z = gs 8 z0) ∧ (z < 128 ^ (f + 1)) ∧ (dn.length + f = 8) ∧ (z < 18446744073709551616) ∧ (J dn e) ∧ Fr 18 [(0, .func (.yield lp) #[] #[]), (1, pq bg)] [] a ∧ St M w0 [e, blk bg [.int .u64 (z : Int)] 190] w) _ ⟨8, z0, e0, [], O, O, hz0, O, hz06, hJ, Z.pick [0, 1], Y⟩ ?_
 rintro _ a w1 ⟨f, z, e, dn, rfl, hg, hz, hl, hz6, hJ, Z, Y⟩
 refine ar <| aa fun _ G1 => nv Z <| xJ (ld Y 1 O O (isAgg190 _) O) <| xJ (v_lt O O) <| xL O <| fun a Z => G1 <| ah fun _ G2 => ?_
 refine aa fun _ G3 => nv Z <| xK O <| xJ (ld Y 1 O O (isAgg190 _) O) <| xJ ((tj (m := z) (k := 7) om om O O).asi (m' := ((z % 128 : Nat) : Int)) O) <| xJ (je (n := (z % 128)) O kr underlying5) <| xK O <| fun a Z => wl_r (fD O O (hY.yield (pre := dn) (x := (UInt8.ofNat (z % 128), decide ((z : Int) < 128))) (by show dn.length < 9; omega) hJ (Y.only (i := 0) O))) O O Z fun a v w2 hR Z => ?_
 obtain ⟨y1, e2, rfl, hx, hok, hft, hJt, hJf⟩ := hR
 replace Y := Y.exchange (k := 0) rfl hx hok hft
 replace Y := Y.n2 O
 clear hx hok hft
 refine nv Z <| xJ (bE O) <| xK O <| fun a Z => ?_
 rcases xU (!y1) with hb3 | hb3
 ·rw [hb3] at Z
  try simp only [qz] at hb3
  have hJ := hJf hb3
  refine nv Z <| xN <| xJ (ax O O) <| fun a Z => G3 ?_
  replace Z := Z.p3 0 1 15 O
  refine aK Z O ?_
  refine ap <| am Z results162 ae ?_
  first | exact ⟨_, _, Y, .inl ⟨_, ⟨rfl, _, rfl⟩, hJ⟩⟩ | exact ⟨_, _, Y, .inr ⟨_, ⟨_, rfl⟩, hJ⟩⟩
 rw [hb3] at Z
 try simp only [qz] at hb3
 have hJ := hJt hb3
 refine nv Z <| xM (ay O) <| xJ (ak O O) <| fun a Z => G3 ?_
 replace Z := Z.p3 0 1 15 O
 refine aA Z O (fun hc4 => ?_) (fun hc4 => ?_)
 ·rw [xS hc4] at hJ
  rw [vG om] at hg
  rw [hg] at hJ
  refine ap <| am Z results162 ae ?_
  first | exact ⟨_, _, Y, .inl ⟨_, ⟨rfl, _, rfl⟩, hJ⟩⟩ | exact ⟨_, _, Y, .inr ⟨_, ⟨_, rfl⟩, hJ⟩⟩
 rw [xW hc4] at hJ
 obtain ⟨g, rfl⟩ := u9 hz om
 rw [vW om] at hg
 refine au <| G2 <| ai <| nv Z <| xJ (ld Y 1 O O (isAgg190 _) O) <| xJ ((pi (m := z) (n := 7) om O O).asi (m' := ((z / 128 : Nat) : Int)) O) <| fun a Z => az 1 Z Y [.int .u64 ((z / 128 : Nat) : Int)] O (sizeOf190 _) fun a w3 Z Y => ab ?_
 refine ⟨_, ?_, g, z / 128, e2, dn ++ [(UInt8.ofNat (z % 128), false)], O, (by rw [yF]; exact hg), (mW hz), (by rw [xQ]; simp; omega), om, hJ, Z.pick [0, 1], Y⟩
 omega
theorem o0 {M : Nat → Prop} {w0 : World} (z0 bg : Nat) (hz0 : z0 < 128 ^ (8 + 1)) (hz06 : z0 < 18446744073709551616) :
  Iter Tryz.prog 162 [pq bg] encG NxG (fun xs Hi1 => xs = gs 8 z0 ∧ ∃ z1 : Nat, Hi1 = [blk bg [.int .u64 (z1 : Int)] 190]) (fun pre Hi1 => ∃ z1 : Nat, Hi1 = [blk bg [.int .u64 (z1 : Int)] 190]) M w0 [blk bg [.int .u64 (z0 : Int)] 190] :=
 fun lp J Jx w e hY hJ Y => pQ z0 lp bg J Jx hY e w hz0 hz06 hJ Y
theorem fk (n : Int) (w0 : World) (hs : small n) :
  Ret Tryz.prog 60 #[jv n] w0 fun v w => v = .tuple #[sv (putI n), jv 0] ∧ Ext No w0 w := by
 have hs1 := hs.1
 have hs2 := hs.2
 refine zN func60 O ntmps60 (lb O) fun a Z Y => ?_
 refine aa fun _ G1 => nv Z <| xL O <| xL O <| fun a Z => G1 <| ah fun _ G2 => ?_
 refine aa fun _ G3 => nv Z <| xK O <| xJ ((v_lt O O).asb (b' := false) (by rw [yq]; have := hs.1; omega)) <| xK O <| xM (ay O) <| xM ((v_gt O O).asb (b' := false) (by rw [yq]; have := hs.2; omega)) <| xJ (ak O O) <| fun a Z => G3 <| aG Z O ?_
 refine au <| G2 <| aa fun _ G4 => aD Z Y (zeroValue60 _) [.slice none 0 0] O fun a w1 Z Y => G4 ?_
 refine ah fun _ G5 => aa fun _ G6 => nv (Z.p4 0 2 3 4 O) <| xK O <| xJ ((dX O kr underlying190).asi (m' := ((cu (n) : Nat) : Int)) O) <| xJ (tm (m := cu n) (n := 1) om O O) <| xK O <| xJ (vP om om O O) <| xJ ((dX O kr underlying190).asi (m' := ((cu (if n < 0 then -1 else 0) : Nat) : Int)) O) <| xJ (v_zz hs O O) <| fun a Z => bD Z Y call115 O (sS (zz n) _) fun a w2 x1 hp Z Y => ?_
 revert x1 hp Z Y; rintro bg hp Z Y
 clear hp
 replace Y := Y.n2 O
 refine G6 ?_
 replace Z := Z.p4 2 3 4 20 O
 refine ar ?_
 replace Y : St No w0 [own (.slice none 0 0) 5 1 ((([] : List (UInt8 × Bool)).map enc1).map fun b => [yv b]), blk bg [.int .u64 (zz n : Int)] 190, blk w0.hz [.slice none 0 0] 60] w2 := Y.nil_own
 replace Y := Y.s3 [2, 0, 1] de rfl
 replace Z := Z.p4 2 3 4 20 O
 refine dG (M := No) (w0 := w0) (encs := encG) (Hi := [blk bg [.int .u64 (zz n : Int)] 190]) (Hc := [blk w0.hz [.slice none 0 0] 60, own (.slice none 0 0) 5 1 ((([] : List (UInt8 × Bool)).map enc1).map fun b => [yv b])]) (fun pre H => ∃ (v : Value), H = [blk w0.hz [v] 60, own v 5 1 ((pre.map enc1).map fun b => [yv b])]) (fun _ _ _ => False) (fun pre xs H a => Fr 33 [(2, sv ([])), (3, jv 0), (4, pq w0.hz), (20, .func (.func 162) #[] #[pq bg]), (5, yv xs.1), (6, .bool xs.2)] [] a ∧ ∃ (v : Value), H = [blk w0.hz [v] 60, own v 5 1 ((pre.map enc1).map fun b => [yv b])]) O call162 Z Y (o0 (zz n) bg (ql hs) (sX hs)) de (fun _ => O) ⟨.slice none 0 0, O⟩ ?_ ?_ ?_ ?_
 ·clear Z Y
  rintro lp pre xs _ a w3 hnx ⟨v, rfl⟩ Z Y
  generalize (join [blk w0.hz [v] 60, own v 5 1 ((pre.map enc1).map fun b => [yv b])]).foot = M1 at Y ⊢
  refine aa fun _ G7 => wla (Z.p6 22 21 2 3 4 20 O) O fun a Z => G7 <| ai ?_
  refine wla Z O fun a Z => ab ?_
  exact ⟨_, ⟨Z.pick [2, 3, 4, 20, 5, 6], v, O⟩, Y⟩
 ·rintro lp pre xs _ a w4 hnx ⟨Z, v, rfl⟩ hout hrec hnl Y
  clear hrec hnl
  generalize (join [blk w0.hz [v] 60, own v 5 1 ((pre.map enc1).map fun b => [yv b])]).foot = M1 at Y hout ⊢
  refine ar <| ah fun _ G8 => aa fun _ G9 => nv Z <| xK O <| xJ (bE O) <| fun a Z => G9 <| bt Z O (fun hc2 => ?_) (fun hc2 => ?_)
  ·try simp only [qz] at hc2
   refine ai <| nv Z <| xK O <| xJ (v_yor (a := xs.1) (b := (128 : UInt8)) O O) <| xL O <| fun a Z => ab <| G8 ?_
   refine ai <| nv (Z.p4 2 3 4 5 O) <| xJ (ld Y 0 O O (isAgg60 _) O) <| xK O <| fun a Z => aE (E := 5) (sz := 1) O [[yv (xs.1 ||| (128 : UInt8))]] kr sm O de de Z Y fun a w5 Z Y => aY (i := 2) (sT := 60) (inf := Tryz.t5) (z := yv (0 : UInt8)) (b := 0) (off := 0) (m := 0) (c := 0) O O O (Y.ow 0 O) sm underlying60 O O O O de z6 Ax Ax de Z Y fun a w6 s3 Z Y _ => ?_
   rw [show ((pre.map enc1).map fun b => [yv b]) ++ ([[yv (xs.1 ||| (128 : UInt8))]]) = (((pre ++ [xs]).map enc1).map fun b => [yv b]) from by simp [enc1, hc2]] at Y
   refine cf 1 Z Y (Y.ow 2 O) O O O (sizeOf60 _) (lb O) (ds := [s3]) O O fun a w7 Z Y => ab ?_
   exact ⟨_, ⟨s3, O⟩, Y.select [1, 2] de⟩
  try simp only [qz] at hc2
  refine au <| G8 <| ai <| nv Z <| xJ (ld Y 0 O O (isAgg60 _) O) <| xK O <| fun a Z => aE (E := 5) (sz := 1) O [[yv xs.1]] kr sm O de de Z Y fun a w8 Z Y => aY (i := 2) (sT := 60) (inf := Tryz.t5) (z := yv (0 : UInt8)) (b := 0) (off := 0) (m := 0) (c := 0) O O O (Y.ow 0 O) sm underlying60 O O O O de z6 Ax Ax de Z Y fun a w9 s4 Z Y _ => ?_
  rw [show ((pre.map enc1).map fun b => [yv b]) ++ ([[yv xs.1]]) = (((pre ++ [xs]).map enc1).map fun b => [yv b]) from by simp [enc1, hc2]] at Y
  refine cf 1 Z Y (Y.ow 2 O) O O O (sizeOf60 _) (lb O) (ds := [s4]) O O fun a w10 Z Y => ab ?_
  exact ⟨_, ⟨s4, O⟩, Y.select [1, 2] de⟩
 ·rintro D pre _ _ a w11 ⟨rfl, z1, rfl⟩ ⟨v, rfl⟩ Y Z
  replace Z := Z.p4 2 3 4 20 O
  replace Y := Y.n4 O
  refine G5 <| aa fun _ G10 => nv Z <| xJ (ld Y 1 O O (isAgg60 _) O) <| xJ (eI (Y.ow 2 O) O underlying60 underlying5 underlying9) <| xL O <| xL O <| fun a Z => G10 <| ap ?_
  have hD := Y.g 0 rfl
  replace Y := Y.unmark (i := 0) (o' := .deferred none) O
  replace Y := Y.n3 O
  refine ct Z hD results60 (ag O (ag O ae)) ?_
  exact ⟨by rw [wT 8 _ (ql hs)]; rfl, Y.ext⟩
 ·rintro D c pre _ _ a w12 _ h
  exact h.elim
def Wsh.nums (x : Wsh) : List Int := [1, x.signer, x.holder, x.rf, x.rt, x.carrier, x.serial, x.sf, x.st]
def Pxy.nums (x : Pxy) : List Int := [2, x.frm, x.to, x.rf, x.rt, x.sf, x.st]
def smalls (l : List Int) : Prop := ∀ n ∈ l, small n
theorem Wsh.smalls_of {x : Wsh} (h : x.ok = true) : smalls x.nums := by
 simp only [Wsh.ok, inB, cF, dy, xP, xT] at h
 intro n hn
 simp only [Wsh.nums, xX, yc, yz] at hn
 unfold small
 rcases hn with rfl | rfl | rfl | rfl | rfl | rfl | rfl | rfl | rfl <;> omega
theorem Pxy.smalls_of {x : Pxy} (h : x.ok = true) : smalls x.nums := by
 simp only [Pxy.ok, inB, cF, dy, xP, xT] at h
 intro n hn
 simp only [Pxy.nums, xX, yc, yz] at hn
 unfold small
 rcases hn with rfl | rfl | rfl | rfl | rfl | rfl | rfl <;> omega
theorem Wsh.content_len (x : Wsh) : x.content.length ≤ 81 := yL (dQ _) (yx _)
theorem Pxy.content_len (x : Pxy) : x.content.length ≤ 63 := yL (dQ _) (yx _)
theorem md (n lo hi : Int) (w0 : World) :
  Ret Tryz.prog 108 #[jv n, jv lo, jv hi] w0 fun v w => v = .bool (inB n lo hi) ∧ Ext No w0 w := by
 refine zO func108 O ntmps108 (lb O) fun a Z Y => ?_
 refine aa fun _ G1 => wla Z O fun a Z => G1 <| aa fun _ G2 => ?_
 refine nv Z <| xK O <| xK O <| xJ (v_ge O O) <| xK O <| fun a Z => dj (N := 15) (df := []) 4 [(14, .bool ((decide (lo ≤ n)) && (decide (n ≤ hi)))), (0, jv n), (1, jv lo), (2, jv hi), (6, .bool false)] ?_ (fun hj => ?_)
 rotate_left
 ·rcases xU (decide (lo ≤ n)) with hb1 | hb1
  ·rw [hb1] at Z
   have hb1b := hb1
   try simp only [qz, xP, yh, yd, yg] at hb1
   refine nv Z <| xM (ay O) <| xM (ay O) <| xM (v_le O O) <| xJ (ax O O) <| fun a Z => hj _ ?_
   try rw [hb1b]
   exact Z.pick [14, 0, 1, 2, 6]
  rw [hb1] at Z
  have hb1b := hb1
  try simp only [qz, xP, yh, yd, yg] at hb1
  refine nv Z <| xN <| xN <| xN <| xJ (ak O O) <| fun a Z => hj _ ?_
  try rw [hb1b]
  exact Z.pick [14, 0, 1, 2, 6]
 intro a Z
 refine wla Z O fun a Z => G2 <| ap ?_
 refine am Z results108 (ag O ae) ?_
 exact ⟨by rfl, Y.ext⟩
theorem mJ (b d : Int) (w0 : World) :
  Ret Tryz.prog 173 #[.agg #[jv b, jv d]] w0 fun v w => v = .bool (cF b d) ∧ Ext No w0 w := by
 refine zN func173 O ntmps173 (lb O) fun a Z Y => ?_
 refine aa fun _ G1 => aS Z Y O [jv b, jv d] O fun a w1 Z Y => wla Z O fun a Z => G1 <| aa fun _ G2 => ?_
 refine nv Z <| xJ (ac (v := pq w0.hz) O kr) <| xJ (ld Y 0 O O (isAgg3 _) O) <| xJ (v_ge O O) <| xK O <| fun a Z => dj (N := 18) (df := []) 6 [(12, .bool ((decide (0 ≤ b)) && (decide (b < d)))), (0, .agg #[jv b, jv d]), (1, pq w0.hz), (2, .bool false)] ?_ (fun hj => ?_)
 rotate_left
 ·rcases xU (decide (0 ≤ b)) with hb1 | hb1
  ·rw [hb1] at Z
   have hb1b := hb1
   try simp only [qz, xP, yh, yd, yg] at hb1
   refine nv Z <| xM (ac (v := pq w0.hz) O kr) <| xM (ld Y 0 O O (isAgg3 _) O) <| xM (ac (v := pw2 w0.hz 1) O kr) <| xM (ld Y 0 O O (isAgg3 _) O) <| xM (v_lt O O) <| xJ (ax O O) <| fun a Z => hj _ ?_
   try rw [hb1b]
   exact Z.pick [12, 0, 1, 2]
  rw [hb1] at Z
  have hb1b := hb1
  try simp only [qz, xP, yh, yd, yg] at hb1
  refine nv Z <| xN <| xN <| xN <| xN <| xN <| xJ (ak O O) <| fun a Z => hj _ ?_
  try rw [hb1b]
  exact Z.pick [12, 0, 1, 2]
 intro a Z
 refine wlm Z O fun a Z => dj (N := 18) (df := []) 4 [(17, .bool (((decide (0 ≤ b)) && (decide (b < d))) && (decide (d ≤ 100000000)))), (0, .agg #[jv b, jv d]), (1, pq w0.hz), (2, .bool false)] ?_ (fun hj => ?_)
 rotate_left
 ·rcases xU ((decide (0 ≤ b)) && (decide (b < d))) with hb2 | hb2
  ·rw [hb2] at Z
   have hb2b := hb2
   try simp only [qz, xP, yh, yd, yg] at hb2
   refine nv Z <| xM (ac (v := pw2 w0.hz 1) O kr) <| xM (ld Y 0 O O (isAgg3 _) O) <| xM (v_le O O) <| xJ (ax O O) <| fun a Z => hj _ ?_
   try rw [hb2b]
   exact Z.pick [17, 0, 1, 2]
  rw [hb2] at Z
  have hb2b := hb2
  try simp only [qz, xP, yh, yd, yg] at hb2
  refine nv Z <| xN <| xN <| xN <| xJ (ak O O) <| fun a Z => hj _ ?_
  try rw [hb2b]
  exact Z.pick [17, 0, 1, 2]
 intro a Z
 refine wla Z O fun a Z => G2 <| ap ?_
 refine am Z results173 (ag O ae) ?_
 exact ⟨by rfl, Y.ext⟩
theorem mr (b d : Int) (w0 : World) :
  Ret Tryz.prog 174 #[.agg #[jv b, jv d]] w0 fun v w => v = .bool (dy b d) ∧ Ext No w0 w := by
 refine zN func174 O ntmps174 (lb O) fun a Z Y => ?_
 refine aa fun _ G1 => aS Z Y O [jv b, jv d] O fun a w1 Z Y => wla Z O fun a Z => G1 <| aa fun _ G2 => ?_
 refine nv Z <| xJ (ac (v := pq w0.hz) O kr) <| xJ (ld Y 0 O O (isAgg3 _) O) <| xJ (v_ge O O) <| xK O <| fun a Z => dj (N := 18) (df := []) 6 [(12, .bool ((decide (0 ≤ b)) && (decide (b < d)))), (0, .agg #[jv b, jv d]), (1, pq w0.hz), (2, .bool false)] ?_ (fun hj => ?_)
 rotate_left
 ·rcases xU (decide (0 ≤ b)) with hb1 | hb1
  ·rw [hb1] at Z
   have hb1b := hb1
   try simp only [qz, xP, yh, yd, yg] at hb1
   refine nv Z <| xM (ac (v := pq w0.hz) O kr) <| xM (ld Y 0 O O (isAgg3 _) O) <| xM (ac (v := pw2 w0.hz 1) O kr) <| xM (ld Y 0 O O (isAgg3 _) O) <| xM (v_lt O O) <| xJ (ax O O) <| fun a Z => hj _ ?_
   try rw [hb1b]
   exact Z.pick [12, 0, 1, 2]
  rw [hb1] at Z
  have hb1b := hb1
  try simp only [qz, xP, yh, yd, yg] at hb1
  refine nv Z <| xN <| xN <| xN <| xN <| xN <| xJ (ak O O) <| fun a Z => hj _ ?_
  try rw [hb1b]
  exact Z.pick [12, 0, 1, 2]
 intro a Z
 refine wlm Z O fun a Z => dj (N := 18) (df := []) 4 [(17, .bool (((decide (0 ≤ b)) && (decide (b < d))) && (decide (d ≤ 10000001)))), (0, .agg #[jv b, jv d]), (1, pq w0.hz), (2, .bool false)] ?_ (fun hj => ?_)
 rotate_left
 ·rcases xU ((decide (0 ≤ b)) && (decide (b < d))) with hb2 | hb2
  ·rw [hb2] at Z
   have hb2b := hb2
   try simp only [qz, xP, yh, yd, yg] at hb2
   refine nv Z <| xM (ac (v := pw2 w0.hz 1) O kr) <| xM (ld Y 0 O O (isAgg3 _) O) <| xM (v_le O O) <| xJ (ax O O) <| fun a Z => hj _ ?_
   try rw [hb2b]
   exact Z.pick [17, 0, 1, 2]
  rw [hb2] at Z
  have hb2b := hb2
  try simp only [qz, xP, yh, yd, yg] at hb2
  refine nv Z <| xN <| xN <| xN <| xJ (ak O O) <| fun a Z => hj _ ?_
  try rw [hb2b]
  exact Z.pick [17, 0, 1, 2]
 intro a Z
 refine wla Z O fun a Z => G2 <| ap ?_
 refine am Z results174 (ag O ae) ?_
 exact ⟨by rfl, Y.ext⟩
theorem nG (x : Wsh) (w0 : World) :
  Ret Tryz.prog 135 #[.agg #[jv x.signer, jv x.holder, jv x.rf, jv x.rt, jv x.carrier, jv x.serial, jv x.sf, jv x.st, sv x.sig]] w0 fun v w => v = .bool x.ok ∧ Ext No w0 w := by
 refine zN func135 O ntmps135 (lb O) fun a Z Y => ?_
 refine aa fun _ G1 => aS Z Y O [jv x.signer, jv x.holder, jv x.rf, jv x.rt, jv x.carrier, jv x.serial, jv x.sf, jv x.st, sv x.sig] O fun a w1 Z Y => wla Z O fun a Z => G1 <| aa fun _ G2 => ?_
 refine nv Z <| xJ (ac (v := pq w0.hz) O kr) <| xJ (ld Y 0 O O (isAgg3 _) O) <| fun a Z => aw Z Y call108 O (md x.signer 0 63 _) fun a w2 Z Y => wlm Z O fun a Z => ?_
 rcases xU (inB x.signer 0 63) with hb1 | hb1
 ·rw [hb1] at Z
  refine nv Z <| xM (ac (v := pw2 w0.hz 1) O kr) <| xM (ld Y 0 O O (isAgg3 _) O) <| fun a Z => aF Z Y call108 O (md x.holder 0 63 _) fun a w3 Z Y => nv Z <| xJ (ax O O) <| xK O <| fun a Z => ?_
  rcases xU (inB x.holder 0 63) with hb2 | hb2
  ·rw [hb2] at Z
   refine nv Z <| xM (ac (v := pw2 w0.hz 2) O kr) <| xM (bQ (ds := [jv x.rf, jv x.rt]) (Y.g 0 O) O (isAgg87 _) (sizeOf87 _) O) <| fun a Z => aF Z Y call173 O (mJ x.rf x.rt _) fun a w4 Z Y => nv Z <| xJ (ax O O) <| xK O <| fun a Z => ?_
   rcases xU (cF x.rf x.rt) with hb3 | hb3
   ·rw [hb3] at Z
    refine nv Z <| xM (ac (v := pw2 w0.hz 4) O kr) <| xM (ld Y 0 O O (isAgg3 _) O) <| fun a Z => aF Z Y call108 O (md x.carrier 0 7 _) fun a w5 Z Y => nv Z <| xJ (ax O O) <| xK O <| fun a Z => ?_
    rcases xU (inB x.carrier 0 7) with hb4 | hb4
    ·rw [hb4] at Z
     refine nv Z <| xM (ac (v := pw2 w0.hz 5) O kr) <| xM (ld Y 0 O O (isAgg3 _) O) <| fun a Z => aF Z Y call108 O (md x.serial 0 1000000 _) fun a w6 Z Y => nv Z <| xJ (ax O O) <| xK O <| fun a Z => ?_
     rcases xU (inB x.serial 0 1000000) with hb5 | hb5
     ·rw [hb5] at Z
      refine nv Z <| xM (ac (v := pw2 w0.hz 6) O kr) <| xM (bQ (ds := [jv x.sf, jv x.st]) (Y.g 0 O) O (isAgg88 _) (sizeOf88 _) O) <| fun a Z => aF Z Y call174 O (mr x.sf x.st _) fun a w7 Z Y => nv Z <| xJ (ax O O) <| xL O <| fun a Z => G2 ?_
      replace Z := Z.p1 2 O
      replace Y := Y.k0 0 O
      refine ap <| am Z results135 (ag O ae) ?_
      exact ⟨by simp only [retv]; unfold Wsh.ok; simp [hb1, hb2, hb3, hb4, hb5], Y.ext⟩
     rw [hb5] at Z
     refine nv Z <| xN <| xN <| xN <| xJ (ak O O) <| xL O <| fun a Z => G2 ?_
     replace Z := Z.p1 2 O
     replace Y := Y.k0 0 O
     refine ap <| am Z results135 (ag O ae) ?_
     exact ⟨by simp only [retv]; unfold Wsh.ok; simp [hb1, hb2, hb3, hb4, hb5], Y.ext⟩
    rw [hb4] at Z
    refine nv Z <| xN <| xN <| xN <| xJ (ak O O) <| xK O <| xN <| xN <| xN <| xJ (ak O O) <| xL O <| fun a Z => G2 ?_
    replace Z := Z.p1 2 O
    replace Y := Y.k0 0 O
    refine ap <| am Z results135 (ag O ae) ?_
    exact ⟨by simp only [retv]; unfold Wsh.ok; simp [hb1, hb2, hb3, hb4], Y.ext⟩
   rw [hb3] at Z
   refine nv Z <| xN <| xN <| xN <| xJ (ak O O) <| xK O <| xN <| xN <| xN <| xJ (ak O O) <| xK O <| xN <| xN <| xN <| xJ (ak O O) <| xL O <| fun a Z => G2 ?_
   replace Z := Z.p1 2 O
   replace Y := Y.k0 0 O
   refine ap <| am Z results135 (ag O ae) ?_
   exact ⟨by simp only [retv]; unfold Wsh.ok; simp [hb1, hb2, hb3], Y.ext⟩
  rw [hb2] at Z
  refine nv Z <| xN <| xN <| xN <| xJ (ak O O) <| xK O <| xN <| xN <| xN <| xJ (ak O O) <| xK O <| xN <| xN <| xN <| xJ (ak O O) <| xK O <| xN <| xN <| xN <| xJ (ak O O) <| xL O <| fun a Z => G2 ?_
  replace Z := Z.p1 2 O
  replace Y := Y.k0 0 O
  refine ap <| am Z results135 (ag O ae) ?_
  exact ⟨by simp only [retv]; unfold Wsh.ok; simp [hb1, hb2], Y.ext⟩
 rw [hb1] at Z
 refine nv Z <| xN <| xN <| xN <| xJ (ak O O) <| xK O <| xN <| xN <| xN <| xJ (ak O O) <| xK O <| xN <| xN <| xN <| xJ (ak O O) <| xK O <| xN <| xN <| xN <| xJ (ak O O) <| xK O <| xN <| xN <| xN <| xJ (ak O O) <| xL O <| fun a Z => G2 ?_
 replace Z := Z.p1 2 O
 replace Y := Y.k0 0 O
 refine ap <| am Z results135 (ag O ae) ?_
 exact ⟨by simp only [retv]; unfold Wsh.ok; simp [hb1], Y.ext⟩
theorem l8 (x : Pxy) (w0 : World) :
  Ret Tryz.prog 132 #[.agg #[jv x.frm, jv x.to, jv x.rf, jv x.rt, jv x.sf, jv x.st, sv x.sig]] w0 fun v w => v = .bool x.ok ∧ Ext No w0 w := by
 refine zN func132 O ntmps132 (lb O) fun a Z Y => ?_
 refine aa fun _ G1 => aS Z Y O [jv x.frm, jv x.to, jv x.rf, jv x.rt, jv x.sf, jv x.st, sv x.sig] O fun a w1 Z Y => wla Z O fun a Z => G1 <| aa fun _ G2 => ?_
 refine nv Z <| xJ (ac (v := pq w0.hz) O kr) <| xJ (ld Y 0 O O (isAgg3 _) O) <| fun a Z => aw Z Y call108 O (md x.frm 0 63 _) fun a w2 Z Y => wlm Z O fun a Z => ?_
 rcases xU (inB x.frm 0 63) with hb1 | hb1
 ·rw [hb1] at Z
  refine nv Z <| xM (ac (v := pw2 w0.hz 1) O kr) <| xM (ld Y 0 O O (isAgg3 _) O) <| fun a Z => aF Z Y call108 O (md x.to 0 63 _) fun a w3 Z Y => nv Z <| xJ (ax O O) <| xK O <| fun a Z => ?_
  rcases xU (inB x.to 0 63) with hb2 | hb2
  ·rw [hb2] at Z
   refine nv Z <| xM (ac (v := pq w0.hz) O kr) <| xM (ld Y 0 O O (isAgg3 _) O) <| xM (ac (v := pw2 w0.hz 1) O kr) <| xM (ld Y 0 O O (isAgg3 _) O) <| xM (v_ne O O) <| xJ (ax O O) <| xK O <| fun a Z => ?_
   rcases (Decidable.em (x.frm = x.to)).symm with hb3 | hb3
   ·rw [xW hb3] at Z
    refine nv Z <| xM (ac (v := pw2 w0.hz 2) O kr) <| xM (bQ (ds := [jv x.rf, jv x.rt]) (Y.g 0 O) O (isAgg87 _) (sizeOf87 _) O) <| fun a Z => aF Z Y call173 O (mJ x.rf x.rt _) fun a w4 Z Y => nv Z <| xJ (ax O O) <| xK O <| fun a Z => ?_
    rcases xU (cF x.rf x.rt) with hb4 | hb4
    ·rw [hb4] at Z
     refine nv Z <| xM (ac (v := pw2 w0.hz 4) O kr) <| xM (bQ (ds := [jv x.sf, jv x.st]) (Y.g 0 O) O (isAgg88 _) (sizeOf88 _) O) <| fun a Z => aF Z Y call174 O (mr x.sf x.st _) fun a w5 Z Y => nv Z <| xJ (ax O O) <| xL O <| fun a Z => G2 ?_
     replace Z := Z.p1 2 O
     replace Y := Y.k0 0 O
     refine ap <| am Z results132 (ag O ae) ?_
     exact ⟨by simp only [retv]; unfold Pxy.ok; simp [hb1, hb2, hb3, hb4], Y.ext⟩
    rw [hb4] at Z
    refine nv Z <| xN <| xN <| xN <| xJ (ak O O) <| xL O <| fun a Z => G2 ?_
    replace Z := Z.p1 2 O
    replace Y := Y.k0 0 O
    refine ap <| am Z results132 (ag O ae) ?_
    exact ⟨by simp only [retv]; unfold Pxy.ok; simp [hb1, hb2, hb3, hb4], Y.ext⟩
   rw [xS hb3] at Z
   refine nv Z <| xN <| xN <| xN <| xJ (ak O O) <| xK O <| xN <| xN <| xN <| xJ (ak O O) <| xL O <| fun a Z => G2 ?_
   replace Z := Z.p1 2 O
   replace Y := Y.k0 0 O
   refine ap <| am Z results132 (ag O ae) ?_
   exact ⟨by simp only [retv]; unfold Pxy.ok; simp [hb1, hb2, hb3], Y.ext⟩
  rw [hb2] at Z
  refine nv Z <| xN <| xN <| xN <| xN <| xN <| xJ (ak O O) <| xK O <| xN <| xN <| xN <| xJ (ak O O) <| xK O <| xN <| xN <| xN <| xJ (ak O O) <| xL O <| fun a Z => G2 ?_
  replace Z := Z.p1 2 O
  replace Y := Y.k0 0 O
  refine ap <| am Z results132 (ag O ae) ?_
  exact ⟨by simp only [retv]; unfold Pxy.ok; simp [hb1, hb2], Y.ext⟩
 rw [hb1] at Z
 refine nv Z <| xN <| xN <| xN <| xJ (ak O O) <| xK O <| xN <| xN <| xN <| xN <| xN <| xJ (ak O O) <| xK O <| xN <| xN <| xN <| xJ (ak O O) <| xK O <| xN <| xN <| xN <| xJ (ak O O) <| xL O <| fun a Z => G2 ?_
 replace Z := Z.p1 2 O
 replace Y := Y.k0 0 O
 refine ap <| am Z results132 (ag O ae) ?_
 exact ⟨by simp only [retv]; unfold Pxy.ok; simp [hb1], Y.ext⟩
theorem kg (ns : List Int) (lv : Value) (w0 : World) (hlv : SlAt w0 lv 1 ((ns).map fun n => [jv n])) (hns : smalls ns) (hnl : ns.length ≤ 1000) :
  Ret Tryz.prog 97 #[lv] w0 fun v w => v = sv (puts ns) ∧ Ext No w0 w := by
 refine zN func97 O ntmps97 (lb O) fun a Z Y => ?_
 refine aa fun _ G1 => wla Z O fun a Z => G1 <| aa fun _ G2 => ?_
 refine wla Z O fun a Z => G2 <| ah fun _ G3 => ?_
 refine aa fun _ G4 => wla Z O fun a Z => G4 <| ar ?_
 have hp0 : ([] : By) = puts (ns.take 0) := rfl
 rw [hp0] at Z
 refine aW (fun m a w => ∃ (k : Nat), m = ns.length - k ∧ (k ≤ ns.length) ∧ Fr 25 [(0, lv), (2, sv (puts (ns.take 0))), (4, jv (k : Int)), (3, sv (puts (ns.take k)))] [] a ∧ St No w0 [] w) _ ⟨0, O, ym _, Z.pick [0, 2, 4, 3], Y.select [] de⟩ ?_
 rintro _ a w1 ⟨k, rfl, hk, Z, Y⟩
 refine ah fun _ G5 => aa fun _ G6 => nv Z <| xK O <| xK O <| xJ ((aI (sT := 24) (Y.arg hlv) O O (runUnderlying24 _)).asi (m' := (ns.length : Int)) Ai) <| xJ (v_lt O O) <| fun a Z => G6 <| aA Z O (fun hc1 => ?_) (fun hc1 => ?_)
 ·refine au <| G5 <| ah fun _ G7 => ar <| aa fun _ G8 => nv Z <| xK O <| xK O <| xJ ((aj (i := (k : Int)) (sT := 24) (Y.arg hlv) O O (runUnderlying24 _) (sizeOf3 _) om zY).as (v' := slAddr lv (k * 1)) O) <| xJ (aB (u := jv (ns.getD k 0)) (i := k) (j := 0) (Y.arg hlv) zY O (isAgg3 _) Bb) <| fun a Z => aw Z Y call129 O (fH (ns.getD k 0) _ (hns _ (bc om))) fun a w2 Z Y => nv Z <| xK O <| xJ (aq O O) <| xJ (aq O O) <| xL O <| xL O <| fun a Z => G8 ?_
  refine ai <| nv (Z.p5 0 2 4 3 5 O) <| xK O <| xK O <| xJ (cP O O (by have h1 := dQ (ns.take k); have h2 := (bX (ns.getD k 0)).2; rw [xV] at h1; omega)) <| xL O <| fun a Z => ?_
  refine ab <| G7 <| ai <| nv Z <| xK O <| xJ (aP O O ⟨om, om⟩) <| xL O <| fun a Z => ab ?_
  rw [show puts (ns.take k) ++ putI (ns.getD k 0) = puts (ns.take (k + 1)) from by rw [cz 0 om, mq]] at Z
  refine ⟨_, ?_, k + 1, O, om, Z.pick [0, 2, 4, 3], Y.select [] de⟩
  omega
 obtain rfl : k = ns.length := by omega
 rw [List.take_length] at Z
 refine aO <| G3 <| aa fun _ G9 => nv Z <| xK O <| xL O <| fun a Z => G9 ?_
 replace Z := Z.p1 2 O
 refine ap <| am Z results97 (ag O ae) ?_
 exact ⟨O, Y.ext⟩
theorem eA (x : Wsh) (w0 : World) (hx : smalls x.nums) :
  Ret Tryz.prog 37 #[.agg #[jv x.signer, jv x.holder, jv x.rf, jv x.rt, jv x.carrier, jv x.serial, jv x.sf, jv x.st, sv x.sig]] w0 fun v w => v = sv x.content ∧ Ext No w0 w := by
 refine zN func37 O ntmps37 (lb O) fun a Z Y => ?_
 refine aa fun _ G1 => aS Z Y O [jv x.signer, jv x.holder, jv x.rf, jv x.rt, jv x.carrier, jv x.serial, jv x.sf, jv x.st, sv x.sig] O fun a w1 Z Y => wla Z O fun a Z => G1 <| aa fun _ G2 => ?_
 refine nv Z <| xJ (ac (v := pq w0.hz) O kr) <| xJ (ld Y 0 O O (isAgg3 _) O) <| xJ (ac (v := pw2 w0.hz 1) O kr) <| xJ (ld Y 0 O O (isAgg3 _) O) <| xJ (ac (v := pw2 w0.hz 2) O kr) <| xJ (ac (v := pw2 w0.hz 2) O kr) <| xJ (ld Y 0 O O (isAgg3 _) O) <| xJ (ac (v := pw2 w0.hz 2) O kr) <| xJ (ac (v := pw2 w0.hz 3) O kr) <| xJ (ld Y 0 O O (isAgg3 _) O) <| fun a Z => ?_
 refine nv Z <| xJ (ac (v := pw2 w0.hz 4) O kr) <| xJ (ld Y 0 O O (isAgg3 _) O) <| xJ (ac (v := pw2 w0.hz 5) O kr) <| xJ (ld Y 0 O O (isAgg3 _) O) <| xJ (ac (v := pw2 w0.hz 6) O kr) <| xJ (ac (v := pw2 w0.hz 6) O kr) <| xJ (ld Y 0 O O (isAgg3 _) O) <| xJ (ac (v := pw2 w0.hz 6) O kr) <| xJ (ac (v := pw2 w0.hz 7) O kr) <| xJ (ld Y 0 O O (isAgg3 _) O) <| fun a Z => aE (E := 3) (sz := 1) O [[jv 1], [jv x.signer], [jv x.holder], [jv x.rf], [jv x.rt], [jv x.carrier], [jv x.serial], [jv x.sf], [jv x.st]] kr sm O de de Z Y fun a w2 Z Y => aw Z Y call97 O (kg [1, x.signer, x.holder, x.rf, x.rt, x.carrier, x.serial, x.sf, x.st] (.slice (some ⟨w1.hz, 0, none⟩) 9 9) _ (Y.ow 0 O) (hx) sm) fun a w3 Z Y => wla Z O fun a Z => G2 ?_
 replace Z := Z.p1 2 O
 replace Y := Y.k0 0 O
 refine ap <| am Z results37 (ag O ae) ?_
 exact ⟨by rfl, Y.ext⟩
theorem ig (x : Pxy) (w0 : World) (hx : smalls x.nums) :
  Ret Tryz.prog 134 #[.agg #[jv x.frm, jv x.to, jv x.rf, jv x.rt, jv x.sf, jv x.st, sv x.sig]] w0 fun v w => v = sv x.content ∧ Ext No w0 w := by
 refine zN func134 O ntmps134 (lb O) fun a Z Y => ?_
 refine aa fun _ G1 => aS Z Y O [jv x.frm, jv x.to, jv x.rf, jv x.rt, jv x.sf, jv x.st, sv x.sig] O fun a w1 Z Y => wla Z O fun a Z => G1 <| aa fun _ G2 => ?_
 refine nv Z <| xJ (ac (v := pq w0.hz) O kr) <| xJ (ld Y 0 O O (isAgg3 _) O) <| xJ (ac (v := pw2 w0.hz 1) O kr) <| xJ (ld Y 0 O O (isAgg3 _) O) <| xJ (ac (v := pw2 w0.hz 2) O kr) <| xJ (ac (v := pw2 w0.hz 2) O kr) <| xJ (ld Y 0 O O (isAgg3 _) O) <| xJ (ac (v := pw2 w0.hz 2) O kr) <| xJ (ac (v := pw2 w0.hz 3) O kr) <| xJ (ld Y 0 O O (isAgg3 _) O) <| fun a Z => ?_
 refine nv Z <| xJ (ac (v := pw2 w0.hz 4) O kr) <| xJ (ac (v := pw2 w0.hz 4) O kr) <| xJ (ld Y 0 O O (isAgg3 _) O) <| xJ (ac (v := pw2 w0.hz 4) O kr) <| xJ (ac (v := pw2 w0.hz 5) O kr) <| xJ (ld Y 0 O O (isAgg3 _) O) <| fun a Z => aE (E := 3) (sz := 1) O [[jv 2], [jv x.frm], [jv x.to], [jv x.rf], [jv x.rt], [jv x.sf], [jv x.st]] kr sm O de de Z Y fun a w2 Z Y => aw Z Y call97 O (kg [2, x.frm, x.to, x.rf, x.rt, x.sf, x.st] (.slice (some ⟨w1.hz, 0, none⟩) 7 7) _ (Y.ow 0 O) (hx) sm) fun a w3 Z Y => wla Z O fun a Z => G2 ?_
 replace Z := Z.p1 2 O
 replace Y := Y.k0 0 O
 refine ap <| am Z results134 (ag O ae) ?_
 exact ⟨by rfl, Y.ext⟩
theorem oP (key s : By) (w0 : World) (hk : key.length ≤ 40000000) (hs : s.length ≤ 40000000) :
  Ret Tryz.prog 133 #[sv key, sv s] w0 fun v w => v = sv (sealH key s) ∧ Ext No w0 w := by
 refine zM func133 O ntmps133 (lb O) fun a Z Y => ?_
 refine aa fun _ G1 => wla Z O fun a Z => G1 <| aa fun _ G2 => ?_
 refine nv Z <| xK O <| xK O <| fun a Z => aw Z Y call36 O (kN s _ om) fun a w1 Z Y => aw Z Y call175 O (uu key (leafH sha s) _ om (by rw [dm cD]; decide)) fun a w2 Z Y => wla Z O fun a Z => G2 ?_
 replace Z := Z.p1 4 O
 refine ap <| am Z results133 (ag O ae) ?_
 exact ⟨by rfl, Y.ext⟩
theorem kV {P : Program} {w : World} {L : List (Nat × Value)} {dst : Option Tmp} {T T' ty : TypeId} {pos : String} {af : Array Edge} {gd : Option (Nat × Bool)} {x : Operand} {n : Int} (hx : ev L x = some (jv n)) (hs : (P.underlying T).isSome = true) (hd : P.underlying T' = some (.int .u8)) : OpV P ⟨dst, .convert T T' x, ty, pos, af, gd⟩ L w (yv (UInt8.ofNat (n % 256).toNat)) :=
 (eY hx hs hd).as (by
  have h1 : 0 ≤ n % 256 := zK _ de
  have h2 : n % 256 < 256 := Int.emod_lt_of_pos _ de
  have e : ((UInt8.ofNat (n % 256).toNat).toNat : Int) = n % 256 := by rw [eN om]; omega
  unfold yv
  rw [e]
  simp [IntKind.wrap, IntKind.signed, IntKind.bits])
def kfill (b : UInt8) (k : Nat) : By := List.replicate k b ++ List.replicate (32 - k) 0
theorem mg {b : UInt8} {k : Nat} (h : k < 32) : (kfill b k).set k b = kfill b (k + 1) := by
 unfold kfill
 rw [List.set_append_right _ _ sm, zd, zE, show 32 - k = (32 - (k + 1)) + 1 from by omega, List.replicate_succ, List.set_cons_zero, List.replicate_succ']
 simp
theorem eG {b : UInt8} {k : Nat} (h : k ≤ 32) : (kfill b k).length = 32 := by simp [kfill]; omega
theorem mn (b : UInt8) : kfill b 32 = List.replicate 32 b := by simp [kfill]
theorem dp (n m : Int) (w0 : World) (hn : -9223372036854775808 ≤ n ∧ n ≤ 9223372036854775807) (hm : 0 < m ∧ m ≤ 9223372036854775807) :
  Ret Tryz.prog 80 #[jv n, jv m] w0 fun v w => v = jv (pickI n m) ∧ Ext No w0 w := by
 refine zM func80 O ntmps80 (lb O) fun a Z Y => ?_
 refine aa fun _ G1 => wla Z O fun a Z => G1 <| ah fun _ G2 => ?_
 refine aa fun _ G3 => nv Z <| xK O <| xJ (v_lt O O) <| fun a Z => G3 <| aA Z O (fun hc1 => ?_) (fun hc1 => ?_)
 ·refine ai <| nv Z <| xK O <| xJ (aP O O ⟨om, om⟩) <| xJ (kG O om om) <| xL O <| fun a Z => ab <| G2 <| aa fun _ G4 => nv Z <| xK O <| xK O <| xJ (fR O O om om) <| xL O <| fun a Z => G4 ?_
  replace Z := Z.p1 4 O
  refine ap <| am Z results80 (ag O ae) ?_
  exact ⟨by simp only [retv, pickI]; simp [hc1], Y.ext⟩
 refine au <| G2 <| aa fun _ G5 => nv Z <| xK O <| xK O <| xJ (fR O O om om) <| xL O <| fun a Z => G5 ?_
 replace Z := Z.p1 4 O
 refine ap <| am Z results80 (ag O ae) ?_
 exact ⟨by simp only [retv, pickI]; simp [hc1], Y.ext⟩
theorem fG (h : Int) (w0 : World) :
  Ret Tryz.prog 33 #[jv h] w0 fun v w => v = sv (keyH h) ∧ Ext No w0 w := by
 refine zN func33 O ntmps33 (lb O) fun a Z Y => ?_
 refine aa fun _ G1 => wla Z O fun a Z => G1 <| aa fun _ G2 => ?_
 refine iF (n := 32) (E := 5) (sz := 1) O O ((kfill (UInt8.ofNat (h % 256).toNat) 0).map fun b => [yv b]) kr Be (by simp [kfill]) de de Z Y fun a w1 Z Y => ?_
 refine wla Z O fun a Z => G2 <| ah fun _ G3 => ?_
 refine aa fun _ G4 => wla Z O fun a Z => G4 <| ar ?_
 refine aW (fun m a w => ∃ (k : Nat), m = 32 - k ∧ (k ≤ 32) ∧ Fr 19 [(0, jv h), (2, sv ([])), (3, (.slice (some ⟨w0.hz, 0, none⟩) 32 32)), (4, jv (k : Int))] [] a ∧ St No w0 [own (.slice (some ⟨w0.hz, 0, none⟩) 32 32) 5 1 ((kfill (UInt8.ofNat (h % 256).toNat) k).map fun b => [yv b])] w) _ ⟨0, O, ym _, Z.pick [0, 2, 3, 4], Y⟩ ?_
 rintro _ a w2 ⟨k, rfl, hk, Z, Y⟩
 refine ah fun _ G5 => aa fun _ G6 => nv Z <| xK O <| xK O <| xJ ((aI (sT := 60) (Y.ow 0 O) O O (runUnderlying60 _)).asi (m' := 32) (by rw [xO, eG om]; rfl)) <| xJ (v_lt O O) <| fun a Z => G6 <| aA Z O (fun hc1 => ?_) (fun hc1 => ?_)
 ·have hk2 : k < 32 := by omega
  refine au <| G5 <| ah fun _ G7 => ar <| ai <| nv Z <| xK O <| xK O <| xK O <| xJ (kV (n := h) O kr underlying5) <| xJ ((aj (i := (k : Int)) (sT := 60) (Y.ow 0 O) O O (runUnderlying60 _) (sizeOf5 _) om BF).as (v' := slAddr (.slice (some ⟨w0.hz, 0, none⟩) 32 32) (k * 1)) O) <| fun a Z => jl (k := k) (us := [yv (UInt8.ofNat (h % 256).toNat)]) 0 Z Y O O O BF om (sizeOf5 _) O (by first | rfl | simp [Value.oneCell', yv, wv, sv]) O O fun a w3 Z Y => ab <| G7 ?_
  refine ai <| nv (Z.p4 0 2 3 4 O) <| xK O <| xJ (aP O O ⟨om, om⟩) <| xL O <| fun a Z => ab ?_
  rw [show ((kfill (UInt8.ofNat (h % 256).toNat) k).map fun b => [yv b]).set k [yv (UInt8.ofNat (h % 256).toNat)] = ((kfill (UInt8.ofNat (h % 256).toNat) (k + 1)).map fun b => [yv b]) from by rw [← mg hk2, zD]] at Y
  refine ⟨_, ?_, k + 1, O, om, Z.pick [0, 2, 3, 4], Y⟩
  omega
 obtain rfl : k = 32 := by omega
 refine aO <| G3 <| aa fun _ G8 => nv Z <| xK O <| xJ (eI (Y.ow 0 O) O underlying60 underlying5 underlying9) <| xL O <| fun a Z => G8 ?_
 replace Z := Z.p1 2 O
 replace Y := Y.k0 0 O
 refine ap <| am Z results33 (ag O ae) ?_
 exact ⟨by rw [mn]; rfl, Y.ext⟩
def keysTo (k : Nat) : List By := (List.range k).map fun h : Nat => keyH (h : Int)
theorem nL (k : Nat) : keysTo (k + 1) = keysTo k ++ [keyH (k : Int)] := by simp [keysTo, zJ]
theorem kP (k : Nat) : (keysTo k).length = k := by simp [keysTo]
theorem qE (w0 : World) :
  Ret Tryz.prog 18 #[] w0 (MemR w0 (fun v : Value => v) (fun v => [own v 9 1 (keysH.map fun s => [sv s])]) (fun _ => True)) := by
 refine aC func18 O ntmps18 (lb O) fun a Z => ?_
 replace Z : Fr 13 [] [] a := Z
 replace Y : St No w0 [] w0 := St.init w0
 refine aa fun _ G1 => wla Z O fun a Z => G1 <| aa fun _ G2 => ?_
 refine wla Z O fun a Z => G2 <| ah fun _ G3 => ?_
 refine aa fun _ G4 => wla Z O fun a Z => G4 <| ar ?_
 replace Y : St No w0 [own (.slice none 0 0) 9 1 ((keysTo 0).map fun s => [sv s])] w0 := Y.nil_own
 refine aW (fun m a w => ∃ (k : Nat) (v : Value), m = 10 - k ∧ (k ≤ 10) ∧ Fr 13 [(0, .slice none 0 0), (1, v), (2, jv (k : Int))] [] a ∧ St No w0 [own v 9 1 ((keysTo k).map fun s => [sv s])] w) _ ⟨0, .slice none 0 0, O, ym _, Z.pick [0, 1, 2], Y⟩ ?_
 rintro _ a w1 ⟨k, v, rfl, hk, Z, Y⟩
 refine ah fun _ G5 => aa fun _ G6 => nv Z <| xK O <| xJ (v_lt O O) <| fun a Z => G6 <| aA Z O (fun hc1 => ?_) (fun hc1 => ?_)
 ·refine au <| G5 <| ah fun _ G7 => ar <| ai <| nv Z <| xK O <| xK O <| fun a Z => aw Z Y call33 O (fG (k : Int) _) fun a w2 Z Y => aE (E := 9) (sz := 1) O [[sv (keyH (k : Int))]] kr sm O de de Z Y fun a w3 Z Y => aY (i := 1) (sT := 44) (inf := Tryz.t9) (z := .string (⟨#[]⟩)) (b := 0) (off := 0) (m := 0) (c := 0) O O O (Y.ow 0 O) sm underlying44 O O O O de z6 BI BI de Z Y fun a w4 s2 Z Y _ => ?_
  rw [show ((keysTo k).map fun s => [sv s]) ++ ([[sv (keyH (k : Int))]]) = ((keysTo (k + 1)).map fun s => [sv s]) from by rw [nL]; simp] at Y
  refine wla Z O fun a Z => ab <| G7 ?_
  replace Y := Y.k1 2 O
  refine ai <| nv (Z.p3 0 2 1 O) <| xK O <| xJ (aP O O ⟨om, om⟩) <| xL O <| fun a Z => ab ?_
  refine ⟨_, ?_, k + 1, s2, O, om, Z.pick [0, 1, 2], Y⟩
  omega
 obtain rfl : k = 10 := by omega
 refine aO <| G3 <| aa fun _ G8 => nv Z <| xK O <| xL O <| fun a Z => G8 <| ap ?_
 refine am Z results18 (ag O ae) ?_
 exact ⟨v, O, trivial, Y.ext, St.out (E := [own v 9 1 (keysH.map fun s => [sv s])]) (H := []) Y⟩
theorem jr (b d l r : Int) (w0 : World) (hb : 0 ≤ b) (hbd : b < d) (hd : d ≤ 1000000000) (hl : (-9223372036854775808 ≤ l ∧ l ≤ 9223372036854775807)) (hr : (-9223372036854775808 ≤ r ∧ r ≤ 9223372036854775807)) :
  Ret Tryz.prog 82 #[jv b, jv d, jv l, jv r] w0 fun v w => v = .tuple #[jv (b + pickI l (d - b)), jv (d - pickI r (d - (b + pickI l (d - b))))] ∧ Ext No w0 w := by
 refine zP func82 O ntmps82 (lb O) fun a Z Y => ?_
 have hp1 := aV l (n := d - b) om
 refine aa fun _ G1 => nv Z <| xL O <| xL O <| fun a Z => G1 <| aa fun _ G2 => ?_
 refine nv Z <| xK O <| xK O <| xK O <| xK O <| xJ (bH O O ⟨om, om⟩) <| fun a Z => aw Z Y call80 O (dp l (d - b) _ om om) fun a w1 Z Y => nv Z <| xJ (aP O O ⟨om, om⟩) <| xL O <| fun a Z => G2 ?_
 replace Z := Z.p5 1 3 8 9 10 O
 have hp2 := aV r (n := d - (b + pickI l (d - b))) om
 refine aa fun _ G3 => nv Z <| xK O <| xK O <| xK O <| xK O <| xK O <| xJ (bH O O ⟨om, om⟩) <| fun a Z => aw Z Y call80 O (dp r (d - (b + (pickI l (d - b)))) _ om om) fun a w2 Z Y => nv Z <| xJ (bH O O ⟨om, om⟩) <| xL O <| xL O <| fun a Z => G3 ?_
 replace Z := Z.p2 8 9 O
 refine ap <| am Z results82 (ag O (ag O ae)) ?_
 exact ⟨by rfl, Y.ext⟩
theorem iK (key : By) (x : Wsh) (w0 : World) (hk : key.length = 32) (hok : x.ok = true) :
  Ret Tryz.prog 83 #[sv key, .agg #[jv x.signer, jv x.holder, jv x.rf, jv x.rt, jv x.carrier, jv x.serial, jv x.sf, jv x.st, sv x.sig]] w0 fun v w => v = .tuple #[.agg #[jv x.signer, jv x.holder, jv x.rf, jv x.rt, jv x.carrier, jv x.serial, jv x.sf, jv x.st, sv (sealH key x.content)], jv 0] ∧ Ext No w0 w := by
 refine zM func83 O ntmps83 (lb O) fun a Z Y => ?_
 refine aa fun _ G1 => aS Z Y O [jv x.signer, jv x.holder, jv x.rf, jv x.rt, jv x.carrier, jv x.serial, jv x.sf, jv x.st, sv x.sig] O fun a w1 Z Y => aD Z Y (zeroValue90 _) [jv 0, jv 0, jv 0, jv 0, jv 0, jv 0, jv 0, jv 0, .string (⟨#[]⟩)] O fun a w2 Z Y => wla Z O fun a Z => G1 <| ah fun _ G2 => ?_
 refine aa fun _ G3 => nv Z <| xK O <| xJ (br O O (runUnderlying9 _)) <| xJ ((v_ne O O).asb (b' := false) (by simp [hk])) <| xK O <| xM (ao (Y.g 1 O) O (isAgg90 _) (sizeOf90 _)) <| fun a Z => aF Z Y call135 O (nG x _) fun a w3 Z Y => nv Z <| xM (bE O) <| xJ (ak O O) <| fun a Z => G3 ?_
 replace Z := Z.p5 0 3 4 5 13 O
 refine bt Z O (fun hc1 => ?_) (fun hc1 => ?_)
 ·try simp only [qz] at hc1
  simp [hok] at hc1
 try simp only [qz] at hc1
 refine au <| G2 <| aa fun _ G4 => nv Z <| xK O <| xJ (ao (Y.g 1 O) O (isAgg90 _) (sizeOf90 _)) <| fun a Z => aw Z Y call37 O (eA x _ (Wsh.smalls_of hok)) fun a w4 Z Y => aw Z Y call133 O (oP key x.content _ om (yL x.content_len de)) fun a w5 Z Y => wlv Z (ac (v := pw2 w0.hz 8) O kr) fun a Z => az 1 Z Y [jv x.signer, jv x.holder, jv x.rf, jv x.rt, jv x.carrier, jv x.serial, jv x.sf, jv x.st, sv (sealH key x.content)] O (sizeOf9 _) fun a w6 Z Y => G4 ?_
 refine aa fun _ G5 => wlv (Z.p3 3 4 5 O) (ao (Y.g 1 O) O (isAgg90 _) (sizeOf90 _)) fun a Z => az 0 Z Y [jv x.signer, jv x.holder, jv x.rf, jv x.rt, jv x.carrier, jv x.serial, jv x.sf, jv x.st, sv (sealH key x.content)] O (sizeOf90 _) fun a w7 Z Y => wla Z O fun a Z => G5 <| ap ?_
 refine am Z results83 (al O (bj (Y.g 0 O) (isAgg90 _) (sizeOf90 _)) (ag O ae)) ?_
 exact ⟨by rfl, Y.ext⟩
theorem lj (key : By) (x : Pxy) (w0 : World) (hk : key.length = 32) (hok : x.ok = true) :
  Ret Tryz.prog 81 #[sv key, .agg #[jv x.frm, jv x.to, jv x.rf, jv x.rt, jv x.sf, jv x.st, sv x.sig]] w0 fun v w => v = .tuple #[.agg #[jv x.frm, jv x.to, jv x.rf, jv x.rt, jv x.sf, jv x.st, sv (sealH key x.content)], jv 0] ∧ Ext No w0 w := by
 refine zM func81 O ntmps81 (lb O) fun a Z Y => ?_
 refine aa fun _ G1 => aS Z Y O [jv x.frm, jv x.to, jv x.rf, jv x.rt, jv x.sf, jv x.st, sv x.sig] O fun a w1 Z Y => aD Z Y (zeroValue144 _) [jv 0, jv 0, jv 0, jv 0, jv 0, jv 0, .string (⟨#[]⟩)] O fun a w2 Z Y => wla Z O fun a Z => G1 <| ah fun _ G2 => ?_
 refine aa fun _ G3 => nv Z <| xK O <| xJ (br O O (runUnderlying9 _)) <| xJ ((v_ne O O).asb (b' := false) (by simp [hk])) <| xK O <| xM (ao (Y.g 1 O) O (isAgg144 _) (sizeOf144 _)) <| fun a Z => aF Z Y call132 O (l8 x _) fun a w3 Z Y => nv Z <| xM (bE O) <| xJ (ak O O) <| fun a Z => G3 ?_
 replace Z := Z.p5 0 3 4 5 13 O
 refine bt Z O (fun hc1 => ?_) (fun hc1 => ?_)
 ·try simp only [qz] at hc1
  simp [hok] at hc1
 try simp only [qz] at hc1
 refine au <| G2 <| aa fun _ G4 => nv Z <| xK O <| xJ (ao (Y.g 1 O) O (isAgg144 _) (sizeOf144 _)) <| fun a Z => aw Z Y call134 O (ig x _ (Pxy.smalls_of hok)) fun a w4 Z Y => aw Z Y call133 O (oP key x.content _ om (yL x.content_len de)) fun a w5 Z Y => wlv Z (ac (v := pw2 w0.hz 6) O kr) fun a Z => az 1 Z Y [jv x.frm, jv x.to, jv x.rf, jv x.rt, jv x.sf, jv x.st, sv (sealH key x.content)] O (sizeOf9 _) fun a w6 Z Y => G4 ?_
 refine aa fun _ G5 => wlv (Z.p3 3 4 5 O) (ao (Y.g 1 O) O (isAgg144 _) (sizeOf144 _)) fun a Z => az 0 Z Y [jv x.frm, jv x.to, jv x.rf, jv x.rt, jv x.sf, jv x.st, sv (sealH key x.content)] O (sizeOf144 _) fun a w7 Z Y => wla Z O fun a Z => G5 <| ap ?_
 refine am Z results81 (al O (bj (Y.g 0 O) (isAgg144 _) (sizeOf144 _)) (ag O ae)) ?_
 exact ⟨by rfl, Y.ext⟩
def Pxy.cells (x : Pxy) : List Value := [jv x.frm, jv x.to, jv x.rf, jv x.rt, jv x.sf, jv x.st, sv x.sig]
def Pxy.z : Pxy := ⟨0, 0, 0, 0, 0, 0, []⟩
def Wsh.cells (x : Wsh) : List Value := [jv x.signer, jv x.holder, jv x.rf, jv x.rt, jv x.carrier, jv x.serial, jv x.sf, jv x.st, sv x.sig]
def Cin.cells (y : Cin) : List Value := [jv y.y0, jv y.y1, jv y.y2, jv y.y3, jv y.y4]
def Cin.z : Cin := ⟨0, 0, 0, 0, 0⟩
def i64 (n : Int) : Prop := -9223372036854775808 ≤ n ∧ n ≤ 9223372036854775807
def Cin.wt (y : Cin) : Prop := i64 y.y0 ∧ i64 y.y1 ∧ i64 y.y2 ∧ i64 y.y3 ∧ i64 y.y4
theorem jm : ∀ (l : List Cin) (o : Left) (y : Cin), leftOf o (l ++ [y]) = (leftOf o l).next y
 | [], o, y => rfl
 | x :: l, o, y => jm l (o.next x) y
theorem jx : ∀ (l : List Cin) (o : Left) (y : Cin), pxysOf o (l ++ [y]) = pxysOf o l ++ [(leftOf o l).pxy y]
 | [], o, y => rfl
 | x :: l, o, y => by rw [yP, pxysOf, jx l (o.next x) y]; rfl
theorem oV {o : Left} (h : o.ok) (holder carrier serial : Int) : (bareW o holder carrier serial).ok = true := by
 obtain ⟨a1, a2, a3, a4, a5, a6, a7, a8⟩ := h
 have h1 := aV holder (n := 10) om
 have h2 := aV carrier (n := 8) om
 have h3 := aV serial (n := 1000) om
 show (Wsh.mk o.who (pickI holder 10) o.rf o.rt (pickI carrier 8) (pickI serial 1000) o.sf o.st []).ok = true
 simp only [Wsh.ok, inB, cF, dy, xP, xT]
 omega
theorem my {α : Type} (l : List α) : l.take (min 4 l.length) = l.take 4 := by
 rw [Nat.min_def]
 split
 ·rfl
 ·rw [y9 (yx _), y9 om]
theorem wm (holder r0 r1 s0 s1 carrier serial : Int) (cv : Value) (ys : List Cin) (w0 : World) (hcv : SlAt w0 cv 5 (ys.map Cin.cells)) (hys : ∀ y ∈ ys, y.wt) (h0 : i64 holder) (h1 : i64 r0) (h2 : i64 r1) (h3 : i64 s0) (h4 : i64 s1) (h5 : i64 carrier) (h6 : i64 serial) :
  Ret Tryz.prog 32 #[.agg #[jv holder, jv r0, jv r1, jv s0, jv s1, jv carrier, jv serial, cv]] w0 (MemR w0 (fun v : Value => .tuple #[.agg (madeW holder r0 r1 s0 s1 carrier serial ys).cells.toArray, v]) (fun v => [own v 144 7 ((madeL holder r0 r1 s0 s1 ys).map Pxy.cells)]) (fun _ => True)) := by
 have hp0 := aV holder (n := 10) om
 have hp1 := aV r0 (n := 10000) om
 have hp2 := aV r1 (n := 1000) om
 have hp3 := aV s0 (n := 10000) om
 have hp4 := aV s1 (n := 1000) om
 have hp5 := aV carrier (n := 8) om
 have hp6 := aV serial (n := 1000) om
 refine zN func32 O ntmps32 (lb O) fun a Z Y => ?_
 refine aa fun _ G1 => aS Z Y O [jv holder, jv r0, jv r1, jv s0, jv s1, jv carrier, jv serial, cv] O fun a w1 Z Y => aD Z Y (zeroValue90 _) [jv 0, jv 0, jv 0, jv 0, jv 0, jv 0, jv 0, jv 0, .string (⟨#[]⟩)] O fun a w2 Z Y => wla Z O fun a Z => G1 <| aa fun _ G2 => ?_
 refine nv Z <| xJ (ac (v := pw2 w0.hz 1) O kr) <| xJ (ba (v := pw2 w0.hz 1) O O kr) <| xJ (ld Y 1 O O (isAgg3 _) O) <| fun a Z => aw Z Y call80 O (dp r0 10000 _ Ak om) fun a w3 Z Y => wla Z O fun a Z => G2 <| aa fun _ G3 => ?_
 refine nv Z <| xK O <| xK O <| xJ (aP O O ⟨om, om⟩) <| xJ (ac (v := pw2 w0.hz 1) O kr) <| xJ (ba (v := pw2 w0.hz 2) O O kr) <| xJ (ld Y 1 O O (isAgg3 _) O) <| fun a Z => aw Z Y call80 O (dp r1 1000 _ Ak om) fun a w4 Z Y => nv Z <| xJ (aP O O ⟨om, om⟩) <| xJ (aX (v := .agg #[jv (pickI r0 10000), jv (((pickI r0 10000) + 1) + (pickI r1 1000))]) O kr) <| fun a Z => aD Z Y (zeroValue87 _) [jv 0, jv 0] O fun a w5 Z Y => az 0 Z Y [jv (pickI r0 10000), jv (((pickI r0 10000) + 1) + (pickI r1 1000))] O (sizeOf87 _) fun a w6 Z Y => G3 ?_
 refine aa fun _ G4 => nv (Z.p4 1 2 3 5 O) <| xJ (ac (v := pw2 w0.hz 3) O kr) <| xJ (ba (v := pw2 w0.hz 3) O O kr) <| xJ (ld Y 2 O O (isAgg3 _) O) <| fun a Z => aw Z Y call80 O (dp s0 10000 _ Ak om) fun a w7 Z Y => wla Z O fun a Z => G4 <| aa fun _ G5 => ?_
 refine nv Z <| xK O <| xK O <| xJ (aP O O ⟨om, om⟩) <| xJ (ac (v := pw2 w0.hz 3) O kr) <| xJ (ba (v := pw2 w0.hz 4) O O kr) <| xJ (ld Y 2 O O (isAgg3 _) O) <| fun a Z => aw Z Y call80 O (dp s1 1000 _ Ak om) fun a w8 Z Y => nv Z <| xJ (aP O O ⟨om, om⟩) <| xJ (aX (v := .agg #[jv (pickI s0 10000), jv (((pickI s0 10000) + 1) + (pickI s1 1000))]) O kr) <| fun a Z => aD Z Y (zeroValue88 _) [jv 0, jv 0] O fun a w9 Z Y => az 0 Z Y [jv (pickI s0 10000), jv (((pickI s0 10000) + 1) + (pickI s1 1000))] O (sizeOf88 _) fun a w10 Z Y => G5 ?_
 refine aa fun _ G6 => nv (Z.p5 1 2 3 5 7 O) <| xJ (ac (v := pq w0.hz) O kr) <| xJ (ld Y 3 O O (isAgg3 _) O) <| fun a Z => aw Z Y call80 O (dp holder 10 _ Ak om) fun a w11 Z Y => wla Z O fun a Z => G6 <| ah fun _ G7 => ?_
 refine aL (aN fun w12 hxz => ?_)
 replace Y := Y.grow hxz
 refine aU (k := 0) 9 [7, 8] Z ?_
 replace Z := Z.p9 1 2 3 5 7 44 45 46 8 O
 refine bO [8] (fun i => match i with | 8 => pm (fun b : Nat => pq b) (fun b => [blk b [jv 0, jv 0, jv 0, jv 0, jv 0, jv 0, jv 0, jv 0, .string (⟨#[]⟩)] 90]) (fun _ => True) | _ => fun _ _ => False) 9 [[], [], [1], [2], [], [4], [5], [0, 3, 6], []] [jv (pickI holder 10), pw2 w0.hz 5, jv carrier, jv (pickI carrier 8), pw2 w0.hz 6, jv serial, jv (pickI serial 1000), .agg #[jv 0, jv (pickI holder 10), jv 0, jv 0, jv (pickI carrier 8), jv (pickI serial 1000), jv 0, jv 0, .string (⟨#[]⟩)], undef] Z Y ?_ ?_ ?_
 ·exact zV <| hqv (ay rfl) <| hqv (ac (v := pw2 w0.hz 5) rfl kr) <| hqw (fun Y => ld Y 3 rfl rfl (isAgg3 _) rfl) <| zT (fun _ _ _ => bF call80 rfl (dp carrier 8 _ Ak om)) <| hqv (ac (v := pw2 w0.hz 6) rfl kr) <| hqw (fun Y => ld Y 3 rfl rfl (isAgg3 _) rfl) <| zT (fun _ _ _ => bF call80 rfl (dp serial 1000 _ Ak om)) <| hqv (aX (v := .agg #[jv 0, jv (pickI holder 10), jv 0, jv 0, jv (pickI carrier 8), jv (pickI serial 1000), jv 0, jv 0, .string (⟨#[]⟩)]) rfl kr) <| zT (fun h => absurd sm h) <| zU
 ·intro i hi
  simp only [xX, yc, yz] at hi
  subst hi
  ·intro w Y
   exact jJ (zeroValue90 _) (cs := [jv 0, jv 0, jv 0, jv 0, jv 0, jv 0, jv 0, jv 0, .string (⟨#[]⟩)]) O
 clear Z Y
 rintro _ _ ⟨b1, rfl, -, rfl⟩ a w13 Z Y
 replace Z := Z.p8 54 9 1 2 3 5 7 8 O
 replace Y := Y.n5 O
 refine ab <| aM (k := 9) 10 [9] ?_
 refine az 0 Z Y [jv 0, jv (pickI holder 10), jv 0, jv 0, jv (pickI carrier 8), jv (pickI serial 1000), jv 0, jv 0, .string (⟨#[]⟩)] O (sizeOf90 _) fun a w14 Z Y => ab <| aT <| G7 ?_
 refine aa fun _ G8 => wla (Z.p7 1 2 3 5 7 8 9 O) O fun a Z => G8 <| ah fun _ G9 => ?_
 refine aa fun _ G10 => wla Z O fun a Z => G10 <| ar ?_
 replace Y : St No w0 [own (.slice none 0 0) 144 7 ((pxysOf (ce holder r0 r1 s0 s1) (ys.take 0)).map Pxy.cells), blk b1 [jv 0, jv (pickI holder 10), jv 0, jv 0, jv (pickI carrier 8), jv (pickI serial 1000), jv 0, jv 0, .string (⟨#[]⟩)] 90, blk w8.hz [jv (pickI s0 10000), jv (((pickI s0 10000) + 1) + (pickI s1 1000))] 88, blk w4.hz [jv (pickI r0 10000), jv (((pickI r0 10000) + 1) + (pickI r1 1000))] 87, blk w1.hz [jv 0, jv 0, jv 0, jv 0, jv 0, jv 0, jv 0, jv 0, .string (⟨#[]⟩)] 90, blk w0.hz [jv holder, jv r0, jv r1, jv s0, jv s1, jv carrier, jv serial, cv] 84] w14 := Y.nil_own
 refine aW (fun m a w => ∃ (k : Nat) (o : Left) (v : Value), m = 4 - k ∧ (k ≤ min 4 ys.length) ∧ (leftOf (ce holder r0 r1 s0 s1) (ys.take k) = o) ∧ (o.ok) ∧ Fr 138 [(1, pq w0.hz), (2, pq w1.hz), (3, .slice none 0 0), (5, pq w4.hz), (7, pq w8.hz), (9, pq b1), (8, jv o.who), (10, v), (11, jv (k : Int))] [] a ∧ St No w0 [blk w0.hz [jv holder, jv r0, jv r1, jv s0, jv s1, jv carrier, jv serial, cv] 84, blk w1.hz [jv 0, jv 0, jv 0, jv 0, jv 0, jv 0, jv 0, jv 0, .string (⟨#[]⟩)] 90, blk w4.hz [jv o.rf, jv o.rt] 87, blk w8.hz [jv o.sf, jv o.st] 88, blk b1 [jv 0, jv (pickI holder 10), jv 0, jv 0, jv (pickI carrier 8), jv (pickI serial 1000), jv 0, jv 0, .string (⟨#[]⟩)] 90, own v 144 7 ((pxysOf (ce holder r0 r1 s0 s1) (ys.take k)).map Pxy.cells)] w) _ ⟨0, (ce holder r0 r1 s0 s1), .slice none 0 0, O, (ym _), O, gU _ _ _ _ _, Z.pick [1, 2, 3, 5, 7, 9, 8, 10, 11], Y.select [5, 4, 3, 2, 1, 0] de⟩ ?_
 rintro _ a w15 ⟨k, o, v, rfl, hk, ho, hok, Z, Y⟩
 refine ah fun _ G11 => aa fun _ G12 => nv Z <| xK O <| xJ (ac (v := pw2 w0.hz 7) O kr) <| xJ (ld Y 0 O O (isAgg82 _) O) <| xJ ((aI (sT := 82) (Y.arg hcv) O O (runUnderlying82 _)).asi (m' := (ys.length : Int)) Ai) <| xJ (v_lt O O) <| xK O <| fun a Z => ?_
 rcases Decidable.em ((k : Int) < (ys.length : Int)) with hb2 | hb2
 ·rw [xS hb2] at Z
  have hky : k < ys.length := by omega
  obtain ⟨y, hy⟩ : ∃ y, ys.getD k Cin.z = y := ⟨_, rfl⟩
  obtain ⟨hy0, hy1, hy2, hy3, hy4⟩ : y.wt := by rw [← hy]; exact hys _ (bc hky)
  obtain ⟨ho1, ho2, ho3, ho4, ho5, ho6, ho7, ho8⟩ := id hok
  have hp9 := aV y.y0 (n := 9) om
  refine nv Z <| xM (ay O) <| xM (v_lt O O) <| xJ (ax O O) <| fun a Z => G12 ?_
  replace Z := Z.p10 1 2 3 5 7 9 8 10 11 63 O
  refine aA Z O (fun hc3 => ?_) (fun hc3 => ?_)
  ·refine au <| G11 <| ah fun _ G13 => ar <| aa fun _ G14 => nv Z <| xJ (ac (v := pw2 w0.hz 7) O kr) <| xJ (ld Y 0 O O (isAgg82 _) O) <| xK O <| xJ ((aj (i := (k : Int)) (sT := 82) (Y.arg hcv) O O (runUnderlying82 _) (sizeOf142 _) om (by rw [xO]; exact hky)).as (v' := slAddr cv (k * 5)) O) <| xJ ((bP (Y.arg hcv) (i := k) (by rw [xO]; exact hky) O (isAgg142 _) (sizeOf142 _)).as (v' := .agg #[jv y.y0, jv y.y1, jv y.y2, jv y.y3, jv y.y4]) (by rw [bn Cin.z, hy]; rfl)) <| fun a Z => aD Z Y (zeroValue142 _) [jv 0, jv 0, jv 0, jv 0, jv 0] O fun a w16 Z Y => az 0 Z Y [jv y.y0, jv y.y1, jv y.y2, jv y.y3, jv y.y4] O (sizeOf142 _) fun a w17 Z Y => G14 ?_
   replace Z := Z.p10 1 2 3 5 7 9 8 10 11 12 O
   refine ah fun _ G15 => aL (aN fun w18 hxz => ?_)
   replace Y := Y.grow hxz
   refine aU (k := 0) 12 [10, 11] Z ?_
   replace Z := Z.p10 1 2 3 5 7 9 8 10 11 12 O
   refine bO [11] (fun i => match i with | 11 => pm (fun b : Nat => pq b) (fun b => [blk b [jv 0, jv 0, jv 0, jv 0, jv 0, jv 0, .string (⟨#[]⟩)] 144]) (fun _ => True) | _ => fun _ _ => False) 12 [[], [], [1], [], [3], [4], [2, 5], [6], [], [], [0, 7, 8, 9], []] [jv o.who, jv o.who, jv (o.who + 1), pq w15.hz, jv y.y0, jv (pickI y.y0 9), jv ((o.who + 1) + (pickI y.y0 9)), jv (((o.who + 1) + (pickI y.y0 9)) % 10), .agg #[jv o.rf, jv o.rt], .agg #[jv o.sf, jv o.st], .agg #[jv o.who, jv (((o.who + 1) + (pickI y.y0 9)) % 10), jv o.rf, jv o.rt, jv o.sf, jv o.st, .string (⟨#[]⟩)], undef] Z Y ?_ ?_ ?_
   ·exact zV <| hqv (ay rfl) <| hqv (ay rfl) <| hqv (aP rfl rfl ⟨om, om⟩) <| hqv (ba (v := pq w15.hz) rfl rfl kr) <| hqw (fun Y => ld Y 0 rfl rfl (isAgg3 _) rfl) <| zT (fun _ _ _ => bF call80 rfl (dp y.y0 9 _ Ak om)) <| hqv (aP rfl rfl ⟨om, om⟩) <| hqv (fR rfl rfl om om) <| hqw (fun Y => ao (Y.g 3 rfl) rfl (isAgg87 _) (sizeOf87 _)) <| hqw (fun Y => ao (Y.g 4 rfl) rfl (isAgg88 _) (sizeOf88 _)) <| hqv (aX (v := .agg #[jv o.who, jv (((o.who + 1) + (pickI y.y0 9)) % 10), jv o.rf, jv o.rt, jv o.sf, jv o.st, .string (⟨#[]⟩)]) rfl kr) <| zT (fun h => absurd sm h) <| zU
   ·intro i hi
    simp only [xX, yc, yz] at hi
    subst hi
    ·intro w Y
     exact jJ (zeroValue144 _) (cs := [jv 0, jv 0, jv 0, jv 0, jv 0, jv 0, .string (⟨#[]⟩)]) O
   clear Z Y
   rintro _ _ ⟨b4, rfl, -, rfl⟩ a w19 Z Y
   replace Z := Z.p12 81 13 1 2 3 5 7 9 8 10 11 12 O
   replace Y := Y.n8 O
   refine ab <| aM (k := 12) 13 [12] ?_
   refine az 0 Z Y [jv o.who, jv (((o.who + 1) + (pickI y.y0 9)) % 10), jv o.rf, jv o.rt, jv o.sf, jv o.st, .string (⟨#[]⟩)] O (sizeOf144 _) fun a w20 Z Y => ab <| aT <| G15 ?_
   replace Z := Z.p11 1 2 3 5 7 9 8 10 11 12 13 O
   refine ah fun _ G16 => aL (aN fun w21 hxz => ?_)
   replace Y := Y.grow hxz
   refine aU (k := 0) 9 [6, 8] Z ?_
   replace Z := Z.p11 1 2 3 5 7 9 8 10 11 12 13 O
   refine eb 7 8 144 [jv 0, jv 0, jv 0, jv 0, jv 0, jv 0, .string (⟨#[]⟩)] [jv o.who, jv ((o.who + 1 + pickI y.y0 9) % 10), jv o.rf, jv o.rt, jv o.sf, jv o.st, sv (sealH (keyH o.who) (o.bare y).content)] 9 [[], [0], [], [1, 2], [3], [4], [4], [], [5, 7]] (fun i => match i with | 0 => pv (jv o.who) | 1 => pv (sv (keyH o.who)) | 2 => pv (.agg #[jv o.who, jv (((o.who + 1) + (pickI y.y0 9)) % 10), jv o.rf, jv o.rt, jv o.sf, jv o.st, .string (⟨#[]⟩)]) | 3 => pv (.tuple #[.agg #[jv o.who, jv ((o.who + 1 + pickI y.y0 9) % 10), jv o.rf, jv o.rt, jv o.sf, jv o.st, sv (sealH (keyH o.who) (o.bare y).content)], jv 0]) | 4 => pv (.tuple #[.agg #[jv o.who, jv ((o.who + 1 + pickI y.y0 9) % 10), jv o.rf, jv o.rt, jv o.sf, jv o.st, sv (sealH (keyH o.who) (o.bare y).content)], jv 0]) | 5 => pv (.agg #[jv o.who, jv ((o.who + 1 + pickI y.y0 9) % 10), jv o.rf, jv o.rt, jv o.sf, jv o.st, sv (sealH (keyH o.who) (o.bare y).content)]) | 6 => pv (jv 0) | 7 => fun v E => ∃ b, v = ptr b ∧ E = [] | 8 => fun v E => v = undef ∧ E = [] | _ => fun _ _ => False) Z (H := [blk b4 [jv o.who, jv (((o.who + 1) + (pickI y.y0 9)) % 10), jv o.rf, jv o.rt, jv o.sf, jv o.st, .string (⟨#[]⟩)] 144, blk w15.hz [jv y.y0, jv y.y1, jv y.y2, jv y.y3, jv y.y4] 142, blk w0.hz [jv holder, jv r0, jv r1, jv s0, jv s1, jv carrier, jv serial, cv] 84, blk w1.hz [jv 0, jv 0, jv 0, jv 0, jv 0, jv 0, jv 0, jv 0, .string (⟨#[]⟩)] 90, blk w4.hz [jv o.rf, jv o.rt] 87, blk w8.hz [jv o.sf, jv o.st] 88, blk b1 [jv 0, jv (pickI holder 10), jv 0, jv 0, jv (pickI carrier 8), jv (pickI serial 1000), jv 0, jv 0, .string (⟨#[]⟩)] 90, own v 144 7 ((pxysOf (ce holder r0 r1 s0 s1) (ys.take k)).map Pxy.cells)]) Y kr kr kr kr de de de de de ?_ (fun v E h => h) ⟨O, O⟩ (fun v E => Iff.rfl) ?_ ?_ ?_ ?_
   ·intro i v E h
    match i, h with
    | 0, _ => exact by decide
    | 1, _ => exact by decide
    | 2, _ => exact by decide
    | 3, _ => exact by decide
    | 4, _ => exact by decide
    | 5, _ => exact by decide
    | 6, _ => exact by decide
    | 7, _ => exact by decide
    | 8, _ => exact by decide
    | i + 9, h => exact h.elim
   ·intro i hi hia hij e
    match i, hi, hia, hij with
    | 0, _, _, _ => exact fun w Y => OpV.g (ay O)
    | 1, _, _, _ =>
     rintro _ _ ⟨rfl, rfl⟩
     intro w Y
     exact bF call33 O (fG o.who _)
    | 2, _, _, _ => exact fun w Y => OpV.g (ao (Y.g 1 O) O (isAgg144 _) (sizeOf144 _))
    | 3, _, _, _ =>
     rintro _ _ ⟨rfl, rfl⟩ _ _ ⟨rfl, rfl⟩
     intro w Y
     exact bF call81 O (lj (keyH o.who) (o.bare y) _ (ck _) (Left.pxy_ok hok y))
    | 4, _, _, _ =>
     rintro _ _ ⟨rfl, rfl⟩
     intro w Y
     exact OpV.g (ay O)
    | 5, _, _, _ =>
     rintro _ _ ⟨rfl, rfl⟩
     intro w Y
     exact OpV.g (aq O O)
    | 6, _, _, _ =>
     rintro _ _ ⟨rfl, rfl⟩
     intro w Y
     exact OpV.g (aq O O)
    | 7, _, h, _ => exact absurd O h
    | 8, _, _, h => exact absurd O h
   ·exact fun Lv w => eC (zeroValue144 _)
   ·rintro _ _ ⟨rfl, rfl⟩ _ _ ⟨b5, rfl, rfl⟩
    intro b hb w h
    have hb : some (ptr b5) = some (ptr b) := hb
    cases hb
    exact dI O O h (sizeOf144 _) O (lb O) O
   clear Z Y
   rintro bq _ _ ⟨⟨rfl, rfl⟩, -⟩ _ _ ⟨⟨rfl, rfl⟩, -⟩ _ _ ⟨⟨rfl, rfl⟩, -⟩ _ _ ⟨⟨rfl, rfl⟩, -⟩ _ _ ⟨⟨rfl, rfl⟩, -⟩ _ _ ⟨⟨rfl, rfl⟩, -⟩ _ _ ⟨⟨rfl, rfl⟩, -⟩ _ _ ⟨⟨b5, rfl, rfl⟩, hva⟩ a w22 Z Y
   obtain rfl : b5 = bq := fN (hva rfl)
   replace Z : Fr 138 [(83, _), (84, _), (85, _), (86, _), (82, _), (87, _), (88, _), (14, _), (1, _), (2, _), (3, _), (5, _), (7, _), (9, _), (8, _), (10, _), (11, _), (12, _), (13, _)] [] a := Z
   try dsimp only at Y
   replace Y := Y.n9 O
   refine ab <| aM (k := 9) 10 [9] ?_
   refine wla Z O fun a Z => ab <| aT <| G16 ?_
   refine aa fun _ G17 => nv (Z.p11 1 2 3 5 7 9 10 11 12 13 14 O) <| xK O <| xJ (ao (Y.g 0 O) O (isAgg144 _) (sizeOf144 _)) <| fun a Z => aE (E := 144) (sz := 7) O [[jv o.who, jv ((o.who + 1 + pickI y.y0 9) % 10), jv o.rf, jv o.rt, jv o.sf, jv o.st, sv (sealH (keyH o.who) (o.bare y).content)]] kr sm O de de Z Y fun a w23 Z Y => aY (i := 9) (sT := 91) (inf := Tryz.t144) (z := .agg #[jv 0, jv 0, jv 0, jv 0, jv 0, jv 0, .string (⟨#[]⟩)]) (b := 0) (off := 0) (m := 0) (c := 0) O O O (Y.ow 0 O) sm underlying91 O O O O de z6 BG BG de Z Y fun a w24 s6 Z Y _ => ?_
   rw [show ((pxysOf (ce holder r0 r1 s0 s1) (ys.take k)).map Pxy.cells) ++ ([[jv o.who, jv ((o.who + 1 + pickI y.y0 9) % 10), jv o.rf, jv o.rt, jv o.sf, jv o.st, sv (sealH (keyH o.who) (o.bare y).content)]]) = ((pxysOf (ce holder r0 r1 s0 s1) (ys.take (k + 1))).map Pxy.cells) from by rw [cz Cin.z hky, jx, ho, hy, yU]; rfl] at Y
   refine wla Z O fun a Z => G17 <| aa fun _ G18 => ?_
   refine nv Z <| xJ (ac (v := pw2 b4 1) O kr) <| xJ (ld Y 2 O O (isAgg3 _) O) <| xL O <| fun a Z => G18 ?_
   replace Y := Y.k7 1016 O
   refine aa fun _ G19 => nv (Z.p10 1 2 3 5 7 9 11 12 10 8 O) <| xJ (ac (v := pq w4.hz) O kr) <| xJ (ld Y 3 O O (isAgg3 _) O) <| xJ (ac (v := pw2 w4.hz 1) O kr) <| xJ (ld Y 3 O O (isAgg3 _) O) <| xJ (ba (v := pw2 w15.hz 1) O O kr) <| xJ (ld Y 0 O O (isAgg3 _) O) <| xJ (ba (v := pw2 w15.hz 2) O O kr) <| xJ (ld Y 0 O O (isAgg3 _) O) <| fun a Z => aw Z Y call82 O (jr o.rf o.rt y.y1 y.y2 _ om om om zZ zZ) fun a w25 Z Y => nv Z <| xK O <| xJ (aq O O) <| xJ (aq O O) <| xJ (ac (v := pq w4.hz) O kr) <| fun a Z => az 3 Z Y [jv (o.rf + pickI y.y1 (o.rt - o.rf)), jv o.rt] O (sizeOf3 _) fun a w26 Z Y => ?_
   refine wlv Z (ac (v := pw2 w4.hz 1) O kr) fun a Z => az 3 Z Y [jv (o.rf + pickI y.y1 (o.rt - o.rf)), jv (o.rt - pickI y.y2 (o.rt - (o.rf + pickI y.y1 (o.rt - o.rf))))] O (sizeOf3 _) fun a w27 Z Y => G19 ?_
   refine ai <| nv (Z.p10 1 2 3 5 7 9 11 12 10 8 O) <| xJ (ac (v := pq w8.hz) O kr) <| xJ (ld Y 4 O O (isAgg3 _) O) <| xJ (ac (v := pw2 w8.hz 1) O kr) <| xJ (ld Y 4 O O (isAgg3 _) O) <| xJ (ba (v := pw2 w15.hz 3) O O kr) <| xJ (ld Y 0 O O (isAgg3 _) O) <| xJ (ba (v := pw2 w15.hz 4) O O kr) <| xJ (ld Y 0 O O (isAgg3 _) O) <| fun a Z => aw Z Y call82 O (jr o.sf o.st y.y3 y.y4 _ om om om zZ zZ) fun a w28 Z Y => nv Z <| xK O <| xJ (aq O O) <| xJ (aq O O) <| xJ (ac (v := pq w8.hz) O kr) <| fun a Z => az 4 Z Y [jv (o.sf + pickI y.y3 (o.st - o.sf)), jv o.st] O (sizeOf3 _) fun a w29 Z Y => ?_
   refine wlv Z (ac (v := pw2 w8.hz 1) O kr) fun a Z => az 4 Z Y [jv (o.sf + pickI y.y3 (o.st - o.sf)), jv (o.st - pickI y.y4 (o.st - (o.sf + pickI y.y3 (o.st - o.sf))))] O (sizeOf3 _) fun a w30 Z Y => ab <| G13 ?_
   replace Y := Y.k6 126 O
   refine ai <| nv (Z.p9 1 2 3 5 7 9 11 10 8 O) <| xK O <| xJ (aP O O ⟨om, om⟩) <| xL O <| fun a Z => ab ?_
   refine ⟨_, ?_, k + 1, o.next y, s6, O, om, (by rw [cz Cin.z hky, jm, ho, hy]), (Left.next_ok hok y).1, Z.pick [1, 2, 3, 5, 7, 9, 8, 10, 11], Y.select [0, 1, 2, 3, 4, 5] de⟩
   omega
  refine aO <| G9 ?_
  obtain ⟨ho1, ho2, ho3, ho4, ho5, ho6, ho7, ho8⟩ := id hok
  have hwok := oV hok holder carrier serial
  have hkm : k = min 4 ys.length := by omega
  have hk4 : ys.take k = ys.take 4 := by rw [hkm]; exact my ys
  refine aa fun _ G20 => nv Z <| xK O <| xJ (ac (v := pq b1) O kr) <| fun a Z => az 4 Z Y [jv o.who, jv (pickI holder 10), jv 0, jv 0, jv (pickI carrier 8), jv (pickI serial 1000), jv 0, jv 0, .string (⟨#[]⟩)] O (sizeOf3 _) fun a w31 Z Y => G20 <| aa fun _ G21 => ?_
  refine nv Z <| xJ (ao (Y.g 2 O) O (isAgg87 _) (sizeOf87 _)) <| xJ (ac (v := pw2 b1 2) O kr) <| fun a Z => az 4 Z Y [jv o.who, jv (pickI holder 10), jv o.rf, jv o.rt, jv (pickI carrier 8), jv (pickI serial 1000), jv 0, jv 0, .string (⟨#[]⟩)] O (sizeOf87 _) fun a w32 Z Y => G21 ?_
  replace Y := Y.k4 58 O
  refine aa fun _ G22 => nv (Z.p6 2 3 7 9 8 10 O) <| xJ (ao (Y.g 1 O) O (isAgg88 _) (sizeOf88 _)) <| xJ (ac (v := pw2 b1 6) O kr) <| fun a Z => az 2 Z Y [jv o.who, jv (pickI holder 10), jv o.rf, jv o.rt, jv (pickI carrier 8), jv (pickI serial 1000), jv o.sf, jv o.st, .string (⟨#[]⟩)] O (sizeOf88 _) fun a w33 Z Y => G22 <| ah fun _ G23 => ?_
  refine aL (aN fun w34 hxz => ?_)
  replace Y := Y.grow hxz
  refine aU (k := 0) 9 [6, 8] Z ?_
  replace Z := Z.p8 2 3 7 9 8 10 127 128 O
  refine eb 7 8 90 [jv 0, jv 0, jv 0, jv 0, jv 0, jv 0, jv 0, jv 0, .string (⟨#[]⟩)] [jv o.who, jv (pickI holder 10), jv o.rf, jv o.rt, jv (pickI carrier 8), jv (pickI serial 1000), jv o.sf, jv o.st, sv (sealH (keyH o.who) (bareW o holder carrier serial).content)] 9 [[], [0], [], [1, 2], [3], [4], [4], [], [5, 7]] (fun i => match i with | 0 => pv (jv o.who) | 1 => pv (sv (keyH o.who)) | 2 => pv (.agg #[jv o.who, jv (pickI holder 10), jv o.rf, jv o.rt, jv (pickI carrier 8), jv (pickI serial 1000), jv o.sf, jv o.st, .string (⟨#[]⟩)]) | 3 => pv (.tuple #[.agg #[jv o.who, jv (pickI holder 10), jv o.rf, jv o.rt, jv (pickI carrier 8), jv (pickI serial 1000), jv o.sf, jv o.st, sv (sealH (keyH o.who) (bareW o holder carrier serial).content)], jv 0]) | 4 => pv (.tuple #[.agg #[jv o.who, jv (pickI holder 10), jv o.rf, jv o.rt, jv (pickI carrier 8), jv (pickI serial 1000), jv o.sf, jv o.st, sv (sealH (keyH o.who) (bareW o holder carrier serial).content)], jv 0]) | 5 => pv (.agg #[jv o.who, jv (pickI holder 10), jv o.rf, jv o.rt, jv (pickI carrier 8), jv (pickI serial 1000), jv o.sf, jv o.st, sv (sealH (keyH o.who) (bareW o holder carrier serial).content)]) | 6 => pv (jv 0) | 7 => fun v E => ∃ b, v = ptr b ∧ E = [] | 8 => fun v E => v = undef ∧ E = [] | _ => fun _ _ => False) Z (H := [blk w1.hz [jv 0, jv 0, jv 0, jv 0, jv 0, jv 0, jv 0, jv 0, .string (⟨#[]⟩)] 90, blk w8.hz [jv o.sf, jv o.st] 88, blk b1 [jv o.who, jv (pickI holder 10), jv o.rf, jv o.rt, jv (pickI carrier 8), jv (pickI serial 1000), jv o.sf, jv o.st, .string (⟨#[]⟩)] 90, own v 144 7 ((pxysOf (ce holder r0 r1 s0 s1) (ys.take k)).map Pxy.cells)]) Y kr kr kr kr de de de de de ?_ (fun v E h => h) ⟨O, O⟩ (fun v E => Iff.rfl) ?_ ?_ ?_ ?_
  ·intro i v E h
   match i, h with
   | 0, _ => exact by decide
   | 1, _ => exact by decide
   | 2, _ => exact by decide
   | 3, _ => exact by decide
   | 4, _ => exact by decide
   | 5, _ => exact by decide
   | 6, _ => exact by decide
   | 7, _ => exact by decide
   | 8, _ => exact by decide
   | i + 9, h => exact h.elim
  ·intro i hi hia hij e
   match i, hi, hia, hij with
   | 0, _, _, _ => exact fun w Y => OpV.g (ay O)
   | 1, _, _, _ =>
    rintro _ _ ⟨rfl, rfl⟩
    intro w Y
    exact bF call33 O (fG o.who _)
   | 2, _, _, _ => exact fun w Y => OpV.g (ao (Y.g 3 O) O (isAgg90 _) (sizeOf90 _))
   | 3, _, _, _ =>
    rintro _ _ ⟨rfl, rfl⟩ _ _ ⟨rfl, rfl⟩
    intro w Y
    exact bF call83 O (iK (keyH o.who) (bareW o holder carrier serial) _ (ck _) hwok)
   | 4, _, _, _ =>
    rintro _ _ ⟨rfl, rfl⟩
    intro w Y
    exact OpV.g (ay O)
   | 5, _, _, _ =>
    rintro _ _ ⟨rfl, rfl⟩
    intro w Y
    exact OpV.g (aq O O)
   | 6, _, _, _ =>
    rintro _ _ ⟨rfl, rfl⟩
    intro w Y
    exact OpV.g (aq O O)
   | 7, _, h, _ => exact absurd O h
   | 8, _, _, h => exact absurd O h
  ·exact fun Lv w => eC (zeroValue90 _)
  ·rintro _ _ ⟨rfl, rfl⟩ _ _ ⟨b7, rfl, rfl⟩
   intro b hb w h
   have hb : some (ptr b7) = some (ptr b) := hb
   cases hb
   exact dI O O h (sizeOf90 _) O (lb O) O
  clear Z Y
  rintro bq _ _ ⟨⟨rfl, rfl⟩, -⟩ _ _ ⟨⟨rfl, rfl⟩, -⟩ _ _ ⟨⟨rfl, rfl⟩, -⟩ _ _ ⟨⟨rfl, rfl⟩, -⟩ _ _ ⟨⟨rfl, rfl⟩, -⟩ _ _ ⟨⟨rfl, rfl⟩, -⟩ _ _ ⟨⟨rfl, rfl⟩, -⟩ _ _ ⟨⟨b7, rfl, rfl⟩, hva⟩ a w35 Z Y
  obtain rfl : b7 = bq := fN (hva rfl)
  replace Z := Z.p16 130 131 132 133 129 134 135 16 2 3 7 9 8 10 127 128 O
  try dsimp only at Y
  replace Y := Y.n5 O
  refine ab <| aM (k := 9) 10 [9] ?_
  refine wla Z O fun a Z => ab <| aT <| G23 ?_
  replace Y := Y.k3 19 O
  refine aa fun _ G24 => nv (Z.p4 2 3 10 16 O) <| xJ (ao (Y.g 0 O) O (isAgg90 _) (sizeOf90 _)) <| xK O <| fun a Z => az 1 Z Y [jv o.who, jv (pickI holder 10), jv o.rf, jv o.rt, jv (pickI carrier 8), jv (pickI serial 1000), jv o.sf, jv o.st, sv (sealH (keyH o.who) (bareW o holder carrier serial).content)] O (sizeOf90 _) fun a w36 Z Y => wla Z O fun a Z => G24 <| ap ?_
  refine am Z results32 (al O (bj (Y.g 1 O) (isAgg90 _) (sizeOf90 _)) (ag O ae)) ?_
  rw [hk4] at Y ho
  subst ho
  exact ⟨v, O, trivial, Y.ext, St.out (E := [own v 144 7 ((madeL holder r0 r1 s0 s1 ys).map Pxy.cells)]) (H := []) (Y.select [2] de)⟩
 rw [xW hb2] at Z
 refine nv Z <| xN <| xN <| xJ (ak O O) <| fun a Z => G12 ?_
 replace Z := Z.p10 1 2 3 5 7 9 8 10 11 63 O
 refine aG Z O ?_
 refine aO <| G9 ?_
 obtain ⟨ho1, ho2, ho3, ho4, ho5, ho6, ho7, ho8⟩ := id hok
 have hwok := oV hok holder carrier serial
 have hkm : k = min 4 ys.length := by omega
 have hk4 : ys.take k = ys.take 4 := by rw [hkm]; exact my ys
 refine aa fun _ G25 => nv Z <| xK O <| xJ (ac (v := pq b1) O kr) <| fun a Z => az 4 Z Y [jv o.who, jv (pickI holder 10), jv 0, jv 0, jv (pickI carrier 8), jv (pickI serial 1000), jv 0, jv 0, .string (⟨#[]⟩)] O (sizeOf3 _) fun a w37 Z Y => G25 <| aa fun _ G26 => ?_
 refine nv Z <| xJ (ao (Y.g 2 O) O (isAgg87 _) (sizeOf87 _)) <| xJ (ac (v := pw2 b1 2) O kr) <| fun a Z => az 4 Z Y [jv o.who, jv (pickI holder 10), jv o.rf, jv o.rt, jv (pickI carrier 8), jv (pickI serial 1000), jv 0, jv 0, .string (⟨#[]⟩)] O (sizeOf87 _) fun a w38 Z Y => G26 ?_
 replace Y := Y.k4 58 O
 refine aa fun _ G27 => nv (Z.p6 2 3 7 9 8 10 O) <| xJ (ao (Y.g 1 O) O (isAgg88 _) (sizeOf88 _)) <| xJ (ac (v := pw2 b1 6) O kr) <| fun a Z => az 2 Z Y [jv o.who, jv (pickI holder 10), jv o.rf, jv o.rt, jv (pickI carrier 8), jv (pickI serial 1000), jv o.sf, jv o.st, .string (⟨#[]⟩)] O (sizeOf88 _) fun a w39 Z Y => G27 <| ah fun _ G28 => ?_
 refine aL (aN fun w40 hxz => ?_)
 replace Y := Y.grow hxz
 refine aU (k := 0) 9 [6, 8] Z ?_
 replace Z := Z.p8 2 3 7 9 8 10 127 128 O
 refine eb 7 8 90 [jv 0, jv 0, jv 0, jv 0, jv 0, jv 0, jv 0, jv 0, .string (⟨#[]⟩)] [jv o.who, jv (pickI holder 10), jv o.rf, jv o.rt, jv (pickI carrier 8), jv (pickI serial 1000), jv o.sf, jv o.st, sv (sealH (keyH o.who) (bareW o holder carrier serial).content)] 9 [[], [0], [], [1, 2], [3], [4], [4], [], [5, 7]] (fun i => match i with | 0 => pv (jv o.who) | 1 => pv (sv (keyH o.who)) | 2 => pv (.agg #[jv o.who, jv (pickI holder 10), jv o.rf, jv o.rt, jv (pickI carrier 8), jv (pickI serial 1000), jv o.sf, jv o.st, .string (⟨#[]⟩)]) | 3 => pv (.tuple #[.agg #[jv o.who, jv (pickI holder 10), jv o.rf, jv o.rt, jv (pickI carrier 8), jv (pickI serial 1000), jv o.sf, jv o.st, sv (sealH (keyH o.who) (bareW o holder carrier serial).content)], jv 0]) | 4 => pv (.tuple #[.agg #[jv o.who, jv (pickI holder 10), jv o.rf, jv o.rt, jv (pickI carrier 8), jv (pickI serial 1000), jv o.sf, jv o.st, sv (sealH (keyH o.who) (bareW o holder carrier serial).content)], jv 0]) | 5 => pv (.agg #[jv o.who, jv (pickI holder 10), jv o.rf, jv o.rt, jv (pickI carrier 8), jv (pickI serial 1000), jv o.sf, jv o.st, sv (sealH (keyH o.who) (bareW o holder carrier serial).content)]) | 6 => pv (jv 0) | 7 => fun v E => ∃ b, v = ptr b ∧ E = [] | 8 => fun v E => v = undef ∧ E = [] | _ => fun _ _ => False) Z (H := [blk w1.hz [jv 0, jv 0, jv 0, jv 0, jv 0, jv 0, jv 0, jv 0, .string (⟨#[]⟩)] 90, blk w8.hz [jv o.sf, jv o.st] 88, blk b1 [jv o.who, jv (pickI holder 10), jv o.rf, jv o.rt, jv (pickI carrier 8), jv (pickI serial 1000), jv o.sf, jv o.st, .string (⟨#[]⟩)] 90, own v 144 7 ((pxysOf (ce holder r0 r1 s0 s1) (ys.take k)).map Pxy.cells)]) Y kr kr kr kr de de de de de ?_ (fun v E h => h) ⟨O, O⟩ (fun v E => Iff.rfl) ?_ ?_ ?_ ?_
 ·intro i v E h
  match i, h with
  | 0, _ => exact by decide
  | 1, _ => exact by decide
  | 2, _ => exact by decide
  | 3, _ => exact by decide
  | 4, _ => exact by decide
  | 5, _ => exact by decide
  | 6, _ => exact by decide
  | 7, _ => exact by decide
  | 8, _ => exact by decide
  | i + 9, h => exact h.elim
 ·intro i hi hia hij e
  match i, hi, hia, hij with
  | 0, _, _, _ => exact fun w Y => OpV.g (ay O)
  | 1, _, _, _ =>
   rintro _ _ ⟨rfl, rfl⟩
   intro w Y
   exact bF call33 O (fG o.who _)
  | 2, _, _, _ => exact fun w Y => OpV.g (ao (Y.g 3 O) O (isAgg90 _) (sizeOf90 _))
  | 3, _, _, _ =>
   rintro _ _ ⟨rfl, rfl⟩ _ _ ⟨rfl, rfl⟩
   intro w Y
   exact bF call83 O (iK (keyH o.who) (bareW o holder carrier serial) _ (ck _) hwok)
  | 4, _, _, _ =>
   rintro _ _ ⟨rfl, rfl⟩
   intro w Y
   exact OpV.g (ay O)
  | 5, _, _, _ =>
   rintro _ _ ⟨rfl, rfl⟩
   intro w Y
   exact OpV.g (aq O O)
  | 6, _, _, _ =>
   rintro _ _ ⟨rfl, rfl⟩
   intro w Y
   exact OpV.g (aq O O)
  | 7, _, h, _ => exact absurd O h
  | 8, _, _, h => exact absurd O h
 ·exact fun Lv w => eC (zeroValue90 _)
 ·rintro _ _ ⟨rfl, rfl⟩ _ _ ⟨b8, rfl, rfl⟩
  intro b hb w h
  have hb : some (ptr b8) = some (ptr b) := hb
  cases hb
  exact dI O O h (sizeOf90 _) O (lb O) O
 clear Z Y
 rintro bq _ _ ⟨⟨rfl, rfl⟩, -⟩ _ _ ⟨⟨rfl, rfl⟩, -⟩ _ _ ⟨⟨rfl, rfl⟩, -⟩ _ _ ⟨⟨rfl, rfl⟩, -⟩ _ _ ⟨⟨rfl, rfl⟩, -⟩ _ _ ⟨⟨rfl, rfl⟩, -⟩ _ _ ⟨⟨rfl, rfl⟩, -⟩ _ _ ⟨⟨b8, rfl, rfl⟩, hva⟩ a w41 Z Y
 obtain rfl : b8 = bq := fN (hva rfl)
 replace Z := Z.p16 130 131 132 133 129 134 135 16 2 3 7 9 8 10 127 128 O
 try dsimp only at Y
 replace Y := Y.n5 O
 refine ab <| aM (k := 9) 10 [9] ?_
 refine wla Z O fun a Z => ab <| aT <| G28 ?_
 replace Y := Y.k3 19 O
 refine aa fun _ G29 => nv (Z.p4 2 3 10 16 O) <| xJ (ao (Y.g 0 O) O (isAgg90 _) (sizeOf90 _)) <| xK O <| fun a Z => az 1 Z Y [jv o.who, jv (pickI holder 10), jv o.rf, jv o.rt, jv (pickI carrier 8), jv (pickI serial 1000), jv o.sf, jv o.st, sv (sealH (keyH o.who) (bareW o holder carrier serial).content)] O (sizeOf90 _) fun a w42 Z Y => wla Z O fun a Z => G29 <| ap ?_
 refine am Z results32 (al O (bj (Y.g 1 O) (isAgg90 _) (sizeOf90 _)) (ag O ae)) ?_
 rw [hk4] at Y ho
 subst ho
 exact ⟨v, O, trivial, Y.ext, St.out (E := [own v 144 7 ((madeL holder r0 r1 s0 s1 ys).map Pxy.cells)]) (H := []) (Y.select [2] de)⟩
end Go.Proofs.YtliklcmddmpdfaaGreatDoor
