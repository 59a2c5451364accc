/- Texts joined: RefA, RefB, RefC, RefD, RefE, WirA, BldA. -/
import Derived.Test.YtddfkkdanpmnaaaGreatDoorPQC
import Derived.Test.YtddfkkdanpmnaaaGreatDoorPQB
import Derived.Test.YtddfkkdanpmnaaaGreatDoorPQA
import Derived.Laws.StructEq
set_option linter.unusedVariables false
set_option linter.unusedSimpArgs false
set_option maxRecDepth 4000
set_option maxHeartbeats 4000000
namespace Go.Proofs.YtddfkkdanpmnaaaGreatDoor
open Go.RowKit Go.PW _root_.Go.Proofs.Tryz
theorem jf (w0 : World) :
  Ret Tryz.prog 105 #[] w0 (MemR w0 (fun v : Value => v) (fun v => [own v 116 1 ((kOf).map fun x => [wv x])]) (fun _ => True)) := by
 refine aC func105 rfl ntmps105 (lb rfl) fun a Z => ?_
 replace Z : Fr 2 [] [] a := Z
 replace Y : St No w0 [] w0 := St.init w0
 refine aa fun K1 hK1 => wla Z rfl fun a Z => ab (hK1 _ _ <| aa fun K2 hK2 => ?_)
 refine aE (E := 116) (sz := 1) rfl [[wv (1116352408#32)], [wv (1899447441#32)], [wv (3049323471#32)], [wv (3921009573#32)], [wv (961987163#32)], [wv (1508970993#32)], [wv (2453635748#32)], [wv (2870763221#32)], [wv (3624381080#32)], [wv (310598401#32)], [wv (607225278#32)], [wv (1426881987#32)], [wv (1925078388#32)], [wv (2162078206#32)], [wv (2614888103#32)], [wv (3248222580#32)], [wv (3835390401#32)], [wv (4022224774#32)], [wv (264347078#32)], [wv (604807628#32)], [wv (770255983#32)], [wv (1249150122#32)], [wv (1555081692#32)], [wv (1996064986#32)], [wv (2554220882#32)], [wv (2821834349#32)], [wv (2952996808#32)], [wv (3210313671#32)], [wv (3336571891#32)], [wv (3584528711#32)], [wv (113926993#32)], [wv (338241895#32)], [wv (666307205#32)], [wv (773529912#32)], [wv (1294757372#32)], [wv (1396182291#32)], [wv (1695183700#32)], [wv (1986661051#32)], [wv (2177026350#32)], [wv (2456956037#32)], [wv (2730485921#32)], [wv (2820302411#32)], [wv (3259730800#32)], [wv (3345764771#32)], [wv (3516065817#32)], [wv (3600352804#32)], [wv (4094571909#32)], [wv (275423344#32)], [wv (430227734#32)], [wv (506948616#32)], [wv (659060556#32)], [wv (883997877#32)], [wv (958139571#32)], [wv (1322822218#32)], [wv (1537002063#32)], [wv (1747873779#32)], [wv (1955562222#32)], [wv (2024104815#32)], [wv (2227730452#32)], [wv (2361852424#32)], [wv (2428436474#32)], [wv (2756734187#32)], [wv (3204031479#32)], [wv (3329325298#32)]] kr sm rfl de de Z Y ?_
 clear Z Y
 intro a w1 Z Y
 refine wla Z rfl fun a Z => ab (hK2 _ _ <| ao ?_)
 refine al Z results105 (ac rfl ag) ?_
 exact ⟨(.slice (some ⟨w0.hz, 0, none⟩) 64 64), rfl, trivial, Y.ext, St.out (E := [own (.slice (some ⟨w0.hz, 0, none⟩) 64 64) 116 1 ((kOf).map fun x => [wv x])]) (H := []) Y⟩
theorem eA {α : Type} {l : List α} {i k : Nat} (d : α) (h : i < k) : (l.take k).getD i d = l.getD i d := by
 rw [List.getD_eq_getElem?_getD, List.getElem?_take_of_lt h, ← List.getD_eq_getElem?_getD]
theorem jv (s : By) (w0 : World) (hs : s.length ≤ 100000000) :
  Ret Tryz.prog 82 #[sv s] w0 (MemR w0 (fun v : Value => v) (fun v => [own v 5 1 ((padded s).map fun b => [yv b])]) (fun _ => True)) := by
 refine aC func82 rfl ntmps82 (lb rfl) fun a Z => ?_
 replace Z := Z.p1 0 rfl
 replace Y : St No w0 [] w0 := St.init w0
 refine aa fun K1 hK1 => wla Z rfl fun a Z => ab (hK1 _ _ <| aa fun K2 hK2 => ?_)
 refine wla Z rfl fun a Z => ab (hK2 _ _ <| ah fun K3 hK3 => ?_)
 refine aa fun K4 hK4 => wla Z rfl fun a Z => ab (hK4 _ _ <| aq ?_)
 replace Y : St No w0 [own (.slice none 0 0) 5 1 ((s.take 0).map fun b => [yv b])] w0 := Y.nil_own
 refine aT (fun m a w => ∃ (k : Nat) (v : Value), m = s.length - k ∧ (k ≤ s.length) ∧ Fr 43 [(0, sv s), (2, .slice none 0 0), (3, v), (4, iv (k : Int))] [] a ∧ St No w0 [own v 5 1 ((s.take k).map fun b => [yv b])] w) _ ⟨0, .slice none 0 0, rfl, Nat.zero_le _, Z.pick [0, 2, 3, 4], Y.select [0] de⟩ ?_
 rintro _ a w1 ⟨k, v, rfl, hk, Z, Y⟩
 refine ah fun K5 hK5 => aa fun K6 hK6 => wlm Z rfl fun a Z => wlm Z rfl fun a Z => wlv Z (aZ rfl rfl (runUnderlying9 _)) fun a Z => wlv Z (v_lt rfl rfl) fun a Z => ab (hK6 _ _ ?_)
 refine ax Z rfl (fun hc1 => ?_) (fun hc1 => ?_)
 ·rw [hc1] at Z
  try simp only [qz] at hc1
  refine ap <| hK5 _ _ <| ah fun K7 hK7 => aq <| ar <| wlm Z rfl fun a Z => wlm Z rfl fun a Z => wlm Z rfl fun a Z => wlv Z (fG (k := k) rfl rfl (runUnderlying9 _) om om) fun a Z => aE (E := 5) (sz := 1) rfl [[yv (s.getD k 0)]] kr sm rfl de de Z Y ?_
  clear Z Y
  intro a w2 Z Y
  refine aX (i := 1) (sT := 68) (inf := Tryz.t5) (z := yv (0 : UInt8)) (b := 0) (off := 0) (m := 0) (c := 0) rfl rfl rfl (Y.ow 0 rfl) sm underlying68 rfl rfl rfl rfl de (by simp [Value.oneCell', yv, wv, sv]) (by have hby : Tryz.t5.bytes = 1 := rfl; have hz6 : zeros s.length < 64 := (by unfold zeros; omega); simp [big, hby, sum1, sum2, bB] <;> omega) (by have hby : Tryz.t5.bytes = 1 := rfl; have hz6 : zeros s.length < 64 := (by unfold zeros; omega); simp [big, hby, sum1, sum2, bB] <;> omega) de Z Y fun a w3 s2 Z Y _ => wla Z rfl fun a Z => ab <| hK7 _ _ ?_
  replace Z := Z.p4 0 2 4 3 rfl
  replace Y := Y.k1 2 rfl
  refine ar <| wlm Z rfl fun a Z => wlv Z (aV rfl rfl ⟨om, om⟩) fun a Z => wla Z rfl fun a Z => ab ?_
  rw [show ((s.take k).map fun b => [yv b]) ++ ([[yv (s.getD k 0)]]) = ((s.take (k + 1)).map fun b => [yv b]) from by rw [bU 0 om]; simp] at Y
  refine ⟨_, ?_, k + 1, s2, rfl, om, Z.pick [0, 2, 3, 4], Y.select [0] de⟩
  omega
 rw [hc1] at Z
 try simp only [qz] at hc1
 obtain rfl : k = s.length := by omega
 rw [List.take_length] at Y
 refine aM <| hK3 _ _ <| aa fun K8 hK8 => wlm Z rfl fun a Z => aE (E := 5) (sz := 1) rfl [[yv (128 : UInt8)]] kr sm rfl de de Z Y ?_
 clear Z Y
 intro a w4 Z Y
 refine aX (i := 1) (sT := 68) (inf := Tryz.t5) (z := yv (0 : UInt8)) (b := 0) (off := 0) (m := 0) (c := 0) rfl rfl rfl (Y.ow 0 rfl) sm underlying68 rfl rfl rfl rfl de (by simp [Value.oneCell', yv, wv, sv]) (by have hby : Tryz.t5.bytes = 1 := rfl; have hz6 : zeros s.length < 64 := (by unfold zeros; omega); simp [big, hby, sum1, sum2, bB] <;> omega) (by have hby : Tryz.t5.bytes = 1 := rfl; have hz6 : zeros s.length < 64 := (by unfold zeros; omega); simp [big, hby, sum1, sum2, bB] <;> omega) de Z Y fun a w5 s3 Z Y _ => wla Z rfl fun a Z => ab (hK8 _ _ ?_)
 replace Z := Z.p3 0 2 3 rfl
 replace Y := Y.k1 2 rfl
 refine ah fun K9 hK9 => aq ?_
 rw [show ((s).map fun b => [yv b]) ++ ([[yv (128 : UInt8)]]) = ((sum1 s 0).map fun b => [yv b]) from by simp [sum1]] at Y
 refine aT (fun m a w => ∃ (z : Nat) (v : Value), m = 64 - z ∧ (z ≤ zeros s.length) ∧ Fr 43 [(0, sv s), (2, .slice none 0 0), (3, v)] [] a ∧ St No w0 [own v 5 1 ((sum1 s z).map fun b => [yv b])] w) _ ⟨0, s3, rfl, Nat.zero_le _, Z.pick [0, 2, 3], Y.select [0] de⟩ ?_
 rintro _ a w6 ⟨z, v, rfl, hz, Z, Y⟩
 refine ah fun K10 hK10 => aa fun K11 hK11 => wlm Z rfl fun a Z => wlv Z ((aB (sT := 68) (Y.ow 0 rfl) rfl rfl (runUnderlying68 _)).asi (m' := ((s.length + 1 + z : Nat) : Int)) (by rw [List.length_map, jX])) fun a Z => wlv Z (io rfl rfl om om) fun a Z => wlv Z (v_ne rfl rfl) fun a Z => ab (hK11 _ _ ?_)
 refine ax Z rfl (fun hc4 => ?_) (fun hc4 => ?_)
 ·rw [hc4] at Z
  try simp only [qz] at hc4
  have hz2 : z + 1 ≤ zeros s.length := by unfold zeros at hz ⊢; omega
  have hz3 : zeros s.length < 64 := by unfold zeros; omega
  refine ap <| hK10 _ _ <| aq <| ar <| wlm Z rfl fun a Z => aE (E := 5) (sz := 1) rfl [[yv (0 : UInt8)]] kr sm rfl de de Z Y ?_
  clear Z Y
  intro a w7 Z Y
  refine aX (i := 1) (sT := 68) (inf := Tryz.t5) (z := yv (0 : UInt8)) (b := 0) (off := 0) (m := 0) (c := 0) rfl rfl rfl (Y.ow 0 rfl) sm underlying68 rfl rfl rfl rfl de (by simp [Value.oneCell', yv, wv, sv]) (by have hby : Tryz.t5.bytes = 1 := rfl; have hz6 : zeros s.length < 64 := (by unfold zeros; omega); simp [big, hby, sum1, sum2, bB] <;> omega) (by have hby : Tryz.t5.bytes = 1 := rfl; have hz6 : zeros s.length < 64 := (by unfold zeros; omega); simp [big, hby, sum1, sum2, bB] <;> omega) de Z Y fun a w8 s5 Z Y _ => wla Z rfl fun a Z => ab ?_
  rw [show ((sum1 s z).map fun b => [yv b]) ++ ([[yv (0 : UInt8)]]) = ((sum1 s (z + 1)).map fun b => [yv b]) from by simp [sum1, List.replicate_succ']] at Y
  refine ⟨_, ?_, z + 1, s5, rfl, hz2, Z.pick [0, 2, 3], Y.select [1] de⟩
  omega
 rw [hc4] at Z
 try simp only [qz] at hc4
 obtain rfl : z = zeros s.length := by unfold zeros at hz ⊢; omega
 refine aM <| hK9 _ _ <| ah fun K12 hK12 => aa fun K13 hK13 => wla Z rfl fun a Z => ab (hK13 _ _ <| aq ?_)
 rw [show ((sum1 s (zeros s.length)).map fun b => [yv b]) = ((sum2 s 0).map fun b => [yv b]) from by simp [sum1, sum2]] at Y
 rw [show (7 : Int) = 7 - ((0 : Nat) : Int) from by omega] at Z
 refine aT (fun m a w => ∃ (r : Nat) (v : Value), m = 8 - r ∧ (r ≤ 8) ∧ Fr 43 [(0, sv s), (2, .slice none 0 0), (3, v), (5, iv (7 - (r : Int)))] [] a ∧ St No w0 [own v 5 1 ((sum2 s r).map fun b => [yv b])] w) _ ⟨0, v, rfl, Nat.zero_le _, Z.pick [0, 2, 3, 5], Y.select [0] de⟩ ?_
 rintro _ a w9 ⟨r, v, rfl, hr, Z, Y⟩
 refine ah fun K14 hK14 => aa fun K15 hK15 => wlm Z rfl fun a Z => wlv Z (v_ge rfl rfl) fun a Z => ab (hK15 _ _ ?_)
 refine ax Z rfl (fun hc6 => ?_) (fun hc6 => ?_)
 ·rw [hc6] at Z
  try simp only [qz] at hc6
  refine ap <| hK14 _ _ <| ah fun K16 hK16 => aq <| ar <| wlm Z rfl fun a Z => wlm Z rfl fun a Z => wlv Z (aZ rfl rfl (runUnderlying9 _)) fun a Z => wlv Z ((c8 rfl rfl ⟨om, om⟩).asi (m' := ((8 * s.length : Nat) : Int)) om) fun a Z => wlm Z rfl fun a Z => wlv Z ((c8 rfl rfl ⟨om, om⟩).asi (m' := ((8 * (7 - r) : Nat) : Int)) om) fun a Z => wlv Z (nX (m := (8 * s.length)) (n := (8 * (7 - r))) rfl rfl om) fun a Z => ?_
  refine wlv Z (iz (n := 8 * s.length / 2 ^ (8 * (7 - r))) rfl kr underlying5) fun a Z => aE (E := 5) (sz := 1) rfl [[yv (UInt8.ofNat (8 * s.length / 2 ^ (8 * (7 - r))))]] kr sm rfl de de Z Y ?_
  clear Z Y
  intro a w10 Z Y
  refine aX (i := 1) (sT := 68) (inf := Tryz.t5) (z := yv (0 : UInt8)) (b := 0) (off := 0) (m := 0) (c := 0) rfl rfl rfl (Y.ow 0 rfl) sm underlying68 rfl rfl rfl rfl de (by simp [Value.oneCell', yv, wv, sv]) (by have hby : Tryz.t5.bytes = 1 := rfl; have hz6 : zeros s.length < 64 := (by unfold zeros; omega); simp [big, hby, sum1, sum2, bB] <;> omega) (by have hby : Tryz.t5.bytes = 1 := rfl; have hz6 : zeros s.length < 64 := (by unfold zeros; omega); simp [big, hby, sum1, sum2, bB] <;> omega) de Z Y fun a w11 s7 Z Y _ => wla Z rfl fun a Z => ab <| hK16 _ _ ?_
  replace Z := Z.p4 0 2 5 3 rfl
  replace Y := Y.k1 2 rfl
  refine ar <| wlm Z rfl fun a Z => wlv Z (bq rfl rfl ⟨om, om⟩) fun a Z => wla Z rfl fun a Z => ab ?_
  rw [show ((sum2 s r).map fun b => [yv b]) ++ ([[yv (UInt8.ofNat (8 * s.length / 2 ^ (8 * (7 - r))))]]) = ((sum2 s (r + 1)).map fun b => [yv b]) from by unfold sum2; rw [eK om]; simp] at Y
  rw [show 7 - (r : Int) - 1 = 7 - ((r + 1 : Nat) : Int) from by omega] at Z
  refine ⟨_, ?_, r + 1, s7, rfl, om, Z.pick [0, 2, 3, 5], Y.select [0] de⟩
  omega
 rw [hc6] at Z
 try simp only [qz] at hc6
 obtain rfl : r = 8 := by omega
 rw [show sum2 s 8 = padded s from rfl] at Y
 refine aM <| hK12 _ _ <| aa fun K17 hK17 => wlm Z rfl fun a Z => wla Z rfl fun a Z => ab (hK17 _ _ ?_)
 replace Z := Z.p1 2 rfl
 refine ao ?_
 refine al Z results82 (ac rfl ag) ?_
 exact ⟨v, rfl, trivial, Y.ext, St.out (E := [own v 5 1 ((padded s).map fun b => [yv b])]) (H := []) Y⟩
theorem cX (x : Wd) (n : Nat) (w0 : World) (hn : 0 < n) (hn2 : n < 32) : Ret Tryz.prog 104 #[wv x, iv (n : Int)] w0 fun v w => v = wv (ror x n) ∧ Ext No w0 w := by
 have := kv x n w0 hn hn2
 rw [show (x >>> n) ||| (x <<< (32 - n)) = ror x n from BitVec.or_comm _ _] at this
 exact this
theorem mix2 (x : Wd) (a b : Nat) : mix x [a, b] = ror x a ^^^ ror x b := by simp [mix]
theorem mix3 (x : Wd) (a b c : Nat) : mix x [a, b, c] = ror x a ^^^ ror x b ^^^ ror x c := by simp [mix]
theorem iI (bs : List UInt8) {j : Nat} : ∀ {i : Nat}, j < i → (d : Nat) → (sch bs (i + d)).getD j 0#32 = (sch bs i).getD j 0#32
 | i, h, 0 => rfl
 | i, h, d + 1 => by
  have e : sch bs (i + (d + 1)) = (sch bs (i + d)).set (i + d) (if i + d < 16 then be bs (i + d) else nx (sch bs (i + d)) (i + d)) := rfl
  rw [e, List.getD_eq_getElem?_getD, List.getElem?_set_ne om, ← List.getD_eq_getElem?_getD]
  exact iI bs h d
theorem nK (bs : List UInt8) {j : Nat} (h : j < 64) : (sch bs 64).getD j 0#32 = if j < 16 then be bs j else nx (sch bs j) j := by
 have := iI bs (j := j) (i := j + 1) om (63 - j)
 rw [show j + 1 + (63 - j) = 64 from by omega] at this
 rw [this, sch, List.getD_eq_getElem?_getD, List.getElem?_set_self (by rw [aF]; omega)]; rfl
theorem iU (bs : List UInt8) {i j : Nat} (h : i < j) (hj : j ≤ 64) : (sch bs j).getD i 0#32 = (sch bs 64).getD i 0#32 := by
 have := iI bs h (64 - j)
 rw [show j + (64 - j) = 64 from by omega] at this
 exact this.symm
theorem l3 (bs : List UInt8) {k : Nat} (h : k < 16) : (sch bs 64).take (k + 1) = (sch bs 64).take k ++ [be bs k] := by
 rw [bU 0#32 (by rw [aF]; omega), nK bs om, if_pos h]
theorem mH (bs : List UInt8) {j : Nat} (h : 16 ≤ j) (hj : j < 64) : (sch bs 64).take (j + 1) = (sch bs 64).take j ++ [((((sch bs 64).take j).getD (j - 16) 0#32 + (ror (((sch bs 64).take j).getD (j - 15) 0#32) 7 ^^^ ror (((sch bs 64).take j).getD (j - 15) 0#32) 18 ^^^ ((sch bs 64).take j).getD (j - 15) 0#32 >>> 3)) + ((sch bs 64).take j).getD (j - 7) 0#32) + (ror (((sch bs 64).take j).getD (j - 2) 0#32) 17 ^^^ ror (((sch bs 64).take j).getD (j - 2) 0#32) 19 ^^^ ((sch bs 64).take j).getD (j - 2) 0#32 >>> 10)] := by
 rw [bU 0#32 (by rw [aF]; omega), nK bs om, if_neg om, nx, mix2, mix2]
 rw [iU bs (i := j - 16) (j := j) om om, iU bs (i := j - 15) (j := j) om om, iU bs (i := j - 7) (j := j) om om, iU bs (i := j - 2) (j := j) om om]
 rw [eA _ om, eA _ om, eA _ om, eA _ om]
theorem nc (x y : W8) {q : Nat} (h : q < 8) : (x.add y).l.take (q + 1) = (x.add y).l.take q ++ [x.l.getD q 0#32 + y.l.getD q 0#32] := by
 rw [bU 0#32 (by exact h)]
 congr 2
 have : q = 0 ∨ q = 1 ∨ q = 2 ∨ q = 3 ∨ q = 4 ∨ q = 5 ∨ q = 6 ∨ q = 7 := by omega
 rcases this with rfl | rfl | rfl | rfl | rfl | rfl | rfl | rfl <;> rfl
theorem mA (hvv bv : Value) (hv : W8) (bs : List UInt8) (w0 : World) (hhv : SlAt w0 hvv 1 ((hv.l).map fun x => [wv x])) (hbv : SlAt w0 bv 1 (bs.map fun b => [yv b])) (hbl : bs.length = 64) :
  Ret Tryz.prog 83 #[hvv, bv] w0 (MemR w0 (fun v : Value => v) (fun v => [own v 116 1 (((block hv bs).l).map fun x => [wv x])]) (fun _ => True)) := by
 refine aC func83 rfl ntmps83 (lb rfl) fun a Z => ?_
 replace Z := Z.p2 0 1 rfl
 replace Y : St No w0 [] w0 := St.init w0
 refine aa fun K1 hK1 => wla Z rfl fun a Z => ab (hK1 _ _ <| aa fun K2 hK2 => ?_)
 refine wla Z rfl fun a Z => ab (hK2 _ _ <| ah fun K3 hK3 => ?_)
 refine aa fun K4 hK4 => wla Z rfl fun a Z => ab (hK4 _ _ <| aq ?_)
 replace Y : St No w0 [own (.slice none 0 0) 116 1 (((sch bs 64).take 0).map fun x => [wv x])] w0 := Y.nil_own
 refine aT (fun m a w => ∃ (k : Nat) (u : Value), m = 16 - k ∧ (k ≤ 16) ∧ Fr 238 [(0, hvv), (1, bv), (4, .slice none 0 0), (5, u), (6, iv (k : Int))] [] a ∧ St No w0 [own u 116 1 (((sch bs 64).take k).map fun x => [wv x])] w) _ ⟨0, .slice none 0 0, rfl, Nat.zero_le _, Z.pick [0, 1, 4, 5, 6], Y.select [0] de⟩ ?_
 rintro _ a w1 ⟨k, u, rfl, hk, Z, Y⟩
 refine ah fun K5 hK5 => aa fun K6 hK6 => wlm Z rfl fun a Z => wlv Z (v_lt rfl rfl) fun a Z => ab (hK6 _ _ ?_)
 refine ax Z rfl (fun hc1 => ?_) (fun hc1 => ?_)
 ·rw [hc1] at Z
  try simp only [qz] at hc1
  refine ap <| hK5 _ _ <| ah fun K7 hK7 => aq <| aH kr (aI kr fun w2 hxz => ?_)
  replace Y := Y.grow hxz
  refine aP (k := 0) 35 [0, 34] Z kr kr kr rfx ?_
  replace Z := Z.p7 0 1 4 5 6 19 20 rfl
  refine az [34] (fun i => match i with | 34 => pm (fun b : Nat => .slice (some ⟨b, 0, none⟩) 1 1) (fun b => [own (.slice (some ⟨b, 0, none⟩) 1 1) 116 1 [[wv (((((BitVec.ofNat 32 (bs.getD (4 * k) 0).toNat) <<< 24) ||| ((BitVec.ofNat 32 (bs.getD (4 * k + 1) 0).toNat) <<< 16)) ||| ((BitVec.ofNat 32 (bs.getD (4 * k + 2) 0).toNat) <<< 8)) ||| (BitVec.ofNat 32 (bs.getD (4 * k + 3) 0).toNat))]]]) (fun _ => True) | _ => fun _ _ => False) 35 [[], [], [], [2], [1, 3], [4], [5], [6], [], [], [9], [10], [8, 11], [12], [13], [14], [7, 15], [], [], [18], [19], [17, 20], [21], [22], [23], [16, 24], [], [], [27], [28], [26, 29], [30], [31], [25, 32], [33]] [u, bv, iv (k : Int), iv (4 * (k : Int)), slAddr bv ((4 * k) * 1), yv (bs.getD (4 * k) 0), wv (BitVec.ofNat 32 (bs.getD (4 * k) 0).toNat), wv ((BitVec.ofNat 32 (bs.getD (4 * k) 0).toNat) <<< 24), bv, iv (k : Int), iv (4 * (k : Int)), iv ((4 * (k : Int)) + 1), slAddr bv ((4 * k + 1) * 1), yv (bs.getD (4 * k + 1) 0), wv (BitVec.ofNat 32 (bs.getD (4 * k + 1) 0).toNat), wv ((BitVec.ofNat 32 (bs.getD (4 * k + 1) 0).toNat) <<< 16), wv (((BitVec.ofNat 32 (bs.getD (4 * k) 0).toNat) <<< 24) ||| ((BitVec.ofNat 32 (bs.getD (4 * k + 1) 0).toNat) <<< 16)), bv, iv (k : Int), iv (4 * (k : Int)), iv ((4 * (k : Int)) + 2), slAddr bv ((4 * k + 2) * 1), yv (bs.getD (4 * k + 2) 0), wv (BitVec.ofNat 32 (bs.getD (4 * k + 2) 0).toNat), wv ((BitVec.ofNat 32 (bs.getD (4 * k + 2) 0).toNat) <<< 8), wv ((((BitVec.ofNat 32 (bs.getD (4 * k) 0).toNat) <<< 24) ||| ((BitVec.ofNat 32 (bs.getD (4 * k + 1) 0).toNat) <<< 16)) ||| ((BitVec.ofNat 32 (bs.getD (4 * k + 2) 0).toNat) <<< 8)), bv, iv (k : Int), iv (4 * (k : Int)), iv ((4 * (k : Int)) + 3), slAddr bv ((4 * k + 3) * 1), yv (bs.getD (4 * k + 3) 0), wv (BitVec.ofNat 32 (bs.getD (4 * k + 3) 0).toNat), wv (((((BitVec.ofNat 32 (bs.getD (4 * k) 0).toNat) <<< 24) ||| ((BitVec.ofNat 32 (bs.getD (4 * k + 1) 0).toNat) <<< 16)) ||| ((BitVec.ofNat 32 (bs.getD (4 * k + 2) 0).toNat) <<< 8)) ||| (BitVec.ofNat 32 (bs.getD (4 * k + 3) 0).toNat)), undef] Z Y kr kr kr ?_ ?_ ?_
  ·intro i hi hiq
   match i, hi, hiq with
   | 0, _, _ => exact fun w Y => OpV.g (ae rfl)
   | 1, _, _ => exact fun w Y => OpV.g (ae rfl)
   | 2, _, _ => exact fun w Y => OpV.g (ae rfl)
   | 3, _, _ => exact fun w Y => OpV.g (c8 rfl rfl ⟨om, om⟩)
   | 4, _, _ => exact fun w Y => OpV.g ((aj (i := 4 * (k : Int)) (sT := 68) (Y.arg hbv) rfl rfl (runUnderlying68 _) (sizeOf5 _) om (by rw [List.length_map]; first | omega | (rw [aF]; omega) | (rw [List.length_take, aF]; omega) | (rw [W8.l_len]; omega) | (rw [bo]; omega))).as (v' := slAddr bv ((4 * k) * 1)) (by rw [show (4 * (k : Int)).toNat = (4 * k) from by omega]))
   | 5, _, _ => exact fun w Y => OpV.g (ay (u := yv (bs.getD (4 * k) 0)) (i := (4 * k)) (j := 0) (Y.arg hbv) (by rw [List.length_map]; first | omega | (rw [aF]; omega) | (rw [List.length_take, aF]; omega) | (rw [W8.l_len]; omega) | (rw [bo]; omega)) rfl (isAgg5 _) (by simp [List.getD_eq_getElem?_getD, List.getElem?_eq_getElem (show (4 * k) < bs.length by omega)]))
   | 6, _, _ => exact fun w Y => OpV.g (cH rfl kr underlying116)
   | 7, _, _ => exact fun w Y => OpV.g (el (n := 24) rfl rfl)
   | 8, _, _ => exact fun w Y => OpV.g (ae rfl)
   | 9, _, _ => exact fun w Y => OpV.g (ae rfl)
   | 10, _, _ => exact fun w Y => OpV.g (c8 rfl rfl ⟨om, om⟩)
   | 11, _, _ => exact fun w Y => OpV.g (aV rfl rfl ⟨om, om⟩)
   | 12, _, _ => exact fun w Y => OpV.g ((aj (i := (4 * (k : Int)) + 1) (sT := 68) (Y.arg hbv) rfl rfl (runUnderlying68 _) (sizeOf5 _) om (by rw [List.length_map]; first | omega | (rw [aF]; omega) | (rw [List.length_take, aF]; omega) | (rw [W8.l_len]; omega) | (rw [bo]; omega))).as (v' := slAddr bv ((4 * k + 1) * 1)) (by rw [show ((4 * (k : Int)) + 1).toNat = (4 * k + 1) from by omega]))
   | 13, _, _ => exact fun w Y => OpV.g (ay (u := yv (bs.getD (4 * k + 1) 0)) (i := (4 * k + 1)) (j := 0) (Y.arg hbv) (by rw [List.length_map]; first | omega | (rw [aF]; omega) | (rw [List.length_take, aF]; omega) | (rw [W8.l_len]; omega) | (rw [bo]; omega)) rfl (isAgg5 _) (by simp [List.getD_eq_getElem?_getD, List.getElem?_eq_getElem (show (4 * k + 1) < bs.length by omega)]))
   | 14, _, _ => exact fun w Y => OpV.g (cH rfl kr underlying116)
   | 15, _, _ => exact fun w Y => OpV.g (el (n := 16) rfl rfl)
   | 16, _, _ => exact fun w Y => OpV.g (fD rfl rfl)
   | 17, _, _ => exact fun w Y => OpV.g (ae rfl)
   | 18, _, _ => exact fun w Y => OpV.g (ae rfl)
   | 19, _, _ => exact fun w Y => OpV.g (c8 rfl rfl ⟨om, om⟩)
   | 20, _, _ => exact fun w Y => OpV.g (aV rfl rfl ⟨om, om⟩)
   | 21, _, _ => exact fun w Y => OpV.g ((aj (i := (4 * (k : Int)) + 2) (sT := 68) (Y.arg hbv) rfl rfl (runUnderlying68 _) (sizeOf5 _) om (by rw [List.length_map]; first | omega | (rw [aF]; omega) | (rw [List.length_take, aF]; omega) | (rw [W8.l_len]; omega) | (rw [bo]; omega))).as (v' := slAddr bv ((4 * k + 2) * 1)) (by rw [show ((4 * (k : Int)) + 2).toNat = (4 * k + 2) from by omega]))
   | 22, _, _ => exact fun w Y => OpV.g (ay (u := yv (bs.getD (4 * k + 2) 0)) (i := (4 * k + 2)) (j := 0) (Y.arg hbv) (by rw [List.length_map]; first | omega | (rw [aF]; omega) | (rw [List.length_take, aF]; omega) | (rw [W8.l_len]; omega) | (rw [bo]; omega)) rfl (isAgg5 _) (by simp [List.getD_eq_getElem?_getD, List.getElem?_eq_getElem (show (4 * k + 2) < bs.length by omega)]))
   | 23, _, _ => exact fun w Y => OpV.g (cH rfl kr underlying116)
   | 24, _, _ => exact fun w Y => OpV.g (el (n := 8) rfl rfl)
   | 25, _, _ => exact fun w Y => OpV.g (fD rfl rfl)
   | 26, _, _ => exact fun w Y => OpV.g (ae rfl)
   | 27, _, _ => exact fun w Y => OpV.g (ae rfl)
   | 28, _, _ => exact fun w Y => OpV.g (c8 rfl rfl ⟨om, om⟩)
   | 29, _, _ => exact fun w Y => OpV.g (aV rfl rfl ⟨om, om⟩)
   | 30, _, _ => exact fun w Y => OpV.g ((aj (i := (4 * (k : Int)) + 3) (sT := 68) (Y.arg hbv) rfl rfl (runUnderlying68 _) (sizeOf5 _) om (by rw [List.length_map]; first | omega | (rw [aF]; omega) | (rw [List.length_take, aF]; omega) | (rw [W8.l_len]; omega) | (rw [bo]; omega))).as (v' := slAddr bv ((4 * k + 3) * 1)) (by rw [show ((4 * (k : Int)) + 3).toNat = (4 * k + 3) from by omega]))
   | 31, _, _ => exact fun w Y => OpV.g (ay (u := yv (bs.getD (4 * k + 3) 0)) (i := (4 * k + 3)) (j := 0) (Y.arg hbv) (by rw [List.length_map]; first | omega | (rw [aF]; omega) | (rw [List.length_take, aF]; omega) | (rw [W8.l_len]; omega) | (rw [bo]; omega)) rfl (isAgg5 _) (by simp [List.getD_eq_getElem?_getD, List.getElem?_eq_getElem (show (4 * k + 3) < bs.length by omega)]))
   | 32, _, _ => exact fun w Y => OpV.g (cH rfl kr underlying116)
   | 33, _, _ => exact fun w Y => OpV.g (fD rfl rfl)
   | 34, _, h => exact absurd sm h
   | i + 35, h, _ => exact absurd h om
  ·intro i hi
   simp only [List.mem_cons, List.not_mem_nil, or_false] at hi
   subst hi
   ·intro w Y
    exact bn (E := 116) (sz := 1) rfl [[wv (((((BitVec.ofNat 32 (bs.getD (4 * k) 0).toNat) <<< 24) ||| ((BitVec.ofNat 32 (bs.getD (4 * k + 1) 0).toNat) <<< 16)) ||| ((BitVec.ofNat 32 (bs.getD (4 * k + 2) 0).toNat) <<< 8)) ||| (BitVec.ofNat 32 (bs.getD (4 * k + 3) 0).toNat))]] (fun _ => by kernel_rfl) sm rfl de
  clear Z Y
  rintro _ _ ⟨b2, rfl, -, rfl⟩ a w3 Z Y
  replace Z : Fr 238 [(23, u), (24, bv), (25, iv (k : Int)), (26, iv (4 * (k : Int))), (27, slAddr bv ((4 * k) * 1)), (28, yv (bs.getD (4 * k) 0)), (29, wv (BitVec.ofNat 32 (bs.getD (4 * k) 0).toNat)), (30, wv ((BitVec.ofNat 32 (bs.getD (4 * k) 0).toNat) <<< 24)), (31, bv), (32, iv (k : Int)), (33, iv (4 * (k : Int))), (34, iv ((4 * (k : Int)) + 1)), (35, slAddr bv ((4 * k + 1) * 1)), (36, yv (bs.getD (4 * k + 1) 0)), (37, wv (BitVec.ofNat 32 (bs.getD (4 * k + 1) 0).toNat)), (38, wv ((BitVec.ofNat 32 (bs.getD (4 * k + 1) 0).toNat) <<< 16)), (39, wv (((BitVec.ofNat 32 (bs.getD (4 * k) 0).toNat) <<< 24) ||| ((BitVec.ofNat 32 (bs.getD (4 * k + 1) 0).toNat) <<< 16))), (40, bv), (41, iv (k : Int)), (42, iv (4 * (k : Int))), (43, iv ((4 * (k : Int)) + 2)), (44, slAddr bv ((4 * k + 2) * 1)), (45, yv (bs.getD (4 * k + 2) 0)), (46, wv (BitVec.ofNat 32 (bs.getD (4 * k + 2) 0).toNat)), (47, wv ((BitVec.ofNat 32 (bs.getD (4 * k + 2) 0).toNat) <<< 8)), (48, wv ((((BitVec.ofNat 32 (bs.getD (4 * k) 0).toNat) <<< 24) ||| ((BitVec.ofNat 32 (bs.getD (4 * k + 1) 0).toNat) <<< 16)) ||| ((BitVec.ofNat 32 (bs.getD (4 * k + 2) 0).toNat) <<< 8))), (49, bv), (50, iv (k : Int)), (51, iv (4 * (k : Int))), (52, iv ((4 * (k : Int)) + 3)), (53, slAddr bv ((4 * k + 3) * 1)), (54, yv (bs.getD (4 * k + 3) 0)), (55, wv (BitVec.ofNat 32 (bs.getD (4 * k + 3) 0).toNat)), (56, wv (((((BitVec.ofNat 32 (bs.getD (4 * k) 0).toNat) <<< 24) ||| ((BitVec.ofNat 32 (bs.getD (4 * k + 1) 0).toNat) <<< 16)) ||| ((BitVec.ofNat 32 (bs.getD (4 * k + 2) 0).toNat) <<< 8)) ||| (BitVec.ofNat 32 (bs.getD (4 * k + 3) 0).toNat))), (57, _), (0, _), (1, _), (4, _), (5, _), (6, _), (19, _), (20, _)] [] a := Z
  replace Y : St No w0 [_, _] w3 := Y
  refine ab <| aK (k := 35) 37 [36] kr kr kr ?_
  refine aX (i := 1) (sT := 117) (inf := Tryz.t116) (z := wv (0#32)) (b := 0) (off := 0) (m := 0) (c := 0) rfl rfl rfl (Y.ow 0 rfl) sm underlying117 rfl rfl rfl rfl de (by simp [Value.oneCell', yv, wv, sv]) (by have hby : Tryz.t116.bytes = 4 := rfl; simp only [big, hby, List.length_append, List.length_map, List.length_take, aF, W8.l_len, List.length_cons, List.length_nil]; omega) (by have hby : Tryz.t116.bytes = 4 := rfl; simp only [big, hby, List.length_append, List.length_map, List.length_take, aF, W8.l_len, List.length_cons, List.length_nil]; omega) de Z Y fun a w4 s3 Z Y _ => wla Z rfl fun a Z => ab <| aW kr ?_
  refine hK7 _ _ ?_
  replace Z := Z.p5 0 1 4 6 5 rfl
  replace Y := Y.k1 2 rfl
  refine ar <| wlm Z rfl fun a Z => wlv Z (aV rfl rfl ⟨om, om⟩) fun a Z => wla Z rfl fun a Z => ab ?_
  rw [show (((sch bs 64).take k).map fun x => [wv x]) ++ ([[wv (((((BitVec.ofNat 32 (bs.getD (4 * k) 0).toNat) <<< 24) ||| ((BitVec.ofNat 32 (bs.getD (4 * k + 1) 0).toNat) <<< 16)) ||| ((BitVec.ofNat 32 (bs.getD (4 * k + 2) 0).toNat) <<< 8)) ||| (BitVec.ofNat 32 (bs.getD (4 * k + 3) 0).toNat))]]) = (((sch bs 64).take (k + 1)).map fun x => [wv x]) from by rw [l3 bs om]; simp [be]] at Y
  refine ⟨_, ?_, k + 1, s3, rfl, om, Z.pick [0, 1, 4, 5, 6], Y.select [0] de⟩
  omega
 rw [hc1] at Z
 try simp only [qz] at hc1
 obtain rfl : k = 16 := by omega
 refine aM <| hK3 _ _ <| ah fun K8 hK8 => aa fun K9 hK9 => wla Z rfl fun a Z => ab (hK9 _ _ <| aq ?_)
 refine aT (fun m a w => ∃ (j : Nat) (u : Value), m = 64 - j ∧ (16 ≤ j) ∧ (j ≤ 64) ∧ Fr 238 [(0, hvv), (4, .slice none 0 0), (5, u), (7, iv (j : Int))] [] a ∧ St No w0 [own u 116 1 (((sch bs 64).take j).map fun x => [wv x])] w) _ ⟨16, u, rfl, om, om, Z.pick [0, 4, 5, 7], Y.select [0] de⟩ ?_
 rintro _ a w5 ⟨j, u, rfl, hj, hj2, Z, Y⟩
 refine ah fun K10 hK10 => aa fun K11 hK11 => wlm Z rfl fun a Z => wlv Z (v_lt rfl rfl) fun a Z => ab (hK11 _ _ ?_)
 refine ax Z rfl (fun hc4 => ?_) (fun hc4 => ?_)
 ·rw [hc4] at Z
  try simp only [qz] at hc4
  refine ap <| hK10 _ _ <| ah fun K12 hK12 => aq <| ah fun K13 hK13 => aH kr (aI kr fun w6 hxz => ?_)
  replace Y := Y.grow hxz
  refine aP (k := 0) 19 [12, 18] Z kr kr kr rfx ?_
  replace Z := Z.p6 0 4 5 7 59 60 rfl
  refine az [] (fun i => match i with | _ => fun _ _ => False) 19 [[], [], [1], [0, 2], [3], [4], [], [], [7], [6, 8], [9], [10], [5, 11], [], [], [14], [13, 15], [16], [17]] [u, iv (j : Int), iv ((j : Int) - 15), slAddr u ((j - 15) * 1), wv (((sch bs 64).take j).getD (j - 15) 0#32), wv (ror (((sch bs 64).take j).getD (j - 15) 0#32) 7), u, iv (j : Int), iv ((j : Int) - 15), slAddr u ((j - 15) * 1), wv (((sch bs 64).take j).getD (j - 15) 0#32), wv (ror (((sch bs 64).take j).getD (j - 15) 0#32) 18), wv ((ror (((sch bs 64).take j).getD (j - 15) 0#32) 7) ^^^ (ror (((sch bs 64).take j).getD (j - 15) 0#32) 18)), u, iv (j : Int), iv ((j : Int) - 15), slAddr u ((j - 15) * 1), wv (((sch bs 64).take j).getD (j - 15) 0#32), wv ((((sch bs 64).take j).getD (j - 15) 0#32) >>> 3)] Z Y kr kr kr ?_ ?_ ?_
  ·intro i hi hiq
   match i, hi, hiq with
   | 0, _, _ => exact fun w Y => OpV.g (ae rfl)
   | 1, _, _ => exact fun w Y => OpV.g (ae rfl)
   | 2, _, _ => exact fun w Y => OpV.g (bq rfl rfl ⟨om, om⟩)
   | 3, _, _ => exact fun w Y => OpV.g ((aj (i := (j : Int) - 15) (sT := 117) (Y.ow 0 rfl) rfl rfl (runUnderlying117 _) (sizeOf116 _) om (by rw [List.length_map]; first | omega | (rw [aF]; omega) | (rw [List.length_take, aF]; omega) | (rw [W8.l_len]; omega) | (rw [bo]; omega))).as (v' := slAddr u ((j - 15) * 1)) (by rw [show ((j : Int) - 15).toNat = (j - 15) from by omega]))
   | 4, _, _ => exact fun w Y => OpV.g (ay (u := wv (((sch bs 64).take j).getD (j - 15) 0#32)) (i := (j - 15)) (j := 0) (Y.ow 0 rfl) (by rw [List.length_map]; first | omega | (rw [aF]; omega) | (rw [List.length_take, aF]; omega) | (rw [W8.l_len]; omega) | (rw [bo]; omega)) rfl (isAgg116 _) (by rw [bl 0#32]; rfl))
   | 5, _, _ => exact fun w Y => aQ call104 rfl (cX (((sch bs 64).take j).getD (j - 15) 0#32) 7 _ de de)
   | 6, _, _ => exact fun w Y => OpV.g (ae rfl)
   | 7, _, _ => exact fun w Y => OpV.g (ae rfl)
   | 8, _, _ => exact fun w Y => OpV.g (bq rfl rfl ⟨om, om⟩)
   | 9, _, _ => exact fun w Y => OpV.g ((aj (i := (j : Int) - 15) (sT := 117) (Y.ow 0 rfl) rfl rfl (runUnderlying117 _) (sizeOf116 _) om (by rw [List.length_map]; first | omega | (rw [aF]; omega) | (rw [List.length_take, aF]; omega) | (rw [W8.l_len]; omega) | (rw [bo]; omega))).as (v' := slAddr u ((j - 15) * 1)) (by rw [show ((j : Int) - 15).toNat = (j - 15) from by omega]))
   | 10, _, _ => exact fun w Y => OpV.g (ay (u := wv (((sch bs 64).take j).getD (j - 15) 0#32)) (i := (j - 15)) (j := 0) (Y.ow 0 rfl) (by rw [List.length_map]; first | omega | (rw [aF]; omega) | (rw [List.length_take, aF]; omega) | (rw [W8.l_len]; omega) | (rw [bo]; omega)) rfl (isAgg116 _) (by rw [bl 0#32]; rfl))
   | 11, _, _ => exact fun w Y => aQ call104 rfl (cX (((sch bs 64).take j).getD (j - 15) 0#32) 18 _ de de)
   | 12, _, _ => exact fun w Y => OpV.g (ct rfl rfl)
   | 13, _, _ => exact fun w Y => OpV.g (ae rfl)
   | 14, _, _ => exact fun w Y => OpV.g (ae rfl)
   | 15, _, _ => exact fun w Y => OpV.g (bq rfl rfl ⟨om, om⟩)
   | 16, _, _ => exact fun w Y => OpV.g ((aj (i := (j : Int) - 15) (sT := 117) (Y.ow 0 rfl) rfl rfl (runUnderlying117 _) (sizeOf116 _) om (by rw [List.length_map]; first | omega | (rw [aF]; omega) | (rw [List.length_take, aF]; omega) | (rw [W8.l_len]; omega) | (rw [bo]; omega))).as (v' := slAddr u ((j - 15) * 1)) (by rw [show ((j : Int) - 15).toNat = (j - 15) from by omega]))
   | 17, _, _ => exact fun w Y => OpV.g (ay (u := wv (((sch bs 64).take j).getD (j - 15) 0#32)) (i := (j - 15)) (j := 0) (Y.ow 0 rfl) (by rw [List.length_map]; first | omega | (rw [aF]; omega) | (rw [List.length_take, aF]; omega) | (rw [W8.l_len]; omega) | (rw [bo]; omega)) rfl (isAgg116 _) (by rw [bl 0#32]; rfl))
   | 18, _, _ => exact fun w Y => OpV.g (dI (n := 3) rfl rfl)
   | i + 19, h, _ => exact absurd h om
  ·intro i hi
   exact absurd hi sm
  clear Z Y
  intro  a w7 Z Y
  replace Z : Fr 238 [(63, u), (64, iv (j : Int)), (65, iv ((j : Int) - 15)), (66, slAddr u ((j - 15) * 1)), (67, wv (((sch bs 64).take j).getD (j - 15) 0#32)), (68, wv (ror (((sch bs 64).take j).getD (j - 15) 0#32) 7)), (69, u), (70, iv (j : Int)), (71, iv ((j : Int) - 15)), (72, slAddr u ((j - 15) * 1)), (73, wv (((sch bs 64).take j).getD (j - 15) 0#32)), (74, wv (ror (((sch bs 64).take j).getD (j - 15) 0#32) 18)), (75, wv ((ror (((sch bs 64).take j).getD (j - 15) 0#32) 7) ^^^ (ror (((sch bs 64).take j).getD (j - 15) 0#32) 18))), (76, u), (77, iv (j : Int)), (78, iv ((j : Int) - 15)), (79, slAddr u ((j - 15) * 1)), (80, wv (((sch bs 64).take j).getD (j - 15) 0#32)), (81, wv ((((sch bs 64).take j).getD (j - 15) 0#32) >>> 3)), (0, _), (4, _), (5, _), (7, _), (59, _), (60, _)] [] a := Z
  refine ab <| aK (k := 19) 21 [20] kr kr kr ?_
  refine wlv Z (ct rfl rfl) fun a Z => wla Z rfl fun a Z => ab <| aW kr ?_
  refine hK13 _ _ ?_
  replace Z := Z.p5 0 4 5 7 8 rfl
  refine ah fun K14 hK14 => aH kr (aI kr fun w8 hxz => ?_)
  replace Y := Y.grow hxz
  refine aP (k := 0) 19 [12, 18] Z kr kr kr rfx ?_
  replace Z := Z.p5 0 4 5 7 8 rfl
  refine az [] (fun i => match i with | _ => fun _ _ => False) 19 [[], [], [1], [0, 2], [3], [4], [], [], [7], [6, 8], [9], [10], [5, 11], [], [], [14], [13, 15], [16], [17]] [u, iv (j : Int), iv ((j : Int) - 2), slAddr u ((j - 2) * 1), wv (((sch bs 64).take j).getD (j - 2) 0#32), wv (ror (((sch bs 64).take j).getD (j - 2) 0#32) 17), u, iv (j : Int), iv ((j : Int) - 2), slAddr u ((j - 2) * 1), wv (((sch bs 64).take j).getD (j - 2) 0#32), wv (ror (((sch bs 64).take j).getD (j - 2) 0#32) 19), wv ((ror (((sch bs 64).take j).getD (j - 2) 0#32) 17) ^^^ (ror (((sch bs 64).take j).getD (j - 2) 0#32) 19)), u, iv (j : Int), iv ((j : Int) - 2), slAddr u ((j - 2) * 1), wv (((sch bs 64).take j).getD (j - 2) 0#32), wv ((((sch bs 64).take j).getD (j - 2) 0#32) >>> 10)] Z Y kr kr kr ?_ ?_ ?_
  ·intro i hi hiq
   match i, hi, hiq with
   | 0, _, _ => exact fun w Y => OpV.g (ae rfl)
   | 1, _, _ => exact fun w Y => OpV.g (ae rfl)
   | 2, _, _ => exact fun w Y => OpV.g (bq rfl rfl ⟨om, om⟩)
   | 3, _, _ => exact fun w Y => OpV.g ((aj (i := (j : Int) - 2) (sT := 117) (Y.ow 0 rfl) rfl rfl (runUnderlying117 _) (sizeOf116 _) om (by rw [List.length_map]; first | omega | (rw [aF]; omega) | (rw [List.length_take, aF]; omega) | (rw [W8.l_len]; omega) | (rw [bo]; omega))).as (v' := slAddr u ((j - 2) * 1)) (by rw [show ((j : Int) - 2).toNat = (j - 2) from by omega]))
   | 4, _, _ => exact fun w Y => OpV.g (ay (u := wv (((sch bs 64).take j).getD (j - 2) 0#32)) (i := (j - 2)) (j := 0) (Y.ow 0 rfl) (by rw [List.length_map]; first | omega | (rw [aF]; omega) | (rw [List.length_take, aF]; omega) | (rw [W8.l_len]; omega) | (rw [bo]; omega)) rfl (isAgg116 _) (by rw [bl 0#32]; rfl))
   | 5, _, _ => exact fun w Y => aQ call104 rfl (cX (((sch bs 64).take j).getD (j - 2) 0#32) 17 _ de de)
   | 6, _, _ => exact fun w Y => OpV.g (ae rfl)
   | 7, _, _ => exact fun w Y => OpV.g (ae rfl)
   | 8, _, _ => exact fun w Y => OpV.g (bq rfl rfl ⟨om, om⟩)
   | 9, _, _ => exact fun w Y => OpV.g ((aj (i := (j : Int) - 2) (sT := 117) (Y.ow 0 rfl) rfl rfl (runUnderlying117 _) (sizeOf116 _) om (by rw [List.length_map]; first | omega | (rw [aF]; omega) | (rw [List.length_take, aF]; omega) | (rw [W8.l_len]; omega) | (rw [bo]; omega))).as (v' := slAddr u ((j - 2) * 1)) (by rw [show ((j : Int) - 2).toNat = (j - 2) from by omega]))
   | 10, _, _ => exact fun w Y => OpV.g (ay (u := wv (((sch bs 64).take j).getD (j - 2) 0#32)) (i := (j - 2)) (j := 0) (Y.ow 0 rfl) (by rw [List.length_map]; first | omega | (rw [aF]; omega) | (rw [List.length_take, aF]; omega) | (rw [W8.l_len]; omega) | (rw [bo]; omega)) rfl (isAgg116 _) (by rw [bl 0#32]; rfl))
   | 11, _, _ => exact fun w Y => aQ call104 rfl (cX (((sch bs 64).take j).getD (j - 2) 0#32) 19 _ de de)
   | 12, _, _ => exact fun w Y => OpV.g (ct rfl rfl)
   | 13, _, _ => exact fun w Y => OpV.g (ae rfl)
   | 14, _, _ => exact fun w Y => OpV.g (ae rfl)
   | 15, _, _ => exact fun w Y => OpV.g (bq rfl rfl ⟨om, om⟩)
   | 16, _, _ => exact fun w Y => OpV.g ((aj (i := (j : Int) - 2) (sT := 117) (Y.ow 0 rfl) rfl rfl (runUnderlying117 _) (sizeOf116 _) om (by rw [List.length_map]; first | omega | (rw [aF]; omega) | (rw [List.length_take, aF]; omega) | (rw [W8.l_len]; omega) | (rw [bo]; omega))).as (v' := slAddr u ((j - 2) * 1)) (by rw [show ((j : Int) - 2).toNat = (j - 2) from by omega]))
   | 17, _, _ => exact fun w Y => OpV.g (ay (u := wv (((sch bs 64).take j).getD (j - 2) 0#32)) (i := (j - 2)) (j := 0) (Y.ow 0 rfl) (by rw [List.length_map]; first | omega | (rw [aF]; omega) | (rw [List.length_take, aF]; omega) | (rw [W8.l_len]; omega) | (rw [bo]; omega)) rfl (isAgg116 _) (by rw [bl 0#32]; rfl))
   | 18, _, _ => exact fun w Y => OpV.g (dI (n := 10) rfl rfl)
   | i + 19, h, _ => exact absurd h om
  ·intro i hi
   exact absurd hi sm
  clear Z Y
  intro  a w9 Z Y
  replace Z : Fr 238 [(83, u), (84, iv (j : Int)), (85, iv ((j : Int) - 2)), (86, slAddr u ((j - 2) * 1)), (87, wv (((sch bs 64).take j).getD (j - 2) 0#32)), (88, wv (ror (((sch bs 64).take j).getD (j - 2) 0#32) 17)), (89, u), (90, iv (j : Int)), (91, iv ((j : Int) - 2)), (92, slAddr u ((j - 2) * 1)), (93, wv (((sch bs 64).take j).getD (j - 2) 0#32)), (94, wv (ror (((sch bs 64).take j).getD (j - 2) 0#32) 19)), (95, wv ((ror (((sch bs 64).take j).getD (j - 2) 0#32) 17) ^^^ (ror (((sch bs 64).take j).getD (j - 2) 0#32) 19))), (96, u), (97, iv (j : Int)), (98, iv ((j : Int) - 2)), (99, slAddr u ((j - 2) * 1)), (100, wv (((sch bs 64).take j).getD (j - 2) 0#32)), (101, wv ((((sch bs 64).take j).getD (j - 2) 0#32) >>> 10)), (0, _), (4, _), (5, _), (7, _), (8, _)] [] a := Z
  refine ab <| aK (k := 19) 21 [20] kr kr kr ?_
  refine wlv Z (ct rfl rfl) fun a Z => wla Z rfl fun a Z => ab <| aW kr ?_
  refine hK14 _ _ ?_
  replace Z := Z.p6 0 4 5 7 8 9 rfl
  refine aH kr (aI kr fun w10 hxz => ?_)
  replace Y := Y.grow hxz
  refine aP (k := 0) 17 [0, 16] Z kr kr kr rfx ?_
  replace Z := Z.p6 0 4 5 7 8 9 rfl
  refine az [16] (fun i => match i with | 16 => pm (fun b : Nat => .slice (some ⟨b, 0, none⟩) 1 1) (fun b => [own (.slice (some ⟨b, 0, none⟩) 1 1) 116 1 [[wv ((((((sch bs 64).take j).getD (j - 16) 0#32) + (((ror (((sch bs 64).take j).getD (j - 15) 0#32) 7) ^^^ (ror (((sch bs 64).take j).getD (j - 15) 0#32) 18)) ^^^ ((((sch bs 64).take j).getD (j - 15) 0#32) >>> 3))) + (((sch bs 64).take j).getD (j - 7) 0#32)) + (((ror (((sch bs 64).take j).getD (j - 2) 0#32) 17) ^^^ (ror (((sch bs 64).take j).getD (j - 2) 0#32) 19)) ^^^ ((((sch bs 64).take j).getD (j - 2) 0#32) >>> 10)))]]]) (fun _ => True) | _ => fun _ _ => False) 17 [[], [], [], [2], [1, 3], [4], [], [5, 6], [], [], [9], [8, 10], [11], [7, 12], [], [13, 14], [15]] [u, u, iv (j : Int), iv ((j : Int) - 16), slAddr u ((j - 16) * 1), wv (((sch bs 64).take j).getD (j - 16) 0#32), wv (((ror (((sch bs 64).take j).getD (j - 15) 0#32) 7) ^^^ (ror (((sch bs 64).take j).getD (j - 15) 0#32) 18)) ^^^ ((((sch bs 64).take j).getD (j - 15) 0#32) >>> 3)), wv ((((sch bs 64).take j).getD (j - 16) 0#32) + (((ror (((sch bs 64).take j).getD (j - 15) 0#32) 7) ^^^ (ror (((sch bs 64).take j).getD (j - 15) 0#32) 18)) ^^^ ((((sch bs 64).take j).getD (j - 15) 0#32) >>> 3))), u, iv (j : Int), iv ((j : Int) - 7), slAddr u ((j - 7) * 1), wv (((sch bs 64).take j).getD (j - 7) 0#32), wv (((((sch bs 64).take j).getD (j - 16) 0#32) + (((ror (((sch bs 64).take j).getD (j - 15) 0#32) 7) ^^^ (ror (((sch bs 64).take j).getD (j - 15) 0#32) 18)) ^^^ ((((sch bs 64).take j).getD (j - 15) 0#32) >>> 3))) + (((sch bs 64).take j).getD (j - 7) 0#32)), wv (((ror (((sch bs 64).take j).getD (j - 2) 0#32) 17) ^^^ (ror (((sch bs 64).take j).getD (j - 2) 0#32) 19)) ^^^ ((((sch bs 64).take j).getD (j - 2) 0#32) >>> 10)), wv ((((((sch bs 64).take j).getD (j - 16) 0#32) + (((ror (((sch bs 64).take j).getD (j - 15) 0#32) 7) ^^^ (ror (((sch bs 64).take j).getD (j - 15) 0#32) 18)) ^^^ ((((sch bs 64).take j).getD (j - 15) 0#32) >>> 3))) + (((sch bs 64).take j).getD (j - 7) 0#32)) + (((ror (((sch bs 64).take j).getD (j - 2) 0#32) 17) ^^^ (ror (((sch bs 64).take j).getD (j - 2) 0#32) 19)) ^^^ ((((sch bs 64).take j).getD (j - 2) 0#32) >>> 10))), undef] Z Y kr kr kr ?_ ?_ ?_
  ·intro i hi hiq
   match i, hi, hiq with
   | 0, _, _ => exact fun w Y => OpV.g (ae rfl)
   | 1, _, _ => exact fun w Y => OpV.g (ae rfl)
   | 2, _, _ => exact fun w Y => OpV.g (ae rfl)
   | 3, _, _ => exact fun w Y => OpV.g (bq rfl rfl ⟨om, om⟩)
   | 4, _, _ => exact fun w Y => OpV.g ((aj (i := (j : Int) - 16) (sT := 117) (Y.ow 0 rfl) rfl rfl (runUnderlying117 _) (sizeOf116 _) om (by rw [List.length_map]; first | omega | (rw [aF]; omega) | (rw [List.length_take, aF]; omega) | (rw [W8.l_len]; omega) | (rw [bo]; omega))).as (v' := slAddr u ((j - 16) * 1)) (by rw [show ((j : Int) - 16).toNat = (j - 16) from by omega]))
   | 5, _, _ => exact fun w Y => OpV.g (ay (u := wv (((sch bs 64).take j).getD (j - 16) 0#32)) (i := (j - 16)) (j := 0) (Y.ow 0 rfl) (by rw [List.length_map]; first | omega | (rw [aF]; omega) | (rw [List.length_take, aF]; omega) | (rw [W8.l_len]; omega) | (rw [bo]; omega)) rfl (isAgg116 _) (by rw [bl 0#32]; rfl))
   | 6, _, _ => exact fun w Y => OpV.g (ae rfl)
   | 7, _, _ => exact fun w Y => OpV.g (bR rfl rfl)
   | 8, _, _ => exact fun w Y => OpV.g (ae rfl)
   | 9, _, _ => exact fun w Y => OpV.g (ae rfl)
   | 10, _, _ => exact fun w Y => OpV.g (bq rfl rfl ⟨om, om⟩)
   | 11, _, _ => exact fun w Y => OpV.g ((aj (i := (j : Int) - 7) (sT := 117) (Y.ow 0 rfl) rfl rfl (runUnderlying117 _) (sizeOf116 _) om (by rw [List.length_map]; first | omega | (rw [aF]; omega) | (rw [List.length_take, aF]; omega) | (rw [W8.l_len]; omega) | (rw [bo]; omega))).as (v' := slAddr u ((j - 7) * 1)) (by rw [show ((j : Int) - 7).toNat = (j - 7) from by omega]))
   | 12, _, _ => exact fun w Y => OpV.g (ay (u := wv (((sch bs 64).take j).getD (j - 7) 0#32)) (i := (j - 7)) (j := 0) (Y.ow 0 rfl) (by rw [List.length_map]; first | omega | (rw [aF]; omega) | (rw [List.length_take, aF]; omega) | (rw [W8.l_len]; omega) | (rw [bo]; omega)) rfl (isAgg116 _) (by rw [bl 0#32]; rfl))
   | 13, _, _ => exact fun w Y => OpV.g (bR rfl rfl)
   | 14, _, _ => exact fun w Y => OpV.g (ae rfl)
   | 15, _, _ => exact fun w Y => OpV.g (bR rfl rfl)
   | 16, _, h => exact absurd sm h
   | i + 17, h, _ => exact absurd h om
  ·intro i hi
   simp only [List.mem_cons, List.not_mem_nil, or_false] at hi
   subst hi
   ·intro w Y
    exact bn (E := 116) (sz := 1) rfl [[wv ((((((sch bs 64).take j).getD (j - 16) 0#32) + (((ror (((sch bs 64).take j).getD (j - 15) 0#32) 7) ^^^ (ror (((sch bs 64).take j).getD (j - 15) 0#32) 18)) ^^^ ((((sch bs 64).take j).getD (j - 15) 0#32) >>> 3))) + (((sch bs 64).take j).getD (j - 7) 0#32)) + (((ror (((sch bs 64).take j).getD (j - 2) 0#32) 17) ^^^ (ror (((sch bs 64).take j).getD (j - 2) 0#32) 19)) ^^^ ((((sch bs 64).take j).getD (j - 2) 0#32) >>> 10)))]] (fun _ => by kernel_rfl) sm rfl de
  clear Z Y
  rintro _ _ ⟨b5, rfl, -, rfl⟩ a w11 Z Y
  replace Z : Fr 238 [(103, u), (104, u), (105, iv (j : Int)), (106, iv ((j : Int) - 16)), (107, slAddr u ((j - 16) * 1)), (108, wv (((sch bs 64).take j).getD (j - 16) 0#32)), (109, wv (((ror (((sch bs 64).take j).getD (j - 15) 0#32) 7) ^^^ (ror (((sch bs 64).take j).getD (j - 15) 0#32) 18)) ^^^ ((((sch bs 64).take j).getD (j - 15) 0#32) >>> 3))), (110, wv ((((sch bs 64).take j).getD (j - 16) 0#32) + (((ror (((sch bs 64).take j).getD (j - 15) 0#32) 7) ^^^ (ror (((sch bs 64).take j).getD (j - 15) 0#32) 18)) ^^^ ((((sch bs 64).take j).getD (j - 15) 0#32) >>> 3)))), (111, u), (112, iv (j : Int)), (113, iv ((j : Int) - 7)), (114, slAddr u ((j - 7) * 1)), (115, wv (((sch bs 64).take j).getD (j - 7) 0#32)), (116, wv (((((sch bs 64).take j).getD (j - 16) 0#32) + (((ror (((sch bs 64).take j).getD (j - 15) 0#32) 7) ^^^ (ror (((sch bs 64).take j).getD (j - 15) 0#32) 18)) ^^^ ((((sch bs 64).take j).getD (j - 15) 0#32) >>> 3))) + (((sch bs 64).take j).getD (j - 7) 0#32))), (117, wv (((ror (((sch bs 64).take j).getD (j - 2) 0#32) 17) ^^^ (ror (((sch bs 64).take j).getD (j - 2) 0#32) 19)) ^^^ ((((sch bs 64).take j).getD (j - 2) 0#32) >>> 10))), (118, wv ((((((sch bs 64).take j).getD (j - 16) 0#32) + (((ror (((sch bs 64).take j).getD (j - 15) 0#32) 7) ^^^ (ror (((sch bs 64).take j).getD (j - 15) 0#32) 18)) ^^^ ((((sch bs 64).take j).getD (j - 15) 0#32) >>> 3))) + (((sch bs 64).take j).getD (j - 7) 0#32)) + (((ror (((sch bs 64).take j).getD (j - 2) 0#32) 17) ^^^ (ror (((sch bs 64).take j).getD (j - 2) 0#32) 19)) ^^^ ((((sch bs 64).take j).getD (j - 2) 0#32) >>> 10)))), (119, _), (0, _), (4, _), (5, _), (7, _), (8, _), (9, _)] [] a := Z
  replace Y : St No w0 [_, _] w11 := Y
  refine ab <| aK (k := 17) 19 [18] kr kr kr ?_
  refine aX (i := 1) (sT := 117) (inf := Tryz.t116) (z := wv (0#32)) (b := 0) (off := 0) (m := 0) (c := 0) rfl rfl rfl (Y.ow 0 rfl) sm underlying117 rfl rfl rfl rfl de (by simp [Value.oneCell', yv, wv, sv]) (by have hby : Tryz.t116.bytes = 4 := rfl; simp only [big, hby, List.length_append, List.length_map, List.length_take, aF, W8.l_len, List.length_cons, List.length_nil]; omega) (by have hby : Tryz.t116.bytes = 4 := rfl; simp only [big, hby, List.length_append, List.length_map, List.length_take, aF, W8.l_len, List.length_cons, List.length_nil]; omega) de Z Y fun a w12 s6 Z Y _ => wla Z rfl fun a Z => ab <| aW kr ?_
  refine hK12 _ _ ?_
  replace Z := Z.p4 0 4 7 5 rfl
  replace Y := Y.k1 2 rfl
  refine ar <| wlm Z rfl fun a Z => wlv Z (aV rfl rfl ⟨om, om⟩) fun a Z => wla Z rfl fun a Z => ab ?_
  rw [show (((sch bs 64).take j).map fun x => [wv x]) ++ ([[wv ((((((sch bs 64).take j).getD (j - 16) 0#32) + (((ror (((sch bs 64).take j).getD (j - 15) 0#32) 7) ^^^ (ror (((sch bs 64).take j).getD (j - 15) 0#32) 18)) ^^^ ((((sch bs 64).take j).getD (j - 15) 0#32) >>> 3))) + (((sch bs 64).take j).getD (j - 7) 0#32)) + (((ror (((sch bs 64).take j).getD (j - 2) 0#32) 17) ^^^ (ror (((sch bs 64).take j).getD (j - 2) 0#32) 19)) ^^^ ((((sch bs 64).take j).getD (j - 2) 0#32) >>> 10)))]]) = (((sch bs 64).take (j + 1)).map fun x => [wv x]) from by rw [mH bs om om]; simp] at Y
  refine ⟨_, ?_, j + 1, s6, rfl, om, om, Z.pick [0, 4, 5, 7], Y.select [0] de⟩
  omega
 rw [hc4] at Z
 try simp only [qz] at hc4
 obtain rfl : j = 64 := by omega
 rw [List.take_of_length_le (by rw [aF]; omega)] at Y
 refine aM <| hK8 _ _ <| aa fun K15 hK15 => aR Z Y de call105 rfl (jf _) ?_
 clear Z Y
 intro a w13 x7 hp Z Y
 revert x7 hp Z Y; rintro kz hp Z Y
 clear hp
 replace Y : St No w0 [_, _] w13 := Y
 refine wla Z rfl fun a Z => ab (hK15 _ _ <| aa fun K16 hK16 => ?_)
 refine wla Z rfl fun a Z => ab (hK16 _ _ <| aa fun K17 hK17 => ?_)
 refine wlm Z rfl fun a Z => wlm Z rfl fun a Z => ?_
 replace Y : St No w0 (own (.slice none 0 0) 116 1 [] :: [_, _]) w13 := Y.nil_own
 refine eJ (i := 0) (sT := 117) (inf := Tryz.t116) (z := wv (0#32)) rfl rfl rfl (Y.arg hhv) underlying117 rfl rfl rfl rfl de (by simp [Value.oneCell', yv, wv, sv]) (by have hby : Tryz.t116.bytes = 4 := rfl; simp only [big, hby, List.length_append, List.length_map, List.length_take, aF, W8.l_len, List.length_cons, List.length_nil]; omega) (by have hby : Tryz.t116.bytes = 4 := rfl; simp only [big, hby, List.length_append, List.length_map, List.length_take, aF, W8.l_len, List.length_cons, List.length_nil]; omega) de Z Y ?_
 clear Z Y
 intro a w14 s8 Z Y
 refine wla Z rfl fun a Z => ab (hK17 _ _ ?_)
 replace Z := Z.p5 0 4 5 10 11 rfl
 refine ah fun K18 hK18 => aa fun K19 hK19 => wla Z rfl fun a Z => ab (hK19 _ _ <| aq ?_)
 rw [show ([]) ++ ((hv.l).map fun x => [wv x]) = ((hv.l).map fun x => [wv x]) from by simp] at Y
 refine aT (fun m a w => ∃ (ix : Nat) (v : W8) (z : Value), m = 64 - ix ∧ (ix ≤ 64) ∧ (rounds (sch bs 64) hv ix = v) ∧ Fr 238 [(0, hvv), (4, .slice none 0 0), (5, u), (10, kz), (11, z), (12, iv (ix : Int))] [] a ∧ St No w0 [own z 116 1 ((v.l).map fun x => [wv x]), own u 116 1 ((sch bs 64).map fun x => [wv x]), own kz 116 1 ((kOf).map fun x => [wv x])] w) _ ⟨0, hv, s8, rfl, Nat.zero_le _, rfl, Z.pick [0, 4, 5, 10, 11, 12], Y.select [0, 2, 1] de⟩ ?_
 rintro _ a w15 ⟨ix, v, z, rfl, hi, hrv, Z, Y⟩
 refine ah fun K20 hK20 => aa fun K21 hK21 => wlm Z rfl fun a Z => wlv Z (v_lt rfl rfl) fun a Z => ab (hK21 _ _ ?_)
 refine ax Z rfl (fun hc9 => ?_) (fun hc9 => ?_)
 ·rw [hc9] at Z
  try simp only [qz] at hc9
  refine ap <| hK20 _ _ <| ah fun K22 hK22 => aq <| aa fun K23 hK23 => wlm Z rfl fun a Z => wlv Z ((aj (i := 0) (sT := 117) (Y.ow 0 rfl) rfl rfl (runUnderlying117 _) (sizeOf116 _) om (by rw [List.length_map, W8.l_len]; decide)).as (v' := slAddr z (0 * 1)) rfl) fun a Z => wlv Z (ay (u := wv v.a) (i := 0) (j := 0) (Y.ow 0 rfl) (by rw [List.length_map, W8.l_len]; decide) rfl (isAgg116 _) rfx) fun a Z => wla Z rfl fun a Z => ab (hK23 _ _ <| aa fun K24 hK24 => ?_)
  refine wlm Z rfl fun a Z => wlv Z ((aj (i := 4) (sT := 117) (Y.ow 0 rfl) rfl rfl (runUnderlying117 _) (sizeOf116 _) om (by rw [List.length_map, W8.l_len]; decide)).as (v' := slAddr z (4 * 1)) rfl) fun a Z => wlv Z (ay (u := wv v.e) (i := 4) (j := 0) (Y.ow 0 rfl) (by rw [List.length_map, W8.l_len]; decide) rfl (isAgg116 _) rfx) fun a Z => wla Z rfl fun a Z => ab (hK24 _ _ ?_)
  replace Z := Z.p8 0 4 5 10 11 12 13 14 rfl
  refine ah fun K25 hK25 => aH kr (aI kr fun w16 hxz => ?_)
  replace Y := Y.grow hxz
  refine aP (k := 0) 34 [29, 33] Z kr kr kr rfx ?_
  replace Z := Z.p8 0 4 5 10 11 12 13 14 rfl
  refine az [] (fun i => match i with | _ => fun _ _ => False) 34 [[], [0], [1], [], [3], [], [5], [4, 6], [], [8], [7, 9], [2, 10], [], [], [13], [14], [12, 15], [], [17], [], [19], [20], [18, 21], [16, 22], [11, 23], [], [], [25, 26], [27], [24, 28], [], [], [30, 31], [32]] [z, slAddr z (7 * 1), wv v.h, wv v.e, wv (ror v.e 6), wv v.e, wv (ror v.e 11), wv ((ror v.e 6) ^^^ (ror v.e 11)), wv v.e, wv (ror v.e 25), wv (((ror v.e 6) ^^^ (ror v.e 11)) ^^^ (ror v.e 25)), wv (v.h + (((ror v.e 6) ^^^ (ror v.e 11)) ^^^ (ror v.e 25))), wv v.e, z, slAddr z (5 * 1), wv v.f, wv (v.e &&& v.f), wv v.e, wv (~~~v.e), z, slAddr z (6 * 1), wv v.g, wv ((~~~v.e) &&& v.g), wv ((v.e &&& v.f) ^^^ ((~~~v.e) &&& v.g)), wv ((v.h + (((ror v.e 6) ^^^ (ror v.e 11)) ^^^ (ror v.e 25))) + ((v.e &&& v.f) ^^^ ((~~~v.e) &&& v.g))), kz, iv (ix : Int), slAddr kz (ix * 1), wv ((kOf).getD ix 0#32), wv (((v.h + (((ror v.e 6) ^^^ (ror v.e 11)) ^^^ (ror v.e 25))) + ((v.e &&& v.f) ^^^ ((~~~v.e) &&& v.g))) + ((kOf).getD ix 0#32)), u, iv (ix : Int), slAddr u (ix * 1), wv ((sch bs 64).getD ix 0#32)] Z Y kr kr kr ?_ ?_ ?_
  ·intro i hi hiq
   match i, hi, hiq with
   | 0, _, _ => exact fun w Y => OpV.g (ae rfl)
   | 1, _, _ => exact fun w Y => OpV.g ((aj (i := 7) (sT := 117) (Y.ow 0 rfl) rfl rfl (runUnderlying117 _) (sizeOf116 _) om (by rw [List.length_map, W8.l_len]; decide)).as (v' := slAddr z (7 * 1)) rfl)
   | 2, _, _ => exact fun w Y => OpV.g (ay (u := wv v.h) (i := 7) (j := 0) (Y.ow 0 rfl) (by rw [List.length_map, W8.l_len]; decide) rfl (isAgg116 _) rfx)
   | 3, _, _ => exact fun w Y => OpV.g (ae rfl)
   | 4, _, _ => exact fun w Y => aQ call104 rfl (cX v.e 6 _ de de)
   | 5, _, _ => exact fun w Y => OpV.g (ae rfl)
   | 6, _, _ => exact fun w Y => aQ call104 rfl (cX v.e 11 _ de de)
   | 7, _, _ => exact fun w Y => OpV.g (ct rfl rfl)
   | 8, _, _ => exact fun w Y => OpV.g (ae rfl)
   | 9, _, _ => exact fun w Y => aQ call104 rfl (cX v.e 25 _ de de)
   | 10, _, _ => exact fun w Y => OpV.g (ct rfl rfl)
   | 11, _, _ => exact fun w Y => OpV.g (bR rfl rfl)
   | 12, _, _ => exact fun w Y => OpV.g (ae rfl)
   | 13, _, _ => exact fun w Y => OpV.g (ae rfl)
   | 14, _, _ => exact fun w Y => OpV.g ((aj (i := 5) (sT := 117) (Y.ow 0 rfl) rfl rfl (runUnderlying117 _) (sizeOf116 _) om (by rw [List.length_map, W8.l_len]; decide)).as (v' := slAddr z (5 * 1)) rfl)
   | 15, _, _ => exact fun w Y => OpV.g (ay (u := wv v.f) (i := 5) (j := 0) (Y.ow 0 rfl) (by rw [List.length_map, W8.l_len]; decide) rfl (isAgg116 _) rfx)
   | 16, _, _ => exact fun w Y => OpV.g (dJ rfl rfl)
   | 17, _, _ => exact fun w Y => OpV.g (ae rfl)
   | 18, _, _ => exact fun w Y => OpV.g (nC rfl)
   | 19, _, _ => exact fun w Y => OpV.g (ae rfl)
   | 20, _, _ => exact fun w Y => OpV.g ((aj (i := 6) (sT := 117) (Y.ow 0 rfl) rfl rfl (runUnderlying117 _) (sizeOf116 _) om (by rw [List.length_map, W8.l_len]; decide)).as (v' := slAddr z (6 * 1)) rfl)
   | 21, _, _ => exact fun w Y => OpV.g (ay (u := wv v.g) (i := 6) (j := 0) (Y.ow 0 rfl) (by rw [List.length_map, W8.l_len]; decide) rfl (isAgg116 _) rfx)
   | 22, _, _ => exact fun w Y => OpV.g (dJ rfl rfl)
   | 23, _, _ => exact fun w Y => OpV.g (ct rfl rfl)
   | 24, _, _ => exact fun w Y => OpV.g (bR rfl rfl)
   | 25, _, _ => exact fun w Y => OpV.g (ae rfl)
   | 26, _, _ => exact fun w Y => OpV.g (ae rfl)
   | 27, _, _ => exact fun w Y => OpV.g ((aj (i := (ix : Int)) (sT := 117) (Y.ow 2 rfl) rfl rfl (runUnderlying117 _) (sizeOf116 _) om (by rw [List.length_map]; first | omega | (rw [aF]; omega) | (rw [List.length_take, aF]; omega) | (rw [W8.l_len]; omega) | (rw [bo]; omega))).as (v' := slAddr kz (ix * 1)) rfl)
   | 28, _, _ => exact fun w Y => OpV.g (ay (u := wv ((kOf).getD ix 0#32)) (i := ix) (j := 0) (Y.ow 2 rfl) (by rw [List.length_map]; first | omega | (rw [aF]; omega) | (rw [List.length_take, aF]; omega) | (rw [W8.l_len]; omega) | (rw [bo]; omega)) rfl (isAgg116 _) (by rw [bl 0#32]; rfl))
   | 29, _, _ => exact fun w Y => OpV.g (bR rfl rfl)
   | 30, _, _ => exact fun w Y => OpV.g (ae rfl)
   | 31, _, _ => exact fun w Y => OpV.g (ae rfl)
   | 32, _, _ => exact fun w Y => OpV.g ((aj (i := (ix : Int)) (sT := 117) (Y.ow 1 rfl) rfl rfl (runUnderlying117 _) (sizeOf116 _) om (by rw [List.length_map]; first | omega | (rw [aF]; omega) | (rw [List.length_take, aF]; omega) | (rw [W8.l_len]; omega) | (rw [bo]; omega))).as (v' := slAddr u (ix * 1)) rfl)
   | 33, _, _ => exact fun w Y => OpV.g (ay (u := wv ((sch bs 64).getD ix 0#32)) (i := ix) (j := 0) (Y.ow 1 rfl) (by rw [List.length_map]; first | omega | (rw [aF]; omega) | (rw [List.length_take, aF]; omega) | (rw [W8.l_len]; omega) | (rw [bo]; omega)) rfl (isAgg116 _) (by rw [bl 0#32]; rfl))
   | i + 34, h, _ => exact absurd h om
  ·intro i hi
   exact absurd hi sm
  clear Z Y
  intro  a w17 Z Y
  replace Z : Fr 238 [(135, z), (136, slAddr z (7 * 1)), (137, wv v.h), (138, wv v.e), (139, wv (ror v.e 6)), (140, wv v.e), (141, wv (ror v.e 11)), (142, wv ((ror v.e 6) ^^^ (ror v.e 11))), (143, wv v.e), (144, wv (ror v.e 25)), (145, wv (((ror v.e 6) ^^^ (ror v.e 11)) ^^^ (ror v.e 25))), (146, wv (v.h + (((ror v.e 6) ^^^ (ror v.e 11)) ^^^ (ror v.e 25)))), (147, wv v.e), (148, z), (149, slAddr z (5 * 1)), (150, wv v.f), (151, wv (v.e &&& v.f)), (152, wv v.e), (153, wv (~~~v.e)), (154, z), (155, slAddr z (6 * 1)), (156, wv v.g), (157, wv ((~~~v.e) &&& v.g)), (158, wv ((v.e &&& v.f) ^^^ ((~~~v.e) &&& v.g))), (159, wv ((v.h + (((ror v.e 6) ^^^ (ror v.e 11)) ^^^ (ror v.e 25))) + ((v.e &&& v.f) ^^^ ((~~~v.e) &&& v.g)))), (160, kz), (161, iv (ix : Int)), (162, slAddr kz (ix * 1)), (163, wv ((kOf).getD ix 0#32)), (164, wv (((v.h + (((ror v.e 6) ^^^ (ror v.e 11)) ^^^ (ror v.e 25))) + ((v.e &&& v.f) ^^^ ((~~~v.e) &&& v.g))) + ((kOf).getD ix 0#32))), (165, u), (166, iv (ix : Int)), (167, slAddr u (ix * 1)), (168, wv ((sch bs 64).getD ix 0#32)), (0, _), (4, _), (5, _), (10, _), (11, _), (12, _), (13, _), (14, _)] [] a := Z
  refine ab <| aK (k := 34) 36 [35] kr kr kr ?_
  refine wlv Z (bR rfl rfl) fun a Z => wla Z rfl fun a Z => ab <| aW kr ?_
  refine hK25 _ _ ?_
  replace Z := Z.p9 0 4 5 10 11 12 13 14 15 rfl
  refine ah fun K26 hK26 => aH kr (aI kr fun w18 hxz => ?_)
  replace Y := Y.grow hxz
  refine aP (k := 0) 27 [7, 26] Z kr kr kr rfx ?_
  replace Z := Z.p9 0 4 5 10 11 12 13 14 15 rfl
  refine az [] (fun i => match i with | _ => fun _ _ => False) 27 [[], [0], [], [2], [1, 3], [], [5], [4, 6], [], [], [9], [10], [8, 11], [], [], [14], [15], [13, 16], [12, 17], [], [19], [20], [], [22], [23], [21, 24], [18, 25]] [wv v.a, wv (ror v.a 2), wv v.a, wv (ror v.a 13), wv ((ror v.a 2) ^^^ (ror v.a 13)), wv v.a, wv (ror v.a 22), wv (((ror v.a 2) ^^^ (ror v.a 13)) ^^^ (ror v.a 22)), wv v.a, z, slAddr z (1 * 1), wv v.b, wv (v.a &&& v.b), wv v.a, z, slAddr z (2 * 1), wv v.c, wv (v.a &&& v.c), wv ((v.a &&& v.b) ^^^ (v.a &&& v.c)), z, slAddr z (1 * 1), wv v.b, z, slAddr z (2 * 1), wv v.c, wv (v.b &&& v.c), wv (((v.a &&& v.b) ^^^ (v.a &&& v.c)) ^^^ (v.b &&& v.c))] Z Y kr kr kr ?_ ?_ ?_
  ·intro i hi hiq
   match i, hi, hiq with
   | 0, _, _ => exact fun w Y => OpV.g (ae rfl)
   | 1, _, _ => exact fun w Y => aQ call104 rfl (cX v.a 2 _ de de)
   | 2, _, _ => exact fun w Y => OpV.g (ae rfl)
   | 3, _, _ => exact fun w Y => aQ call104 rfl (cX v.a 13 _ de de)
   | 4, _, _ => exact fun w Y => OpV.g (ct rfl rfl)
   | 5, _, _ => exact fun w Y => OpV.g (ae rfl)
   | 6, _, _ => exact fun w Y => aQ call104 rfl (cX v.a 22 _ de de)
   | 7, _, _ => exact fun w Y => OpV.g (ct rfl rfl)
   | 8, _, _ => exact fun w Y => OpV.g (ae rfl)
   | 9, _, _ => exact fun w Y => OpV.g (ae rfl)
   | 10, _, _ => exact fun w Y => OpV.g ((aj (i := 1) (sT := 117) (Y.ow 0 rfl) rfl rfl (runUnderlying117 _) (sizeOf116 _) om (by rw [List.length_map, W8.l_len]; decide)).as (v' := slAddr z (1 * 1)) rfl)
   | 11, _, _ => exact fun w Y => OpV.g (ay (u := wv v.b) (i := 1) (j := 0) (Y.ow 0 rfl) (by rw [List.length_map, W8.l_len]; decide) rfl (isAgg116 _) rfx)
   | 12, _, _ => exact fun w Y => OpV.g (dJ rfl rfl)
   | 13, _, _ => exact fun w Y => OpV.g (ae rfl)
   | 14, _, _ => exact fun w Y => OpV.g (ae rfl)
   | 15, _, _ => exact fun w Y => OpV.g ((aj (i := 2) (sT := 117) (Y.ow 0 rfl) rfl rfl (runUnderlying117 _) (sizeOf116 _) om (by rw [List.length_map, W8.l_len]; decide)).as (v' := slAddr z (2 * 1)) rfl)
   | 16, _, _ => exact fun w Y => OpV.g (ay (u := wv v.c) (i := 2) (j := 0) (Y.ow 0 rfl) (by rw [List.length_map, W8.l_len]; decide) rfl (isAgg116 _) rfx)
   | 17, _, _ => exact fun w Y => OpV.g (dJ rfl rfl)
   | 18, _, _ => exact fun w Y => OpV.g (ct rfl rfl)
   | 19, _, _ => exact fun w Y => OpV.g (ae rfl)
   | 20, _, _ => exact fun w Y => OpV.g ((aj (i := 1) (sT := 117) (Y.ow 0 rfl) rfl rfl (runUnderlying117 _) (sizeOf116 _) om (by rw [List.length_map, W8.l_len]; decide)).as (v' := slAddr z (1 * 1)) rfl)
   | 21, _, _ => exact fun w Y => OpV.g (ay (u := wv v.b) (i := 1) (j := 0) (Y.ow 0 rfl) (by rw [List.length_map, W8.l_len]; decide) rfl (isAgg116 _) rfx)
   | 22, _, _ => exact fun w Y => OpV.g (ae rfl)
   | 23, _, _ => exact fun w Y => OpV.g ((aj (i := 2) (sT := 117) (Y.ow 0 rfl) rfl rfl (runUnderlying117 _) (sizeOf116 _) om (by rw [List.length_map, W8.l_len]; decide)).as (v' := slAddr z (2 * 1)) rfl)
   | 24, _, _ => exact fun w Y => OpV.g (ay (u := wv v.c) (i := 2) (j := 0) (Y.ow 0 rfl) (by rw [List.length_map, W8.l_len]; decide) rfl (isAgg116 _) rfx)
   | 25, _, _ => exact fun w Y => OpV.g (dJ rfl rfl)
   | 26, _, _ => exact fun w Y => OpV.g (ct rfl rfl)
   | i + 27, h, _ => exact absurd h om
  ·intro i hi
   exact absurd hi sm
  clear Z Y
  intro  a w19 Z Y
  replace Z : Fr 238 [(170, wv v.a), (171, wv (ror v.a 2)), (172, wv v.a), (173, wv (ror v.a 13)), (174, wv ((ror v.a 2) ^^^ (ror v.a 13))), (175, wv v.a), (176, wv (ror v.a 22)), (177, wv (((ror v.a 2) ^^^ (ror v.a 13)) ^^^ (ror v.a 22))), (178, wv v.a), (179, z), (180, slAddr z (1 * 1)), (181, wv v.b), (182, wv (v.a &&& v.b)), (183, wv v.a), (184, z), (185, slAddr z (2 * 1)), (186, wv v.c), (187, wv (v.a &&& v.c)), (188, wv ((v.a &&& v.b) ^^^ (v.a &&& v.c))), (189, z), (190, slAddr z (1 * 1)), (191, wv v.b), (192, z), (193, slAddr z (2 * 1)), (194, wv v.c), (195, wv (v.b &&& v.c)), (196, wv (((v.a &&& v.b) ^^^ (v.a &&& v.c)) ^^^ (v.b &&& v.c))), (0, _), (4, _), (5, _), (10, _), (11, _), (12, _), (13, _), (14, _), (15, _)] [] a := Z
  refine ab <| aK (k := 27) 29 [28] kr kr kr ?_
  refine wlv Z (bR rfl rfl) fun a Z => wla Z rfl fun a Z => ab <| aW kr ?_
  refine hK26 _ _ ?_
  replace Z := Z.p10 0 4 5 10 11 12 13 14 15 16 rfl
  rw [show (((v.h + (((ror v.e 6) ^^^ (ror v.e 11)) ^^^ (ror v.e 25))) + ((v.e &&& v.f) ^^^ ((~~~v.e) &&& v.g))) + ((kOf).getD ix 0#32)) + ((sch bs 64).getD ix 0#32) = tOf v (kOf.getD ix 0#32) ((sch bs 64).getD ix 0#32) from by rw [tOf, mix3]] at Z
  rw [show (((ror v.a 2) ^^^ (ror v.a 13)) ^^^ (ror v.a 22)) + (((v.a &&& v.b) ^^^ (v.a &&& v.c)) ^^^ (v.b &&& v.c)) = uOf v from by rw [uOf, mix3]] at Z
  refine aH kr (aI kr fun w20 hxz => ?_)
  replace Y := Y.grow hxz
  refine aP (k := 0) 22 [2, 3, 6, 9, 14, 15, 18, 21] Z kr kr kr rfx ?_
  replace Z := Z.p10 0 4 5 10 11 12 13 14 15 16 rfl
  refine az [] (fun i => match i with | _ => fun _ _ => False) 22 [[], [], [0, 1], [], [], [4], [5], [], [7], [8], [], [10], [11], [], [12, 13], [], [], [16], [17], [], [19], [20]] [wv (tOf v (kOf.getD ix 0#32) ((sch bs 64).getD ix 0#32)), wv (uOf v), wv ((tOf v (kOf.getD ix 0#32) ((sch bs 64).getD ix 0#32)) + (uOf v)), wv v.a, z, slAddr z (1 * 1), wv v.b, z, slAddr z (2 * 1), wv v.c, z, slAddr z (3 * 1), wv v.d, wv (tOf v (kOf.getD ix 0#32) ((sch bs 64).getD ix 0#32)), wv (v.d + (tOf v (kOf.getD ix 0#32) ((sch bs 64).getD ix 0#32))), wv v.e, z, slAddr z (5 * 1), wv v.f, z, slAddr z (6 * 1), wv v.g] Z Y kr kr kr ?_ ?_ ?_
  ·intro i hi hiq
   match i, hi, hiq with
   | 0, _, _ => exact fun w Y => OpV.g (ae rfl)
   | 1, _, _ => exact fun w Y => OpV.g (ae rfl)
   | 2, _, _ => exact fun w Y => OpV.g (bR rfl rfl)
   | 3, _, _ => exact fun w Y => OpV.g (ae rfl)
   | 4, _, _ => exact fun w Y => OpV.g (ae rfl)
   | 5, _, _ => exact fun w Y => OpV.g ((aj (i := 1) (sT := 117) (Y.ow 0 rfl) rfl rfl (runUnderlying117 _) (sizeOf116 _) om (by rw [List.length_map, W8.l_len]; decide)).as (v' := slAddr z (1 * 1)) rfl)
   | 6, _, _ => exact fun w Y => OpV.g (ay (u := wv v.b) (i := 1) (j := 0) (Y.ow 0 rfl) (by rw [List.length_map, W8.l_len]; decide) rfl (isAgg116 _) rfx)
   | 7, _, _ => exact fun w Y => OpV.g (ae rfl)
   | 8, _, _ => exact fun w Y => OpV.g ((aj (i := 2) (sT := 117) (Y.ow 0 rfl) rfl rfl (runUnderlying117 _) (sizeOf116 _) om (by rw [List.length_map, W8.l_len]; decide)).as (v' := slAddr z (2 * 1)) rfl)
   | 9, _, _ => exact fun w Y => OpV.g (ay (u := wv v.c) (i := 2) (j := 0) (Y.ow 0 rfl) (by rw [List.length_map, W8.l_len]; decide) rfl (isAgg116 _) rfx)
   | 10, _, _ => exact fun w Y => OpV.g (ae rfl)
   | 11, _, _ => exact fun w Y => OpV.g ((aj (i := 3) (sT := 117) (Y.ow 0 rfl) rfl rfl (runUnderlying117 _) (sizeOf116 _) om (by rw [List.length_map, W8.l_len]; decide)).as (v' := slAddr z (3 * 1)) rfl)
   | 12, _, _ => exact fun w Y => OpV.g (ay (u := wv v.d) (i := 3) (j := 0) (Y.ow 0 rfl) (by rw [List.length_map, W8.l_len]; decide) rfl (isAgg116 _) rfx)
   | 13, _, _ => exact fun w Y => OpV.g (ae rfl)
   | 14, _, _ => exact fun w Y => OpV.g (bR rfl rfl)
   | 15, _, _ => exact fun w Y => OpV.g (ae rfl)
   | 16, _, _ => exact fun w Y => OpV.g (ae rfl)
   | 17, _, _ => exact fun w Y => OpV.g ((aj (i := 5) (sT := 117) (Y.ow 0 rfl) rfl rfl (runUnderlying117 _) (sizeOf116 _) om (by rw [List.length_map, W8.l_len]; decide)).as (v' := slAddr z (5 * 1)) rfl)
   | 18, _, _ => exact fun w Y => OpV.g (ay (u := wv v.f) (i := 5) (j := 0) (Y.ow 0 rfl) (by rw [List.length_map, W8.l_len]; decide) rfl (isAgg116 _) rfx)
   | 19, _, _ => exact fun w Y => OpV.g (ae rfl)
   | 20, _, _ => exact fun w Y => OpV.g ((aj (i := 6) (sT := 117) (Y.ow 0 rfl) rfl rfl (runUnderlying117 _) (sizeOf116 _) om (by rw [List.length_map, W8.l_len]; decide)).as (v' := slAddr z (6 * 1)) rfl)
   | 21, _, _ => exact fun w Y => OpV.g (ay (u := wv v.g) (i := 6) (j := 0) (Y.ow 0 rfl) (by rw [List.length_map, W8.l_len]; decide) rfl (isAgg116 _) rfx)
   | i + 22, h, _ => exact absurd h om
  ·intro i hi
   exact absurd hi sm
  clear Z Y
  intro  a w21 Z Y
  replace Z : Fr 238 [(198, wv (tOf v (kOf.getD ix 0#32) ((sch bs 64).getD ix 0#32))), (199, wv (uOf v)), (200, wv ((tOf v (kOf.getD ix 0#32) ((sch bs 64).getD ix 0#32)) + (uOf v))), (201, wv v.a), (202, z), (203, slAddr z (1 * 1)), (204, wv v.b), (205, z), (206, slAddr z (2 * 1)), (207, wv v.c), (208, z), (209, slAddr z (3 * 1)), (210, wv v.d), (211, wv (tOf v (kOf.getD ix 0#32) ((sch bs 64).getD ix 0#32))), (212, wv (v.d + (tOf v (kOf.getD ix 0#32) ((sch bs 64).getD ix 0#32)))), (213, wv v.e), (214, z), (215, slAddr z (5 * 1)), (216, wv v.f), (217, z), (218, slAddr z (6 * 1)), (219, wv v.g), (0, _), (4, _), (5, _), (10, _), (11, _), (12, _), (13, _), (14, _), (15, _), (16, _)] [] a := Z
  refine ab <| aK (k := 22) 24 [23] kr kr kr ?_
  refine aE (E := 116) (sz := 1) rfl [[wv ((tOf v (kOf.getD ix 0#32) ((sch bs 64).getD ix 0#32)) + (uOf v))], [wv v.a], [wv v.b], [wv v.c], [wv (v.d + (tOf v (kOf.getD ix 0#32) ((sch bs 64).getD ix 0#32)))], [wv v.e], [wv v.f], [wv v.g]] kr sm rfl de de Z Y ?_
  clear Z Y
  intro a w22 Z Y
  refine wla Z rfl fun a Z => ab <| aW kr ?_
  refine hK22 _ _ ?_
  replace Z := Z.p6 0 4 5 10 12 11 rfl
  refine ar <| wlm Z rfl fun a Z => wlv Z (aV rfl rfl ⟨om, om⟩) fun a Z => wla Z rfl fun a Z => ab ?_
  replace Y : St No w0 [_, _, _, _] w22 := Y
  refine ⟨_, ?_, ix + 1, (rnd v (kOf.getD ix 0#32) ((sch bs 64).getD ix 0#32)), (.slice (some ⟨w21.hz, 0, none⟩) 8 8), rfl, om, (by rw [rounds, hrv]), Z.pick [0, 4, 5, 10, 11, 12], Y.select [0, 2, 3] de⟩
  omega
 rw [hc9] at Z
 try simp only [qz] at hc9
 obtain rfl : ix = 64 := by omega
 refine aM <| hK18 _ _ <| aa fun K27 hK27 => wla Z rfl fun a Z => ab (hK27 _ _ <| ah fun K28 hK28 => ?_)
 refine aa fun K29 hK29 => wla Z rfl fun a Z => ab (hK29 _ _ <| aq ?_)
 replace Y : St No w0 [own (.slice none 0 0) 116 1 (((hv.add v).l.take 0).map fun x => [wv x]), own z 116 1 ((v.l).map fun x => [wv x]), own u 116 1 ((sch bs 64).map fun x => [wv x]), own kz 116 1 ((kOf).map fun x => [wv x])] w15 := Y.nil_own
 refine aT (fun m a w => ∃ (q : Nat) (y : Value), m = 8 - q ∧ (q ≤ 8) ∧ Fr 238 [(0, hvv), (4, .slice none 0 0), (11, z), (17, y), (18, iv (q : Int))] [] a ∧ St No w0 [own y 116 1 (((hv.add v).l.take q).map fun x => [wv x]), own z 116 1 ((v.l).map fun x => [wv x])] w) _ ⟨0, .slice none 0 0, rfl, Nat.zero_le _, Z.pick [0, 4, 11, 17, 18], Y.select [0, 1] de⟩ ?_
 rintro _ a w23 ⟨q, y, rfl, hq, Z, Y⟩
 refine ah fun K30 hK30 => aa fun K31 hK31 => wlm Z rfl fun a Z => wlv Z (v_lt rfl rfl) fun a Z => ab (hK31 _ _ ?_)
 refine ax Z rfl (fun hc10 => ?_) (fun hc10 => ?_)
 ·rw [hc10] at Z
  try simp only [qz] at hc10
  refine ap <| hK30 _ _ <| ah fun K32 hK32 => aq <| aH kr (aI kr fun w24 hxz => ?_)
  replace Y := Y.grow hxz
  refine aP (k := 0) 11 [0, 10] Z kr kr kr rfx ?_
  replace Z := Z.p7 0 4 11 17 18 221 222 rfl
  refine az [10] (fun i => match i with | 10 => pm (fun b : Nat => .slice (some ⟨b, 0, none⟩) 1 1) (fun b => [own (.slice (some ⟨b, 0, none⟩) 1 1) 116 1 [[wv ((hv.l.getD q 0#32) + (v.l.getD q 0#32))]]]) (fun _ => True) | _ => fun _ _ => False) 11 [[], [], [], [1, 2], [3], [], [], [5, 6], [7], [4, 8], [9]] [y, hvv, iv (q : Int), slAddr hvv (q * 1), wv (hv.l.getD q 0#32), z, iv (q : Int), slAddr z (q * 1), wv (v.l.getD q 0#32), wv ((hv.l.getD q 0#32) + (v.l.getD q 0#32)), undef] Z Y kr kr kr ?_ ?_ ?_
  ·intro i hi hiq
   match i, hi, hiq with
   | 0, _, _ => exact fun w Y => OpV.g (ae rfl)
   | 1, _, _ => exact fun w Y => OpV.g (ae rfl)
   | 2, _, _ => exact fun w Y => OpV.g (ae rfl)
   | 3, _, _ => exact fun w Y => OpV.g ((aj (i := (q : Int)) (sT := 117) (Y.arg hhv) rfl rfl (runUnderlying117 _) (sizeOf116 _) om (by rw [List.length_map]; first | omega | (rw [aF]; omega) | (rw [List.length_take, aF]; omega) | (rw [W8.l_len]; omega) | (rw [bo]; omega))).as (v' := slAddr hvv (q * 1)) rfl)
   | 4, _, _ => exact fun w Y => OpV.g (ay (u := wv (hv.l.getD q 0#32)) (i := q) (j := 0) (Y.arg hhv) (by rw [List.length_map]; first | omega | (rw [aF]; omega) | (rw [List.length_take, aF]; omega) | (rw [W8.l_len]; omega) | (rw [bo]; omega)) rfl (isAgg116 _) (by rw [bl 0#32]; rfl))
   | 5, _, _ => exact fun w Y => OpV.g (ae rfl)
   | 6, _, _ => exact fun w Y => OpV.g (ae rfl)
   | 7, _, _ => exact fun w Y => OpV.g ((aj (i := (q : Int)) (sT := 117) (Y.ow 1 rfl) rfl rfl (runUnderlying117 _) (sizeOf116 _) om (by rw [List.length_map]; first | omega | (rw [aF]; omega) | (rw [List.length_take, aF]; omega) | (rw [W8.l_len]; omega) | (rw [bo]; omega))).as (v' := slAddr z (q * 1)) rfl)
   | 8, _, _ => exact fun w Y => OpV.g (ay (u := wv (v.l.getD q 0#32)) (i := q) (j := 0) (Y.ow 1 rfl) (by rw [List.length_map]; first | omega | (rw [aF]; omega) | (rw [List.length_take, aF]; omega) | (rw [W8.l_len]; omega) | (rw [bo]; omega)) rfl (isAgg116 _) (by rw [bl 0#32]; rfl))
   | 9, _, _ => exact fun w Y => OpV.g (bR rfl rfl)
   | 10, _, h => exact absurd sm h
  ·intro i hi
   simp only [List.mem_cons, List.not_mem_nil, or_false] at hi
   subst hi
   ·intro w Y
    exact bn (E := 116) (sz := 1) rfl [[wv ((hv.l.getD q 0#32) + (v.l.getD q 0#32))]] (fun _ => by kernel_rfl) sm rfl de
  clear Z Y
  rintro _ _ ⟨b11, rfl, -, rfl⟩ a w25 Z Y
  replace Z : Fr 238 [(225, y), (226, hvv), (227, iv (q : Int)), (228, slAddr hvv (q * 1)), (229, wv (hv.l.getD q 0#32)), (230, z), (231, iv (q : Int)), (232, slAddr z (q * 1)), (233, wv (v.l.getD q 0#32)), (234, wv ((hv.l.getD q 0#32) + (v.l.getD q 0#32))), (235, _), (0, _), (4, _), (11, _), (17, _), (18, _), (221, _), (222, _)] [] a := Z
  replace Y : St No w0 [_, _, _] w25 := Y
  refine ab <| aK (k := 11) 13 [12] kr kr kr ?_
  refine aX (i := 1) (sT := 117) (inf := Tryz.t116) (z := wv (0#32)) (b := 0) (off := 0) (m := 0) (c := 0) rfl rfl rfl (Y.ow 0 rfl) sm underlying117 rfl rfl rfl rfl de (by simp [Value.oneCell', yv, wv, sv]) (by have hby : Tryz.t116.bytes = 4 := rfl; simp only [big, hby, List.length_append, List.length_map, List.length_take, aF, W8.l_len, List.length_cons, List.length_nil]; omega) (by have hby : Tryz.t116.bytes = 4 := rfl; simp only [big, hby, List.length_append, List.length_map, List.length_take, aF, W8.l_len, List.length_cons, List.length_nil]; omega) de Z Y fun a w26 s12 Z Y _ => wla Z rfl fun a Z => ab <| aW kr ?_
  refine hK32 _ _ ?_
  replace Z := Z.p5 0 4 11 18 17 rfl
  replace Y := Y.k2 6 rfl
  refine ar <| wlm Z rfl fun a Z => wlv Z (aV rfl rfl ⟨om, om⟩) fun a Z => wla Z rfl fun a Z => ab ?_
  rw [show (((hv.add v).l.take q).map fun x => [wv x]) ++ ([[wv ((hv.l.getD q 0#32) + (v.l.getD q 0#32))]]) = (((hv.add v).l.take (q + 1)).map fun x => [wv x]) from by rw [nc hv v om]; simp] at Y
  refine ⟨_, ?_, q + 1, s12, rfl, om, Z.pick [0, 4, 11, 17, 18], Y.select [0, 1] de⟩
  omega
 rw [hc10] at Z
 try simp only [qz] at hc10
 refine aM <| hK28 _ _ <| aa fun K33 hK33 => wlm Z rfl fun a Z => wla Z rfl fun a Z => ab (hK33 _ _ ?_)
 replace Z := Z.p1 4 rfl
 refine ao ?_
 refine al Z results83 (ac rfl ag) ?_
 obtain rfl : q = 8 := by omega
 exact ⟨y, rfl, trivial, Y.ext, St.out (E := [own y 116 1 (((block hv bs).l).map fun x => [wv x])]) (H := []) (by rw [block, hrv]; exact Y.select [0] de)⟩
theorem nJ (v : W8) {q : Nat} (h : q < 8) : v.out.take (4 * (q + 1)) = v.out.take (4 * q) ++ [UInt8.ofNat (v.l.getD q 0#32 >>> 24).toNat, UInt8.ofNat (v.l.getD q 0#32 >>> 16).toNat, UInt8.ofNat (v.l.getD q 0#32 >>> 8).toNat, UInt8.ofNat (v.l.getD q 0#32).toNat] := by
 have : q = 0 ∨ q = 1 ∨ q = 2 ∨ q = 3 ∨ q = 4 ∨ q = 5 ∨ q = 6 ∨ q = 7 := by omega
 rcases this with rfl | rfl | rfl | rfl | rfl | rfl | rfl | rfl <;> simp [W8.out, W8.l, lH]
theorem fg (s : By) (w0 : World) (hs : s.length ≤ 100000000) :
  Ret Tryz.prog 45 #[sv s] w0 fun v w => v = sv (sha s) ∧ Ext No w0 w := by
 have hpb := fe s
 refine aC func45 rfl ntmps45 (lb rfl) fun a Z => ?_
 replace Z := Z.p1 0 rfl
 replace Y : St No w0 [] w0 := St.init w0
 refine aa fun K1 hK1 => wla Z rfl fun a Z => ab (hK1 _ _ <| aa fun K2 hK2 => ?_)
 refine aE (E := 116) (sz := 1) rfl [[wv (1779033703#32)], [wv (3144134277#32)], [wv (1013904242#32)], [wv (2773480762#32)], [wv (1359893119#32)], [wv (2600822924#32)], [wv (528734635#32)], [wv (1541459225#32)]] kr sm rfl de de Z Y ?_
 clear Z Y
 intro a w1 Z Y
 refine wla Z rfl fun a Z => ab (hK2 _ _ <| aa fun K3 hK3 => ?_)
 refine wlm Z rfl fun a Z => aR Z Y de call82 rfl (jv s _ hs) ?_
 clear Z Y
 intro a w2 x1 hp Z Y
 revert x1 hp Z Y; rintro bz hp Z Y
 clear hp
 replace Y : St No w0 [_, _] w2 := Y
 refine wla Z rfl fun a Z => ab (hK3 _ _ <| ah fun K4 hK4 => ?_)
 refine aa fun K5 hK5 => wla Z rfl fun a Z => ab (hK5 _ _ <| aq ?_)
 replace Y : St No w0 [_, _] w2 := Y
 refine aT (fun m a w => ∃ (q : Nat) (hz : Value), m = (padded s).length / 64 - q ∧ (q ≤ (padded s).length / 64) ∧ Fr 56 [(2, sv ([])), (4, bz), (3, hz), (5, iv ((64 * q : Nat) : Int))] [] a ∧ St No w0 [own hz 116 1 (((blocks h0 (padded s) q).l).map fun x => [wv x]), own bz 5 1 ((padded s).map fun b => [yv b])] w) _ ⟨0, (.slice (some ⟨w0.hz, 0, none⟩) 8 8), rfl, Nat.zero_le _, Z.pick [2, 4, 3, 5], Y.select [1, 0] de⟩ ?_
 rintro _ a w3 ⟨q, hz, rfl, hq, Z, Y⟩
 refine ah fun K6 hK6 => aa fun K7 hK7 => wlm Z rfl fun a Z => wlm Z rfl fun a Z => wlv Z ((aB (sT := 68) (Y.ow 1 rfl) rfl rfl (runUnderlying68 _)).asi (m' := ((padded s).length : Int)) (by rw [List.length_map])) fun a Z => wlv Z (v_lt rfl rfl) fun a Z => ab (hK7 _ _ ?_)
 refine ax Z rfl (fun hc2 => ?_) (fun hc2 => ?_)
 ·rw [hc2] at Z
  try simp only [qz] at hc2
  have hpl := eS s
  refine ap <| hK6 _ _ <| ah fun K8 hK8 => aq <| ar <| wlm Z rfl fun a Z => wlm Z rfl fun a Z => wlm Z rfl fun a Z => wlm Z rfl fun a Z => wlv Z (aV rfl rfl ⟨om, om⟩) fun a Z => wlv Z (ba (l := (64 * q)) (h := (64 * q + 64)) (Y.ow 1 rfl) rfl rfl rfl underlying68 kr (.inr (by first | rfl | (rw [show (((64 * q : Nat) : Int) : Int) = (((64 * q) : Nat) : Int) from by omega] <;> rfl))) (.inr (by first | rfl | (rw [show (((64 * q : Nat) : Int) + 64 : Int) = (((64 * q + 64) : Nat) : Int) from by omega] <;> rfl))) om (by first | (rw [List.length_map]; omega) | (simp <;> omega))) fun a Z => aR Z Y de call83 rfl (mA hz (cut bz 1 (64 * q) (64 * q + 64) (slCap bz)) (blocks h0 (padded s) q) (((padded s).drop (64 * q)).take 64) _ (Y.ow 0 rfl) (by have h := ((Y.ow 1 rfl).cutm (l := (64 * q)) (h := (64 * q + 64)) om (by first | omega | (simp; omega))); rwa [show 64 * q + 64 - 64 * q = 64 from by omega] at h) (by simp; omega)) ?_
  clear Z Y
  intro a w4 x4 hp Z Y
  revert x4 hp Z Y; rintro v3 hp Z Y
  clear hp
  replace Y : St No w0 [_, _, _] w4 := Y
  refine wla Z rfl fun a Z => ab <| hK8 _ _ ?_
  replace Z := Z.p4 2 4 5 3 rfl
  refine ar <| wlm Z rfl fun a Z => wlv Z (aV rfl rfl ⟨om, om⟩) fun a Z => wla Z rfl fun a Z => ab ?_
  replace Y : St No w0 [_, _, _] w4 := Y
  rw [show ((64 * q : Nat) : Int) + 64 = ((64 * (q + 1) : Nat) : Int) from by omega] at Z
  refine ⟨_, ?_, q + 1, v3, rfl, om, Z.pick [2, 4, 3, 5], Y.select [0, 2] de⟩
  omega
 rw [hc2] at Z
 try simp only [qz] at hc2
 have hpl := eS s
 obtain rfl : q = (padded s).length / 64 := by omega
 refine aM <| hK4 _ _ <| aa fun K9 hK9 => wla Z rfl fun a Z => ab (hK9 _ _ ?_)
 replace Z := Z.p3 2 3 6 rfl
 refine ah fun K10 hK10 => aa fun K11 hK11 => wla Z rfl fun a Z => ab (hK11 _ _ <| aq ?_)
 replace Y : St No w0 [own (.slice none 0 0) 5 1 (((blocks h0 (padded s) ((padded s).length / 64)).out.take (4 * 0)).map fun b => [yv b]), own hz 116 1 (((blocks h0 (padded s) ((padded s).length / 64)).l).map fun x => [wv x]), own bz 5 1 ((padded s).map fun b => [yv b])] w3 := Y.nil_own
 refine aT (fun m a w => ∃ (r : Nat) (oz : Value), m = 8 - r ∧ (r ≤ 8) ∧ Fr 56 [(2, sv ([])), (3, hz), (6, oz), (7, iv (r : Int))] [] a ∧ St No w0 [own oz 5 1 (((blocks h0 (padded s) ((padded s).length / 64)).out.take (4 * r)).map fun b => [yv b]), own hz 116 1 (((blocks h0 (padded s) ((padded s).length / 64)).l).map fun x => [wv x])] w) _ ⟨0, .slice none 0 0, rfl, Nat.zero_le _, Z.pick [2, 3, 6, 7], Y.select [0, 1] de⟩ ?_
 rintro _ a w5 ⟨r, oz, rfl, hr, Z, Y⟩
 refine ah fun K12 hK12 => aa fun K13 hK13 => wlm Z rfl fun a Z => wlv Z (v_lt rfl rfl) fun a Z => ab (hK13 _ _ ?_)
 refine ax Z rfl (fun hc5 => ?_) (fun hc5 => ?_)
 ·rw [hc5] at Z
  try simp only [qz] at hc5
  refine ap <| hK12 _ _ <| ah fun K14 hK14 => aq <| aH kr (aI kr fun w6 hxz => ?_)
  replace Y := Y.grow hxz
  refine aP (k := 0) 25 [0, 24] Z kr kr kr rfx ?_
  replace Z := Z.p6 2 3 6 7 24 25 rfl
  refine az [24] (fun i => match i with | 24 => pm (fun b : Nat => .slice (some ⟨b, 0, none⟩) 4 4) (fun b => [own (.slice (some ⟨b, 0, none⟩) 4 4) 5 1 [[yv (UInt8.ofNat (((blocks h0 (padded s) ((padded s).length / 64)).l.getD r 0#32) >>> 24).toNat)], [yv (UInt8.ofNat (((blocks h0 (padded s) ((padded s).length / 64)).l.getD r 0#32) >>> 16).toNat)], [yv (UInt8.ofNat (((blocks h0 (padded s) ((padded s).length / 64)).l.getD r 0#32) >>> 8).toNat)], [yv (UInt8.ofNat ((blocks h0 (padded s) ((padded s).length / 64)).l.getD r 0#32).toNat)]]]) (fun _ => True) | _ => fun _ _ => False) 25 [[], [], [], [1, 2], [3], [4], [5], [], [], [7, 8], [9], [10], [11], [], [], [13, 14], [15], [16], [17], [], [], [19, 20], [21], [22], [6, 12, 18, 23]] [oz, hz, iv (r : Int), slAddr hz (r * 1), wv ((blocks h0 (padded s) ((padded s).length / 64)).l.getD r 0#32), wv (((blocks h0 (padded s) ((padded s).length / 64)).l.getD r 0#32) >>> 24), yv (UInt8.ofNat (((blocks h0 (padded s) ((padded s).length / 64)).l.getD r 0#32) >>> 24).toNat), hz, iv (r : Int), slAddr hz (r * 1), wv ((blocks h0 (padded s) ((padded s).length / 64)).l.getD r 0#32), wv (((blocks h0 (padded s) ((padded s).length / 64)).l.getD r 0#32) >>> 16), yv (UInt8.ofNat (((blocks h0 (padded s) ((padded s).length / 64)).l.getD r 0#32) >>> 16).toNat), hz, iv (r : Int), slAddr hz (r * 1), wv ((blocks h0 (padded s) ((padded s).length / 64)).l.getD r 0#32), wv (((blocks h0 (padded s) ((padded s).length / 64)).l.getD r 0#32) >>> 8), yv (UInt8.ofNat (((blocks h0 (padded s) ((padded s).length / 64)).l.getD r 0#32) >>> 8).toNat), hz, iv (r : Int), slAddr hz (r * 1), wv ((blocks h0 (padded s) ((padded s).length / 64)).l.getD r 0#32), yv (UInt8.ofNat ((blocks h0 (padded s) ((padded s).length / 64)).l.getD r 0#32).toNat), undef] Z Y kr kr kr ?_ ?_ ?_
  ·intro i hi hiq
   match i, hi, hiq with
   | 0, _, _ => exact fun w Y => OpV.g (ae rfl)
   | 1, _, _ => exact fun w Y => OpV.g (ae rfl)
   | 2, _, _ => exact fun w Y => OpV.g (ae rfl)
   | 3, _, _ => exact fun w Y => OpV.g ((aj (i := (r : Int)) (sT := 117) (Y.ow 1 rfl) rfl rfl (runUnderlying117 _) (sizeOf116 _) om (by rw [List.length_map]; first | omega | (rw [W8.l_len]; omega))).as (v' := slAddr hz (r * 1)) rfl)
   | 4, _, _ => exact fun w Y => OpV.g (ay (u := wv ((blocks h0 (padded s) ((padded s).length / 64)).l.getD r 0#32)) (i := r) (j := 0) (Y.ow 1 rfl) (by rw [List.length_map]; first | omega | (rw [W8.l_len]; omega)) rfl (isAgg116 _) (by rw [bl 0#32]; rfl))
   | 5, _, _ => exact fun w Y => OpV.g (dI (n := 24) rfl rfl)
   | 6, _, _ => exact fun w Y => OpV.g (dN rfl kr underlying5)
   | 7, _, _ => exact fun w Y => OpV.g (ae rfl)
   | 8, _, _ => exact fun w Y => OpV.g (ae rfl)
   | 9, _, _ => exact fun w Y => OpV.g ((aj (i := (r : Int)) (sT := 117) (Y.ow 1 rfl) rfl rfl (runUnderlying117 _) (sizeOf116 _) om (by rw [List.length_map]; first | omega | (rw [W8.l_len]; omega))).as (v' := slAddr hz (r * 1)) rfl)
   | 10, _, _ => exact fun w Y => OpV.g (ay (u := wv ((blocks h0 (padded s) ((padded s).length / 64)).l.getD r 0#32)) (i := r) (j := 0) (Y.ow 1 rfl) (by rw [List.length_map]; first | omega | (rw [W8.l_len]; omega)) rfl (isAgg116 _) (by rw [bl 0#32]; rfl))
   | 11, _, _ => exact fun w Y => OpV.g (dI (n := 16) rfl rfl)
   | 12, _, _ => exact fun w Y => OpV.g (dN rfl kr underlying5)
   | 13, _, _ => exact fun w Y => OpV.g (ae rfl)
   | 14, _, _ => exact fun w Y => OpV.g (ae rfl)
   | 15, _, _ => exact fun w Y => OpV.g ((aj (i := (r : Int)) (sT := 117) (Y.ow 1 rfl) rfl rfl (runUnderlying117 _) (sizeOf116 _) om (by rw [List.length_map]; first | omega | (rw [W8.l_len]; omega))).as (v' := slAddr hz (r * 1)) rfl)
   | 16, _, _ => exact fun w Y => OpV.g (ay (u := wv ((blocks h0 (padded s) ((padded s).length / 64)).l.getD r 0#32)) (i := r) (j := 0) (Y.ow 1 rfl) (by rw [List.length_map]; first | omega | (rw [W8.l_len]; omega)) rfl (isAgg116 _) (by rw [bl 0#32]; rfl))
   | 17, _, _ => exact fun w Y => OpV.g (dI (n := 8) rfl rfl)
   | 18, _, _ => exact fun w Y => OpV.g (dN rfl kr underlying5)
   | 19, _, _ => exact fun w Y => OpV.g (ae rfl)
   | 20, _, _ => exact fun w Y => OpV.g (ae rfl)
   | 21, _, _ => exact fun w Y => OpV.g ((aj (i := (r : Int)) (sT := 117) (Y.ow 1 rfl) rfl rfl (runUnderlying117 _) (sizeOf116 _) om (by rw [List.length_map]; first | omega | (rw [W8.l_len]; omega))).as (v' := slAddr hz (r * 1)) rfl)
   | 22, _, _ => exact fun w Y => OpV.g (ay (u := wv ((blocks h0 (padded s) ((padded s).length / 64)).l.getD r 0#32)) (i := r) (j := 0) (Y.ow 1 rfl) (by rw [List.length_map]; first | omega | (rw [W8.l_len]; omega)) rfl (isAgg116 _) (by rw [bl 0#32]; rfl))
   | 23, _, _ => exact fun w Y => OpV.g (dN rfl kr underlying5)
   | 24, _, h => exact absurd sm h
   | i + 25, h, _ => exact absurd h om
  ·intro i hi
   simp only [List.mem_cons, List.not_mem_nil, or_false] at hi
   subst hi
   ·intro w Y
    exact bn (E := 5) (sz := 1) rfl [[yv (UInt8.ofNat (((blocks h0 (padded s) ((padded s).length / 64)).l.getD r 0#32) >>> 24).toNat)], [yv (UInt8.ofNat (((blocks h0 (padded s) ((padded s).length / 64)).l.getD r 0#32) >>> 16).toNat)], [yv (UInt8.ofNat (((blocks h0 (padded s) ((padded s).length / 64)).l.getD r 0#32) >>> 8).toNat)], [yv (UInt8.ofNat ((blocks h0 (padded s) ((padded s).length / 64)).l.getD r 0#32).toNat)]] (fun _ => by kernel_rfl) sm rfl de
  clear Z Y
  rintro _ _ ⟨b6, rfl, -, rfl⟩ a w7 Z Y
  replace Z : Fr 56 [(28, oz), (29, hz), (30, iv (r : Int)), (31, slAddr hz (r * 1)), (32, wv ((blocks h0 (padded s) ((padded s).length / 64)).l.getD r 0#32)), (33, wv (((blocks h0 (padded s) ((padded s).length / 64)).l.getD r 0#32) >>> 24)), (34, yv (UInt8.ofNat (((blocks h0 (padded s) ((padded s).length / 64)).l.getD r 0#32) >>> 24).toNat)), (35, hz), (36, iv (r : Int)), (37, slAddr hz (r * 1)), (38, wv ((blocks h0 (padded s) ((padded s).length / 64)).l.getD r 0#32)), (39, wv (((blocks h0 (padded s) ((padded s).length / 64)).l.getD r 0#32) >>> 16)), (40, yv (UInt8.ofNat (((blocks h0 (padded s) ((padded s).length / 64)).l.getD r 0#32) >>> 16).toNat)), (41, hz), (42, iv (r : Int)), (43, slAddr hz (r * 1)), (44, wv ((blocks h0 (padded s) ((padded s).length / 64)).l.getD r 0#32)), (45, wv (((blocks h0 (padded s) ((padded s).length / 64)).l.getD r 0#32) >>> 8)), (46, yv (UInt8.ofNat (((blocks h0 (padded s) ((padded s).length / 64)).l.getD r 0#32) >>> 8).toNat)), (47, hz), (48, iv (r : Int)), (49, slAddr hz (r * 1)), (50, wv ((blocks h0 (padded s) ((padded s).length / 64)).l.getD r 0#32)), (51, yv (UInt8.ofNat ((blocks h0 (padded s) ((padded s).length / 64)).l.getD r 0#32).toNat)), (52, _), (2, _), (3, _), (6, _), (7, _), (24, _), (25, _)] [] a := Z
  replace Y : St No w0 [_, _, _] w7 := Y
  refine ab <| aK (k := 25) 27 [26] kr kr kr ?_
  refine aX (i := 1) (sT := 68) (inf := Tryz.t5) (z := yv (0 : UInt8)) (b := 0) (off := 0) (m := 0) (c := 0) rfl rfl rfl (Y.ow 0 rfl) sm underlying68 rfl rfl rfl rfl de (by simp [Value.oneCell', yv, wv, sv]) (by have hby : Tryz.t5.bytes = 1 := rfl; simp only [big, hby, List.length_append, List.length_map, List.length_take, fY, List.length_cons, List.length_nil]; omega) (by have hby : Tryz.t5.bytes = 1 := rfl; simp only [big, hby, List.length_append, List.length_map, List.length_take, fY, List.length_cons, List.length_nil]; omega) de Z Y fun a w8 s7 Z Y _ => wla Z rfl fun a Z => ab <| aW kr ?_
  refine hK14 _ _ ?_
  replace Z := Z.p4 2 3 7 6 rfl
  replace Y := Y.k2 6 rfl
  refine ar <| wlm Z rfl fun a Z => wlv Z (aV rfl rfl ⟨om, om⟩) fun a Z => wla Z rfl fun a Z => ab ?_
  rw [show (((blocks h0 (padded s) ((padded s).length / 64)).out.take (4 * r)).map fun b => [yv b]) ++ ([[yv (UInt8.ofNat (((blocks h0 (padded s) ((padded s).length / 64)).l.getD r 0#32) >>> 24).toNat)], [yv (UInt8.ofNat (((blocks h0 (padded s) ((padded s).length / 64)).l.getD r 0#32) >>> 16).toNat)], [yv (UInt8.ofNat (((blocks h0 (padded s) ((padded s).length / 64)).l.getD r 0#32) >>> 8).toNat)], [yv (UInt8.ofNat ((blocks h0 (padded s) ((padded s).length / 64)).l.getD r 0#32).toNat)]]) = (((blocks h0 (padded s) ((padded s).length / 64)).out.take (4 * (r + 1))).map fun b => [yv b]) from by rw [nJ _ om]; simp] at Y
  refine ⟨_, ?_, r + 1, s7, rfl, om, Z.pick [2, 3, 6, 7], Y.select [0, 1] de⟩
  omega
 rw [hc5] at Z
 try simp only [qz] at hc5
 obtain rfl : r = 8 := by omega
 rw [show 4 * 8 = 32 from rfl, List.take_of_length_le (by rw [fY]; decide)] at Y
 refine aM <| hK10 _ _ <| aa fun K15 hK15 => wlm Z rfl fun a Z => wlv Z (dw (Y.ow 0 rfl) rfl underlying68 underlying5 underlying9) fun a Z => wla Z rfl fun a Z => ab (hK15 _ _ ?_)
 replace Z := Z.p1 2 rfl
 refine ao ?_
 refine al Z results45 (ac rfl ag) ?_
 exact ⟨by rfl, Y.ext⟩
theorem gG (s : By) (w0 : World) (hs : s.length ≤ 40000000) :
  Ret Tryz.prog 80 #[sv s] w0 fun v w => v = sv (leafH sha s) ∧ Ext No w0 w := by
 refine aC func80 rfl ntmps80 (lb rfl) fun a Z => ?_
 replace Z := Z.p1 0 rfl
 replace Y : St No w0 [] w0 := St.init w0
 refine aa fun K1 hK1 => wla Z rfl fun a Z => ab (hK1 _ _ <| aa fun K2 hK2 => ?_)
 refine wlm Z rfl fun a Z => wlv Z (cM rfl rfl (by (simp only [List.length_append, List.length_cons, List.length_nil]); omega)) fun a Z => am Z Y de call45 rfl (fg (([0]) ++ s) _ (by simp only [List.length_append, List.length_cons, List.length_nil]; omega)) ?_
 clear Z Y
 intro a w1 Z Y
 refine wla Z rfl fun a Z => ab (hK2 _ _ <| ao ?_)
 refine al Z results80 (ac rfl ag) ?_
 exact ⟨by rfl, Y.ext⟩
theorem dy (s t : By) (w0 : World) (hs : s.length ≤ 40000000) (ht : t.length ≤ 40000000) :
  Ret Tryz.prog 62 #[sv s, sv t] w0 fun v w => v = sv (nodeH sha s t) ∧ Ext No w0 w := by
 refine aC func62 rfl ntmps62 (lb rfl) fun a Z => ?_
 replace Z := Z.p2 0 1 rfl
 replace Y : St No w0 [] w0 := St.init w0
 refine aa fun K1 hK1 => wla Z rfl fun a Z => ab (hK1 _ _ <| aa fun K2 hK2 => ?_)
 refine wlm Z rfl fun a Z => wlv Z (cM rfl rfl (by (simp only [List.length_append, List.length_cons, List.length_nil]); omega)) fun a Z => wlm Z rfl fun a Z => wlv Z (cM rfl rfl (by (simp only [List.length_append, List.length_cons, List.length_nil]); omega)) fun a Z => am Z Y de call45 rfl (fg ((([1]) ++ s) ++ t) _ (by simp only [List.length_append, List.length_cons, List.length_nil]; omega)) ?_
 clear Z Y
 intro a w1 Z Y
 refine wla Z rfl fun a Z => ab (hK2 _ _ ?_)
 replace Z := Z.p1 4 rfl
 refine ao ?_
 refine al Z results62 (ac rfl ag) ?_
 exact ⟨by rfl, Y.ext⟩
theorem j9 {l : List By} (h : l.length = 1) : rootH sha l = leafH sha (l.getD 0 []) := by
 match l, h with
 | [x], _ => rfl
theorem dR (L : Nat) :
  ∀ (lv : Value) (ls : List By) (w0 : World), ls.length = L → SlAt w0 lv 1 (ls.map fun s => [sv s]) → ls.length ≤ 1000 → (∀ s ∈ ls, s.length ≤ 40000000) → Ret Tryz.prog 43 #[lv] w0 fun v w => v = sv (rootH sha ls) ∧ Ext No w0 w := by
 induction L using Nat.strongRecOn
 rename_i L ih
 intro lv ls w0 hL hlv hln hls
 have hnb := hlv.le
 rw [List.length_map] at hnb
 refine aC func43 rfl ntmps43 (lb rfl) fun a Z => ?_
 replace Z := Z.p1 0 rfl
 replace Y : St No w0 [] w0 := St.init w0
 refine aa fun K1 hK1 => wla Z rfl fun a Z => ab (hK1 _ _ <| ah fun K2 hK2 => ?_)
 refine aa fun K3 hK3 => wlm Z rfl fun a Z => wlv Z ((aB (sT := 26) (Y.arg hlv) rfl rfl (runUnderlying26 _)).asi (m' := (ls.length : Int)) sm) fun a Z => wlv Z (v_eq rfl rfl) fun a Z => ab (hK3 _ _ ?_)
 refine ax Z rfl (fun hc1 => ?_) (fun hc1 => ?_)
 ·rw [hc1] at Z
  try simp only [qz] at hc1
  refine aa fun K4 hK4 => am Z Y de call45 rfl (fg [] _ sm) ?_
  clear Z Y
  intro a w1 Z Y
  refine wla Z rfl fun a Z => ab (hK4 _ _ <| ao ?_)
  refine al Z results43 (ac rfl ag) ?_
  exact ⟨by simp only [retv]; rw [show ls = [] from List.eq_nil_of_length_eq_zero om]; rfl, Y.ext⟩
 rw [hc1] at Z
 try simp only [qz] at hc1
 refine ap <| hK2 _ _ <| ah fun K5 hK5 => aa fun K6 hK6 => wlm Z rfl fun a Z => wlv Z ((aB (sT := 26) (Y.arg hlv) rfl rfl (runUnderlying26 _)).asi (m' := (ls.length : Int)) sm) fun a Z => wlv Z (v_eq rfl rfl) fun a Z => ab (hK6 _ _ ?_)
 refine ax Z rfl (fun hc2 => ?_) (fun hc2 => ?_)
 ·rw [hc2] at Z
  try simp only [qz] at hc2
  have hx := hls _ (bD (d := []) (show 0 < ls.length by omega))
  refine aa fun K7 hK7 => wlm Z rfl fun a Z => wlv Z ((aj (i := 0) (sT := 26) (Y.arg hlv) rfl rfl (runUnderlying26 _) (sizeOf9 _) om (by rw [List.length_map]; omega)).as (v' := slAddr lv (0 * 1)) rfl) fun a Z => ?_
  refine wlv Z (ay (u := sv (ls.getD 0 [])) (i := 0) (j := 0) (Y.arg hlv) (by rw [List.length_map]; omega) rfl (isAgg9 _) (by simp [List.getD_eq_getElem?_getD, List.getElem?_eq_getElem (show 0 < ls.length by omega)])) fun a Z => ?_
  refine am Z Y de call80 rfl (gG (ls.getD 0 []) _ om) ?_
  clear Z Y
  intro a w2 Z Y
  refine wla Z rfl fun a Z => ab (hK7 _ _ ?_)
  replace Z := Z.p2 0 2 rfl
  refine ao ?_
  refine al Z results43 (ac rfl ag) ?_
  exact ⟨by simp only [retv]; rw [j9 om]; try rfl, Y.ext⟩
 rw [hc2] at Z
 try simp only [qz] at hc2
 have hlt := bS (n := ls.length) om
 have hlp := bJ ls.length
 refine ap <| hK5 _ _ <| aa fun K8 hK8 => wlm Z rfl fun a Z => wlv Z ((aB (sT := 26) (Y.arg hlv) rfl rfl (runUnderlying26 _)).asi (m' := (ls.length : Int)) sm) fun a Z => am Z Y de call61 rfl (et ls.length _ om om) ?_
 clear Z Y
 intro a w3 Z Y
 refine wla Z rfl fun a Z => ab (hK8 _ _ ?_)
 replace Z := Z.p3 0 2 3 rfl
 refine ah fun K9 hK9 => aH kr (aI kr fun w4 hxz => ?_)
 replace Y := Y.grow hxz
 refine aP (k := 0) 7 [3, 6] Z kr kr kr rfx ?_
 replace Z := Z.p3 0 2 3 rfl
 refine az [] (fun i => match i with | _ => fun _ _ => False) 7 [[], [], [0, 1], [2], [], [], [4, 5]] [lv, iv (lft ls.length : Int), (cut lv 1 0 (lft ls.length) (slCap lv)), sv (rootH sha (ls.take (lft ls.length))), lv, iv (lft ls.length : Int), (cut lv 1 (lft ls.length) ls.length (slCap lv))] Z Y kr kr kr ?_ ?_ ?_
 ·intro i hi hiq
  match i, hi, hiq with
  | 0, _, _ => exact fun w Y => OpV.g (ae rfl)
  | 1, _, _ => exact fun w Y => OpV.g (ae rfl)
  | 2, _, _ => exact fun w Y => OpV.g (ba (l := 0) (h := (lft ls.length)) (Y.arg hlv) rfl rfl rfl underlying26 kr (.inl ⟨rfl, rfl⟩) (.inr (by rw [show ((lft ls.length : Int) : Int) = (((lft ls.length) : Nat) : Int) from by omega] <;> rfl)) (Nat.zero_le _) (by first | (rw [List.length_map]; omega) | (simp <;> omega)))
  | 3, _, _ => exact fun w Y => aQ call43 rfl (ih _ (by simp only [List.length_take, List.length_drop]; omega) (cut lv 1 0 (lft ls.length) (slCap lv)) (ls.take (lft ls.length)) _ rfl ((Y.arg hlv).cut0 (h := (lft ls.length)) (by first | omega | (rw [List.length_reverse]; omega) | simp | (simp; omega))) (by simp only [List.length_take, List.length_drop]; omega) (fun s h => hls s (List.mem_of_mem_take h)))
  | 4, _, _ => exact fun w Y => OpV.g (ae rfl)
  | 5, _, _ => exact fun w Y => OpV.g (ae rfl)
  | 6, _, _ => exact fun w Y => OpV.g (ba (l := (lft ls.length)) (h := ls.length) (Y.arg hlv) rfl rfl rfl underlying26 kr (.inr (by rw [show ((lft ls.length : Int) : Int) = (((lft ls.length) : Nat) : Int) from by omega] <;> rfl)) (.inl ⟨rfl, by simp⟩) om sm)
 ·intro i hi
  exact absurd hi sm
 clear Z Y
 intro  a w5 Z Y
 replace Z : Fr 27 [(18, lv), (19, iv (lft ls.length : Int)), (20, (cut lv 1 0 (lft ls.length) (slCap lv))), (21, sv (rootH sha (ls.take (lft ls.length)))), (22, lv), (23, iv (lft ls.length : Int)), (24, (cut lv 1 (lft ls.length) ls.length (slCap lv))), (0, _), (2, _), (3, _)] [] a := Z
 refine ab <| aK (k := 7) 10 [9] kr kr kr ?_
 refine am Z Y de call43 rfl (ih _ (by simp only [List.length_take, List.length_drop]; omega) (cut lv 1 (lft ls.length) ls.length (slCap lv)) (ls.drop (lft ls.length)) _ rfl ((Y.arg hlv).cutd (l := (lft ls.length)) (by first | omega | (rw [List.length_reverse]; omega) | simp | (simp; omega))) (by simp only [List.length_take, List.length_drop]; omega) (fun s h => hls s (List.mem_of_mem_drop h))) ?_
 clear Z Y
 intro a w6 Z Y
 refine am Z Y de call62 rfl (dy (rootH sha (ls.take (lft ls.length))) (rootH sha (ls.drop (lft ls.length))) _ (by first | omega | (rw [ca bE]; decide)) (by first | omega | (rw [ca bE]; decide))) ?_
 clear Z Y
 intro a w7 Z Y
 refine wla Z rfl fun a Z => ab <| aW kr ?_
 refine hK9 _ _ ?_
 replace Z := Z.p1 2 rfl
 refine ao ?_
 refine al Z results43 (ac rfl ag) ?_
 exact ⟨by simp only [retv]; rw [← cR sha om]; try rfl, Y.ext⟩
theorem kZ (lv : Value) (ls : List By) (i : Int) (w0 : World) (hlv : SlAt w0 lv 1 (ls.map fun s => [sv s])) (hi : i < 0 ∨ (ls.length : Int) ≤ i) :
  Ret Tryz.prog 52 #[lv, iv i] w0 fun v w => v = .tuple #[.slice none 0 0, iv 2] ∧ Ext No w0 w := by
 refine aC func52 rfl ntmps52 (lb rfl) fun a Z => ?_
 replace Z := Z.p2 0 1 rfl
 replace Y : St No w0 [] w0 := St.init w0
 refine aa fun K1 hK1 => wla Z rfl fun a Z => wla Z rfl fun a Z => ab (hK1 _ _ <| ah fun K2 hK2 => ?_)
 refine aa fun K3 hK3 => wlm Z rfl fun a Z => wlv Z (v_lt rfl rfl) fun a Z => wlm Z rfl fun a Z => ?_
 rcases Bool.eq_false_or_eq_true (decide (i < 0)) with hb1 | hb1
 ·rw [hb1] at Z
  try simp only [qz] at hb1
  refine wln Z fun a Z => wln Z fun a Z => wln Z fun a Z => wln Z fun a Z => wlv Z (aA rfl rfl) fun a Z => ab (hK3 _ _ ?_)
  replace Z := Z.p5 0 1 4 5 18 rfl
  refine aD Z rfl ?_
  refine aa fun K4 hK4 => wla Z rfl fun a Z => wla Z rfl fun a Z => ab (hK4 _ _ <| ao ?_)
  refine al Z results52 (ac rfl (ac rfl ag)) ?_
  exact ⟨by rfl, Y.ext⟩
 rw [hb1] at Z
 try simp only [qz] at hb1
 refine wly Z (ae rfl) fun a Z => wly Z (ae rfl) fun a Z => wly Z ((aB (sT := 26) (Y.arg hlv) rfl rfl (runUnderlying26 _)).asi (m' := (ls.length : Int)) sm) fun a Z => wly Z (v_ge rfl rfl) fun a Z => wlv Z (au rfl rfl) fun a Z => ab (hK3 _ _ ?_)
 replace Z := Z.p5 0 1 4 5 18 rfl
 refine ax Z rfl (fun hc2 => ?_) (fun hc2 => ?_)
 ·rw [hc2] at Z
  try simp only [qz] at hc2
  refine aa fun K5 hK5 => wla Z rfl fun a Z => wla Z rfl fun a Z => ab (hK5 _ _ <| ao ?_)
  refine al Z results52 (ac rfl (ac rfl ag)) ?_
  exact ⟨by rfl, Y.ext⟩
 rw [hc2] at Z
 try simp only [qz] at hc2
 omega
theorem fH {l : List By} {i : Nat} (h : l.length ≤ 1000) : (proofH sha l i).length ≤ 10 := hT _ l i 10 rfl om
theorem mz (L : Nat) :
  ∀ (lv : Value) (ls : List By) (i : Nat) (w0 : World), ls.length = L → SlAt w0 lv 1 (ls.map fun s => [sv s]) → i < ls.length → ls.length ≤ 1000 → (∀ s ∈ ls, s.length ≤ 40000000) → Ret Tryz.prog 52 #[lv, iv (i : Int)] w0 (MemR w0 (fun v : Value => .tuple #[v, iv 0]) (fun v => [own v 9 1 ((proofH sha ls i).map fun s => [sv s])]) (fun _ => True)) := by
 induction L using Nat.strongRecOn
 rename_i L ih
 intro lv ls i w0 hL hlv hi hln hls
 have hnb := hlv.le
 rw [List.length_map] at hnb
 refine aC func52 rfl ntmps52 (lb rfl) fun a Z => ?_
 replace Z := Z.p2 0 1 rfl
 replace Y : St No w0 [] w0 := St.init w0
 refine aa fun K1 hK1 => wla Z rfl fun a Z => wla Z rfl fun a Z => ab (hK1 _ _ <| ah fun K2 hK2 => ?_)
 refine aa fun K3 hK3 => wlm Z rfl fun a Z => wlv Z (v_lt rfl rfl) fun a Z => wlm Z rfl fun a Z => ?_
 rcases Bool.eq_false_or_eq_true (decide ((i : Int) < 0)) with hb1 | hb1
 ·rw [hb1] at Z
  try simp only [qz] at hb1
  omega
 rw [hb1] at Z
 try simp only [qz] at hb1
 refine wly Z (ae rfl) fun a Z => wly Z (ae rfl) fun a Z => wly Z ((aB (sT := 26) (Y.arg hlv) rfl rfl (runUnderlying26 _)).asi (m' := (ls.length : Int)) sm) fun a Z => wly Z (v_ge rfl rfl) fun a Z => wlv Z (au rfl rfl) fun a Z => ab (hK3 _ _ ?_)
 replace Z := Z.p5 0 1 4 5 18 rfl
 refine ax Z rfl (fun hc2 => ?_) (fun hc2 => ?_)
 ·rw [hc2] at Z
  try simp only [qz] at hc2
  omega
 rw [hc2] at Z
 try simp only [qz] at hc2
 refine ap <| hK2 _ _ <| ah fun K4 hK4 => aa fun K5 hK5 => wlm Z rfl fun a Z => wlv Z ((aB (sT := 26) (Y.arg hlv) rfl rfl (runUnderlying26 _)).asi (m' := (ls.length : Int)) sm) fun a Z => wlv Z (v_eq rfl rfl) fun a Z => ab (hK5 _ _ ?_)
 refine ax Z rfl (fun hc3 => ?_) (fun hc3 => ?_)
 ·rw [hc3] at Z
  try simp only [qz] at hc3
  refine aa fun K6 hK6 => wla Z rfl fun a Z => wla Z rfl fun a Z => ab (hK6 _ _ <| ao ?_)
  refine al Z results52 (ac rfl (ac rfl ag)) ?_
  have hW := dx sha (l := ls) (i := i) om
  replace Y : St No w0 [own (.slice none 0 0) 9 1 (([] : List By).map fun s => [sv s])] w0 := Y.nil_own
  refine ⟨.slice none 0 0, rfl, trivial, Y.ext, St.out (E := [own (.slice none 0 0) 9 1 ((proofH sha ls i).map fun s => [sv s])]) (H := []) ?_⟩
  rw [show ((proofH sha ls i).map fun s => [sv s]) = (([] : List By).map fun s => [sv s]) from by first | (rw [hW]; done) | (rw [hW]; simp)]
  exact Y.select [0] de
 rw [hc3] at Z
 try simp only [qz] at hc3
 have hlt := bS (n := ls.length) om
 have hlp := bJ ls.length
 refine ap <| hK4 _ _ <| aa fun K7 hK7 => wlm Z rfl fun a Z => wlv Z ((aB (sT := 26) (Y.arg hlv) rfl rfl (runUnderlying26 _)).asi (m' := (ls.length : Int)) sm) fun a Z => am Z Y de call61 rfl (et ls.length _ om om) ?_
 clear Z Y
 intro a w1 Z Y
 refine wla Z rfl fun a Z => ab (hK7 _ _ ?_)
 replace Z := Z.p5 0 1 4 5 6 rfl
 refine ah fun K8 hK8 => aa fun K9 hK9 => wlm Z rfl fun a Z => wlm Z rfl fun a Z => wlv Z (v_lt rfl rfl) fun a Z => ab (hK9 _ _ ?_)
 refine ax Z rfl (fun hc4 => ?_) (fun hc4 => ?_)
 ·rw [hc4] at Z
  try simp only [qz] at hc4
  refine aa fun K10 hK10 => wlm Z rfl fun a Z => wlm Z rfl fun a Z => wlv Z (ba (l := 0) (h := (lft ls.length)) (Y.arg hlv) rfl rfl rfl underlying26 kr (.inl ⟨rfl, rfl⟩) (.inr (by rw [show ((lft ls.length : Int) : Int) = (((lft ls.length) : Nat) : Int) from by omega] <;> rfl)) (Nat.zero_le _) (by first | (rw [List.length_map]; omega) | (simp <;> omega))) fun a Z => wlm Z rfl fun a Z => aR Z Y de call52 rfl (ih _ (by simp only [List.length_take, List.length_drop]; omega) (cut lv 1 0 (lft ls.length) (slCap lv)) (ls.take (lft ls.length)) i _ rfl ((Y.arg hlv).cut0 (h := (lft ls.length)) (by first | omega | (rw [List.length_reverse]; omega) | simp | (simp; omega))) (by simp only [List.length_take, List.length_drop]; omega) (by simp only [List.length_take, List.length_drop]; omega) (fun s h => hls s (List.mem_of_mem_take h))) ?_
  clear Z Y
  intro a w2 x6 hp Z Y
  revert x6 hp Z Y; rintro v5 hp Z Y
  clear hp
  replace Y : St No w0 [_] w2 := Y
  have hpl := fH (l := (ls.take (lft ls.length))) (i := i) (by simp only [List.length_take, List.length_drop]; omega)
  refine wlm Z rfl fun a Z => wlv Z (ak rfl rfl) fun a Z => wlv Z (ak rfl rfl) fun a Z => wla Z rfl fun a Z => wla Z rfl fun a Z => ab (hK10 _ _ ?_)
  replace Z := Z.p6 0 1 4 5 6 7 rfl
  refine aa fun K11 hK11 => wlm Z rfl fun a Z => wlm Z rfl fun a Z => wlm Z rfl fun a Z => wlv Z (ba (l := (lft ls.length)) (h := ls.length) (Y.arg hlv) rfl rfl rfl underlying26 kr (.inr (by rw [show ((lft ls.length : Int) : Int) = (((lft ls.length) : Nat) : Int) from by omega] <;> rfl)) (.inl ⟨rfl, by simp⟩) om sm) fun a Z => am Z Y de call43 rfl (dR _ (cut lv 1 (lft ls.length) ls.length (slCap lv)) (ls.drop (lft ls.length)) _ rfl ((Y.arg hlv).cutd (l := (lft ls.length)) (by first | omega | (rw [List.length_reverse]; omega) | simp | (simp; omega))) (by simp only [List.length_take, List.length_drop]; omega) (fun s h => hls s (List.mem_of_mem_drop h))) ?_
  clear Z Y
  intro a w3 Z Y
  refine aE (E := 9) (sz := 1) rfl [[sv (rootH sha (ls.drop (lft ls.length)))]] kr sm rfl de de Z Y ?_
  clear Z Y
  intro a w4 Z Y
  refine aX (i := 1) (sT := 26) (inf := Tryz.t9) (z := .string (⟨#[]⟩)) (b := 0) (off := 0) (m := 0) (c := 0) rfl rfl rfl (Y.ow 0 rfl) sm underlying26 rfl rfl rfl rfl de (by simp [Value.oneCell', yv, wv, sv]) (by have hby : Tryz.t9.bytes = 16 := rfl; simp only [big, hby, List.length_append, List.length_map, List.length_cons, List.length_nil]; omega) (by have hby : Tryz.t9.bytes = 16 := rfl; simp only [big, hby, List.length_append, List.length_map, List.length_cons, List.length_nil]; omega) de Z Y fun a w5 s7 Z Y _ => wla Z rfl fun a Z => wla Z rfl fun a Z => ab (hK11 _ _ ?_)
  replace Z := Z.p5 0 1 6 4 5 rfl
  replace Y := Y.k1 2 rfl
  refine ao ?_
  refine al Z results52 (ac rfl (ac rfl ag)) ?_
  have hW := (cD sha (l := ls) (i := i) om).trans (if_pos om)
  refine ⟨s7, rfl, trivial, Y.ext, St.out (E := [own s7 9 1 ((proofH sha ls i).map fun s => [sv s])]) (H := []) ?_⟩
  rw [show ((proofH sha ls i).map fun s => [sv s]) = ((proofH sha ((ls.take (lft ls.length))) i).map fun s => [sv s]) ++ ([[sv (rootH sha (ls.drop (lft ls.length)))]]) from by first | (rw [hW]; done) | (rw [hW]; simp)]
  exact Y.select [0] de
 rw [hc4] at Z
 try simp only [qz] at hc4
 refine ap <| hK8 _ _ <| aa fun K12 hK12 => wlm Z rfl fun a Z => wlm Z rfl fun a Z => wlv Z (ba (l := (lft ls.length)) (h := ls.length) (Y.arg hlv) rfl rfl rfl underlying26 kr (.inr (by rw [show ((lft ls.length : Int) : Int) = (((lft ls.length) : Nat) : Int) from by omega] <;> rfl)) (.inl ⟨rfl, by simp⟩) om sm) fun a Z => wlm Z rfl fun a Z => wlm Z rfl fun a Z => wlv Z ((bq rfl rfl ⟨om, om⟩).asi (m' := ((i - lft ls.length : Nat) : Int)) om) fun a Z => aR Z Y de call52 rfl (ih _ (by simp only [List.length_take, List.length_drop]; omega) (cut lv 1 (lft ls.length) ls.length (slCap lv)) (ls.drop (lft ls.length)) (i - lft ls.length) _ rfl ((Y.arg hlv).cutd (l := (lft ls.length)) (by first | omega | (rw [List.length_reverse]; omega) | simp | (simp; omega))) (by simp only [List.length_take, List.length_drop]; omega) (by simp only [List.length_take, List.length_drop]; omega) (fun s h => hls s (List.mem_of_mem_drop h))) ?_
 clear Z Y
 intro a w6 x9 hp Z Y
 revert x9 hp Z Y; rintro v8 hp Z Y
 clear hp
 replace Y : St No w0 [_] w6 := Y
 have hpl := fH (l := (ls.drop (lft ls.length))) (i := (i - lft ls.length)) (by simp only [List.length_take, List.length_drop]; omega)
 refine wlm Z rfl fun a Z => wlv Z (ak rfl rfl) fun a Z => wlv Z (ak rfl rfl) fun a Z => wla Z rfl fun a Z => wla Z rfl fun a Z => ab (hK12 _ _ ?_)
 replace Z := Z.p5 0 4 5 6 9 rfl
 refine aa fun K13 hK13 => wlm Z rfl fun a Z => wlm Z rfl fun a Z => wlm Z rfl fun a Z => wlv Z (ba (l := 0) (h := (lft ls.length)) (Y.arg hlv) rfl rfl rfl underlying26 kr (.inl ⟨rfl, rfl⟩) (.inr (by rw [show ((lft ls.length : Int) : Int) = (((lft ls.length) : Nat) : Int) from by omega] <;> rfl)) (Nat.zero_le _) (by first | (rw [List.length_map]; omega) | (simp <;> omega))) fun a Z => am Z Y de call43 rfl (dR _ (cut lv 1 0 (lft ls.length) (slCap lv)) (ls.take (lft ls.length)) _ rfl ((Y.arg hlv).cut0 (h := (lft ls.length)) (by first | omega | (rw [List.length_reverse]; omega) | simp | (simp; omega))) (by simp only [List.length_take, List.length_drop]; omega) (fun s h => hls s (List.mem_of_mem_take h))) ?_
 clear Z Y
 intro a w7 Z Y
 refine aE (E := 9) (sz := 1) rfl [[sv (rootH sha (ls.take (lft ls.length)))]] kr sm rfl de de Z Y ?_
 clear Z Y
 intro a w8 Z Y
 refine aX (i := 1) (sT := 26) (inf := Tryz.t9) (z := .string (⟨#[]⟩)) (b := 0) (off := 0) (m := 0) (c := 0) rfl rfl rfl (Y.ow 0 rfl) sm underlying26 rfl rfl rfl rfl de (by simp [Value.oneCell', yv, wv, sv]) (by have hby : Tryz.t9.bytes = 16 := rfl; simp only [big, hby, List.length_append, List.length_map, List.length_cons, List.length_nil]; omega) (by have hby : Tryz.t9.bytes = 16 := rfl; simp only [big, hby, List.length_append, List.length_map, List.length_cons, List.length_nil]; omega) de Z Y fun a w9 s10 Z Y _ => wla Z rfl fun a Z => wla Z rfl fun a Z => ab (hK13 _ _ ?_)
 replace Z := Z.p2 4 5 rfl
 replace Y := Y.k1 2 rfl
 refine ao ?_
 refine al Z results52 (ac rfl (ac rfl ag)) ?_
 have hW := (cD sha (l := ls) (i := i) om).trans (if_neg om)
 refine ⟨s10, rfl, trivial, Y.ext, St.out (E := [own s10 9 1 ((proofH sha ls i).map fun s => [sv s])]) (H := []) ?_⟩
 rw [show ((proofH sha ls i).map fun s => [sv s]) = ((proofH sha ((ls.drop (lft ls.length))) (i - lft ls.length)).map fun s => [sv s]) ++ ([[sv (rootH sha (ls.take (lft ls.length)))]]) from by first | (rw [hW]; done) | (rw [hW]; simp)]
 exact Y.select [0] de
theorem gH {l : List By} {mi : Nat} {w : Bool} (h : l.length ≤ 1000) (h1 : 1 ≤ mi) (h2 : mi ≤ l.length) : (partH sha l mi w).length ≤ 11 := jV l.length l mi 10 w rfl h1 h2 om
theorem mQ (L : Nat) :
  ∀ (lv : Value) (ls : List By) (mi : Nat) (wh : Bool) (w0 : World), ls.length = L → SlAt w0 lv 1 (ls.map fun s => [sv s]) → 1 ≤ mi → mi ≤ ls.length → ls.length ≤ 1000 → (∀ s ∈ ls, s.length ≤ 40000000) → Ret Tryz.prog 86 #[lv, iv (mi : Int), .bool wh] w0 (MemR w0 (fun v : Value => v) (fun v => [own v 9 1 ((partH sha ls mi wh).map fun s => [sv s])]) (fun _ => True)) := by
 induction L using Nat.strongRecOn
 rename_i L ih
 intro lv ls mi wh w0 hL hlv hi0 hi hln hls
 have hnb := hlv.le
 rw [List.length_map] at hnb
 refine aC func86 rfl ntmps86 (lb rfl) fun a Z => ?_
 replace Z := Z.p3 0 1 2 rfl
 replace Y : St No w0 [] w0 := St.init w0
 refine aa fun K1 hK1 => wla Z rfl fun a Z => ab (hK1 _ _ <| ah fun K2 hK2 => ?_)
 refine aa fun K3 hK3 => wlm Z rfl fun a Z => wlm Z rfl fun a Z => wlv Z ((aB (sT := 26) (Y.arg hlv) rfl rfl (runUnderlying26 _)).asi (m' := (ls.length : Int)) sm) fun a Z => wlv Z (v_eq rfl rfl) fun a Z => ab (hK3 _ _ ?_)
 refine ax Z rfl (fun hc1 => ?_) (fun hc1 => ?_)
 ·rw [hc1] at Z
  try simp only [qz] at hc1
  obtain rfl : mi = ls.length := by omega
  refine ah fun K4 hK4 => aa fun K5 hK5 => wlm Z rfl fun a Z => ab (hK5 _ _ ?_)
  refine ax Z rfl (fun hc2 => ?_) (fun hc2 => ?_)
  ·rw [hc2] at Z
   try simp only [qz] at hc2
   refine aa fun K6 hK6 => wla Z rfl fun a Z => ab (hK6 _ _ <| ao ?_)
   refine al Z results86 (ac rfl ag) ?_
   have hW := (cS sha (l := ls) (w := wh)).trans (if_pos (by assumption))
   replace Y : St No w0 [own (.slice none 0 0) 9 1 (([] : List By).map fun s => [sv s])] w0 := Y.nil_own
   refine ⟨.slice none 0 0, rfl, trivial, Y.ext, St.out (E := [own (.slice none 0 0) 9 1 ((partH sha ls ls.length wh).map fun s => [sv s])]) (H := []) ?_⟩
   rw [show ((partH sha ls ls.length wh).map fun s => [sv s]) = (([] : List By).map fun s => [sv s]) from by first | (rw [hW]; done) | (rw [hW]; simp)]
   exact Y.select [0] de
  rw [hc2] at Z
  try simp only [qz] at hc2
  refine ap <| hK4 _ _ <| aa fun K7 hK7 => wlm Z rfl fun a Z => am Z Y de call43 rfl (dR _ lv ls _ rfl (Y.arg hlv) hln hls) ?_
  clear Z Y
  intro a w1 Z Y
  refine aE (E := 9) (sz := 1) rfl [[sv (rootH sha ls)]] kr sm rfl de de Z Y ?_
  clear Z Y
  intro a w2 Z Y
  refine wla Z rfl fun a Z => ab (hK7 _ _ ?_)
  replace Z := Z.p4 0 1 2 6 rfl
  refine ao ?_
  refine al Z results86 (ac rfl ag) ?_
  have hW := (cS sha (l := ls) (w := wh)).trans (if_neg (by simp_all))
  refine ⟨(.slice (some ⟨w1.hz, 0, none⟩) 1 1), rfl, trivial, Y.ext, St.out (E := [own (.slice (some ⟨w1.hz, 0, none⟩) 1 1) 9 1 ((partH sha ls ls.length wh).map fun s => [sv s])]) (H := []) ?_⟩
  rw [show ((partH sha ls ls.length wh).map fun s => [sv s]) = [[sv (rootH sha ls)]] from by first | (rw [hW]; done) | (rw [hW]; simp)]
  exact Y.select [0] de
 rw [hc1] at Z
 try simp only [qz] at hc1
 have hlt := bS (n := ls.length) om
 have hlp := bJ ls.length
 refine ap <| hK2 _ _ <| aa fun K8 hK8 => wlm Z rfl fun a Z => wlv Z ((aB (sT := 26) (Y.arg hlv) rfl rfl (runUnderlying26 _)).asi (m' := (ls.length : Int)) sm) fun a Z => am Z Y de call61 rfl (et ls.length _ om om) ?_
 clear Z Y
 intro a w3 Z Y
 refine wla Z rfl fun a Z => ab (hK8 _ _ ?_)
 replace Z := Z.p5 0 1 2 6 7 rfl
 refine ah fun K9 hK9 => aa fun K10 hK10 => wlm Z rfl fun a Z => wlm Z rfl fun a Z => wlv Z (v_le rfl rfl) fun a Z => ab (hK10 _ _ ?_)
 refine ax Z rfl (fun hc3 => ?_) (fun hc3 => ?_)
 ·rw [hc3] at Z
  try simp only [qz] at hc3
  have hpl := gH (l := ls.take (lft ls.length)) (mi := mi) (w := wh) (by simp only [List.length_take, List.length_drop]; omega) om (by simp only [List.length_take, List.length_drop]; omega)
  refine ah fun K11 hK11 => aH kr (aI kr fun w4 hxz => ?_)
  replace Y := Y.grow hxz
  refine aP (k := 0) 9 [5, 8] Z kr kr kr rfx ?_
  replace Z := Z.p8 0 1 2 6 7 19 20 21 rfl
  refine az [5] (fun i => match i with | 5 => pm (fun v : Value => v) (fun v => [own v 9 1 ((partH sha ((ls.take (lft ls.length))) mi wh).map fun s => [sv s])]) (fun _ => True) | _ => fun _ _ => False) 9 [[], [], [0, 1], [], [], [2, 3, 4], [], [], [6, 7]] [lv, iv (lft ls.length : Int), (cut lv 1 0 (lft ls.length) (slCap lv)), iv (mi : Int), .bool wh, undef, lv, iv (lft ls.length : Int), (cut lv 1 (lft ls.length) ls.length (slCap lv))] Z Y kr kr kr ?_ ?_ ?_
  ·intro i hi hiq
   match i, hi, hiq with
   | 0, _, _ => exact fun w Y => OpV.g (ae rfl)
   | 1, _, _ => exact fun w Y => OpV.g (ae rfl)
   | 2, _, _ => exact fun w Y => OpV.g (ba (l := 0) (h := (lft ls.length)) (Y.arg hlv) rfl rfl rfl underlying26 kr (.inl ⟨rfl, rfl⟩) (.inr (by rw [show ((lft ls.length : Int) : Int) = (((lft ls.length) : Nat) : Int) from by omega] <;> rfl)) (Nat.zero_le _) (by first | (rw [List.length_map]; omega) | (simp <;> omega)))
   | 3, _, _ => exact fun w Y => OpV.g (ae rfl)
   | 4, _, _ => exact fun w Y => OpV.g (ae rfl)
   | 5, _, h => exact absurd sm h
   | 6, _, _ => exact fun w Y => OpV.g (ae rfl)
   | 7, _, _ => exact fun w Y => OpV.g (ae rfl)
   | 8, _, _ => exact fun w Y => OpV.g (ba (l := (lft ls.length)) (h := ls.length) (Y.arg hlv) rfl rfl rfl underlying26 kr (.inr (by rw [show ((lft ls.length : Int) : Int) = (((lft ls.length) : Nat) : Int) from by omega] <;> rfl)) (.inl ⟨rfl, by simp⟩) om sm)
  ·intro i hi
   simp only [List.mem_cons, List.not_mem_nil, or_false] at hi
   subst hi
   ·intro w Y
    exact fW call86 rfl (ih _ (by simp only [List.length_take, List.length_drop]; omega) (cut lv 1 0 (lft ls.length) (slCap lv)) (ls.take (lft ls.length)) mi wh _ rfl ((Y.arg hlv).cut0 (h := (lft ls.length)) (by first | omega | (rw [List.length_reverse]; omega) | simp | (simp; omega))) om (by simp only [List.length_take, List.length_drop]; omega) (by simp only [List.length_take, List.length_drop]; omega) (fun s h => hls s (List.mem_of_mem_take h)))
  clear Z Y
  rintro v4 _ ⟨_, rfl, -, rfl⟩ a w5 Z Y
  replace Z : Fr 47 [(22, lv), (23, iv (lft ls.length : Int)), (24, (cut lv 1 0 (lft ls.length) (slCap lv))), (25, iv (mi : Int)), (26, .bool wh), (27, _), (28, lv), (29, iv (lft ls.length : Int)), (30, (cut lv 1 (lft ls.length) ls.length (slCap lv))), (0, _), (1, _), (2, _), (6, _), (7, _), (19, _), (20, _), (21, _)] [] a := Z
  replace Y : St No w0 [_] w5 := Y
  refine ab <| aK (k := 9) 13 [12] kr kr kr ?_
  refine am Z Y de call43 rfl (dR _ (cut lv 1 (lft ls.length) ls.length (slCap lv)) (ls.drop (lft ls.length)) _ rfl ((Y.arg hlv).cutd (l := (lft ls.length)) (by first | omega | (rw [List.length_reverse]; omega) | simp | (simp; omega))) (by simp only [List.length_take, List.length_drop]; omega) (fun s h => hls s (List.mem_of_mem_drop h))) ?_
  clear Z Y
  intro a w6 Z Y
  refine aE (E := 9) (sz := 1) rfl [[sv (rootH sha (ls.drop (lft ls.length)))]] kr sm rfl de de Z Y ?_
  clear Z Y
  intro a w7 Z Y
  refine aX (i := 1) (sT := 26) (inf := Tryz.t9) (z := .string (⟨#[]⟩)) (b := 0) (off := 0) (m := 0) (c := 0) rfl rfl rfl (Y.ow 0 rfl) sm underlying26 rfl rfl rfl rfl de (by simp [Value.oneCell', yv, wv, sv]) (by have hby : Tryz.t9.bytes = 16 := rfl; simp only [big, hby, List.length_append, List.length_map, List.length_cons, List.length_nil]; omega) (by have hby : Tryz.t9.bytes = 16 := rfl; simp only [big, hby, List.length_append, List.length_map, List.length_cons, List.length_nil]; omega) de Z Y fun a w8 s5 Z Y _ => wla Z rfl fun a Z => ab <| aW kr ?_
  refine hK11 _ _ ?_
  replace Z := Z.p4 0 1 7 6 rfl
  replace Y := Y.k1 2 rfl
  refine ao ?_
  refine al Z results86 (ac rfl ag) ?_
  have hW := (du sha (l := ls) (m := mi) (w := wh) om om).trans (if_pos om)
  refine ⟨s5, rfl, trivial, Y.ext, St.out (E := [own s5 9 1 ((partH sha ls mi wh).map fun s => [sv s])]) (H := []) ?_⟩
  rw [show ((partH sha ls mi wh).map fun s => [sv s]) = ((partH sha ((ls.take (lft ls.length))) mi wh).map fun s => [sv s]) ++ ([[sv (rootH sha (ls.drop (lft ls.length)))]]) from by first | (rw [hW]; done) | (rw [hW]; simp)]
  exact Y.select [0] de
 rw [hc3] at Z
 try simp only [qz] at hc3
 have hpl := gH (l := ls.drop (lft ls.length)) (mi := (mi - lft ls.length)) (w := false) (by simp only [List.length_take, List.length_drop]; omega) om (by simp only [List.length_take, List.length_drop]; omega)
 refine ap <| hK9 _ _ <| ah fun K12 hK12 => aH kr (aI kr fun w9 hxz => ?_)
 replace Y := Y.grow hxz
 refine aP (k := 0) 10 [6, 9] Z kr kr kr rfx ?_
 replace Z := Z.p8 0 1 2 6 7 19 20 21 rfl
 refine az [6] (fun i => match i with | 6 => pm (fun v : Value => v) (fun v => [own v 9 1 ((partH sha ((ls.drop (lft ls.length))) (mi - lft ls.length) false).map fun s => [sv s])]) (fun _ => True) | _ => fun _ _ => False) 10 [[], [], [0, 1], [], [], [3, 4], [2, 5], [], [], [7, 8]] [lv, iv (lft ls.length : Int), (cut lv 1 (lft ls.length) ls.length (slCap lv)), iv (mi : Int), iv (lft ls.length : Int), iv ((mi - lft ls.length : Nat) : Int), undef, lv, iv (lft ls.length : Int), (cut lv 1 0 (lft ls.length) (slCap lv))] Z Y kr kr kr ?_ ?_ ?_
 ·intro i hi hiq
  match i, hi, hiq with
  | 0, _, _ => exact fun w Y => OpV.g (ae rfl)
  | 1, _, _ => exact fun w Y => OpV.g (ae rfl)
  | 2, _, _ => exact fun w Y => OpV.g (ba (l := (lft ls.length)) (h := ls.length) (Y.arg hlv) rfl rfl rfl underlying26 kr (.inr (by rw [show ((lft ls.length : Int) : Int) = (((lft ls.length) : Nat) : Int) from by omega] <;> rfl)) (.inl ⟨rfl, by simp⟩) om sm)
  | 3, _, _ => exact fun w Y => OpV.g (ae rfl)
  | 4, _, _ => exact fun w Y => OpV.g (ae rfl)
  | 5, _, _ => exact fun w Y => OpV.g ((bq rfl rfl ⟨om, om⟩).asi (m' := ((mi - lft ls.length : Nat) : Int)) om)
  | 6, _, h => exact absurd sm h
  | 7, _, _ => exact fun w Y => OpV.g (ae rfl)
  | 8, _, _ => exact fun w Y => OpV.g (ae rfl)
  | 9, _, _ => exact fun w Y => OpV.g (ba (l := 0) (h := (lft ls.length)) (Y.arg hlv) rfl rfl rfl underlying26 kr (.inl ⟨rfl, rfl⟩) (.inr (by rw [show ((lft ls.length : Int) : Int) = (((lft ls.length) : Nat) : Int) from by omega] <;> rfl)) (Nat.zero_le _) (by first | (rw [List.length_map]; omega) | (simp <;> omega)))
 ·intro i hi
  simp only [List.mem_cons, List.not_mem_nil, or_false] at hi
  subst hi
  ·intro w Y
   exact fW call86 rfl (ih _ (by simp only [List.length_take, List.length_drop]; omega) (cut lv 1 (lft ls.length) ls.length (slCap lv)) (ls.drop (lft ls.length)) (mi - lft ls.length) false _ rfl ((Y.arg hlv).cutd (l := (lft ls.length)) (by first | omega | (rw [List.length_reverse]; omega) | simp | (simp; omega))) om (by simp only [List.length_take, List.length_drop]; omega) (by simp only [List.length_take, List.length_drop]; omega) (fun s h => hls s (List.mem_of_mem_drop h)))
 clear Z Y
 rintro v6 _ ⟨_, rfl, -, rfl⟩ a w10 Z Y
 replace Z : Fr 47 [(34, lv), (35, iv (lft ls.length : Int)), (36, (cut lv 1 (lft ls.length) ls.length (slCap lv))), (37, iv (mi : Int)), (38, iv (lft ls.length : Int)), (39, iv ((mi - lft ls.length : Nat) : Int)), (40, _), (41, lv), (42, iv (lft ls.length : Int)), (43, (cut lv 1 0 (lft ls.length) (slCap lv))), (0, _), (1, _), (2, _), (6, _), (7, _), (19, _), (20, _), (21, _)] [] a := Z
 replace Y : St No w0 [_] w10 := Y
 refine ab <| aK (k := 10) 14 [13] kr kr kr ?_
 refine am Z Y de call43 rfl (dR _ (cut lv 1 0 (lft ls.length) (slCap lv)) (ls.take (lft ls.length)) _ rfl ((Y.arg hlv).cut0 (h := (lft ls.length)) (by first | omega | (rw [List.length_reverse]; omega) | simp | (simp; omega))) (by simp only [List.length_take, List.length_drop]; omega) (fun s h => hls s (List.mem_of_mem_take h))) ?_
 clear Z Y
 intro a w11 Z Y
 refine aE (E := 9) (sz := 1) rfl [[sv (rootH sha (ls.take (lft ls.length)))]] kr sm rfl de de Z Y ?_
 clear Z Y
 intro a w12 Z Y
 refine aX (i := 1) (sT := 26) (inf := Tryz.t9) (z := .string (⟨#[]⟩)) (b := 0) (off := 0) (m := 0) (c := 0) rfl rfl rfl (Y.ow 0 rfl) sm underlying26 rfl rfl rfl rfl de (by simp [Value.oneCell', yv, wv, sv]) (by have hby : Tryz.t9.bytes = 16 := rfl; simp only [big, hby, List.length_append, List.length_map, List.length_cons, List.length_nil]; omega) (by have hby : Tryz.t9.bytes = 16 := rfl; simp only [big, hby, List.length_append, List.length_map, List.length_cons, List.length_nil]; omega) de Z Y fun a w13 s7 Z Y _ => wla Z rfl fun a Z => ab <| aW kr ?_
 refine hK12 _ _ ?_
 replace Z := Z.p1 6 rfl
 replace Y := Y.k1 2 rfl
 refine ao ?_
 refine al Z results86 (ac rfl ag) ?_
 have hW := (du sha (l := ls) (m := mi) (w := wh) om om).trans (if_neg om)
 refine ⟨s7, rfl, trivial, Y.ext, St.out (E := [own s7 9 1 ((partH sha ls mi wh).map fun s => [sv s])]) (H := []) ?_⟩
 rw [show ((partH sha ls mi wh).map fun s => [sv s]) = ((partH sha ((ls.drop (lft ls.length))) (mi - lft ls.length) false).map fun s => [sv s]) ++ ([[sv (rootH sha (ls.take (lft ls.length)))]]) from by first | (rw [hW]; done) | (rw [hW]; simp)]
 exact Y.select [0] de
theorem n5 (lv : Value) (ls : List By) (i : Int) (w0 : World) (hlv : SlAt w0 lv 1 (ls.map fun s => [sv s])) (hi : i < 0 ∨ (ls.length : Int) < i) :
  Ret Tryz.prog 54 #[lv, iv i] w0 fun v w => v = .tuple #[.slice none 0 0, iv 2] ∧ Ext No w0 w := by
 refine aC func54 rfl ntmps54 (lb rfl) fun a Z => ?_
 replace Z := Z.p2 0 1 rfl
 replace Y : St No w0 [] w0 := St.init w0
 refine aa fun K1 hK1 => wla Z rfl fun a Z => wla Z rfl fun a Z => ab (hK1 _ _ <| ah fun K2 hK2 => ?_)
 refine aa fun K3 hK3 => wlm Z rfl fun a Z => wlv Z (v_lt rfl rfl) fun a Z => wlm Z rfl fun a Z => ?_
 rcases Bool.eq_false_or_eq_true (decide (i < 0)) with hb1 | hb1
 ·rw [hb1] at Z
  try simp only [qz] at hb1
  refine wln Z fun a Z => wln Z fun a Z => wln Z fun a Z => wln Z fun a Z => wlv Z (aA rfl rfl) fun a Z => ab (hK3 _ _ ?_)
  replace Z := Z.p5 0 1 4 5 13 rfl
  refine aD Z rfl ?_
  refine aa fun K4 hK4 => wla Z rfl fun a Z => wla Z rfl fun a Z => ab (hK4 _ _ <| ao ?_)
  refine al Z results54 (ac rfl (ac rfl ag)) ?_
  exact ⟨by rfl, Y.ext⟩
 rw [hb1] at Z
 try simp only [qz] at hb1
 refine wly Z (ae rfl) fun a Z => wly Z (ae rfl) fun a Z => wly Z ((aB (sT := 26) (Y.arg hlv) rfl rfl (runUnderlying26 _)).asi (m' := (ls.length : Int)) sm) fun a Z => wly Z (v_gt rfl rfl) fun a Z => wlv Z (au rfl rfl) fun a Z => ab (hK3 _ _ ?_)
 replace Z := Z.p5 0 1 4 5 13 rfl
 refine ax Z rfl (fun hc2 => ?_) (fun hc2 => ?_)
 ·rw [hc2] at Z
  try simp only [qz] at hc2
  refine aa fun K5 hK5 => wla Z rfl fun a Z => wla Z rfl fun a Z => ab (hK5 _ _ <| ao ?_)
  refine al Z results54 (ac rfl (ac rfl ag)) ?_
  exact ⟨by rfl, Y.ext⟩
 rw [hc2] at Z
 try simp only [qz] at hc2
 omega
theorem oN (lv : Value) (ls : List By) (i : Nat) (w0 : World) (hlv : SlAt w0 lv 1 (ls.map fun s => [sv s])) (hi : i ≤ ls.length) (hln : ls.length ≤ 1000) (hls : ∀ s ∈ ls, s.length ≤ 40000000) :
  Ret Tryz.prog 54 #[lv, iv (i : Int)] w0 (MemR w0 (fun v : Value => .tuple #[v, iv 0]) (fun v => [own v 9 1 ((extH sha ls i).map fun s => [sv s])]) (fun _ => True)) := by
 refine aC func54 rfl ntmps54 (lb rfl) fun a Z => ?_
 replace Z := Z.p2 0 1 rfl
 replace Y : St No w0 [] w0 := St.init w0
 refine aa fun K1 hK1 => wla Z rfl fun a Z => wla Z rfl fun a Z => ab (hK1 _ _ <| ah fun K2 hK2 => ?_)
 refine aa fun K3 hK3 => wlm Z rfl fun a Z => wlv Z (v_lt rfl rfl) fun a Z => wlm Z rfl fun a Z => ?_
 rcases Bool.eq_false_or_eq_true (decide ((i : Int) < 0)) with hb1 | hb1
 ·rw [hb1] at Z
  try simp only [qz] at hb1
  omega
 rw [hb1] at Z
 try simp only [qz] at hb1
 refine wly Z (ae rfl) fun a Z => wly Z (ae rfl) fun a Z => wly Z ((aB (sT := 26) (Y.arg hlv) rfl rfl (runUnderlying26 _)).asi (m' := (ls.length : Int)) sm) fun a Z => wly Z (v_gt rfl rfl) fun a Z => wlv Z (au rfl rfl) fun a Z => ab (hK3 _ _ ?_)
 replace Z := Z.p5 0 1 4 5 13 rfl
 refine ax Z rfl (fun hc2 => ?_) (fun hc2 => ?_)
 ·rw [hc2] at Z
  try simp only [qz] at hc2
  omega
 rw [hc2] at Z
 try simp only [qz] at hc2
 refine ap <| hK2 _ _ <| ah fun K4 hK4 => aa fun K5 hK5 => wlm Z rfl fun a Z => wlv Z (v_eq rfl rfl) fun a Z => ab (hK5 _ _ ?_)
 refine ax Z rfl (fun hc3 => ?_) (fun hc3 => ?_)
 ·rw [hc3] at Z
  try simp only [qz] at hc3
  refine aa fun K6 hK6 => wla Z rfl fun a Z => wla Z rfl fun a Z => ab (hK6 _ _ <| ao ?_)
  refine al Z results54 (ac rfl (ac rfl ag)) ?_
  have hW := (show extH sha ls i = [] from if_pos om)
  replace Y : St No w0 [own (.slice none 0 0) 9 1 (([] : List By).map fun s => [sv s])] w0 := Y.nil_own
  refine ⟨.slice none 0 0, rfl, trivial, Y.ext, St.out (E := [own (.slice none 0 0) 9 1 ((extH sha ls i).map fun s => [sv s])]) (H := []) ?_⟩
  rw [show ((extH sha ls i).map fun s => [sv s]) = (([] : List By).map fun s => [sv s]) from by first | (rw [hW]; done) | (rw [hW]; simp)]
  exact Y.select [0] de
 rw [hc3] at Z
 try simp only [qz] at hc3
 refine ap <| hK4 _ _ <| aa fun K7 hK7 => wlm Z rfl fun a Z => wlm Z rfl fun a Z => aR Z Y de call86 rfl (mQ _ lv ls i true _ rfl (Y.arg hlv) om om hln hls) ?_
 clear Z Y
 intro a w1 x5 hp Z Y
 revert x5 hp Z Y; rintro v4 hp Z Y
 clear hp
 replace Y : St No w0 [_] w1 := Y
 refine wla Z rfl fun a Z => wla Z rfl fun a Z => ab (hK7 _ _ ?_)
 replace Z := Z.p2 4 5 rfl
 refine ao ?_
 refine al Z results54 (ac rfl (ac rfl ag)) ?_
 have hW := (show extH sha ls i = partH sha ls i true from if_neg om)
 refine ⟨v4, rfl, trivial, Y.ext, St.out (E := [own v4 9 1 ((extH sha ls i).map fun s => [sv s])]) (H := []) ?_⟩
 rw [show ((extH sha ls i).map fun s => [sv s]) = ((partH sha ls i true).map fun s => [sv s]) from by first | (rw [hW]; done) | (rw [hW]; simp)]
 exact Y.select [0] de
theorem ki : ∀ (p : List By) (n i : Nat) (s : By), (valueH sha n i s p).1.length ≤ 32 := by
 intro p n i s
 by_cases h : n ≤ 1
 ·rw [ed sha h]; exact Nat.le_of_eq (bE _)
 ·by_cases hp : p.length = 0
  ·rw [List.eq_nil_of_length_eq_zero hp, eV sha om]; simp
  ·by_cases hi : i < lft n
   ·rw [eU om om hi]; exact Nat.le_of_eq (bE _)
   ·rw [ek om om om]; exact Nat.le_of_eq (bE _)
theorem lG {old : By} (ho : old.length = 32) : ∀ (p : List By) (m n : Nat) (w : Bool), (∀ x ∈ p, x.length = 32) → (bothH sha old m n p w).1.length ≤ 32 ∧ (bothH sha old m n p w).2.1.length ≤ 32 := by
 intro p
 induction hL : p.length generalizing p with
 | zero =>
  intro m n w hp
  obtain rfl : p = [] := List.eq_nil_of_length_eq_zero hL
  by_cases h : m = n
  ·subst h; rw [cy]; cases w <;> simp [endH, ho]
  ·rw [fB sha h]; simp
 | succ k ih =>
  intro m n w hp
  by_cases h : m = n
  ·subst h; rw [cy]
   cases w with
   | true => simp [ho]
   | false =>
    match p, hp with
    | [x], hp => simp [endH, hp x sm]
    | [], _ => simp [endH]
    | _ :: _ :: _, _ => simp [endH]
  ·have hk : (p.take (p.length - 1)).length = k := by rw [List.length_take]; omega
   have hp' : ∀ x ∈ p.take (p.length - 1), x.length = 32 := fun x hx => hp x (List.mem_of_mem_take hx)
   by_cases hi : m ≤ lft n
   ·rw [fy h om hi]
    exact ⟨(ih _ hk m (lft n) w hp').1, Nat.le_of_eq (bE _)⟩
   ·rw [eN h om hi]
    exact ⟨Nat.le_of_eq (bE _), Nat.le_of_eq (bE _)⟩
theorem hZ (p : List By) : p.isEmpty = decide ((p.length : Int) - 1 < 0) := by
 rw [dB, Bool.eq_iff_iff, decide_eq_true_eq, decide_eq_true_eq]; omega
theorem mf (s : By) (hs : s.length ≤ 40000000) (L : Nat) :
  ∀ (n i : Nat) (lv : Value) (ls : List By) (w0 : World), ls.length = L → SlAt w0 lv 1 (ls.map fun s => [sv s]) → i < n → n ≤ 9223372036854775807 → (∀ x ∈ ls, x.length = 32) → Ret Tryz.prog 95 #[iv (n : Int), iv (i : Int), sv s, lv] w0 fun v w => v = .tuple #[sv (valueH sha n i s ls).1, .bool (valueH sha n i s ls).2] ∧ Ext No w0 w := by
 induction L using Nat.strongRecOn
 rename_i L ih
 intro n i lv ls w0 hL hlv hi hn hls
 have hnb := hlv.le
 rw [List.length_map] at hnb
 refine aC func95 rfl ntmps95 (lb rfl) fun a Z => ?_
 replace Z := Z.p4 0 1 2 3 rfl
 replace Y : St No w0 [] w0 := St.init w0
 refine aa fun K1 hK1 => wla Z rfl fun a Z => wla Z rfl fun a Z => ab (hK1 _ _ <| aa fun K2 hK2 => ?_)
 refine wlm Z rfl fun a Z => wlv Z ((aB (sT := 26) (Y.arg hlv) rfl rfl (runUnderlying26 _)).asi (m' := (ls.length : Int)) sm) fun a Z => wlv Z (bq rfl rfl ⟨om, om⟩) fun a Z => wla Z rfl fun a Z => ab (hK2 _ _ <| ah fun K3 hK3 => ?_)
 refine aa fun K4 hK4 => wlm Z rfl fun a Z => wlv Z (v_eq rfl rfl) fun a Z => ab (hK4 _ _ ?_)
 refine ax Z rfl (fun hc1 => ?_) (fun hc1 => ?_)
 ·rw [hc1] at Z
  try simp only [qz] at hc1
  refine aa fun K5 hK5 => wlm Z rfl fun a Z => am Z Y de call80 rfl (gG s _ om) ?_
  clear Z Y
  intro a w1 Z Y
  refine wlm Z rfl fun a Z => wlv Z (v_lt rfl rfl) fun a Z => wla Z rfl fun a Z => wla Z rfl fun a Z => ab (hK5 _ _ ?_)
  replace Z := Z.p7 0 1 2 3 10 8 9 rfl
  refine ao ?_
  refine al Z results95 (ac rfl (ac rfl ag)) ?_
  exact ⟨by simp only [retv]; rw [ed sha om, hZ]; try rfl, Y.ext⟩
 rw [hc1] at Z
 try simp only [qz] at hc1
 refine ap <| hK3 _ _ <| ah fun K6 hK6 => aa fun K7 hK7 => wlm Z rfl fun a Z => wlv Z (v_lt rfl rfl) fun a Z => ab (hK7 _ _ ?_)
 replace Z := Z.p8 0 1 2 3 8 9 10 26 rfl
 refine ax Z rfl (fun hc2 => ?_) (fun hc2 => ?_)
 ·rw [hc2] at Z
  try simp only [qz] at hc2
  refine aa fun K8 hK8 => wla Z rfl fun a Z => wla Z rfl fun a Z => ab (hK8 _ _ <| ao ?_)
  refine al Z results95 (ac rfl (ac rfl ag)) ?_
  exact ⟨by simp only [retv]; rw [show ls = [] from List.eq_nil_of_length_eq_zero om, eV sha om]; rfl, Y.ext⟩
 rw [hc2] at Z
 try simp only [qz] at hc2
 have hlt := bS (n := n) om
 have hlp := bJ n
 have hx32 := hls _ (bD (d := []) (show ls.length - 1 < ls.length by omega))
 refine ap <| hK6 _ _ <| aa fun K9 hK9 => wlm Z rfl fun a Z => am Z Y de call61 rfl (et n _ om om) ?_
 clear Z Y
 intro a w2 Z Y
 refine wla Z rfl fun a Z => ab (hK9 _ _ <| ah fun K10 hK10 => ?_)
 refine aa fun K11 hK11 => wlm Z rfl fun a Z => wlm Z rfl fun a Z => wlv Z (v_lt rfl rfl) fun a Z => ab (hK11 _ _ ?_)
 refine ax Z rfl (fun hc3 => ?_) (fun hc3 => ?_)
 ·rw [hc3] at Z
  try simp only [qz] at hc3
  refine aa fun K12 hK12 => wlm Z rfl fun a Z => wlm Z rfl fun a Z => wlm Z rfl fun a Z => wlm Z rfl fun a Z => wlm Z rfl fun a Z => wlv Z (ba (l := 0) (h := (ls.length - 1)) (Y.arg hlv) rfl rfl rfl underlying26 kr (.inl ⟨rfl, rfl⟩) (.inr (by rw [show ((ls.length : Int) - 1 : Int) = (((ls.length - 1) : Nat) : Int) from by omega] <;> rfl)) (Nat.zero_le _) (by first | (rw [List.length_map]; omega) | (simp <;> omega))) fun a Z => am Z Y de call95 rfl (ih _ (by rw [List.length_take]; omega) (lft n) i (cut lv 1 0 (ls.length - 1) (slCap lv)) (ls.take (ls.length - 1)) _ rfl ((Y.arg hlv).cut0 (h := (ls.length - 1)) (by first | omega | (rw [List.length_reverse]; omega) | simp | (simp; omega))) om om (fun x h => hls x (List.mem_of_mem_take h))) ?_
  clear Z Y
  intro a w3 Z Y
  have hvl := ki (ls.take (ls.length - 1)) (lft n) i s
  refine wlm Z rfl fun a Z => wlv Z (ak rfl rfl) fun a Z => wlv Z (ak rfl rfl) fun a Z => wla Z rfl fun a Z => wla Z rfl fun a Z => ab (hK12 _ _ ?_)
  replace Z := Z.p10 0 1 2 3 8 9 10 11 12 13 rfl
  refine aa fun K13 hK13 => wlm Z rfl fun a Z => wlm Z rfl fun a Z => wlm Z rfl fun a Z => wlv Z ((aj (i := (ls.length : Int) - 1) (sT := 26) (Y.arg hlv) rfl rfl (runUnderlying26 _) (sizeOf9 _) om (by rw [List.length_map]; omega)).as (v' := slAddr lv ((ls.length - 1) * 1)) (by rw [show ((ls.length : Int) - 1).toNat = (ls.length - 1) from by omega])) fun a Z => ?_
  refine wlv Z (ay (u := sv (ls.getD (ls.length - 1) [])) (i := (ls.length - 1)) (j := 0) (Y.arg hlv) (by rw [List.length_map]; omega) rfl (isAgg9 _) (by simp [List.getD_eq_getElem?_getD, List.getElem?_eq_getElem (show (ls.length - 1) < ls.length by omega)])) fun a Z => ?_
  refine am Z Y de call62 rfl (dy ((valueH sha (lft n) i s (ls.take (ls.length - 1))).1) (ls.getD (ls.length - 1) []) _ om om) ?_
  clear Z Y
  intro a w4 Z Y
  refine wlm Z rfl fun a Z => wla Z rfl fun a Z => wla Z rfl fun a Z => ab (hK13 _ _ ?_)
  replace Z := Z.p8 0 1 2 3 10 11 8 9 rfl
  refine ao ?_
  refine al Z results95 (ac rfl (ac rfl ag)) ?_
  exact ⟨by simp only [retv]; rw [eU (p := ls) om om om]; rfl, Y.ext⟩
 rw [hc3] at Z
 try simp only [qz] at hc3
 refine ap <| hK10 _ _ <| aa fun K14 hK14 => wlm Z rfl fun a Z => wlm Z rfl fun a Z => wlv Z ((bq rfl rfl ⟨om, om⟩).asi (m' := ((n - lft n : Nat) : Int)) om) fun a Z => wlm Z rfl fun a Z => wlm Z rfl fun a Z => wlv Z ((bq rfl rfl ⟨om, om⟩).asi (m' := ((i - lft n : Nat) : Int)) om) fun a Z => wlm Z rfl fun a Z => wlm Z rfl fun a Z => wlm Z rfl fun a Z => wlv Z (ba (l := 0) (h := (ls.length - 1)) (Y.arg hlv) rfl rfl rfl underlying26 kr (.inl ⟨rfl, rfl⟩) (.inr (by rw [show ((ls.length : Int) - 1 : Int) = (((ls.length - 1) : Nat) : Int) from by omega] <;> rfl)) (Nat.zero_le _) (by first | (rw [List.length_map]; omega) | (simp <;> omega))) fun a Z => am Z Y de call95 rfl (ih _ (by rw [List.length_take]; omega) (n - lft n) (i - lft n) (cut lv 1 0 (ls.length - 1) (slCap lv)) (ls.take (ls.length - 1)) _ rfl ((Y.arg hlv).cut0 (h := (ls.length - 1)) (by first | omega | (rw [List.length_reverse]; omega) | simp | (simp; omega))) om om (fun x h => hls x (List.mem_of_mem_take h))) ?_
 clear Z Y
 intro a w5 Z Y
 have hvl := ki (ls.take (ls.length - 1)) (n - lft n) (i - lft n) s
 refine wlm Z rfl fun a Z => wlv Z (ak rfl rfl) fun a Z => wlv Z (ak rfl rfl) fun a Z => wla Z rfl fun a Z => wla Z rfl fun a Z => ab (hK14 _ _ ?_)
 replace Z := Z.p6 3 8 9 10 14 15 rfl
 refine aa fun K15 hK15 => wlm Z rfl fun a Z => wlm Z rfl fun a Z => wlv Z ((aj (i := (ls.length : Int) - 1) (sT := 26) (Y.arg hlv) rfl rfl (runUnderlying26 _) (sizeOf9 _) om (by rw [List.length_map]; omega)).as (v' := slAddr lv ((ls.length - 1) * 1)) (by rw [show ((ls.length : Int) - 1).toNat = (ls.length - 1) from by omega])) fun a Z => ?_
 refine wlv Z (ay (u := sv (ls.getD (ls.length - 1) [])) (i := (ls.length - 1)) (j := 0) (Y.arg hlv) (by rw [List.length_map]; omega) rfl (isAgg9 _) (by simp [List.getD_eq_getElem?_getD, List.getElem?_eq_getElem (show (ls.length - 1) < ls.length by omega)])) fun a Z => wlm Z rfl fun a Z => ?_
 refine am Z Y de call62 rfl (dy (ls.getD (ls.length - 1) []) ((valueH sha (n - lft n) (i - lft n) s (ls.take (ls.length - 1))).1) _ om om) ?_
 clear Z Y
 intro a w6 Z Y
 refine wlm Z rfl fun a Z => wla Z rfl fun a Z => wla Z rfl fun a Z => ab (hK15 _ _ ?_)
 replace Z := Z.p2 8 9 rfl
 refine ao ?_
 refine al Z results95 (ac rfl (ac rfl ag)) ?_
 exact ⟨by simp only [retv]; rw [ek (p := ls) om om om]; rfl, Y.ext⟩
theorem iu {root : By} {n i : Nat} {s : By} {p : List By} (h1 : i < n) (hall : (p.all fun x => decide (x.length = 32)) = true) : ck sha root n i s p = ((valueH sha n i s p).2 && decide ((valueH sha n i s p).1 = root)) := by
 unfold ck; rw [hall, Int.toNat_natCast, Int.toNat_natCast]; simp [h1]
theorem kE (root s : By) (n i : Int) (lv : Value) (ls : List By) (w0 : World) (hlv : SlAt w0 lv 1 (ls.map fun s => [sv s])) (hs : s.length ≤ 40000000) (hn : n ≤ 9223372036854775807) :
  Ret Tryz.prog 59 #[sv root, iv n, iv i, sv s, lv] w0 fun v w => v = .bool (ck sha root n i s ls) ∧ Ext No w0 w := by
 refine aC func59 rfl ntmps59 (lb rfl) fun a Z => ?_
 replace Z := Z.p5 0 1 2 3 4 rfl
 replace Y : St No w0 [] w0 := St.init w0
 refine aa fun K1 hK1 => wla Z rfl fun a Z => ab (hK1 _ _ <| aa fun K2 hK2 => ?_)
 refine wlm Z rfl fun a Z => am Z Y de call92 rfl (gL lv ls _ (Y.arg hlv)) ?_
 clear Z Y
 intro a w1 Z Y
 refine wla Z rfl fun a Z => ab (hK2 _ _ <| ah fun K3 hK3 => ?_)
 refine aa fun K4 hK4 => wlm Z rfl fun a Z => wlv Z (v_lt rfl rfl) fun a Z => wlm Z rfl fun a Z => ?_
 rcases Bool.eq_false_or_eq_true (decide (i < 0)) with hb1 | hb1
 ·rw [hb1] at Z
  try simp only [qz] at hb1
  refine wln Z fun a Z => wln Z fun a Z => wln Z fun a Z => wlv Z (aA rfl rfl) fun a Z => wlm Z rfl fun a Z => wln Z fun a Z => wln Z fun a Z => wlv Z (aA rfl rfl) fun a Z => ab (hK4 _ _ ?_)
  replace Z := Z.p7 0 1 2 3 4 10 26 rfl
  refine aD Z rfl ?_
  refine aa fun K5 hK5 => wla Z rfl fun a Z => ab (hK5 _ _ <| ao ?_)
  refine al Z results59 (ac rfl ag) ?_
  exact ⟨by simp only [retv]; rw [cU (by rintro ⟨h1, h2, h3⟩; first | omega | simp_all)]; try rfl, Y.ext⟩
 rw [hb1] at Z
 try simp only [qz] at hb1
 refine wly Z (ae rfl) fun a Z => wly Z (ae rfl) fun a Z => wly Z (v_ge rfl rfl) fun a Z => wlv Z (au rfl rfl) fun a Z => wlm Z rfl fun a Z => ?_
 rcases Bool.eq_false_or_eq_true (decide (n ≤ i)) with hb2 | hb2
 ·rw [hb2] at Z
  try simp only [qz] at hb2
  refine wln Z fun a Z => wln Z fun a Z => wlv Z (aA rfl rfl) fun a Z => ab (hK4 _ _ ?_)
  replace Z := Z.p7 0 1 2 3 4 10 26 rfl
  refine aD Z rfl ?_
  refine aa fun K6 hK6 => wla Z rfl fun a Z => ab (hK6 _ _ <| ao ?_)
  refine al Z results59 (ac rfl ag) ?_
  exact ⟨by simp only [retv]; rw [cU (by rintro ⟨h1, h2, h3⟩; first | omega | simp_all)]; try rfl, Y.ext⟩
 rw [hb2] at Z
 try simp only [qz] at hb2
 refine wly Z (ae rfl) fun a Z => wly Z (bp rfl) fun a Z => wlv Z (au rfl rfl) fun a Z => ab (hK4 _ _ ?_)
 replace Z := Z.p7 0 1 2 3 4 10 26 rfl
 refine ax Z rfl (fun hc3 => ?_) (fun hc3 => ?_)
 ·rw [hc3] at Z
  try simp only [qz] at hc3
  refine aa fun K7 hK7 => wla Z rfl fun a Z => ab (hK7 _ _ <| ao ?_)
  refine al Z results59 (ac rfl ag) ?_
  exact ⟨by simp only [retv]; rw [cU (by rintro ⟨h1, h2, h3⟩; first | omega | simp_all)]; try rfl, Y.ext⟩
 rw [hc3] at Z
 try simp only [qz] at hc3
 have hall := hc3
 refine ap <| hK3 _ _ ?_
 obtain ⟨nn, rfl⟩ := Int.eq_ofNat_of_zero_le (show 0 ≤ n by omega)
 obtain ⟨ii, rfl⟩ := Int.eq_ofNat_of_zero_le (show 0 ≤ i by omega)
 refine aa fun K8 hK8 => wlm Z rfl fun a Z => wlm Z rfl fun a Z => wlm Z rfl fun a Z => wlm Z rfl fun a Z => am Z Y de call95 rfl (mf s hs _ nn ii lv ls _ rfl (Y.arg hlv) om om (all32 hall)) ?_
 clear Z Y
 intro a w2 Z Y
 refine wlm Z rfl fun a Z => wlv Z (ak rfl rfl) fun a Z => wlv Z (ak rfl rfl) fun a Z => wla Z rfl fun a Z => wla Z rfl fun a Z => ab (hK8 _ _ ?_)
 replace Z := Z.p4 0 10 12 13 rfl
 refine aa fun K9 hK9 => wlm Z rfl fun a Z => wlm Z rfl fun a Z => ?_
 rcases Bool.eq_false_or_eq_true ((valueH sha nn ii s ls).2) with hb4 | hb4
 ·rw [hb4] at Z
  try simp only [qz] at hb4
  refine wly Z (ae rfl) fun a Z => wly Z (ae rfl) fun a Z => wly Z (dt rfl rfl) fun a Z => wlv Z (aA rfl rfl) fun a Z => wla Z rfl fun a Z => ab (hK9 _ _ ?_)
  replace Z := Z.p1 10 rfl
  refine ao ?_
  refine al Z results59 (ac rfl ag) ?_
  exact ⟨by simp only [retv]; rw [iu om hall, hb4, Bool.true_and]; try rfl, Y.ext⟩
 rw [hb4] at Z
 try simp only [qz] at hb4
 refine wln Z fun a Z => wln Z fun a Z => wln Z fun a Z => wlv Z (au rfl rfl) fun a Z => wla Z rfl fun a Z => ab (hK9 _ _ ?_)
 replace Z := Z.p1 10 rfl
 refine ao ?_
 refine al Z results59 (ac rfl ag) ?_
 exact ⟨by simp only [retv]; rw [iu om hall, hb4, Bool.false_and]; try rfl, Y.ext⟩
theorem oy {p : List By} (h : p.length ≠ 1) : endH p = ([], [], false) := by
 match p, h with
 | [], _ => rfl
 | _ :: _ :: _, _ => rfl
 | [_], h => exact absurd rfl h
theorem nD {p : List By} (h : p.length = 1) : endH p = (p.getD 0 [], p.getD 0 [], true) := by
 match p, h with
 | [x], _ => rfl
theorem nt (old : By) (hold : old.length = 32) (L : Nat) :
  ∀ (m n : Nat) (lv : Value) (ls : List By) (wh : Bool) (w0 : World), ls.length = L → SlAt w0 lv 1 (ls.map fun s => [sv s]) → 1 ≤ m → m ≤ n → n ≤ 9223372036854775807 → (∀ x ∈ ls, x.length = 32) → Ret Tryz.prog 93 #[sv old, iv (m : Int), iv (n : Int), lv, .bool wh] w0 fun v w => v = .tuple #[sv (bothH sha old m n ls wh).1, sv (bothH sha old m n ls wh).2.1, .bool (bothH sha old m n ls wh).2.2] ∧ Ext No w0 w := by
 induction L using Nat.strongRecOn
 rename_i L ih
 intro m n lv ls wh w0 hL hlv hm hmn hn hls
 have hnb := hlv.le
 rw [List.length_map] at hnb
 refine aC func93 rfl ntmps93 (lb rfl) fun a Z => ?_
 replace Z := Z.p5 0 1 2 3 4 rfl
 replace Y : St No w0 [] w0 := St.init w0
 refine aa fun K1 hK1 => wla Z rfl fun a Z => wla Z rfl fun a Z => wla Z rfl fun a Z => ab (hK1 _ _ <| aa fun K2 hK2 => ?_)
 refine wlm Z rfl fun a Z => wlv Z ((aB (sT := 26) (Y.arg hlv) rfl rfl (runUnderlying26 _)).asi (m' := (ls.length : Int)) sm) fun a Z => wlv Z (bq rfl rfl ⟨om, om⟩) fun a Z => wla Z rfl fun a Z => ab (hK2 _ _ <| ah fun K3 hK3 => ?_)
 refine aa fun K4 hK4 => wlm Z rfl fun a Z => wlm Z rfl fun a Z => wlv Z (v_eq rfl rfl) fun a Z => ab (hK4 _ _ ?_)
 refine ax Z rfl (fun hc1 => ?_) (fun hc1 => ?_)
 ·rw [hc1] at Z
  try simp only [qz] at hc1
  obtain rfl : m = n := by omega
  refine ah fun K5 hK5 => aa fun K6 hK6 => wlm Z rfl fun a Z => ab (hK6 _ _ ?_)
  replace Z := Z.p10 0 1 2 3 4 10 11 12 13 27 rfl
  refine ax Z rfl (fun hc2 => ?_) (fun hc2 => ?_)
  ·rw [hc2] at Z
   try simp only [qz] at hc2
   refine aa fun K7 hK7 => wlm Z rfl fun a Z => wlm Z rfl fun a Z => wlm Z rfl fun a Z => wlv Z (v_lt rfl rfl) fun a Z => wla Z rfl fun a Z => wla Z rfl fun a Z => wla Z rfl fun a Z => ab (hK7 _ _ <| ao ?_)
   refine al Z results93 (ac rfl (ac rfl (ac rfl ag))) ?_
   exact ⟨by simp only [retv]; rw [cy, if_pos (by assumption), hZ]; try rfl, Y.ext⟩
  rw [hc2] at Z
  try simp only [qz] at hc2
  refine ap <| hK5 _ _ <| ah fun K8 hK8 => aa fun K9 hK9 => wlm Z rfl fun a Z => wlv Z (v_ne rfl rfl) fun a Z => ab (hK9 _ _ ?_)
  refine ax Z rfl (fun hc3 => ?_) (fun hc3 => ?_)
  ·rw [hc3] at Z
   try simp only [qz] at hc3
   refine aa fun K10 hK10 => wla Z rfl fun a Z => wla Z rfl fun a Z => wla Z rfl fun a Z => ab (hK10 _ _ <| ao ?_)
   refine al Z results93 (ac rfl (ac rfl (ac rfl ag))) ?_
   exact ⟨by simp only [retv]; rw [cy, if_neg (by simp_all), oy om]; rfl, Y.ext⟩
  rw [hc3] at Z
  try simp only [qz] at hc3
  refine ap <| hK8 _ _ <| ah fun K11 hK11 => aH kr (aI kr fun w1 hxz => ?_)
  replace Y := Y.grow hxz
  refine aP (k := 0) 7 [5, 6] Z kr kr kr rfx ?_
  replace Z : Fr 95 [(0, _), (1, _), (2, _), (3, _), (4, _), (11, _), (12, _), (13, _), (27, _), (32, _), (33, _)] [] a := Z.pick [0, 1, 2, 3, 4, 11, 12, 13, 27, 32, 33]
  refine az [] (fun i => match i with | _ => fun _ _ => False) 7 [[], [0], [1], [], [3], [4], [2]] [lv, slAddr lv (0 * 1), sv (ls.getD 0 []), lv, slAddr lv (0 * 1), sv (ls.getD 0 []), sv (ls.getD 0 [])] Z Y kr kr kr ?_ ?_ ?_
  ·intro i hi hiq
   match i, hi, hiq with
   | 0, _, _ => exact fun w Y => OpV.g (ae rfl)
   | 1, _, _ => exact fun w Y => OpV.g ((aj (i := 0) (sT := 26) (Y.arg hlv) rfl rfl (runUnderlying26 _) (sizeOf9 _) om (by rw [List.length_map]; omega)).as (v' := slAddr lv (0 * 1)) rfl)
   | 2, _, _ => exact fun w Y => OpV.g (ay (u := sv (ls.getD 0 [])) (i := 0) (j := 0) (Y.arg hlv) (by rw [List.length_map]; omega) rfl (isAgg9 _) (by simp [List.getD_eq_getElem?_getD, List.getElem?_eq_getElem (show 0 < ls.length by omega)]))
   | 3, _, _ => exact fun w Y => OpV.g (ae rfl)
   | 4, _, _ => exact fun w Y => OpV.g ((aj (i := 0) (sT := 26) (Y.arg hlv) rfl rfl (runUnderlying26 _) (sizeOf9 _) om (by rw [List.length_map]; omega)).as (v' := slAddr lv (0 * 1)) rfl)
   | 5, _, _ => exact fun w Y => OpV.g (ay (u := sv (ls.getD 0 [])) (i := 0) (j := 0) (Y.arg hlv) (by rw [List.length_map]; omega) rfl (isAgg9 _) (by simp [List.getD_eq_getElem?_getD, List.getElem?_eq_getElem (show 0 < ls.length by omega)]))
   | 6, _, _ => exact fun w Y => OpV.g (cx rfl)
  ·intro i hi
   exact absurd hi sm
  clear Z Y
  intro  a w2 Z Y
  replace Z : Fr 95 [(34, lv), (35, slAddr lv (0 * 1)), (36, sv (ls.getD 0 [])), (37, lv), (38, slAddr lv (0 * 1)), (39, sv (ls.getD 0 [])), (10, sv (ls.getD 0 [])), (0, _), (1, _), (2, _), (3, _), (4, _), (11, _), (12, _), (13, _), (27, _), (32, _), (33, _)] [] a := Z
  refine ab <| aK (k := 7) 9 [8] kr kr kr ?_
  refine wla Z rfl fun a Z => wla Z rfl fun a Z => ab <| aW kr ?_
  refine hK11 _ _ ?_
  replace Z := Z.p9 0 1 2 3 4 13 10 11 12 rfl
  refine ao ?_
  refine al Z results93 (ac rfl (ac rfl (ac rfl ag))) ?_
  exact ⟨by simp only [retv]; rw [cy, if_neg (by simp_all), nD om]; try rfl, Y.ext⟩
 rw [hc1] at Z
 try simp only [qz] at hc1
 refine ap <| hK3 _ _ <| ah fun K12 hK12 => aa fun K13 hK13 => wlm Z rfl fun a Z => wlv Z (v_lt rfl rfl) fun a Z => ab (hK13 _ _ ?_)
 replace Z := Z.p10 0 1 2 3 4 10 11 12 13 41 rfl
 refine ax Z rfl (fun hc4 => ?_) (fun hc4 => ?_)
 ·rw [hc4] at Z
  try simp only [qz] at hc4
  refine aa fun K14 hK14 => wla Z rfl fun a Z => wla Z rfl fun a Z => wla Z rfl fun a Z => ab (hK14 _ _ <| ao ?_)
  refine al Z results93 (ac rfl (ac rfl (ac rfl ag))) ?_
  exact ⟨by simp only [retv]; rw [show ls = [] from List.eq_nil_of_length_eq_zero om, fB sha om]; rfl, Y.ext⟩
 rw [hc4] at Z
 try simp only [qz] at hc4
 have hlt := bS (n := n) om
 have hlp := bJ n
 have hx32 := hls _ (bD (d := []) (show ls.length - 1 < ls.length by omega))
 refine ap <| hK12 _ _ <| aa fun K15 hK15 => wlm Z rfl fun a Z => am Z Y de call61 rfl (et n _ om om) ?_
 clear Z Y
 intro a w3 Z Y
 refine wla Z rfl fun a Z => ab (hK15 _ _ <| ah fun K16 hK16 => ?_)
 refine aa fun K17 hK17 => wlm Z rfl fun a Z => wlm Z rfl fun a Z => wlv Z (v_le rfl rfl) fun a Z => ab (hK17 _ _ ?_)
 refine ax Z rfl (fun hc5 => ?_) (fun hc5 => ?_)
 ·rw [hc5] at Z
  try simp only [qz] at hc5
  refine aa fun K18 hK18 => wlm Z rfl fun a Z => wlm Z rfl fun a Z => wlm Z rfl fun a Z => wlm Z rfl fun a Z => wlm Z rfl fun a Z => wlv Z (ba (l := 0) (h := (ls.length - 1)) (Y.arg hlv) rfl rfl rfl underlying26 kr (.inl ⟨rfl, rfl⟩) (.inr (by rw [show ((ls.length : Int) - 1 : Int) = (((ls.length - 1) : Nat) : Int) from by omega] <;> rfl)) (Nat.zero_le _) (by first | (rw [List.length_map]; omega) | (simp <;> omega))) fun a Z => wlm Z rfl fun a Z => am Z Y de call93 rfl (ih _ (by rw [List.length_take]; omega) m (lft n) (cut lv 1 0 (ls.length - 1) (slCap lv)) (ls.take (ls.length - 1)) wh _ rfl ((Y.arg hlv).cut0 (h := (ls.length - 1)) (by first | omega | (rw [List.length_reverse]; omega) | simp | (simp; omega))) om om om (fun x h => hls x (List.mem_of_mem_take h))) ?_
  clear Z Y
  intro a w4 Z Y
  obtain ⟨hvl1, hvl2⟩ := lG hold (ls.take (ls.length - 1)) m (lft n) wh (fun x h => hls x (List.mem_of_mem_take h))
  refine wlm Z rfl fun a Z => wlv Z (ak rfl rfl) fun a Z => wlv Z (ak rfl rfl) fun a Z => wlv Z (ak rfl rfl) fun a Z => wla Z rfl fun a Z => wla Z rfl fun a Z => wla Z rfl fun a Z => ab (hK18 _ _ ?_)
  replace Z := Z.p12 0 1 2 3 10 11 12 13 14 15 16 17 rfl
  refine aa fun K19 hK19 => wlm Z rfl fun a Z => wlm Z rfl fun a Z => wlm Z rfl fun a Z => wlm Z rfl fun a Z => wlv Z ((aj (i := (ls.length : Int) - 1) (sT := 26) (Y.arg hlv) rfl rfl (runUnderlying26 _) (sizeOf9 _) om (by rw [List.length_map]; omega)).as (v' := slAddr lv ((ls.length - 1) * 1)) (by rw [show ((ls.length : Int) - 1).toNat = (ls.length - 1) from by omega])) fun a Z => ?_
  refine wlv Z (ay (u := sv (ls.getD (ls.length - 1) [])) (i := (ls.length - 1)) (j := 0) (Y.arg hlv) (by rw [List.length_map]; omega) rfl (isAgg9 _) (by simp [List.getD_eq_getElem?_getD, List.getElem?_eq_getElem (show (ls.length - 1) < ls.length by omega)])) fun a Z => ?_
  refine am Z Y de call62 rfl (dy ((bothH sha old m (lft n) (ls.take (ls.length - 1)) wh).2.1) (ls.getD (ls.length - 1) []) _ om om) ?_
  clear Z Y
  intro a w5 Z Y
  refine wlm Z rfl fun a Z => wla Z rfl fun a Z => wla Z rfl fun a Z => wla Z rfl fun a Z => ab (hK19 _ _ ?_)
  replace Z := Z.p9 0 1 2 3 13 14 10 11 12 rfl
  refine ao ?_
  refine al Z results93 (ac rfl (ac rfl (ac rfl ag))) ?_
  exact ⟨by simp only [retv]; rw [fy (p := ls) om om om]; rfl, Y.ext⟩
 rw [hc5] at Z
 try simp only [qz] at hc5
 refine ap <| hK16 _ _ <| aa fun K20 hK20 => wlm Z rfl fun a Z => wlm Z rfl fun a Z => wlm Z rfl fun a Z => wlv Z ((bq rfl rfl ⟨om, om⟩).asi (m' := ((m - lft n : Nat) : Int)) om) fun a Z => wlm Z rfl fun a Z => wlm Z rfl fun a Z => wlv Z ((bq rfl rfl ⟨om, om⟩).asi (m' := ((n - lft n : Nat) : Int)) om) fun a Z => wlm Z rfl fun a Z => wlm Z rfl fun a Z => wlv Z (ba (l := 0) (h := (ls.length - 1)) (Y.arg hlv) rfl rfl rfl underlying26 kr (.inl ⟨rfl, rfl⟩) (.inr (by rw [show ((ls.length : Int) - 1 : Int) = (((ls.length - 1) : Nat) : Int) from by omega] <;> rfl)) (Nat.zero_le _) (by first | (rw [List.length_map]; omega) | (simp <;> omega))) fun a Z => am Z Y de call93 rfl (ih _ (by rw [List.length_take]; omega) (m - lft n) (n - lft n) (cut lv 1 0 (ls.length - 1) (slCap lv)) (ls.take (ls.length - 1)) false _ rfl ((Y.arg hlv).cut0 (h := (ls.length - 1)) (by first | omega | (rw [List.length_reverse]; omega) | simp | (simp; omega))) om om om (fun x h => hls x (List.mem_of_mem_take h))) ?_
 clear Z Y
 intro a w6 Z Y
 obtain ⟨hvl1, hvl2⟩ := lG hold (ls.take (ls.length - 1)) (m - lft n) (n - lft n) false (fun x h => hls x (List.mem_of_mem_take h))
 refine wlm Z rfl fun a Z => wlv Z (ak rfl rfl) fun a Z => wlv Z (ak rfl rfl) fun a Z => wlv Z (ak rfl rfl) fun a Z => wla Z rfl fun a Z => wla Z rfl fun a Z => wla Z rfl fun a Z => ab (hK20 _ _ ?_)
 replace Z := Z.p8 3 10 11 12 13 18 19 20 rfl
 refine ah fun K21 hK21 => aH kr (aI kr fun w7 hxz => ?_)
 replace Y := Y.grow hxz
 refine aP (k := 0) 15 [12, 14] Z kr kr kr rfx ?_
 replace Z := Z.p6 3 12 13 18 19 20 rfl
 refine az [] (fun i => match i with | _ => fun _ _ => False) 15 [[], [], [0, 1], [2], [], [3, 4], [], [], [6, 7], [8], [], [9, 10], [], [5], [11]] [lv, iv ((ls.length : Int) - 1), slAddr lv ((ls.length - 1) * 1), sv (ls.getD (ls.length - 1) []), sv ((bothH sha old (m - lft n) (n - lft n) (ls.take (ls.length - 1)) false).1), sv (nodeH sha (ls.getD (ls.length - 1) []) ((bothH sha old (m - lft n) (n - lft n) (ls.take (ls.length - 1)) false).1)), lv, iv ((ls.length : Int) - 1), slAddr lv ((ls.length - 1) * 1), sv (ls.getD (ls.length - 1) []), sv ((bothH sha old (m - lft n) (n - lft n) (ls.take (ls.length - 1)) false).2.1), sv (nodeH sha (ls.getD (ls.length - 1) []) ((bothH sha old (m - lft n) (n - lft n) (ls.take (ls.length - 1)) false).2.1)), .bool ((bothH sha old (m - lft n) (n - lft n) (ls.take (ls.length - 1)) false).2.2), sv (nodeH sha (ls.getD (ls.length - 1) []) ((bothH sha old (m - lft n) (n - lft n) (ls.take (ls.length - 1)) false).1)), sv (nodeH sha (ls.getD (ls.length - 1) []) ((bothH sha old (m - lft n) (n - lft n) (ls.take (ls.length - 1)) false).2.1))] Z Y kr kr kr ?_ ?_ ?_
 ·intro i hi hiq
  match i, hi, hiq with
  | 0, _, _ => exact fun w Y => OpV.g (ae rfl)
  | 1, _, _ => exact fun w Y => OpV.g (ae rfl)
  | 2, _, _ => exact fun w Y => OpV.g ((aj (i := (ls.length : Int) - 1) (sT := 26) (Y.arg hlv) rfl rfl (runUnderlying26 _) (sizeOf9 _) om (by rw [List.length_map]; omega)).as (v' := slAddr lv ((ls.length - 1) * 1)) (by rw [show ((ls.length : Int) - 1).toNat = (ls.length - 1) from by omega]))
  | 3, _, _ => exact fun w Y => OpV.g (ay (u := sv (ls.getD (ls.length - 1) [])) (i := (ls.length - 1)) (j := 0) (Y.arg hlv) (by rw [List.length_map]; omega) rfl (isAgg9 _) (by simp [List.getD_eq_getElem?_getD, List.getElem?_eq_getElem (show (ls.length - 1) < ls.length by omega)]))
  | 4, _, _ => exact fun w Y => OpV.g (ae rfl)
  | 5, _, _ => exact fun w Y => aQ call62 rfl (dy (ls.getD (ls.length - 1) []) ((bothH sha old (m - lft n) (n - lft n) (ls.take (ls.length - 1)) false).1) _ om om)
  | 6, _, _ => exact fun w Y => OpV.g (ae rfl)
  | 7, _, _ => exact fun w Y => OpV.g (ae rfl)
  | 8, _, _ => exact fun w Y => OpV.g ((aj (i := (ls.length : Int) - 1) (sT := 26) (Y.arg hlv) rfl rfl (runUnderlying26 _) (sizeOf9 _) om (by rw [List.length_map]; omega)).as (v' := slAddr lv ((ls.length - 1) * 1)) (by rw [show ((ls.length : Int) - 1).toNat = (ls.length - 1) from by omega]))
  | 9, _, _ => exact fun w Y => OpV.g (ay (u := sv (ls.getD (ls.length - 1) [])) (i := (ls.length - 1)) (j := 0) (Y.arg hlv) (by rw [List.length_map]; omega) rfl (isAgg9 _) (by simp [List.getD_eq_getElem?_getD, List.getElem?_eq_getElem (show (ls.length - 1) < ls.length by omega)]))
  | 10, _, _ => exact fun w Y => OpV.g (ae rfl)
  | 11, _, _ => exact fun w Y => aQ call62 rfl (dy (ls.getD (ls.length - 1) []) ((bothH sha old (m - lft n) (n - lft n) (ls.take (ls.length - 1)) false).2.1) _ om om)
  | 12, _, _ => exact fun w Y => OpV.g (ae rfl)
  | 13, _, _ => exact fun w Y => OpV.g (cx rfl)
  | 14, _, _ => exact fun w Y => OpV.g (cx rfl)
  | i + 15, h, _ => exact absurd h om
 ·intro i hi
  exact absurd hi sm
 clear Z Y
 intro  a w8 Z Y
 replace Z : Fr 95 [(82, lv), (83, iv ((ls.length : Int) - 1)), (84, slAddr lv ((ls.length - 1) * 1)), (85, sv (ls.getD (ls.length - 1) [])), (86, sv ((bothH sha old (m - lft n) (n - lft n) (ls.take (ls.length - 1)) false).1)), (87, sv (nodeH sha (ls.getD (ls.length - 1) []) ((bothH sha old (m - lft n) (n - lft n) (ls.take (ls.length - 1)) false).1))), (88, lv), (89, iv ((ls.length : Int) - 1)), (90, slAddr lv ((ls.length - 1) * 1)), (91, sv (ls.getD (ls.length - 1) [])), (92, sv ((bothH sha old (m - lft n) (n - lft n) (ls.take (ls.length - 1)) false).2.1)), (93, sv (nodeH sha (ls.getD (ls.length - 1) []) ((bothH sha old (m - lft n) (n - lft n) (ls.take (ls.length - 1)) false).2.1))), (94, .bool ((bothH sha old (m - lft n) (n - lft n) (ls.take (ls.length - 1)) false).2.2)), (10, sv (nodeH sha (ls.getD (ls.length - 1) []) ((bothH sha old (m - lft n) (n - lft n) (ls.take (ls.length - 1)) false).1))), (11, sv (nodeH sha (ls.getD (ls.length - 1) []) ((bothH sha old (m - lft n) (n - lft n) (ls.take (ls.length - 1)) false).2.1))), (3, _), (12, _), (13, _), (18, _), (19, _), (20, _)] [] a := Z
 refine ab <| aK (k := 15) 16 [15] kr kr kr ?_
 refine wla Z rfl fun a Z => ab <| aW kr ?_
 refine hK21 _ _ ?_
 replace Z := Z.p3 10 11 12 rfl
 refine ao ?_
 refine al Z results93 (ac rfl (ac rfl (ac rfl ag))) ?_
 exact ⟨by simp only [retv]; rw [eN (p := ls) om om om]; rfl, Y.ext⟩
theorem jk {old root : By} {m n : Nat} {p : List By} (hall : (p.all fun x => decide (x.length = 32)) = true) (ho : old.length = 32) (hr : root.length = 32) (h0 : 1 ≤ m) (hmn : m < n) : aJ sha old m root n p = ((bothH sha old m n p true).2.2 && decide ((bothH sha old m n p true).1 = old) && decide ((bothH sha old m n p true).2.1 = root)) := by
 rw [gm hall ho hr om om, if_neg om, if_neg om, Int.toNat_natCast, Int.toNat_natCast]
theorem j7 (old root : By) (m n : Int) (lv : Value) (ls : List By) (w0 : World) (hlv : SlAt w0 lv 1 (ls.map fun s => [sv s])) (hn : n ≤ 9223372036854775807) :
  Ret Tryz.prog 56 #[sv old, iv m, sv root, iv n, lv] w0 fun v w => v = .bool (aJ sha old m root n ls) ∧ Ext No w0 w := by
 refine aC func56 rfl ntmps56 (lb rfl) fun a Z => ?_
 replace Z := Z.p5 0 1 2 3 4 rfl
 replace Y : St No w0 [] w0 := St.init w0
 refine aa fun K1 hK1 => wla Z rfl fun a Z => ab (hK1 _ _ <| aa fun K2 hK2 => ?_)
 refine wlm Z rfl fun a Z => am Z Y de call92 rfl (gL lv ls _ (Y.arg hlv)) ?_
 clear Z Y
 intro a w1 Z Y
 refine wla Z rfl fun a Z => ab (hK2 _ _ <| ah fun K3 hK3 => ?_)
 refine aa fun K4 hK4 => wlm Z rfl fun a Z => wlv Z (v_lt rfl rfl) fun a Z => wlm Z rfl fun a Z => ?_
 rcases Bool.eq_false_or_eq_true (decide (m < 0)) with hb1 | hb1
 ·rw [hb1] at Z
  try simp only [qz] at hb1
  refine wln Z fun a Z => wln Z fun a Z => wln Z fun a Z => wlv Z (aA rfl rfl) fun a Z => wlm Z rfl fun a Z => wln Z fun a Z => wln Z fun a Z => wlv Z (aA rfl rfl) fun a Z => wlm Z rfl fun a Z => wln Z fun a Z => wln Z fun a Z => wln Z fun a Z => ?_
  refine wlv Z (aA rfl rfl) fun a Z => wlm Z rfl fun a Z => wln Z fun a Z => wln Z fun a Z => wln Z fun a Z => wlv Z (aA rfl rfl) fun a Z => ab (hK4 _ _ ?_)
  replace Z := Z.p7 0 1 2 3 4 10 37 rfl
  refine aD Z rfl ?_
  refine aa fun K5 hK5 => wla Z rfl fun a Z => ab (hK5 _ _ <| ao ?_)
  refine al Z results56 (ac rfl ag) ?_
  exact ⟨by simp only [retv]; rw [dL (by rintro ⟨h1, h2, h3, h4, h5⟩; first | omega | simp_all)]; try rfl, Y.ext⟩
 rw [hb1] at Z
 try simp only [qz] at hb1
 refine wly Z (ae rfl) fun a Z => wly Z (ae rfl) fun a Z => wly Z (v_gt rfl rfl) fun a Z => wlv Z (au rfl rfl) fun a Z => wlm Z rfl fun a Z => ?_
 rcases Bool.eq_false_or_eq_true (decide (n < m)) with hb2 | hb2
 ·rw [hb2] at Z
  try simp only [qz] at hb2
  refine wln Z fun a Z => wln Z fun a Z => wlv Z (aA rfl rfl) fun a Z => wlm Z rfl fun a Z => wln Z fun a Z => wln Z fun a Z => wln Z fun a Z => wlv Z (aA rfl rfl) fun a Z => wlm Z rfl fun a Z => wln Z fun a Z => wln Z fun a Z => wln Z fun a Z => ?_
  refine wlv Z (aA rfl rfl) fun a Z => ab (hK4 _ _ ?_)
  replace Z := Z.p7 0 1 2 3 4 10 37 rfl
  refine aD Z rfl ?_
  refine aa fun K6 hK6 => wla Z rfl fun a Z => ab (hK6 _ _ <| ao ?_)
  refine al Z results56 (ac rfl ag) ?_
  exact ⟨by simp only [retv]; rw [dL (by rintro ⟨h1, h2, h3, h4, h5⟩; first | omega | simp_all)]; try rfl, Y.ext⟩
 rw [hb2] at Z
 try simp only [qz] at hb2
 refine wly Z (ae rfl) fun a Z => wly Z (bp rfl) fun a Z => wlv Z (au rfl rfl) fun a Z => wlm Z rfl fun a Z => ?_
 rcases Bool.eq_false_or_eq_true (!(ls.all fun s => decide (s.length = 32))) with hb3 | hb3
 ·rw [hb3] at Z
  try simp only [qz] at hb3
  refine wln Z fun a Z => wln Z fun a Z => wln Z fun a Z => wlv Z (aA rfl rfl) fun a Z => wlm Z rfl fun a Z => wln Z fun a Z => wln Z fun a Z => wln Z fun a Z => wlv Z (aA rfl rfl) fun a Z => ab (hK4 _ _ ?_)
  replace Z := Z.p7 0 1 2 3 4 10 37 rfl
  refine aD Z rfl ?_
  refine aa fun K7 hK7 => wla Z rfl fun a Z => ab (hK7 _ _ <| ao ?_)
  refine al Z results56 (ac rfl ag) ?_
  exact ⟨by simp only [retv]; rw [dL (by rintro ⟨h1, h2, h3, h4, h5⟩; first | omega | simp_all)]; try rfl, Y.ext⟩
 rw [hb3] at Z
 try simp only [qz] at hb3
 have hall := hb3
 refine wly Z (ae rfl) fun a Z => wly Z (aZ rfl rfl (runUnderlying9 _)) fun a Z => wly Z (v_ne rfl rfl) fun a Z => wlv Z (au rfl rfl) fun a Z => wlm Z rfl fun a Z => ?_
 rcases Bool.eq_false_or_eq_true (!decide ((old.length : Int) = 32)) with hb4 | hb4
 ·rw [hb4] at Z
  try simp only [qz] at hb4
  refine wln Z fun a Z => wln Z fun a Z => wln Z fun a Z => wlv Z (aA rfl rfl) fun a Z => ab (hK4 _ _ ?_)
  replace Z := Z.p7 0 1 2 3 4 10 37 rfl
  refine aD Z rfl ?_
  refine aa fun K8 hK8 => wla Z rfl fun a Z => ab (hK8 _ _ <| ao ?_)
  refine al Z results56 (ac rfl ag) ?_
  exact ⟨by simp only [retv]; rw [dL (by rintro ⟨h1, h2, h3, h4, h5⟩; first | omega | simp_all)]; try rfl, Y.ext⟩
 rw [hb4] at Z
 try simp only [qz] at hb4
 refine wly Z (ae rfl) fun a Z => wly Z (aZ rfl rfl (runUnderlying9 _)) fun a Z => wly Z (v_ne rfl rfl) fun a Z => wlv Z (au rfl rfl) fun a Z => ab (hK4 _ _ ?_)
 replace Z := Z.p7 0 1 2 3 4 10 37 rfl
 refine ax Z rfl (fun hc5 => ?_) (fun hc5 => ?_)
 ·rw [hc5] at Z
  try simp only [qz] at hc5
  refine aa fun K9 hK9 => wla Z rfl fun a Z => ab (hK9 _ _ <| ao ?_)
  refine al Z results56 (ac rfl ag) ?_
  exact ⟨by simp only [retv]; rw [dL (by rintro ⟨h1, h2, h3, h4, h5⟩; first | omega | simp_all)]; try rfl, Y.ext⟩
 rw [hc5] at Z
 try simp only [qz] at hc5
 refine ap <| hK3 _ _ <| ah fun K10 hK10 => aa fun K11 hK11 => wlm Z rfl fun a Z => wlv Z (v_eq rfl rfl) fun a Z => ab (hK11 _ _ ?_)
 refine ax Z rfl (fun hc6 => ?_) (fun hc6 => ?_)
 ·rw [hc6] at Z
  try simp only [qz] at hc6
  obtain rfl : m = 0 := by omega
  refine aa fun K12 hK12 => wlm Z rfl fun a Z => wlv Z ((aB (sT := 26) (Y.arg hlv) rfl rfl (runUnderlying26 _)).asi (m' := (ls.length : Int)) sm) fun a Z => wlv Z (v_eq rfl rfl) fun a Z => wlm Z rfl fun a Z => ?_
  rcases Bool.eq_false_or_eq_true (decide ((ls.length : Int) = 0)) with hb7 | hb7
  ·rw [hb7] at Z
   try simp only [qz] at hb7
   refine wly Z (ae rfl) fun a Z => aO Z Y de rfl de rfl call45 rfl (fg [] _ sm) ?_
   clear Z Y
   intro a w2 Z Y
   refine wly Z (dt rfl rfl) fun a Z => wlv Z (aA rfl rfl) fun a Z => wla Z rfl fun a Z => ab (hK12 _ _ ?_)
   replace Z := Z.p6 0 1 2 3 4 10 rfl
   refine ao ?_
   refine al Z results56 (ac rfl ag) ?_
   exact ⟨by simp only [retv]; rw [fR hall om om om]; rw [decide_eq_true (show ls.length = 0 by omega), Bool.true_and]; try rfl, Y.ext⟩
  rw [hb7] at Z
  try simp only [qz] at hb7
  refine wln Z fun a Z => wln Z fun a Z => wln Z fun a Z => wlv Z (au rfl rfl) fun a Z => wla Z rfl fun a Z => ab (hK12 _ _ ?_)
  replace Z := Z.p6 0 1 2 3 4 10 rfl
  refine ao ?_
  refine al Z results56 (ac rfl ag) ?_
  exact ⟨by simp only [retv]; rw [fR hall om om om]; rw [decide_eq_false (show ¬ ls.length = 0 by omega), Bool.false_and]; try rfl, Y.ext⟩
 rw [hc6] at Z
 try simp only [qz] at hc6
 refine ap <| hK10 _ _ <| ah fun K13 hK13 => aa fun K14 hK14 => wlm Z rfl fun a Z => wlm Z rfl fun a Z => wlv Z (v_eq rfl rfl) fun a Z => ab (hK14 _ _ ?_)
 refine ax Z rfl (fun hc8 => ?_) (fun hc8 => ?_)
 ·rw [hc8] at Z
  try simp only [qz] at hc8
  obtain rfl : m = n := by omega
  refine aa fun K15 hK15 => wlm Z rfl fun a Z => wlv Z ((aB (sT := 26) (Y.arg hlv) rfl rfl (runUnderlying26 _)).asi (m' := (ls.length : Int)) sm) fun a Z => wlv Z (v_eq rfl rfl) fun a Z => wlm Z rfl fun a Z => ?_
  rcases Bool.eq_false_or_eq_true (decide ((ls.length : Int) = 0)) with hb9 | hb9
  ·rw [hb9] at Z
   try simp only [qz] at hb9
   refine wly Z (ae rfl) fun a Z => wly Z (ae rfl) fun a Z => wly Z (dt rfl rfl) fun a Z => wlv Z (aA rfl rfl) fun a Z => wla Z rfl fun a Z => ab (hK15 _ _ ?_)
   replace Z := Z.p6 0 1 2 3 4 10 rfl
   refine ao ?_
   refine al Z results56 (ac rfl ag) ?_
   exact ⟨by simp only [retv]; rw [fV hall om om om]; rw [decide_eq_true (show ls.length = 0 by omega), Bool.true_and]; try rfl, Y.ext⟩
  rw [hb9] at Z
  try simp only [qz] at hb9
  refine wln Z fun a Z => wln Z fun a Z => wln Z fun a Z => wlv Z (au rfl rfl) fun a Z => wla Z rfl fun a Z => ab (hK15 _ _ ?_)
  replace Z := Z.p6 0 1 2 3 4 10 rfl
  refine ao ?_
  refine al Z results56 (ac rfl ag) ?_
  exact ⟨by simp only [retv]; rw [fV hall om om om]; rw [decide_eq_false (show ¬ ls.length = 0 by omega), Bool.false_and]; try rfl, Y.ext⟩
 rw [hc8] at Z
 try simp only [qz] at hc8
 refine ap <| hK13 _ _ ?_
 obtain ⟨mm, rfl⟩ := Int.eq_ofNat_of_zero_le (show 0 ≤ m by omega)
 obtain ⟨nn, rfl⟩ := Int.eq_ofNat_of_zero_le (show 0 ≤ n by omega)
 refine aa fun K16 hK16 => wlm Z rfl fun a Z => wlm Z rfl fun a Z => wlm Z rfl fun a Z => wlm Z rfl fun a Z => am Z Y de call93 rfl (nt old om _ mm nn lv ls true _ rfl (Y.arg hlv) om om om (all32 hall)) ?_
 clear Z Y
 intro a w3 Z Y
 refine wlm Z rfl fun a Z => wlv Z (ak rfl rfl) fun a Z => wlv Z (ak rfl rfl) fun a Z => wlv Z (ak rfl rfl) fun a Z => wla Z rfl fun a Z => wla Z rfl fun a Z => wla Z rfl fun a Z => ab (hK16 _ _ ?_)
 replace Z := Z.p6 0 2 10 12 13 14 rfl
 refine aa fun K17 hK17 => wlm Z rfl fun a Z => wlm Z rfl fun a Z => ?_
 rcases Bool.eq_false_or_eq_true ((bothH sha old mm nn ls true).2.2) with hb10 | hb10
 ·rw [hb10] at Z
  try simp only [qz] at hb10
  refine wly Z (ae rfl) fun a Z => wly Z (ae rfl) fun a Z => wly Z (dt rfl rfl) fun a Z => wlv Z (aA rfl rfl) fun a Z => wlm Z rfl fun a Z => ?_
  rcases Bool.eq_false_or_eq_true (decide ((bothH sha old mm nn ls true).1 = old)) with hb11 | hb11
  ·rw [hb11] at Z
   try simp only [qz] at hb11
   refine wly Z (ae rfl) fun a Z => wly Z (ae rfl) fun a Z => wly Z (dt rfl rfl) fun a Z => wlv Z (aA rfl rfl) fun a Z => wla Z rfl fun a Z => ab (hK17 _ _ ?_)
   replace Z := Z.p1 10 rfl
   refine ao ?_
   refine al Z results56 (ac rfl ag) ?_
   exact ⟨by simp only [retv]; rw [jk hall om om om om, hb10, decide_eq_true hb11]; rfl, Y.ext⟩
  rw [hb11] at Z
  try simp only [qz] at hb11
  refine wln Z fun a Z => wln Z fun a Z => wln Z fun a Z => wlv Z (au rfl rfl) fun a Z => wla Z rfl fun a Z => ab (hK17 _ _ ?_)
  replace Z := Z.p1 10 rfl
  refine ao ?_
  refine al Z results56 (ac rfl ag) ?_
  exact ⟨by simp only [retv]; rw [jk hall om om om om, hb10, decide_eq_false hb11]; rfl, Y.ext⟩
 rw [hb10] at Z
 try simp only [qz] at hb10
 refine wln Z fun a Z => wln Z fun a Z => wln Z fun a Z => wlv Z (au rfl rfl) fun a Z => wlm Z rfl fun a Z => wln Z fun a Z => wln Z fun a Z => wln Z fun a Z => wlv Z (au rfl rfl) fun a Z => wla Z rfl fun a Z => ab (hK17 _ _ ?_)
 replace Z := Z.p1 10 rfl
 refine ao ?_
 refine al Z results56 (ac rfl ag) ?_
 exact ⟨by simp only [retv]; rw [jk hall om om om om, hb10]; rfl, Y.ext⟩
theorem m7 {f z : Nat} (h : z < 128 ^ (f + 1)) (hz : 128 ≤ z) : ∃ g, f = g + 1 := by
 cases f with
 | zero => exfalso; simp at h; omega
 | succ g => exact ⟨g, rfl⟩
theorem jl {f z : Nat} (h : z < 128 ^ (f + 1 + 1)) : z / 128 < 128 ^ (f + 1) := by
 rw [Nat.pow_succ] at h
 exact Nat.div_lt_of_lt_mul (by rw [Nat.mul_comm]; exact h)
theorem pl {f z : Nat} (h : 128 ≤ z) : vb (f + 1) z = UInt8.ofNat (z % 128 + 128) :: vb f (z / 128) := by rw [vb, if_neg om]
theorem o6 {f z : Nat} (h : z < 128) : vb f z = [UInt8.ofNat z] := by cases f <;> simp [vb, h]
theorem kL {n : Int} (h : small n) : zz n < 128 ^ (8 + 1) := by
 have := pB h.1 h.2
 have e : (128 : Nat) ^ (8 + 1) = 9223372036854775808 := by decide
 rw [e]; exact this
theorem nQ {n : Int} (h : small n) : zz n < 18446744073709551616 := by have := pB h.1 h.2; omega
def gs : Nat → Nat → List (UInt8 × Bool)
 | 0, z => [(UInt8.ofNat (z % 128), true)]
 | f + 1, z => if z < 128 then [(UInt8.ofNat (z % 128), true)] else (UInt8.ofNat (z % 128), false) :: gs f (z / 128)
def enc1 (x : UInt8 × Bool) : UInt8 := if x.2 then x.1 else x.1 ||| 128
def encG (x : UInt8 × Bool) : List Value := [yv x.1, .bool x.2]
def NxG (pre : List (UInt8 × Bool)) (x : UInt8 × Bool) : Prop := pre.length < 9
theorem pj {f z : Nat} (h : ¬ z < 128) : gs (f + 1) z = (UInt8.ofNat (z % 128), false) :: gs f (z / 128) := by rw [gs, if_neg h]
theorem oP {f z : Nat} (h : z < 128) : gs f z = [(UInt8.ofNat (z % 128), true)] := by cases f <;> simp [gs, h]
theorem or128 : ∀ k, k < 128 → UInt8.ofNat k ||| 128 = UInt8.ofNat (k + 128) := by decide
theorem pw : ∀ (f z : Nat), z < 128 ^ (f + 1) → (gs f z).map enc1 = vb f z
 | 0, z, h => by simp [gs, vb, enc1] at h ⊢; rw [Nat.mod_eq_of_lt h]
 | f + 1, z, h => by
  unfold gs vb
  split
  ·rename_i h1
   simp [enc1, Nat.mod_eq_of_lt h1]
  ·rw [List.map_cons, pw f _ (jl h), enc1]
   simp only [Bool.false_eq_true, if_false]
   rw [or128 _ (Nat.mod_lt _ de)]
def cu (n : Int) : Nat := (n % 18446744073709551616).toNat
theorem v_zz {P : Program} {w : World} {L : List (Nat × Value)} {dst : Option Tmp} {T T' ty : TypeId} {pos : String} {af : Array Edge} {gd : Option (Nat × Bool)} {x y : Operand} {n : Int} (hs : small n)
  (hx : ev L x = some (.int .u64 ((cu n * 2 % 18446744073709551616 : Nat) : Int))) (hy : ev L y = some (.int .u64 ((cu (if n < 0 then -1 else 0) : Nat) : Int))) : OpV P ⟨dst, .binOp .xor T x y T', ty, pos, af, gd⟩ L w (.int .u64 ((zz n : Nat) : Int)) := by
 have h1 := hs.1
 have h2 := hs.2
 by_cases hn : n < 0
 ·rw [if_pos hn] at hy
  have e : zz n = 18446744073709551615 - cu n * 2 % 18446744073709551616 := by unfold zz cu; rw [if_pos hn]; omega
  rw [e]
  exact o5 (Nat.mod_lt _ de) hx (by rw [hy]; rfl)
 ·rw [if_neg hn] at hy
  have e : zz n = cu n * 2 % 18446744073709551616 := by unfold zz cu; rw [if_neg hn]; omega
  rw [e]
  exact pi (Nat.mod_lt _ de) hx (by rw [hy]; rfl)
theorem mG (n : Int) (w0 : World) (hs : small n) :
  Ret Tryz.prog 81 #[iv n] w0 fun v w => v = .int .u64 ((zz n : Nat) : Int) ∧ Ext No w0 w := by
 have hs1 := hs.1
 have hs2 := hs.2
 refine aC func81 rfl ntmps81 (lb rfl) fun a Z => ?_
 replace Z := Z.p1 0 rfl
 replace Y : St No w0 [] w0 := St.init w0
 refine aa fun K1 hK1 => wla Z rfl fun a Z => ab (hK1 _ _ <| ah fun K2 hK2 => ?_)
 refine aa fun K3 hK3 => wlm Z rfl fun a Z => wlv Z (v_lt rfl rfl) fun a Z => ab (hK3 _ _ ?_)
 refine ax Z rfl (fun hc1 => ?_) (fun hc1 => ?_)
 ·rw [hc1] at Z
  try simp only [qz] at hc1
  refine aa fun K4 hK4 => wlm Z rfl fun a Z => wlv Z (j0 rfl om om) fun a Z => wlv Z ((dm rfl kr underlying114).asi (m' := (((-n).toNat : Nat) : Int)) om) fun a Z => wlv Z (mP (m := (-n).toNat) (n := 2) om rfl rfl) fun a Z => wlv Z (no (m := ((-n).toNat * 2)) (n := 1) om om rfl rfl) fun a Z => wla Z rfl fun a Z => ab (hK4 _ _ ?_)
  replace Z := Z.p2 0 2 rfl
  refine ao ?_
  refine al Z results81 (ac rfl ag) ?_
  refine ⟨congrArg (Value.int .u64) ?_, Y.ext⟩
  unfold zz
  split <;> omega
 rw [hc1] at Z
 try simp only [qz] at hc1
 refine ap <| hK2 _ _ <| aa fun K5 hK5 => wlm Z rfl fun a Z => wlv Z ((dm rfl kr underlying114).asi (m' := (((n).toNat : Nat) : Int)) om) fun a Z => wlv Z (mP (m := (n).toNat) (n := 2) om rfl rfl) fun a Z => wla Z rfl fun a Z => ab (hK5 _ _ ?_)
 replace Z := Z.p1 2 rfl
 refine ao ?_
 refine al Z results81 (ac rfl ag) ?_
 refine ⟨congrArg (Value.int .u64) ?_, Y.ext⟩
 unfold zz
 split <;> omega
theorem cw (n : Int) (w0 : World) (hs : small n) :
  Ret Tryz.prog 44 #[iv n] w0 fun v w => v = .tuple #[sv (putI n), iv 0] ∧ Ext No w0 w := by
 refine aC func44 rfl ntmps44 (lb rfl) fun a Z => ?_
 replace Z := Z.p1 0 rfl
 replace Y : St No w0 [] w0 := St.init w0
 refine aa fun K1 hK1 => wla Z rfl fun a Z => wla Z rfl fun a Z => ab (hK1 _ _ <| ah fun K2 hK2 => ?_)
 refine aa fun K3 hK3 => wlm Z rfl fun a Z => wlv Z ((v_lt rfl rfl).asb (b' := false) (by rw [decide_eq_false_iff_not]; have := hs.1; omega)) fun a Z => wlm Z rfl fun a Z => wly Z (ae rfl) fun a Z => wly Z ((v_gt rfl rfl).asb (b' := false) (by rw [decide_eq_false_iff_not]; have := hs.2; omega)) fun a Z => wlv Z (au rfl rfl) fun a Z => ab (hK3 _ _ <| aG Z rfl ?_)
 refine ap <| hK2 _ _ <| aa fun K4 hK4 => wlm Z rfl fun a Z => am Z Y de call81 rfl (mG n _ hs) ?_
 clear Z Y
 intro a w1 Z Y
 refine wla Z rfl fun a Z => ab (hK4 _ _ ?_)
 replace Z := Z.p3 2 3 4 rfl
 refine aa fun K5 hK5 => wla Z rfl fun a Z => ab (hK5 _ _ <| ah fun K6 hK6 => ?_)
 refine aq ?_
 replace Y : St No w0 [own (.slice none 0 0) 5 1 ((([] : By)).map fun b => [yv b])] w1 := Y.nil_own
 refine aT (fun m a w => ∃ (f : Nat) (z : Nat) (bs : By) (v : Value), m = f ∧ (bs ++ vb f z = putI n) ∧ (z < 128 ^ (f + 1)) ∧ (bs.length + f = 8) ∧ (z < 18446744073709551616) ∧ Fr 31 [(2, sv ([])), (3, iv 0), (4, .int .u64 (z : Int)), (5, v)] [] a ∧ St No w0 [own v 5 1 ((bs).map fun b => [yv b])] w) _ ⟨8, zz n, [], .slice none 0 0, rfl, rfl, kL hs, rfl, nQ hs, Z.pick [2, 3, 4, 5], Y⟩ ?_
 rintro _ a w2 ⟨f, z, bs, v, rfl, hb, hz, hl, hz6, Z, Y⟩
 refine ah fun K7 hK7 => aa fun K8 hK8 => wlm Z rfl fun a Z => wlv Z (v_ge rfl rfl) fun a Z => ab (hK8 _ _ ?_)
 refine ax Z rfl (fun hc1 => ?_) (fun hc1 => ?_)
 ·rw [hc1] at Z
  try simp only [qz] at hc1
  obtain ⟨g, rfl⟩ := m7 hz om
  rw [pl om] at hb
  refine ap <| hK7 _ _ <| aq <| aa fun K9 hK9 => wlm Z rfl fun a Z => wlm Z rfl fun a Z => wlv Z (pL (m := z) (n := 128) om rfl rfl) fun a Z => wlv Z (pZ (m := (z % 128)) (n := 128) om rfl rfl) fun a Z => wlv Z (fq (n := ((z % 128) + 128)) rfl kr underlying5) fun a Z => aE (E := 5) (sz := 1) rfl [[yv (UInt8.ofNat ((z % 128) + 128))]] kr sm rfl de de Z Y ?_
  clear Z Y
  intro a w3 Z Y
  refine aX (i := 1) (sT := 68) (inf := Tryz.t5) (z := yv (0 : UInt8)) (b := 0) (off := 0) (m := 0) (c := 0) rfl rfl rfl (Y.ow 0 rfl) sm underlying68 rfl rfl rfl rfl de (by simp [Value.oneCell', yv, wv, sv]) (by have hby : Tryz.t5.bytes = 1 := rfl; simp [big, hby] <;> omega) (by have hby : Tryz.t5.bytes = 1 := rfl; simp [big, hby] <;> omega) de Z Y fun a w4 s2 Z Y _ => ?_
  rw [show ((bs).map fun b => [yv b]) ++ ([[yv (UInt8.ofNat ((z % 128) + 128))]]) = ((bs ++ [(UInt8.ofNat ((z % 128) + 128))]).map fun b => [yv b]) from by simp] at Y
  refine wla Z rfl fun a Z => ab (hK9 _ _ ?_)
  replace Z := Z.p4 2 3 4 5 rfl
  replace Y := Y.k1 2 rfl
  refine ar <| wlm Z rfl fun a Z => wlv Z (pG (m := z) (n := 128) om om rfl rfl) fun a Z => wla Z rfl fun a Z => ab ?_
  refine ⟨_, ?_, g, z / 128, bs ++ [UInt8.ofNat (z % 128 + 128)], s2, rfl, (by rw [List.append_assoc]; exact hb), (jl hz), (by rw [List.length_append]; simp; omega), om, Z.pick [2, 3, 4, 5], Y⟩
  omega
 rw [hc1] at Z
 try simp only [qz] at hc1
 rw [o6 om] at hb
 refine aM <| hK6 _ _ <| aa fun K10 hK10 => wlm Z rfl fun a Z => wlm Z rfl fun a Z => wlv Z (fq (n := z) rfl kr underlying5) fun a Z => aE (E := 5) (sz := 1) rfl [[yv (UInt8.ofNat z)]] kr sm rfl de de Z Y ?_
 clear Z Y
 intro a w5 Z Y
 refine aX (i := 1) (sT := 68) (inf := Tryz.t5) (z := yv (0 : UInt8)) (b := 0) (off := 0) (m := 0) (c := 0) rfl rfl rfl (Y.ow 0 rfl) sm underlying68 rfl rfl rfl rfl de (by simp [Value.oneCell', yv, wv, sv]) (by have hby : Tryz.t5.bytes = 1 := rfl; simp [big, hby] <;> omega) (by have hby : Tryz.t5.bytes = 1 := rfl; simp [big, hby] <;> omega) de Z Y fun a w6 s3 Z Y _ => ?_
 rw [show ((bs).map fun b => [yv b]) ++ ([[yv (UInt8.ofNat z)]]) = ((bs ++ [(UInt8.ofNat z)]).map fun b => [yv b]) from by simp] at Y
 refine wlv Z (dw (Y.ow 1 rfl) rfl underlying68 underlying5 underlying9) fun a Z => wla Z rfl fun a Z => wla Z rfl fun a Z => ab (hK10 _ _ ?_)
 replace Z := Z.p2 2 3 rfl
 replace Y : St No w0 [] w6 := Y.mask [false, false]
 refine ao ?_
 refine al Z results44 (ac rfl (ac rfl ag)) ?_
 exact ⟨by rw [← hb]; rfl, Y.ext⟩
theorem lV (z : Nat) (w0 : World) :
  Ret Tryz.prog 110 #[.int .u64 (z : Int)] w0 (MemR w0 (fun b : Nat => .func (.func 120) #[] #[pt b]) (fun b => [blk b [.int .u64 (z : Int)] 114]) (fun _ => True)) := by
 refine aC func110 rfl ntmps110 (lb rfl) fun a Z => ?_
 replace Z := Z.p1 0 rfl
 replace Y : St No w0 [] w0 := St.init w0
 refine aa fun K1 hK1 => bh Z Y de rfl (cs := [.int .u64 (z : Int)]) rfl ?_
 clear Z Y
 intro a w1 Z Y
 refine wla Z rfl fun a Z => ab (hK1 _ _ <| aa fun K2 hK2 => ?_)
 refine wlv Z (cG rfl rfl) fun a Z => wla Z rfl fun a Z => ab (hK2 _ _ <| ao ?_)
 refine al Z results110 (ac rfl ag) ?_
 exact ⟨w0.hz, rfl, trivial, Y.ext, St.out (H := []) Y⟩
theorem kt {M : Nat → Prop} {w0 : World} (z0 lp bg : Nat) (J Jx : List (UInt8 × Bool) → Ent → Prop) (hY : Rounds Tryz.prog M w0 lp encG NxG J Jx) (e0 : Ent) (ws : World) (hz0 : z0 < 128 ^ (8 + 1)) (hz06 : z0 < 18446744073709551616) (hJ : J [] e0) (Y : St M w0 [e0, blk bg [.int .u64 (z0 : Int)] 114] ws) :
  Ret Tryz.prog 120 #[.func (.yield lp) #[] #[], pt bg] ws fun _ w => ∃ e1 Hi1, St M w0 (e1 :: Hi1) w ∧ ((∃ xs, (xs = gs 8 z0 ∧ ∃ z1 : Nat, Hi1 = [blk bg [.int .u64 (z1 : Int)] 114]) ∧ J xs e1) ∨ (∃ pre, (∃ z1 : Nat, Hi1 = [blk bg [.int .u64 (z1 : Int)] 114]) ∧ Jx pre e1)) := by
 refine aC func120 rfl ntmps120 (lb rfl) fun a Z => ?_
 replace Z := Z.p2 0 1 rfl
 skip
 refine aq <| aT (fun m a w => ∃ (f : Nat) (z : Nat) (e : Ent) (dn : List (UInt8 × Bool)), m = f ∧ (dn ++ gs f z = gs 8 z0) ∧ (z < 128 ^ (f + 1)) ∧ (dn.length + f = 8) ∧ (z < 18446744073709551616) ∧ (J dn e) ∧ Fr 18 [(0, .func (.yield lp) #[] #[]), (1, pt bg)] [] a ∧ St M w0 [e, blk bg [.int .u64 (z : Int)] 114] w) _ ⟨8, z0, e0, [], rfl, rfl, hz0, rfl, hz06, hJ, Z.pick [0, 1], Y⟩ ?_
 rintro _ a w1 ⟨f, z, e, dn, rfl, hg, hz, hl, hz6, hJ, Z, Y⟩
 refine aq <| aa fun K1 hK1 => wlv Z (ld Y 1 rfl rfl (isAgg114 _) rfl) fun a Z => wlv Z (v_lt rfl rfl) fun a Z => wla Z rfl fun a Z => ab (hK1 _ _ <| ah fun K2 hK2 => ?_)
 refine aa fun K3 hK3 => wlm Z rfl fun a Z => wlv Z (ld Y 1 rfl rfl (isAgg114 _) rfl) fun a Z => wlv Z ((mS (m := z) (k := 7) om om rfl rfl).asi (m' := ((z % 128 : Nat) : Int)) rfl) fun a Z => wlv Z (fq (n := (z % 128)) rfl kr underlying5) fun a Z => wlm Z rfl fun a Z => wl_r (eY rfl rfl (hY.yield (pre := dn) (x := (UInt8.ofNat (z % 128), decide ((z : Int) < 128))) (by show dn.length < 9; omega) hJ (Y.only (i := 0) rfl))) rfl rfl Z ?_
 clear Z
 intro a v w2 hR Z
 obtain ⟨y1, e2, rfl, hx, hok, hft, hJt, hJf⟩ := hR
 replace Y := Y.exchange (k := 0) rfl hx hok hft
 replace Y : St M w0 [_, _] w2 := Y
 clear hx hok hft
 refine wlv Z (bp rfl) fun a Z => wlm Z rfl fun a Z => ?_
 rcases Bool.eq_false_or_eq_true (!y1) with hb3 | hb3
 ·rw [hb3] at Z
  try simp only [qz] at hb3
  have hJ := hJf hb3
  refine wln Z fun a Z => wlv Z (aA rfl rfl) fun a Z => ab (hK3 _ _ ?_)
  replace Z := Z.p3 0 1 15 rfl
  refine aD Z rfl ?_
  refine ao ?_
  refine al Z results120 ag ?_
  first | exact ⟨_, _, Y, .inl ⟨_, ⟨rfl, _, rfl⟩, hJ⟩⟩ | exact ⟨_, _, Y, .inr ⟨_, ⟨_, rfl⟩, hJ⟩⟩
 rw [hb3] at Z
 try simp only [qz] at hb3
 have hJ := hJt hb3
 refine wly Z (ae rfl) fun a Z => wlv Z (au rfl rfl) fun a Z => ab (hK3 _ _ ?_)
 replace Z := Z.p3 0 1 15 rfl
 refine ax Z rfl (fun hc4 => ?_) (fun hc4 => ?_)
 ·rw [hc4] at Z
  try simp only [qz] at hc4
  rw [decide_eq_true hc4] at hJ
  rw [oP om] at hg
  rw [hg] at hJ
  refine ao ?_
  refine al Z results120 ag ?_
  first | exact ⟨_, _, Y, .inl ⟨_, ⟨rfl, _, rfl⟩, hJ⟩⟩ | exact ⟨_, _, Y, .inr ⟨_, ⟨_, rfl⟩, hJ⟩⟩
 rw [hc4] at Z
 try simp only [qz] at hc4
 rw [decide_eq_false hc4] at hJ
 obtain ⟨g, rfl⟩ := m7 hz om
 rw [pj om] at hg
 refine ap <| hK2 _ _ <| ar <| wlv Z (ld Y 1 rfl rfl (isAgg114 _) rfl) fun a Z => wlv Z ((nF (m := z) (n := 7) om rfl rfl).asi (m' := ((z / 128 : Nat) : Int)) rfl) fun a Z => aL 1 Z Y rfl rfl rfl (sizeOf114 _) rfl (lb rfl) (ds := [.int .u64 ((z / 128 : Nat) : Int)]) rfl rfl ?_
 clear Z Y
 intro a w3 Z Y
 refine ab ?_
 refine ⟨_, ?_, g, z / 128, e2, dn ++ [(UInt8.ofNat (z % 128), false)], rfl, (by rw [List.append_assoc]; exact hg), (jl hz), (by rw [List.length_append]; simp; omega), om, hJ, Z.pick [0, 1], Y⟩
 omega
theorem jz {M : Nat → Prop} {w0 : World} (z0 bg : Nat) (hz0 : z0 < 128 ^ (8 + 1)) (hz06 : z0 < 18446744073709551616) :
  Iter Tryz.prog 120 [pt bg] encG NxG (fun xs Hi1 => xs = gs 8 z0 ∧ ∃ z1 : Nat, Hi1 = [blk bg [.int .u64 (z1 : Int)] 114]) (fun pre Hi1 => ∃ z1 : Nat, Hi1 = [blk bg [.int .u64 (z1 : Int)] 114]) M w0 [blk bg [.int .u64 (z0 : Int)] 114] :=
 fun lp J Jx w e hY hJ Y => kt z0 lp bg J Jx hY e w hz0 hz06 hJ Y
theorem ip (n : Int) (w0 : World) (hs : small n) :
  Ret Tryz.prog 96 #[iv n] w0 fun v w => v = .tuple #[sv (putI n), iv 0] ∧ Ext No w0 w := by
 have hs1 := hs.1
 have hs2 := hs.2
 refine aC func96 rfl ntmps96 (lb rfl) fun a Z => ?_
 replace Z := Z.p1 0 rfl
 replace Y : St No w0 [] w0 := St.init w0
 refine aa fun K1 hK1 => wla Z rfl fun a Z => wla Z rfl fun a Z => ab (hK1 _ _ <| ah fun K2 hK2 => ?_)
 refine aa fun K3 hK3 => wlm Z rfl fun a Z => wlv Z ((v_lt rfl rfl).asb (b' := false) (by rw [decide_eq_false_iff_not]; have := hs.1; omega)) fun a Z => wlm Z rfl fun a Z => wly Z (ae rfl) fun a Z => wly Z ((v_gt rfl rfl).asb (b' := false) (by rw [decide_eq_false_iff_not]; have := hs.2; omega)) fun a Z => wlv Z (au rfl rfl) fun a Z => ab (hK3 _ _ <| aG Z rfl ?_)
 refine ap <| hK2 _ _ <| aa fun K4 hK4 => aY Z Y de (zeroValue68 _) (cs := [.slice none 0 0]) rfl ?_
 clear Z Y
 intro a w1 Z Y
 refine ab (hK4 _ _ ?_)
 replace Z := Z.p4 0 2 3 4 rfl
 refine ah fun K5 hK5 => aa fun K6 hK6 => wlm Z rfl fun a Z => wlv Z ((dm rfl kr underlying114).asi (m' := ((cu (n) : Nat) : Int)) rfl) fun a Z => wlv Z (oo (m := cu n) (n := 1) om rfl rfl) fun a Z => wlm Z rfl fun a Z => wlv Z (o4 om om rfl rfl) fun a Z => wlv Z ((dm rfl kr underlying114).asi (m' := ((cu (if n < 0 then -1 else 0) : Nat) : Int)) rfl) fun a Z => wlv Z (v_zz hs rfl rfl) fun a Z => aR Z Y de call110 rfl (lV (zz n) _) ?_
 clear Z Y
 intro a w2 x1 hp Z Y
 revert x1 hp Z Y; rintro bg hp Z Y
 clear hp
 replace Y : St No w0 [_, _] w2 := Y
 refine ab (hK6 _ _ ?_)
 replace Z := Z.p4 2 3 4 20 rfl
 refine aq ?_
 replace Y : St No w0 [own (.slice none 0 0) 5 1 ((([] : List (UInt8 × Bool)).map enc1).map fun b => [yv b]), blk bg [.int .u64 (zz n : Int)] 114, blk w0.hz [.slice none 0 0] 68] w2 := Y.nil_own
 replace Y : St No w0 [blk w0.hz [.slice none 0 0] 68, own (.slice none 0 0) 5 1 ((([] : List (UInt8 × Bool)).map enc1).map fun b => [yv b]), blk bg [.int .u64 (zz n : Int)] 114] w2 := Y.select [2, 0, 1] de
 replace Z : Fr 33 [(2, sv ([])), (3, iv 0), (4, pt w0.hz), (20, .func (.func 120) #[] #[pt bg])] [] a := Z.pick [2, 3, 4, 20]
 refine da (M := No) (w0 := w0) (encs := encG) (Hi := [blk bg [.int .u64 (zz n : Int)] 114]) (Hc := [blk w0.hz [.slice none 0 0] 68, own (.slice none 0 0) 5 1 ((([] : List (UInt8 × Bool)).map enc1).map fun b => [yv b])]) (fun pre H => ∃ (v : Value), H = [blk w0.hz [v] 68, own v 5 1 ((pre.map enc1).map fun b => [yv b])]) (fun _ _ _ => False) (fun pre xs H a => Fr 33 [(2, sv ([])), (3, iv 0), (4, pt w0.hz), (20, .func (.func 120) #[] #[pt bg]), (5, yv xs.1), (6, .bool xs.2)] [] a ∧ ∃ (v : Value), H = [blk w0.hz [v] 68, own v 5 1 ((pre.map enc1).map fun b => [yv b])]) rfl call120 Z Y (jz (zz n) bg (kL hs) (nQ hs)) de (fun _ => rfl) ⟨.slice none 0 0, rfl⟩ ?_ ?_ ?_ ?_
 ·clear Z Y
  rintro lp pre xs _ a w3 hnx ⟨v, rfl⟩ Z Y
  generalize (join [blk w0.hz [v] 68, own v 5 1 ((pre.map enc1).map fun b => [yv b])]).foot = M1 at Y ⊢
  replace Z : Fr 33 [(22, .bool xs.2), (21, yv xs.1), (2, sv ([])), (3, iv 0), (4, pt w0.hz), (20, .func (.func 120) #[] #[pt bg])] [] a := Z
  refine aa fun K7 hK7 => wla Z rfl fun a Z => ab (hK7 _ _ <| ar ?_)
  refine wla Z rfl fun a Z => ab ?_
  exact ⟨_, ⟨Z.pick [2, 3, 4, 20, 5, 6], v, rfl⟩, Y⟩
 ·rintro lp pre xs _ a w4 hnx ⟨Z, v, rfl⟩ hout hrec hnl Y
  clear hrec hnl
  generalize (join [blk w0.hz [v] 68, own v 5 1 ((pre.map enc1).map fun b => [yv b])]).foot = M1 at Y hout ⊢
  refine aq <| ah fun K8 hK8 => aa fun K9 hK9 => wlm Z rfl fun a Z => wlv Z (bp rfl) fun a Z => ab (hK9 _ _ ?_)
  refine ax Z rfl (fun hc2 => ?_) (fun hc2 => ?_)
  ·rw [hc2] at Z
   try simp only [qz] at hc2
   refine ar <| wlm Z rfl fun a Z => wlv Z (v_yor (a := xs.1) (b := (128 : UInt8)) rfl rfl) fun a Z => wla Z rfl fun a Z => ab <| hK8 _ _ ?_
   replace Z := Z.p4 2 3 4 5 rfl
   refine ar <| wlv Z (ld Y 0 rfl rfl (isAgg68 _) rfl) fun a Z => wlm Z rfl fun a Z => aE (E := 5) (sz := 1) rfl [[yv (xs.1 ||| (128 : UInt8))]] kr sm rfl de de Z Y ?_
   clear Z Y
   intro a w5 Z Y
   refine aX (i := 2) (sT := 68) (inf := Tryz.t5) (z := yv (0 : UInt8)) (b := 0) (off := 0) (m := 0) (c := 0) rfl rfl rfl (Y.ow 0 rfl) sm underlying68 rfl rfl rfl rfl de (by simp [Value.oneCell', yv, wv, sv]) (by have hby : Tryz.t5.bytes = 1 := rfl; have : pre.length < 9 := hnx; simp [big, hby] <;> omega) (by have hby : Tryz.t5.bytes = 1 := rfl; have : pre.length < 9 := hnx; simp [big, hby] <;> omega) de Z Y fun a w6 s3 Z Y _ => ?_
   rw [show ((pre.map enc1).map fun b => [yv b]) ++ ([[yv (xs.1 ||| (128 : UInt8))]]) = (((pre ++ [xs]).map enc1).map fun b => [yv b]) from by simp [enc1, hc2]] at Y
   refine cq 1 Z Y (Y.ow 2 rfl) rfl rfl rfl (sizeOf68 _) (lb rfl) (ds := [s3]) rfl rfl ?_
   clear Z Y
   intro a w7 Z Y
   refine ab ?_
   exact ⟨_, ⟨s3, rfl⟩, Y.select [1, 2] de⟩
  rw [hc2] at Z
  try simp only [qz] at hc2
  refine ap <| hK8 _ _ <| ar <| wlv Z (ld Y 0 rfl rfl (isAgg68 _) rfl) fun a Z => wlm Z rfl fun a Z => aE (E := 5) (sz := 1) rfl [[yv xs.1]] kr sm rfl de de Z Y ?_
  clear Z Y
  intro a w8 Z Y
  refine aX (i := 2) (sT := 68) (inf := Tryz.t5) (z := yv (0 : UInt8)) (b := 0) (off := 0) (m := 0) (c := 0) rfl rfl rfl (Y.ow 0 rfl) sm underlying68 rfl rfl rfl rfl de (by simp [Value.oneCell', yv, wv, sv]) (by have hby : Tryz.t5.bytes = 1 := rfl; have : pre.length < 9 := hnx; simp [big, hby] <;> omega) (by have hby : Tryz.t5.bytes = 1 := rfl; have : pre.length < 9 := hnx; simp [big, hby] <;> omega) de Z Y fun a w9 s4 Z Y _ => ?_
  rw [show ((pre.map enc1).map fun b => [yv b]) ++ ([[yv xs.1]]) = (((pre ++ [xs]).map enc1).map fun b => [yv b]) from by simp [enc1, hc2]] at Y
  refine cq 1 Z Y (Y.ow 2 rfl) rfl rfl rfl (sizeOf68 _) (lb rfl) (ds := [s4]) rfl rfl ?_
  clear Z Y
  intro a w10 Z Y
  refine ab ?_
  exact ⟨_, ⟨s4, rfl⟩, Y.select [1, 2] de⟩
 ·rintro D pre _ _ a w11 ⟨rfl, z1, rfl⟩ ⟨v, rfl⟩ Y Z
  replace Z : Fr 33 [(2, sv ([])), (3, iv 0), (4, pt w0.hz), (20, .func (.func 120) #[] #[pt bg])] [{ target := .collected D, args := #[] }] a := Z
  replace Y : St No w0 [_, _, _, _] w11 := Y
  refine hK5 _ _ <| aa fun K10 hK10 => wlv Z (ld Y 1 rfl rfl (isAgg68 _) rfl) fun a Z => wlv Z (dw (Y.ow 2 rfl) rfl underlying68 underlying5 underlying9) fun a Z => wla Z rfl fun a Z => wla Z rfl fun a Z => ab (hK10 _ _ <| ao ?_)
  have hD := Y.g 0 rfl
  replace Y := Y.unmark (i := 0) (o' := .deferred none) rfl
  replace Y : St No w0 [_, _, _] _ := Y
  refine cb Z hD results96 (ac rfl (ac rfl ag)) ?_
  exact ⟨by rw [pw 8 _ (kL hs)]; rfl, Y.ext⟩
 ·rintro D c pre _ _ a w12 _ h
  exact h.elim
def bld (T : TypeId) (b : Nat) (ad v : Value) (bs : By) : Ent := join [blk b [ad, v] T, own v 5 1 ((bs).map fun b => [yv b])]
theorem gw {M : Nat → Prop} {w0 w : World} {T : TypeId} {b : Nat} {ad v : Value} {bs : By} {H : List Ent} (h : St M w0 (bld T b ad v bs :: H) w) : St M w0 ([blk b [ad, v] T, own v 5 1 ((bs).map fun b => [yv b])] ++ H) w := St.unjoin _ _ h
theorem jQ (T : TypeId) (b : Nat) (v : Value) (w0 : World) (hlie : liesAt Tryz.prog Tryz.prog.depth T (2 / Tryz.prog.cellsOf T) 0 86 1 = true) (hb : (blk b [.pointer none, v] T).ok w0) :
  Ret Tryz.prog 97 #[pt b] w0 fun u w => u = .tuple #[] ∧ Ext (· = b) w0 w ∧ (blk b [pt b, v] T).ok w := by
 refine aC func97 rfl ntmps97 (lb rfl) fun a Z => ?_
 replace Z := Z.p1 0 rfl
 replace Y : St (· = b) w0 [blk b [.pointer none, v] T] w0 := St.one hb
 refine aa fun K1 hK1 => wlm Z rfl fun a Z => wlv Z (bt rfl) fun a Z => wlv Z (ai (v := pt b) rfl kr) fun a Z => wlv Z (ld Y 0 rfl rfl (isAgg84 _) rfl) fun a Z => wlv Z (pE rfl rfl underlying84) fun a Z => ab (hK1 _ _ <| aD Z rfl ?_)
 refine ar <| wlm Z rfl fun a Z => wlm Z rfl fun a Z => wlv Z (kG (j := Tryz.t86) (Y.g 0 rfl) rfl underlying84 underlying156 rfl rfl sm) fun a Z => wlv Z (lc func111 kr kr kr kr rfl) fun a Z => wlv Z (jr (j := Tryz.t86) (Y.g 0 rfl) rfl underlying156 underlying84 rfl hlie) fun a Z => wlv Z (bt rfl) fun a Z => wlv Z (ai (v := pt b) rfl kr) fun a Z => aL 0 Z Y rfl rfl rfl (sizeOf84 _) rfl (lb rfl) (ds := [pt b, v]) rfl rfl ?_
 clear Z Y
 intro a w2 Z Y
 refine ab ?_
 refine dE Z results97 ag ?_
 exact ⟨rfl, Y.ext, Y.g 0 rfl⟩
theorem kO (T : TypeId) (b : Nat) (v : Value) (w0 : World) (hlie : liesAt Tryz.prog Tryz.prog.depth T (2 / Tryz.prog.cellsOf T) 0 86 1 = true) (hb : (blk b [pt b, v] T).ok w0) :
  Ret Tryz.prog 97 #[pt b] w0 fun u w => u = .tuple #[] ∧ Ext (· = b) w0 w ∧ (blk b [pt b, v] T).ok w := by
 refine aC func97 rfl ntmps97 (lb rfl) fun a Z => ?_
 replace Z := Z.p1 0 rfl
 replace Y : St (· = b) w0 [blk b [pt b, v] T] w0 := St.one hb
 refine aa fun K1 hK1 => wlm Z rfl fun a Z => wlv Z (bt rfl) fun a Z => wlv Z (ai (v := pt b) rfl kr) fun a Z => wlv Z (ld Y 0 rfl rfl (isAgg84 _) rfl) fun a Z => wlv Z (oA rfl rfl underlying84) fun a Z => ab (hK1 _ _ <| aG Z rfl ?_)
 refine aa fun K2 hK2 => wlm Z rfl fun a Z => wlv Z (bt rfl) fun a Z => wlv Z (ai (v := pt b) rfl kr) fun a Z => wlv Z (ld Y 0 rfl rfl (isAgg84 _) rfl) fun a Z => wlm Z rfl fun a Z => wlv Z (oX (j := Tryz.t86) rfl rfl underlying84 rfl) fun a Z => ab (hK2 _ _ ?_)
 replace Z := Z.p1 19 rfl
 refine aG Z rfl ?_
 refine ap ?_
 refine dE Z results97 ag ?_
 exact ⟨rfl, Y.ext, Y.g 0 rfl⟩
theorem ky {M : Nat → Prop} {w0 : World} (T : TypeId) (b : Nat) (v : Value) (bs : By) (s : By) (ws : World) (hlie : liesAt Tryz.prog Tryz.prog.depth T (2 / Tryz.prog.cellsOf T) 0 86 1 = true) (hne : s ≠ []) (hbn : bs.length + s.length ≤ 1000000000) (Y : St M w0 [bld T b (.pointer none) v bs] ws) :
  Ret Tryz.prog 67 #[pt b, sv s] ws fun u w => u = .tuple #[iv (s.length : Int), .nilIface] ∧ ∃ v2, St M w0 [bld T b (pt b) v2 (bs ++ s)] w := by
 refine aC func67 rfl ntmps67 (lb rfl) fun a Z => ?_
 replace Z := Z.p2 0 1 rfl
 replace Y : St M w0 [blk b [.pointer none, v] T, own v 5 1 ((bs).map fun b => [yv b])] ws := gw Y
 refine aa fun K1 hK1 => wla Z rfl fun a Z => wla Z rfl fun a Z => ab (hK1 _ _ <| aa fun K2 hK2 => ?_)
 refine wlm Z rfl fun a Z => gp 0 Z Y de call97 rfl rfl (jQ T b _ _ hlie (Y.g 0 rfl)) rfl ?_
 clear Z Y
 intro a w1 Z Y
 refine ab (hK2 _ _ <| aa fun K3 hK3 => ?_)
 refine wlm Z rfl fun a Z => wlm Z rfl fun a Z => wlv Z (bt rfl) fun a Z => wlv Z (ai (v := po b 1) rfl kr) fun a Z => wlv Z (ld Y 0 rfl rfl (isAgg68 _) rfl) fun a Z => wlm Z rfl fun a Z => eH (i := 1) (sT := 68) (uT := 9) (inf := Tryz.t5) (bs := bs) (s := s) rfl rfl rfl hne underlying68 underlying9 rfl rfl rfl rfl om de Z Y ?_
 clear Z Y
 intro a w2 s1 Z Y
 refine wlv Z (bt rfl) fun a Z => wlv Z (ai (v := po b 1) rfl kr) fun a Z => cq 0 Z Y (Y.ow 1 rfl) rfl rfl rfl (sizeOf68 _) (lb rfl) (ds := [pt b, s1]) rfl rfl ?_
 clear Z Y
 intro a w3 Z Y
 refine ab (hK3 _ _ ?_)
 replace Z := Z.p3 1 4 5 rfl
 refine aa fun K4 hK4 => wlm Z rfl fun a Z => wlv Z (aZ rfl rfl (runUnderlying9 _)) fun a Z => wla Z rfl fun a Z => wla Z rfl fun a Z => ab (hK4 _ _ <| ao ?_)
 refine al Z results67 (ac rfl (ac rfl ag)) ?_
 replace Y : St M w0 [blk b [pt b, s1] T, own s1 5 1 ((bs ++ s).map fun b => [yv b])] _ := Y.select [0, 1] de
 exact ⟨rfl, s1, St.join [blk b [pt b, s1] T, own s1 5 1 ((bs ++ s).map fun b => [yv b])] [] Y⟩
theorem lY {M : Nat → Prop} {w0 : World} (T : TypeId) (b : Nat) (v : Value) (bs : By) (s : By) (ws : World) (hlie : liesAt Tryz.prog Tryz.prog.depth T (2 / Tryz.prog.cellsOf T) 0 86 1 = true) (hne : s ≠ []) (hbn : bs.length + s.length ≤ 1000000000) (Y : St M w0 [bld T b (pt b) v bs] ws) :
  Ret Tryz.prog 67 #[pt b, sv s] ws fun u w => u = .tuple #[iv (s.length : Int), .nilIface] ∧ ∃ v2, St M w0 [bld T b (pt b) v2 (bs ++ s)] w := by
 refine aC func67 rfl ntmps67 (lb rfl) fun a Z => ?_
 replace Z := Z.p2 0 1 rfl
 replace Y : St M w0 [blk b [pt b, v] T, own v 5 1 ((bs).map fun b => [yv b])] ws := gw Y
 refine aa fun K1 hK1 => wla Z rfl fun a Z => wla Z rfl fun a Z => ab (hK1 _ _ <| aa fun K2 hK2 => ?_)
 refine wlm Z rfl fun a Z => gp 0 Z Y de call97 rfl rfl (kO T b _ _ hlie (Y.g 0 rfl)) rfl ?_
 clear Z Y
 intro a w1 Z Y
 refine ab (hK2 _ _ <| aa fun K3 hK3 => ?_)
 refine wlm Z rfl fun a Z => wlm Z rfl fun a Z => wlv Z (bt rfl) fun a Z => wlv Z (ai (v := po b 1) rfl kr) fun a Z => wlv Z (ld Y 0 rfl rfl (isAgg68 _) rfl) fun a Z => wlm Z rfl fun a Z => eH (i := 1) (sT := 68) (uT := 9) (inf := Tryz.t5) (bs := bs) (s := s) rfl rfl rfl hne underlying68 underlying9 rfl rfl rfl rfl om de Z Y ?_
 clear Z Y
 intro a w2 s1 Z Y
 refine wlv Z (bt rfl) fun a Z => wlv Z (ai (v := po b 1) rfl kr) fun a Z => cq 0 Z Y (Y.ow 1 rfl) rfl rfl rfl (sizeOf68 _) (lb rfl) (ds := [pt b, s1]) rfl rfl ?_
 clear Z Y
 intro a w3 Z Y
 refine ab (hK3 _ _ ?_)
 replace Z := Z.p3 1 4 5 rfl
 refine aa fun K4 hK4 => wlm Z rfl fun a Z => wlv Z (aZ rfl rfl (runUnderlying9 _)) fun a Z => wla Z rfl fun a Z => wla Z rfl fun a Z => ab (hK4 _ _ <| ao ?_)
 refine al Z results67 (ac rfl (ac rfl ag)) ?_
 replace Y : St M w0 [blk b [pt b, s1] T, own s1 5 1 ((bs ++ s).map fun b => [yv b])] _ := Y.select [0, 1] de
 exact ⟨rfl, s1, St.join [blk b [pt b, s1] T, own s1 5 1 ((bs ++ s).map fun b => [yv b])] [] Y⟩
theorem oU {w : World} {E : TypeId} {v : Value} {bs : By} (h : (own v E 1 ((bs).map fun b => [yv b])).ok w) (hne : bs ≠ []) : ∃ g cap, v = .slice (some ⟨g, 0, none⟩) bs.length cap ∧ cap ≠ 0 := by
 obtain ⟨h1, h2, h3, h4⟩ := h
 have hn : bs.length ≠ 0 := by simpa using hne
 rcases h4 with ⟨_, h0⟩ | ⟨g, cap, cur, fz, hv, _, _, hnc, _⟩
 ·rw [List.length_map] at h0; exact absurd h0 hn
 ·rw [List.length_map] at hv hnc; exact ⟨g, cap, hv, by omega⟩
theorem jw {M : Nat → Prop} {w0 : World} (T : TypeId) (b g cap : Nat) (bs : By) (ws : World) (hne : bs ≠ []) (hcap : cap ≠ 0) (Y : St M w0 [blk b [pt b, .slice (some ⟨g, 0, none⟩) bs.length cap] T, own (.slice (some ⟨g, 0, none⟩) bs.length cap) 5 1 ((bs).map fun b => [yv b])] ws) :
  Ret Tryz.prog 68 #[pt b] ws fun u w => u = sv bs ∧ St M w0 [blk b [pt b, .slice (some ⟨g, 0, none⟩) bs.length cap] T] w := by
 refine aC func68 rfl ntmps68 (lb rfl) fun a Z => ?_
 replace Z := Z.p1 0 rfl
 skip
 refine aa fun K1 hK1 => wla Z rfl fun a Z => ab (hK1 _ _ <| ah fun K2 hK2 => ?_)
 refine aH kr ?_
 replace Z := Z.p2 0 2 rfl
 replace Y : St M w0 (own (.slice (some ⟨g, 0, none⟩) bs.length cap) 5 1 ((bs).map fun b => [yv b]) :: [blk b [pt b, .slice (some ⟨g, 0, none⟩) bs.length cap] T]) ws := Y.front (i := 1) rfl
 refine g5 10 (own (.slice (some ⟨g, 0, none⟩) bs.length cap) 5 1 ((bs).map fun b => [yv b])) (fun _ => sl (.slice (some ⟨g, 0, none⟩) bs.length cap) 1 ((bs).map fun b => [yv b])) 11 [[], [0], [1], [2], [3], [], [5], [6], [7], [8], [4, 9]] (fun i => match i with | 0 => pv (pt b) | 1 => pv (pt b) | 2 => pv (po b 1) | 3 => pv (.slice (some ⟨g, 0, none⟩) bs.length cap) | 4 => pv (pt g) | 5 => pv (pt b) | 6 => pv (pt b) | 7 => pv (po b 1) | 8 => pv (.slice (some ⟨g, 0, none⟩) bs.length cap) | 9 => pv (iv (bs.length : Int)) | 10 => fun v E => v = sv bs ∧ E = [] | _ => fun _ _ => False) Z Y kr kr kr de ?_ ?_ ?_ ?_
 ·intro i v E h
  match i, h with
  | 0, _ => exact by decide
  | 1, _ => exact by decide
  | 2, _ => exact by decide
  | 3, _ => exact by decide
  | 4, _ => exact by decide
  | 5, _ => exact by decide
  | 6, _ => exact by decide
  | 7, _ => exact by decide
  | 8, _ => exact by decide
  | 9, _ => exact by decide
  | 10, _ => exact by decide
  | i + 11, h => exact h.elim
 ·intro i hi hiq e
  match i, hi, hiq with
  | 0, _, _ => exact fun w Y => OpV.g (ae rfl)
  | 1, _, _ =>
   rintro _ _ ⟨rfl, rfl⟩
   intro w Y
   exact OpV.g (bt rfl)
  | 2, _, _ =>
   rintro _ _ ⟨rfl, rfl⟩
   intro w Y
   exact OpV.g (ai (v := po b 1) rfl kr)
  | 3, _, _ =>
   rintro _ _ ⟨rfl, rfl⟩
   intro w Y
   exact OpV.g (ld Y 1 rfl rfl (isAgg68 _) rfl)
  | 4, _, _ =>
   rintro _ _ ⟨rfl, rfl⟩
   intro w Y
   exact OpV.g (jD rfl hcap)
  | 5, _, _ => exact fun w Y => OpV.g (ae rfl)
  | 6, _, _ =>
   rintro _ _ ⟨rfl, rfl⟩
   intro w Y
   exact OpV.g (bt rfl)
  | 7, _, _ =>
   rintro _ _ ⟨rfl, rfl⟩
   intro w Y
   exact OpV.g (ai (v := po b 1) rfl kr)
  | 8, _, _ =>
   rintro _ _ ⟨rfl, rfl⟩
   intro w Y
   exact OpV.g (ld Y 1 rfl rfl (isAgg68 _) rfl)
  | 9, _, _ =>
   rintro _ _ ⟨rfl, rfl⟩
   intro w Y
   exact OpV.g ((cI (v := iv (bs.length : Int)) (vs := [.slice (some ⟨g, 0, none⟩) bs.length cap]) (by simp [evs]; rfl) (by simp [builtin, Builtin.len_, runUnderlying68]; rfl)).as rfl)
  | 10, _, h => exact absurd rfl h
 ·rintro _ _ ⟨rfl, rfl⟩ _ _ ⟨rfl, rfl⟩
  intro w Y
  exact (gU (Y.g 0 rfl) hne rfl rfl underlying137 kr).mono fun v w' ⟨h1, h2, h3, h4⟩ => ⟨h2, h3, h4, ⟨h1, rfl⟩⟩
 clear Z Y
 rintro vq _ _ ⟨⟨rfl, rfl⟩, -⟩ _ _ ⟨⟨rfl, rfl⟩, -⟩ _ _ ⟨⟨rfl, rfl⟩, -⟩ _ _ ⟨⟨rfl, rfl⟩, -⟩ _ _ ⟨⟨rfl, rfl⟩, -⟩ _ _ ⟨⟨rfl, rfl⟩, -⟩ _ _ ⟨⟨rfl, rfl⟩, -⟩ _ _ ⟨⟨rfl, rfl⟩, -⟩ _ _ ⟨⟨rfl, rfl⟩, -⟩ _ _ ⟨⟨rfl, rfl⟩, -⟩ _ _ ⟨⟨rfl, rfl⟩, -⟩ a w1 Z Y
 replace Z : Fr 14 [(3, _), (4, _), (5, _), (6, _), (7, _), (8, _), (9, _), (10, _), (11, _), (12, _), (13, _), (0, _), (2, _)] [] a := Z
 replace Y : St M w0 [_, _] w1 := Y
 refine wla Z rfl fun a Z => ab <| hK2 _ _ ?_
 replace Z := Z.p1 2 rfl
 refine ao ?_
 refine al Z results68 (ac rfl ag) ?_
 exact ⟨rfl, Y.select [1] de⟩
theorem gt {M : Nat → Prop} {w0 : World} (T : TypeId) (b : Nat) (v : Value) (bs : By) (ws : World) (hne : bs ≠ []) (Y : St M w0 [bld T b (pt b) v bs] ws) :
  Ret Tryz.prog 68 #[pt b] ws fun u w => u = sv bs ∧ St M w0 [blk b [pt b, v] T] w := by
 have Y : St M w0 [blk b [pt b, v] T, own v 5 1 ((bs).map fun b => [yv b])] ws := gw Y
 obtain ⟨g, cap, rfl, hcap⟩ := oU (Y.g 1 rfl) hne
 exact jw T b g cap bs ws hne hcap Y
end Go.Proofs.YtddfkkdanpmnaaaGreatDoor
