/- Texts joined: RefA, RefB, RefC, RefD, RefE, WirA, BldA, WshN, RefI, LgA, LgB, LgC. -/
import Derived.Test.YtddfkkdanpmnaaaDoorPPC
import Derived.Test.YtddfkkdanpmnaaaDoorPPB
import Derived.Test.YtddfkkdanpmnaaaDoorPPA
import Derived.Laws.StructEq
set_option linter.unusedVariables false
set_option linter.unusedSimpArgs false
set_option maxRecDepth 4000
set_option maxHeartbeats 4000000
namespace Go.Proofs.YtddfkkdanpmnaaaDoor
open Go.RowKit Go.PW _root_.Go.Proofs.Tryd
theorem iM (w0 : World) :
  Ret Tryd.prog 103 #[] w0 (MemR w0 (fun v : Value => v) (fun v => [own v 133 1 ((kOf).map fun x => [wv x])]) (fun _ => True)) := by
 refine aF func103 rfl ntmps103 (lb rfl) fun a Z => ?_
 replace Z : Fr 2 [] [] a := Z
 replace Y : St No w0 [] w0 := St.init w0
 refine aa fun K1 hK1 => wla Z rfl fun a Z => ab (hK1 _ _ <| aa fun K2 hK2 => ?_)
 refine ax (E := 133) (sz := 1) rfl [[wv (1116352408#32)], [wv (1899447441#32)], [wv (3049323471#32)], [wv (3921009573#32)], [wv (961987163#32)], [wv (1508970993#32)], [wv (2453635748#32)], [wv (2870763221#32)], [wv (3624381080#32)], [wv (310598401#32)], [wv (607225278#32)], [wv (1426881987#32)], [wv (1925078388#32)], [wv (2162078206#32)], [wv (2614888103#32)], [wv (3248222580#32)], [wv (3835390401#32)], [wv (4022224774#32)], [wv (264347078#32)], [wv (604807628#32)], [wv (770255983#32)], [wv (1249150122#32)], [wv (1555081692#32)], [wv (1996064986#32)], [wv (2554220882#32)], [wv (2821834349#32)], [wv (2952996808#32)], [wv (3210313671#32)], [wv (3336571891#32)], [wv (3584528711#32)], [wv (113926993#32)], [wv (338241895#32)], [wv (666307205#32)], [wv (773529912#32)], [wv (1294757372#32)], [wv (1396182291#32)], [wv (1695183700#32)], [wv (1986661051#32)], [wv (2177026350#32)], [wv (2456956037#32)], [wv (2730485921#32)], [wv (2820302411#32)], [wv (3259730800#32)], [wv (3345764771#32)], [wv (3516065817#32)], [wv (3600352804#32)], [wv (4094571909#32)], [wv (275423344#32)], [wv (430227734#32)], [wv (506948616#32)], [wv (659060556#32)], [wv (883997877#32)], [wv (958139571#32)], [wv (1322822218#32)], [wv (1537002063#32)], [wv (1747873779#32)], [wv (1955562222#32)], [wv (2024104815#32)], [wv (2227730452#32)], [wv (2361852424#32)], [wv (2428436474#32)], [wv (2756734187#32)], [wv (3204031479#32)], [wv (3329325298#32)]] kr sm rfl de de Z Y ?_
 clear Z Y
 intro a w1 Z Y
 refine wla Z rfl fun a Z => ab (hK2 _ _ <| aw ?_)
 refine ar Z results103 (ae rfl ag) ?_
 exact ⟨(.slice (some ⟨w0.hz, 0, none⟩) 64 64), rfl, trivial, Y.ext, St.out (E := [own (.slice (some ⟨w0.hz, 0, none⟩) 64 64) 133 1 ((kOf).map fun x => [wv x])]) (H := []) Y⟩
theorem eu {α : Type} {l : List α} {i k : Nat} (d : α) (h : i < k) : (l.take k).getD i d = l.getD i d := by
 rw [List.getD_eq_getElem?_getD, List.getElem?_take_of_lt h, ← List.getD_eq_getElem?_getD]
theorem jq (s : By) (w0 : World) (hs : s.length ≤ 100000000) :
  Ret Tryd.prog 88 #[sv s] w0 (MemR w0 (fun v : Value => v) (fun v => [own v 5 1 ((padded s).map fun b => [yv b])]) (fun _ => True)) := by
 refine aF func88 rfl ntmps88 (lb rfl) fun a Z => ?_
 replace Z := Z.p1 0 rfl
 replace Y : St No w0 [] w0 := St.init w0
 refine aa fun K1 hK1 => wla Z rfl fun a Z => ab (hK1 _ _ <| aa fun K2 hK2 => ?_)
 refine wla Z rfl fun a Z => ab (hK2 _ _ <| ac fun K3 hK3 => ?_)
 refine aa fun K4 hK4 => wla Z rfl fun a Z => ab (hK4 _ _ <| am ?_)
 replace Y : St No w0 [own (.slice none 0 0) 5 1 ((s.take 0).map fun b => [yv b])] w0 := Y.nil_own
 refine aV (fun m a w => ∃ (k : Nat) (v : Value), m = s.length - k ∧ (k ≤ s.length) ∧ Fr 43 [(0, sv s), (2, .slice none 0 0), (3, v), (4, iv (k : Int))] [] a ∧ St No w0 [own v 5 1 ((s.take k).map fun b => [yv b])] w) _ ⟨0, .slice none 0 0, rfl, Nat.zero_le _, Z.pick [0, 2, 3, 4], Y.select [0] de⟩ ?_
 rintro _ a w1 ⟨k, v, rfl, hk, Z, Y⟩
 refine ac fun K5 hK5 => aa fun K6 hK6 => wlm Z rfl fun a Z => wlm Z rfl fun a Z => wlv Z (bn rfl rfl (runUnderlying9 _)) fun a Z => wlv Z (v_lt rfl rfl) fun a Z => ab (hK6 _ _ ?_)
 refine az Z rfl (fun hc1 => ?_) (fun hc1 => ?_)
 ·rw [hc1] at Z
  try simp only [qz] at hc1
  refine ap <| hK5 _ _ <| ac fun K7 hK7 => am <| ao <| wlm Z rfl fun a Z => wlm Z rfl fun a Z => wlm Z rfl fun a Z => wlv Z (fG (k := k) rfl rfl (runUnderlying9 _) om om) fun a Z => ax (E := 5) (sz := 1) rfl [[yv (s.getD k 0)]] kr sm rfl de de Z Y ?_
  clear Z Y
  intro a w2 Z Y
  refine aS (i := 1) (sT := 71) (inf := Tryd.t5) (z := yv (0 : UInt8)) (b := 0) (off := 0) (m := 0) (c := 0) rfl rfl rfl (Y.ow 0 rfl) sm underlying71 rfl rfl rfl rfl de (by simp [Value.oneCell', yv, wv, sv]) (by have hby : Tryd.t5.bytes = 1 := rfl; have hz6 : zeros s.length < 64 := (by unfold zeros; omega); simp [big, hby, sum1, sum2, bw] <;> omega) (by have hby : Tryd.t5.bytes = 1 := rfl; have hz6 : zeros s.length < 64 := (by unfold zeros; omega); simp [big, hby, sum1, sum2, bw] <;> omega) de Z Y fun a w3 s2 Z Y _ => wla Z rfl fun a Z => ab <| hK7 _ _ ?_
  replace Z := Z.p4 0 2 4 3 rfl
  replace Y := Y.k1 2 rfl
  refine ao <| wlm Z rfl fun a Z => wlv Z (aT rfl rfl ⟨om, om⟩) fun a Z => wla Z rfl fun a Z => ab ?_
  rw [show ((s.take k).map fun b => [yv b]) ++ ([[yv (s.getD k 0)]]) = ((s.take (k + 1)).map fun b => [yv b]) from by rw [bV 0 om]; simp] at Y
  refine ⟨_, ?_, k + 1, s2, rfl, om, Z.pick [0, 2, 3, 4], Y.select [0] de⟩
  omega
 rw [hc1] at Z
 try simp only [qz] at hc1
 obtain rfl : k = s.length := by omega
 rw [List.take_length] at Y
 refine aE <| hK3 _ _ <| aa fun K8 hK8 => wlm Z rfl fun a Z => ax (E := 5) (sz := 1) rfl [[yv (128 : UInt8)]] kr sm rfl de de Z Y ?_
 clear Z Y
 intro a w4 Z Y
 refine aS (i := 1) (sT := 71) (inf := Tryd.t5) (z := yv (0 : UInt8)) (b := 0) (off := 0) (m := 0) (c := 0) rfl rfl rfl (Y.ow 0 rfl) sm underlying71 rfl rfl rfl rfl de (by simp [Value.oneCell', yv, wv, sv]) (by have hby : Tryd.t5.bytes = 1 := rfl; have hz6 : zeros s.length < 64 := (by unfold zeros; omega); simp [big, hby, sum1, sum2, bw] <;> omega) (by have hby : Tryd.t5.bytes = 1 := rfl; have hz6 : zeros s.length < 64 := (by unfold zeros; omega); simp [big, hby, sum1, sum2, bw] <;> omega) de Z Y fun a w5 s3 Z Y _ => wla Z rfl fun a Z => ab (hK8 _ _ ?_)
 replace Z := Z.p3 0 2 3 rfl
 replace Y := Y.k1 2 rfl
 refine ac fun K9 hK9 => am ?_
 rw [show ((s).map fun b => [yv b]) ++ ([[yv (128 : UInt8)]]) = ((sum1 s 0).map fun b => [yv b]) from by simp [sum1]] at Y
 refine aV (fun m a w => ∃ (z : Nat) (v : Value), m = 64 - z ∧ (z ≤ zeros s.length) ∧ Fr 43 [(0, sv s), (2, .slice none 0 0), (3, v)] [] a ∧ St No w0 [own v 5 1 ((sum1 s z).map fun b => [yv b])] w) _ ⟨0, s3, rfl, Nat.zero_le _, Z.pick [0, 2, 3], Y.select [0] de⟩ ?_
 rintro _ a w6 ⟨z, v, rfl, hz, Z, Y⟩
 refine ac fun K10 hK10 => aa fun K11 hK11 => wlm Z rfl fun a Z => wlv Z ((aG (sT := 71) (Y.ow 0 rfl) rfl rfl (runUnderlying71 _)).asi (m' := ((s.length + 1 + z : Nat) : Int)) (by rw [List.length_map, jA])) fun a Z => wlv Z (hU rfl rfl om om) fun a Z => wlv Z (v_ne rfl rfl) fun a Z => ab (hK11 _ _ ?_)
 refine az Z rfl (fun hc4 => ?_) (fun hc4 => ?_)
 ·rw [hc4] at Z
  try simp only [qz] at hc4
  have hz2 : z + 1 ≤ zeros s.length := by unfold zeros at hz ⊢; omega
  have hz3 : zeros s.length < 64 := by unfold zeros; omega
  refine ap <| hK10 _ _ <| am <| ao <| wlm Z rfl fun a Z => ax (E := 5) (sz := 1) rfl [[yv (0 : UInt8)]] kr sm rfl de de Z Y ?_
  clear Z Y
  intro a w7 Z Y
  refine aS (i := 1) (sT := 71) (inf := Tryd.t5) (z := yv (0 : UInt8)) (b := 0) (off := 0) (m := 0) (c := 0) rfl rfl rfl (Y.ow 0 rfl) sm underlying71 rfl rfl rfl rfl de (by simp [Value.oneCell', yv, wv, sv]) (by have hby : Tryd.t5.bytes = 1 := rfl; have hz6 : zeros s.length < 64 := (by unfold zeros; omega); simp [big, hby, sum1, sum2, bw] <;> omega) (by have hby : Tryd.t5.bytes = 1 := rfl; have hz6 : zeros s.length < 64 := (by unfold zeros; omega); simp [big, hby, sum1, sum2, bw] <;> omega) de Z Y fun a w8 s5 Z Y _ => wla Z rfl fun a Z => ab ?_
  rw [show ((sum1 s z).map fun b => [yv b]) ++ ([[yv (0 : UInt8)]]) = ((sum1 s (z + 1)).map fun b => [yv b]) from by simp [sum1, List.replicate_succ']] at Y
  refine ⟨_, ?_, z + 1, s5, rfl, hz2, Z.pick [0, 2, 3], Y.select [1] de⟩
  omega
 rw [hc4] at Z
 try simp only [qz] at hc4
 obtain rfl : z = zeros s.length := by unfold zeros at hz ⊢; omega
 refine aE <| hK9 _ _ <| ac fun K12 hK12 => aa fun K13 hK13 => wla Z rfl fun a Z => ab (hK13 _ _ <| am ?_)
 rw [show ((sum1 s (zeros s.length)).map fun b => [yv b]) = ((sum2 s 0).map fun b => [yv b]) from by simp [sum1, sum2]] at Y
 rw [show (7 : Int) = 7 - ((0 : Nat) : Int) from by omega] at Z
 refine aV (fun m a w => ∃ (r : Nat) (v : Value), m = 8 - r ∧ (r ≤ 8) ∧ Fr 43 [(0, sv s), (2, .slice none 0 0), (3, v), (5, iv (7 - (r : Int)))] [] a ∧ St No w0 [own v 5 1 ((sum2 s r).map fun b => [yv b])] w) _ ⟨0, v, rfl, Nat.zero_le _, Z.pick [0, 2, 3, 5], Y.select [0] de⟩ ?_
 rintro _ a w9 ⟨r, v, rfl, hr, Z, Y⟩
 refine ac fun K14 hK14 => aa fun K15 hK15 => wlm Z rfl fun a Z => wlv Z (v_ge rfl rfl) fun a Z => ab (hK15 _ _ ?_)
 refine az Z rfl (fun hc6 => ?_) (fun hc6 => ?_)
 ·rw [hc6] at Z
  try simp only [qz] at hc6
  refine ap <| hK14 _ _ <| ac fun K16 hK16 => am <| ao <| wlm Z rfl fun a Z => wlm Z rfl fun a Z => wlv Z (bn rfl rfl (runUnderlying9 _)) fun a Z => wlv Z ((cX rfl rfl ⟨om, om⟩).asi (m' := ((8 * s.length : Nat) : Int)) om) fun a Z => wlm Z rfl fun a Z => wlv Z ((cX rfl rfl ⟨om, om⟩).asi (m' := ((8 * (7 - r) : Nat) : Int)) om) fun a Z => wlv Z (m9 (m := (8 * s.length)) (n := (8 * (7 - r))) rfl rfl om) fun a Z => ?_
  refine wlv Z (g5 (n := 8 * s.length / 2 ^ (8 * (7 - r))) rfl kr underlying5) fun a Z => ax (E := 5) (sz := 1) rfl [[yv (UInt8.ofNat (8 * s.length / 2 ^ (8 * (7 - r))))]] kr sm rfl de de Z Y ?_
  clear Z Y
  intro a w10 Z Y
  refine aS (i := 1) (sT := 71) (inf := Tryd.t5) (z := yv (0 : UInt8)) (b := 0) (off := 0) (m := 0) (c := 0) rfl rfl rfl (Y.ow 0 rfl) sm underlying71 rfl rfl rfl rfl de (by simp [Value.oneCell', yv, wv, sv]) (by have hby : Tryd.t5.bytes = 1 := rfl; have hz6 : zeros s.length < 64 := (by unfold zeros; omega); simp [big, hby, sum1, sum2, bw] <;> omega) (by have hby : Tryd.t5.bytes = 1 := rfl; have hz6 : zeros s.length < 64 := (by unfold zeros; omega); simp [big, hby, sum1, sum2, bw] <;> omega) de Z Y fun a w11 s7 Z Y _ => wla Z rfl fun a Z => ab <| hK16 _ _ ?_
  replace Z := Z.p4 0 2 5 3 rfl
  replace Y := Y.k1 2 rfl
  refine ao <| wlm Z rfl fun a Z => wlv Z (bo rfl rfl ⟨om, om⟩) fun a Z => wla Z rfl fun a Z => ab ?_
  rw [show ((sum2 s r).map fun b => [yv b]) ++ ([[yv (UInt8.ofNat (8 * s.length / 2 ^ (8 * (7 - r))))]]) = ((sum2 s (r + 1)).map fun b => [yv b]) from by unfold sum2; rw [eG om]; simp] at Y
  rw [show 7 - (r : Int) - 1 = 7 - ((r + 1 : Nat) : Int) from by omega] at Z
  refine ⟨_, ?_, r + 1, s7, rfl, om, Z.pick [0, 2, 3, 5], Y.select [0] de⟩
  omega
 rw [hc6] at Z
 try simp only [qz] at hc6
 obtain rfl : r = 8 := by omega
 rw [show sum2 s 8 = padded s from rfl] at Y
 refine aE <| hK12 _ _ <| aa fun K17 hK17 => wlm Z rfl fun a Z => wla Z rfl fun a Z => ab (hK17 _ _ ?_)
 replace Z := Z.p1 2 rfl
 refine aw ?_
 refine ar Z results88 (ae rfl ag) ?_
 exact ⟨v, rfl, trivial, Y.ext, St.out (E := [own v 5 1 ((padded s).map fun b => [yv b])]) (H := []) Y⟩
theorem cV (x : Wd) (n : Nat) (w0 : World) (hn : 0 < n) (hn2 : n < 32) : Ret Tryd.prog 102 #[wv x, iv (n : Int)] w0 fun v w => v = wv (ror x n) ∧ Ext No w0 w := by
 have := kR x n w0 hn hn2
 rw [show (x >>> n) ||| (x <<< (32 - n)) = ror x n from BitVec.or_comm _ _] at this
 exact this
theorem mix2 (x : Wd) (a b : Nat) : mix x [a, b] = ror x a ^^^ ror x b := by simp [mix]
theorem mix3 (x : Wd) (a b c : Nat) : mix x [a, b, c] = ror x a ^^^ ror x b ^^^ ror x c := by simp [mix]
theorem iP (bs : List UInt8) {j : Nat} : ∀ {i : Nat}, j < i → (d : Nat) → (sch bs (i + d)).getD j 0#32 = (sch bs i).getD j 0#32
 | i, h, 0 => rfl
 | i, h, d + 1 => by
  have e : sch bs (i + (d + 1)) = (sch bs (i + d)).set (i + d) (if i + d < 16 then be bs (i + d) else nx (sch bs (i + d)) (i + d)) := rfl
  rw [e, List.getD_eq_getElem?_getD, List.getElem?_set_ne om, ← List.getD_eq_getElem?_getD]
  exact iP bs h d
theorem nZ (bs : List UInt8) {j : Nat} (h : j < 64) : (sch bs 64).getD j 0#32 = if j < 16 then be bs j else nx (sch bs j) j := by
 have := iP bs (j := j) (i := j + 1) om (63 - j)
 rw [show j + 1 + (63 - j) = 64 from by omega] at this
 rw [this, sch, List.getD_eq_getElem?_getD, List.getElem?_set_self (by rw [aD]; omega)]; rfl
theorem iO (bs : List UInt8) {i j : Nat} (h : i < j) (hj : j ≤ 64) : (sch bs j).getD i 0#32 = (sch bs 64).getD i 0#32 := by
 have := iP bs h (64 - j)
 rw [show j + (64 - j) = 64 from by omega] at this
 exact this.symm
theorem lY (bs : List UInt8) {k : Nat} (h : k < 16) : (sch bs 64).take (k + 1) = (sch bs 64).take k ++ [be bs k] := by
 rw [bV 0#32 (by rw [aD]; omega), nZ bs om, if_pos h]
theorem mu (bs : List UInt8) {j : Nat} (h : 16 ≤ j) (hj : j < 64) : (sch bs 64).take (j + 1) = (sch bs 64).take j ++ [((((sch bs 64).take j).getD (j - 16) 0#32 + (ror (((sch bs 64).take j).getD (j - 15) 0#32) 7 ^^^ ror (((sch bs 64).take j).getD (j - 15) 0#32) 18 ^^^ ((sch bs 64).take j).getD (j - 15) 0#32 >>> 3)) + ((sch bs 64).take j).getD (j - 7) 0#32) + (ror (((sch bs 64).take j).getD (j - 2) 0#32) 17 ^^^ ror (((sch bs 64).take j).getD (j - 2) 0#32) 19 ^^^ ((sch bs 64).take j).getD (j - 2) 0#32 >>> 10)] := by
 rw [bV 0#32 (by rw [aD]; omega), nZ bs om, if_neg om, nx, mix2, mix2]
 rw [iO bs (i := j - 16) (j := j) om om, iO bs (i := j - 15) (j := j) om om, iO bs (i := j - 7) (j := j) om om, iO bs (i := j - 2) (j := j) om om]
 rw [eu _ om, eu _ om, eu _ om, eu _ om]
theorem mG (x y : W8) {q : Nat} (h : q < 8) : (x.add y).l.take (q + 1) = (x.add y).l.take q ++ [x.l.getD q 0#32 + y.l.getD q 0#32] := by
 rw [bV 0#32 (by exact h)]
 congr 2
 have : q = 0 ∨ q = 1 ∨ q = 2 ∨ q = 3 ∨ q = 4 ∨ q = 5 ∨ q = 6 ∨ q = 7 := by omega
 rcases this with rfl | rfl | rfl | rfl | rfl | rfl | rfl | rfl <;> rfl
theorem lU (hvv bv : Value) (hv : W8) (bs : List UInt8) (w0 : World) (hhv : SlAt w0 hvv 1 ((hv.l).map fun x => [wv x])) (hbv : SlAt w0 bv 1 (bs.map fun b => [yv b])) (hbl : bs.length = 64) :
  Ret Tryd.prog 89 #[hvv, bv] w0 (MemR w0 (fun v : Value => v) (fun v => [own v 133 1 (((block hv bs).l).map fun x => [wv x])]) (fun _ => True)) := by
 refine aF func89 rfl ntmps89 (lb rfl) fun a Z => ?_
 replace Z := Z.p2 0 1 rfl
 replace Y : St No w0 [] w0 := St.init w0
 refine aa fun K1 hK1 => wla Z rfl fun a Z => ab (hK1 _ _ <| aa fun K2 hK2 => ?_)
 refine wla Z rfl fun a Z => ab (hK2 _ _ <| ac fun K3 hK3 => ?_)
 refine aa fun K4 hK4 => wla Z rfl fun a Z => ab (hK4 _ _ <| am ?_)
 replace Y : St No w0 [own (.slice none 0 0) 133 1 (((sch bs 64).take 0).map fun x => [wv x])] w0 := Y.nil_own
 refine aV (fun m a w => ∃ (k : Nat) (u : Value), m = 16 - k ∧ (k ≤ 16) ∧ Fr 238 [(0, hvv), (1, bv), (4, .slice none 0 0), (5, u), (6, iv (k : Int))] [] a ∧ St No w0 [own u 133 1 (((sch bs 64).take k).map fun x => [wv x])] w) _ ⟨0, .slice none 0 0, rfl, Nat.zero_le _, Z.pick [0, 1, 4, 5, 6], Y.select [0] de⟩ ?_
 rintro _ a w1 ⟨k, u, rfl, hk, Z, Y⟩
 refine ac fun K5 hK5 => aa fun K6 hK6 => wlm Z rfl fun a Z => wlv Z (v_lt rfl rfl) fun a Z => ab (hK6 _ _ ?_)
 refine az Z rfl (fun hc1 => ?_) (fun hc1 => ?_)
 ·rw [hc1] at Z
  try simp only [qz] at hc1
  refine ap <| hK5 _ _ <| ac fun K7 hK7 => am <| aI kr (aL kr fun w2 hxz => ?_)
  replace Y := Y.grow hxz
  refine aP (k := 0) 35 [0, 34] Z kr kr kr rfx ?_
  replace Z := Z.p7 0 1 4 5 6 19 20 rfl
  refine ay [34] (fun i => match i with | 34 => pm (fun b : Nat => .slice (some ⟨b, 0, none⟩) 1 1) (fun b => [own (.slice (some ⟨b, 0, none⟩) 1 1) 133 1 [[wv (((((BitVec.ofNat 32 (bs.getD (4 * k) 0).toNat) <<< 24) ||| ((BitVec.ofNat 32 (bs.getD (4 * k + 1) 0).toNat) <<< 16)) ||| ((BitVec.ofNat 32 (bs.getD (4 * k + 2) 0).toNat) <<< 8)) ||| (BitVec.ofNat 32 (bs.getD (4 * k + 3) 0).toNat))]]]) (fun _ => True) | _ => fun _ _ => False) 35 [[], [], [], [2], [1, 3], [4], [5], [6], [], [], [9], [10], [8, 11], [12], [13], [14], [7, 15], [], [], [18], [19], [17, 20], [21], [22], [23], [16, 24], [], [], [27], [28], [26, 29], [30], [31], [25, 32], [33]] [u, bv, iv (k : Int), iv (4 * (k : Int)), slAddr bv ((4 * k) * 1), yv (bs.getD (4 * k) 0), wv (BitVec.ofNat 32 (bs.getD (4 * k) 0).toNat), wv ((BitVec.ofNat 32 (bs.getD (4 * k) 0).toNat) <<< 24), bv, iv (k : Int), iv (4 * (k : Int)), iv ((4 * (k : Int)) + 1), slAddr bv ((4 * k + 1) * 1), yv (bs.getD (4 * k + 1) 0), wv (BitVec.ofNat 32 (bs.getD (4 * k + 1) 0).toNat), wv ((BitVec.ofNat 32 (bs.getD (4 * k + 1) 0).toNat) <<< 16), wv (((BitVec.ofNat 32 (bs.getD (4 * k) 0).toNat) <<< 24) ||| ((BitVec.ofNat 32 (bs.getD (4 * k + 1) 0).toNat) <<< 16)), bv, iv (k : Int), iv (4 * (k : Int)), iv ((4 * (k : Int)) + 2), slAddr bv ((4 * k + 2) * 1), yv (bs.getD (4 * k + 2) 0), wv (BitVec.ofNat 32 (bs.getD (4 * k + 2) 0).toNat), wv ((BitVec.ofNat 32 (bs.getD (4 * k + 2) 0).toNat) <<< 8), wv ((((BitVec.ofNat 32 (bs.getD (4 * k) 0).toNat) <<< 24) ||| ((BitVec.ofNat 32 (bs.getD (4 * k + 1) 0).toNat) <<< 16)) ||| ((BitVec.ofNat 32 (bs.getD (4 * k + 2) 0).toNat) <<< 8)), bv, iv (k : Int), iv (4 * (k : Int)), iv ((4 * (k : Int)) + 3), slAddr bv ((4 * k + 3) * 1), yv (bs.getD (4 * k + 3) 0), wv (BitVec.ofNat 32 (bs.getD (4 * k + 3) 0).toNat), wv (((((BitVec.ofNat 32 (bs.getD (4 * k) 0).toNat) <<< 24) ||| ((BitVec.ofNat 32 (bs.getD (4 * k + 1) 0).toNat) <<< 16)) ||| ((BitVec.ofNat 32 (bs.getD (4 * k + 2) 0).toNat) <<< 8)) ||| (BitVec.ofNat 32 (bs.getD (4 * k + 3) 0).toNat)), undef] Z Y kr kr kr ?_ ?_ ?_
  ·intro i hi hiq
   match i, hi, hiq with
   | 0, _, _ => exact fun w Y => OpV.g (ai rfl)
   | 1, _, _ => exact fun w Y => OpV.g (ai rfl)
   | 2, _, _ => exact fun w Y => OpV.g (ai rfl)
   | 3, _, _ => exact fun w Y => OpV.g (cX rfl rfl ⟨om, om⟩)
   | 4, _, _ => exact fun w Y => OpV.g ((ah (i := 4 * (k : Int)) (sT := 71) (Y.arg hbv) rfl rfl (runUnderlying71 _) (sizeOf5 _) om (by rw [List.length_map]; first | omega | (rw [aD]; omega) | (rw [List.length_take, aD]; omega) | (rw [W8.l_len]; omega) | (rw [bd]; omega))).as (v' := slAddr bv ((4 * k) * 1)) (by rw [show (4 * (k : Int)).toNat = (4 * k) from by omega]))
   | 5, _, _ => exact fun w Y => OpV.g (au (u := yv (bs.getD (4 * k) 0)) (i := (4 * k)) (j := 0) (Y.arg hbv) (by rw [List.length_map]; first | omega | (rw [aD]; omega) | (rw [List.length_take, aD]; omega) | (rw [W8.l_len]; omega) | (rw [bd]; omega)) rfl (isAgg5 _) (by simp [List.getD_eq_getElem?_getD, List.getElem?_eq_getElem (show (4 * k) < bs.length by omega)]))
   | 6, _, _ => exact fun w Y => OpV.g (cI rfl kr underlying133)
   | 7, _, _ => exact fun w Y => OpV.g (eh (n := 24) rfl rfl)
   | 8, _, _ => exact fun w Y => OpV.g (ai rfl)
   | 9, _, _ => exact fun w Y => OpV.g (ai rfl)
   | 10, _, _ => exact fun w Y => OpV.g (cX rfl rfl ⟨om, om⟩)
   | 11, _, _ => exact fun w Y => OpV.g (aT rfl rfl ⟨om, om⟩)
   | 12, _, _ => exact fun w Y => OpV.g ((ah (i := (4 * (k : Int)) + 1) (sT := 71) (Y.arg hbv) rfl rfl (runUnderlying71 _) (sizeOf5 _) om (by rw [List.length_map]; first | omega | (rw [aD]; omega) | (rw [List.length_take, aD]; omega) | (rw [W8.l_len]; omega) | (rw [bd]; omega))).as (v' := slAddr bv ((4 * k + 1) * 1)) (by rw [show ((4 * (k : Int)) + 1).toNat = (4 * k + 1) from by omega]))
   | 13, _, _ => exact fun w Y => OpV.g (au (u := yv (bs.getD (4 * k + 1) 0)) (i := (4 * k + 1)) (j := 0) (Y.arg hbv) (by rw [List.length_map]; first | omega | (rw [aD]; omega) | (rw [List.length_take, aD]; omega) | (rw [W8.l_len]; omega) | (rw [bd]; omega)) rfl (isAgg5 _) (by simp [List.getD_eq_getElem?_getD, List.getElem?_eq_getElem (show (4 * k + 1) < bs.length by omega)]))
   | 14, _, _ => exact fun w Y => OpV.g (cI rfl kr underlying133)
   | 15, _, _ => exact fun w Y => OpV.g (eh (n := 16) rfl rfl)
   | 16, _, _ => exact fun w Y => OpV.g (fF rfl rfl)
   | 17, _, _ => exact fun w Y => OpV.g (ai rfl)
   | 18, _, _ => exact fun w Y => OpV.g (ai rfl)
   | 19, _, _ => exact fun w Y => OpV.g (cX rfl rfl ⟨om, om⟩)
   | 20, _, _ => exact fun w Y => OpV.g (aT rfl rfl ⟨om, om⟩)
   | 21, _, _ => exact fun w Y => OpV.g ((ah (i := (4 * (k : Int)) + 2) (sT := 71) (Y.arg hbv) rfl rfl (runUnderlying71 _) (sizeOf5 _) om (by rw [List.length_map]; first | omega | (rw [aD]; omega) | (rw [List.length_take, aD]; omega) | (rw [W8.l_len]; omega) | (rw [bd]; omega))).as (v' := slAddr bv ((4 * k + 2) * 1)) (by rw [show ((4 * (k : Int)) + 2).toNat = (4 * k + 2) from by omega]))
   | 22, _, _ => exact fun w Y => OpV.g (au (u := yv (bs.getD (4 * k + 2) 0)) (i := (4 * k + 2)) (j := 0) (Y.arg hbv) (by rw [List.length_map]; first | omega | (rw [aD]; omega) | (rw [List.length_take, aD]; omega) | (rw [W8.l_len]; omega) | (rw [bd]; omega)) rfl (isAgg5 _) (by simp [List.getD_eq_getElem?_getD, List.getElem?_eq_getElem (show (4 * k + 2) < bs.length by omega)]))
   | 23, _, _ => exact fun w Y => OpV.g (cI rfl kr underlying133)
   | 24, _, _ => exact fun w Y => OpV.g (eh (n := 8) rfl rfl)
   | 25, _, _ => exact fun w Y => OpV.g (fF rfl rfl)
   | 26, _, _ => exact fun w Y => OpV.g (ai rfl)
   | 27, _, _ => exact fun w Y => OpV.g (ai rfl)
   | 28, _, _ => exact fun w Y => OpV.g (cX rfl rfl ⟨om, om⟩)
   | 29, _, _ => exact fun w Y => OpV.g (aT rfl rfl ⟨om, om⟩)
   | 30, _, _ => exact fun w Y => OpV.g ((ah (i := (4 * (k : Int)) + 3) (sT := 71) (Y.arg hbv) rfl rfl (runUnderlying71 _) (sizeOf5 _) om (by rw [List.length_map]; first | omega | (rw [aD]; omega) | (rw [List.length_take, aD]; omega) | (rw [W8.l_len]; omega) | (rw [bd]; omega))).as (v' := slAddr bv ((4 * k + 3) * 1)) (by rw [show ((4 * (k : Int)) + 3).toNat = (4 * k + 3) from by omega]))
   | 31, _, _ => exact fun w Y => OpV.g (au (u := yv (bs.getD (4 * k + 3) 0)) (i := (4 * k + 3)) (j := 0) (Y.arg hbv) (by rw [List.length_map]; first | omega | (rw [aD]; omega) | (rw [List.length_take, aD]; omega) | (rw [W8.l_len]; omega) | (rw [bd]; omega)) rfl (isAgg5 _) (by simp [List.getD_eq_getElem?_getD, List.getElem?_eq_getElem (show (4 * k + 3) < bs.length by omega)]))
   | 32, _, _ => exact fun w Y => OpV.g (cI rfl kr underlying133)
   | 33, _, _ => exact fun w Y => OpV.g (fF rfl rfl)
   | 34, _, h => exact absurd sm h
   | i + 35, h, _ => exact absurd h om
  ·intro i hi
   simp only [List.mem_cons, List.not_mem_nil, or_false] at hi
   subst hi
   ·intro w Y
    exact aW (E := 133) (sz := 1) rfl [[wv (((((BitVec.ofNat 32 (bs.getD (4 * k) 0).toNat) <<< 24) ||| ((BitVec.ofNat 32 (bs.getD (4 * k + 1) 0).toNat) <<< 16)) ||| ((BitVec.ofNat 32 (bs.getD (4 * k + 2) 0).toNat) <<< 8)) ||| (BitVec.ofNat 32 (bs.getD (4 * k + 3) 0).toNat))]] (fun _ => by kernel_rfl) sm rfl de
  clear Z Y
  rintro _ _ ⟨b2, rfl, -, rfl⟩ a w3 Z Y
  replace Z : Fr 238 [(23, u), (24, bv), (25, iv (k : Int)), (26, iv (4 * (k : Int))), (27, slAddr bv ((4 * k) * 1)), (28, yv (bs.getD (4 * k) 0)), (29, wv (BitVec.ofNat 32 (bs.getD (4 * k) 0).toNat)), (30, wv ((BitVec.ofNat 32 (bs.getD (4 * k) 0).toNat) <<< 24)), (31, bv), (32, iv (k : Int)), (33, iv (4 * (k : Int))), (34, iv ((4 * (k : Int)) + 1)), (35, slAddr bv ((4 * k + 1) * 1)), (36, yv (bs.getD (4 * k + 1) 0)), (37, wv (BitVec.ofNat 32 (bs.getD (4 * k + 1) 0).toNat)), (38, wv ((BitVec.ofNat 32 (bs.getD (4 * k + 1) 0).toNat) <<< 16)), (39, wv (((BitVec.ofNat 32 (bs.getD (4 * k) 0).toNat) <<< 24) ||| ((BitVec.ofNat 32 (bs.getD (4 * k + 1) 0).toNat) <<< 16))), (40, bv), (41, iv (k : Int)), (42, iv (4 * (k : Int))), (43, iv ((4 * (k : Int)) + 2)), (44, slAddr bv ((4 * k + 2) * 1)), (45, yv (bs.getD (4 * k + 2) 0)), (46, wv (BitVec.ofNat 32 (bs.getD (4 * k + 2) 0).toNat)), (47, wv ((BitVec.ofNat 32 (bs.getD (4 * k + 2) 0).toNat) <<< 8)), (48, wv ((((BitVec.ofNat 32 (bs.getD (4 * k) 0).toNat) <<< 24) ||| ((BitVec.ofNat 32 (bs.getD (4 * k + 1) 0).toNat) <<< 16)) ||| ((BitVec.ofNat 32 (bs.getD (4 * k + 2) 0).toNat) <<< 8))), (49, bv), (50, iv (k : Int)), (51, iv (4 * (k : Int))), (52, iv ((4 * (k : Int)) + 3)), (53, slAddr bv ((4 * k + 3) * 1)), (54, yv (bs.getD (4 * k + 3) 0)), (55, wv (BitVec.ofNat 32 (bs.getD (4 * k + 3) 0).toNat)), (56, wv (((((BitVec.ofNat 32 (bs.getD (4 * k) 0).toNat) <<< 24) ||| ((BitVec.ofNat 32 (bs.getD (4 * k + 1) 0).toNat) <<< 16)) ||| ((BitVec.ofNat 32 (bs.getD (4 * k + 2) 0).toNat) <<< 8)) ||| (BitVec.ofNat 32 (bs.getD (4 * k + 3) 0).toNat))), (57, _), (0, _), (1, _), (4, _), (5, _), (6, _), (19, _), (20, _)] [] a := Z
  replace Y : St No w0 [_, _] w3 := Y
  refine ab <| aK (k := 35) 37 [36] kr kr kr ?_
  refine aS (i := 1) (sT := 134) (inf := Tryd.t133) (z := wv (0#32)) (b := 0) (off := 0) (m := 0) (c := 0) rfl rfl rfl (Y.ow 0 rfl) sm underlying134 rfl rfl rfl rfl de (by simp [Value.oneCell', yv, wv, sv]) (by have hby : Tryd.t133.bytes = 4 := rfl; simp only [big, hby, List.length_append, List.length_map, List.length_take, aD, W8.l_len, List.length_cons, List.length_nil]; omega) (by have hby : Tryd.t133.bytes = 4 := rfl; simp only [big, hby, List.length_append, List.length_map, List.length_take, aD, W8.l_len, List.length_cons, List.length_nil]; omega) de Z Y fun a w4 s3 Z Y _ => wla Z rfl fun a Z => ab <| aO kr ?_
  refine hK7 _ _ ?_
  replace Z := Z.p5 0 1 4 6 5 rfl
  replace Y := Y.k1 2 rfl
  refine ao <| wlm Z rfl fun a Z => wlv Z (aT rfl rfl ⟨om, om⟩) fun a Z => wla Z rfl fun a Z => ab ?_
  rw [show (((sch bs 64).take k).map fun x => [wv x]) ++ ([[wv (((((BitVec.ofNat 32 (bs.getD (4 * k) 0).toNat) <<< 24) ||| ((BitVec.ofNat 32 (bs.getD (4 * k + 1) 0).toNat) <<< 16)) ||| ((BitVec.ofNat 32 (bs.getD (4 * k + 2) 0).toNat) <<< 8)) ||| (BitVec.ofNat 32 (bs.getD (4 * k + 3) 0).toNat))]]) = (((sch bs 64).take (k + 1)).map fun x => [wv x]) from by rw [lY bs om]; simp [be]] at Y
  refine ⟨_, ?_, k + 1, s3, rfl, om, Z.pick [0, 1, 4, 5, 6], Y.select [0] de⟩
  omega
 rw [hc1] at Z
 try simp only [qz] at hc1
 obtain rfl : k = 16 := by omega
 refine aE <| hK3 _ _ <| ac fun K8 hK8 => aa fun K9 hK9 => wla Z rfl fun a Z => ab (hK9 _ _ <| am ?_)
 refine aV (fun m a w => ∃ (j : Nat) (u : Value), m = 64 - j ∧ (16 ≤ j) ∧ (j ≤ 64) ∧ Fr 238 [(0, hvv), (4, .slice none 0 0), (5, u), (7, iv (j : Int))] [] a ∧ St No w0 [own u 133 1 (((sch bs 64).take j).map fun x => [wv x])] w) _ ⟨16, u, rfl, om, om, Z.pick [0, 4, 5, 7], Y.select [0] de⟩ ?_
 rintro _ a w5 ⟨j, u, rfl, hj, hj2, Z, Y⟩
 refine ac fun K10 hK10 => aa fun K11 hK11 => wlm Z rfl fun a Z => wlv Z (v_lt rfl rfl) fun a Z => ab (hK11 _ _ ?_)
 refine az Z rfl (fun hc4 => ?_) (fun hc4 => ?_)
 ·rw [hc4] at Z
  try simp only [qz] at hc4
  refine ap <| hK10 _ _ <| ac fun K12 hK12 => am <| ac fun K13 hK13 => aI kr (aL kr fun w6 hxz => ?_)
  replace Y := Y.grow hxz
  refine aP (k := 0) 19 [12, 18] Z kr kr kr rfx ?_
  replace Z := Z.p6 0 4 5 7 59 60 rfl
  refine ay [] (fun i => match i with | _ => fun _ _ => False) 19 [[], [], [1], [0, 2], [3], [4], [], [], [7], [6, 8], [9], [10], [5, 11], [], [], [14], [13, 15], [16], [17]] [u, iv (j : Int), iv ((j : Int) - 15), slAddr u ((j - 15) * 1), wv (((sch bs 64).take j).getD (j - 15) 0#32), wv (ror (((sch bs 64).take j).getD (j - 15) 0#32) 7), u, iv (j : Int), iv ((j : Int) - 15), slAddr u ((j - 15) * 1), wv (((sch bs 64).take j).getD (j - 15) 0#32), wv (ror (((sch bs 64).take j).getD (j - 15) 0#32) 18), wv ((ror (((sch bs 64).take j).getD (j - 15) 0#32) 7) ^^^ (ror (((sch bs 64).take j).getD (j - 15) 0#32) 18)), u, iv (j : Int), iv ((j : Int) - 15), slAddr u ((j - 15) * 1), wv (((sch bs 64).take j).getD (j - 15) 0#32), wv ((((sch bs 64).take j).getD (j - 15) 0#32) >>> 3)] Z Y kr kr kr ?_ ?_ ?_
  ·intro i hi hiq
   match i, hi, hiq with
   | 0, _, _ => exact fun w Y => OpV.g (ai rfl)
   | 1, _, _ => exact fun w Y => OpV.g (ai rfl)
   | 2, _, _ => exact fun w Y => OpV.g (bo rfl rfl ⟨om, om⟩)
   | 3, _, _ => exact fun w Y => OpV.g ((ah (i := (j : Int) - 15) (sT := 134) (Y.ow 0 rfl) rfl rfl (runUnderlying134 _) (sizeOf133 _) om (by rw [List.length_map]; first | omega | (rw [aD]; omega) | (rw [List.length_take, aD]; omega) | (rw [W8.l_len]; omega) | (rw [bd]; omega))).as (v' := slAddr u ((j - 15) * 1)) (by rw [show ((j : Int) - 15).toNat = (j - 15) from by omega]))
   | 4, _, _ => exact fun w Y => OpV.g (au (u := wv (((sch bs 64).take j).getD (j - 15) 0#32)) (i := (j - 15)) (j := 0) (Y.ow 0 rfl) (by rw [List.length_map]; first | omega | (rw [aD]; omega) | (rw [List.length_take, aD]; omega) | (rw [W8.l_len]; omega) | (rw [bd]; omega)) rfl (isAgg133 _) (by rw [bc 0#32]; rfl))
   | 5, _, _ => exact fun w Y => bh call102 rfl (cV (((sch bs 64).take j).getD (j - 15) 0#32) 7 _ de de)
   | 6, _, _ => exact fun w Y => OpV.g (ai rfl)
   | 7, _, _ => exact fun w Y => OpV.g (ai rfl)
   | 8, _, _ => exact fun w Y => OpV.g (bo rfl rfl ⟨om, om⟩)
   | 9, _, _ => exact fun w Y => OpV.g ((ah (i := (j : Int) - 15) (sT := 134) (Y.ow 0 rfl) rfl rfl (runUnderlying134 _) (sizeOf133 _) om (by rw [List.length_map]; first | omega | (rw [aD]; omega) | (rw [List.length_take, aD]; omega) | (rw [W8.l_len]; omega) | (rw [bd]; omega))).as (v' := slAddr u ((j - 15) * 1)) (by rw [show ((j : Int) - 15).toNat = (j - 15) from by omega]))
   | 10, _, _ => exact fun w Y => OpV.g (au (u := wv (((sch bs 64).take j).getD (j - 15) 0#32)) (i := (j - 15)) (j := 0) (Y.ow 0 rfl) (by rw [List.length_map]; first | omega | (rw [aD]; omega) | (rw [List.length_take, aD]; omega) | (rw [W8.l_len]; omega) | (rw [bd]; omega)) rfl (isAgg133 _) (by rw [bc 0#32]; rfl))
   | 11, _, _ => exact fun w Y => bh call102 rfl (cV (((sch bs 64).take j).getD (j - 15) 0#32) 18 _ de de)
   | 12, _, _ => exact fun w Y => OpV.g (cr rfl rfl)
   | 13, _, _ => exact fun w Y => OpV.g (ai rfl)
   | 14, _, _ => exact fun w Y => OpV.g (ai rfl)
   | 15, _, _ => exact fun w Y => OpV.g (bo rfl rfl ⟨om, om⟩)
   | 16, _, _ => exact fun w Y => OpV.g ((ah (i := (j : Int) - 15) (sT := 134) (Y.ow 0 rfl) rfl rfl (runUnderlying134 _) (sizeOf133 _) om (by rw [List.length_map]; first | omega | (rw [aD]; omega) | (rw [List.length_take, aD]; omega) | (rw [W8.l_len]; omega) | (rw [bd]; omega))).as (v' := slAddr u ((j - 15) * 1)) (by rw [show ((j : Int) - 15).toNat = (j - 15) from by omega]))
   | 17, _, _ => exact fun w Y => OpV.g (au (u := wv (((sch bs 64).take j).getD (j - 15) 0#32)) (i := (j - 15)) (j := 0) (Y.ow 0 rfl) (by rw [List.length_map]; first | omega | (rw [aD]; omega) | (rw [List.length_take, aD]; omega) | (rw [W8.l_len]; omega) | (rw [bd]; omega)) rfl (isAgg133 _) (by rw [bc 0#32]; rfl))
   | 18, _, _ => exact fun w Y => OpV.g (dz (n := 3) rfl rfl)
   | i + 19, h, _ => exact absurd h om
  ·intro i hi
   exact absurd hi sm
  clear Z Y
  intro  a w7 Z Y
  replace Z : Fr 238 [(63, u), (64, iv (j : Int)), (65, iv ((j : Int) - 15)), (66, slAddr u ((j - 15) * 1)), (67, wv (((sch bs 64).take j).getD (j - 15) 0#32)), (68, wv (ror (((sch bs 64).take j).getD (j - 15) 0#32) 7)), (69, u), (70, iv (j : Int)), (71, iv ((j : Int) - 15)), (72, slAddr u ((j - 15) * 1)), (73, wv (((sch bs 64).take j).getD (j - 15) 0#32)), (74, wv (ror (((sch bs 64).take j).getD (j - 15) 0#32) 18)), (75, wv ((ror (((sch bs 64).take j).getD (j - 15) 0#32) 7) ^^^ (ror (((sch bs 64).take j).getD (j - 15) 0#32) 18))), (76, u), (77, iv (j : Int)), (78, iv ((j : Int) - 15)), (79, slAddr u ((j - 15) * 1)), (80, wv (((sch bs 64).take j).getD (j - 15) 0#32)), (81, wv ((((sch bs 64).take j).getD (j - 15) 0#32) >>> 3)), (0, _), (4, _), (5, _), (7, _), (59, _), (60, _)] [] a := Z
  refine ab <| aK (k := 19) 21 [20] kr kr kr ?_
  refine wlv Z (cr rfl rfl) fun a Z => wla Z rfl fun a Z => ab <| aO kr ?_
  refine hK13 _ _ ?_
  replace Z := Z.p5 0 4 5 7 8 rfl
  refine ac fun K14 hK14 => aI kr (aL kr fun w8 hxz => ?_)
  replace Y := Y.grow hxz
  refine aP (k := 0) 19 [12, 18] Z kr kr kr rfx ?_
  replace Z := Z.p5 0 4 5 7 8 rfl
  refine ay [] (fun i => match i with | _ => fun _ _ => False) 19 [[], [], [1], [0, 2], [3], [4], [], [], [7], [6, 8], [9], [10], [5, 11], [], [], [14], [13, 15], [16], [17]] [u, iv (j : Int), iv ((j : Int) - 2), slAddr u ((j - 2) * 1), wv (((sch bs 64).take j).getD (j - 2) 0#32), wv (ror (((sch bs 64).take j).getD (j - 2) 0#32) 17), u, iv (j : Int), iv ((j : Int) - 2), slAddr u ((j - 2) * 1), wv (((sch bs 64).take j).getD (j - 2) 0#32), wv (ror (((sch bs 64).take j).getD (j - 2) 0#32) 19), wv ((ror (((sch bs 64).take j).getD (j - 2) 0#32) 17) ^^^ (ror (((sch bs 64).take j).getD (j - 2) 0#32) 19)), u, iv (j : Int), iv ((j : Int) - 2), slAddr u ((j - 2) * 1), wv (((sch bs 64).take j).getD (j - 2) 0#32), wv ((((sch bs 64).take j).getD (j - 2) 0#32) >>> 10)] Z Y kr kr kr ?_ ?_ ?_
  ·intro i hi hiq
   match i, hi, hiq with
   | 0, _, _ => exact fun w Y => OpV.g (ai rfl)
   | 1, _, _ => exact fun w Y => OpV.g (ai rfl)
   | 2, _, _ => exact fun w Y => OpV.g (bo rfl rfl ⟨om, om⟩)
   | 3, _, _ => exact fun w Y => OpV.g ((ah (i := (j : Int) - 2) (sT := 134) (Y.ow 0 rfl) rfl rfl (runUnderlying134 _) (sizeOf133 _) om (by rw [List.length_map]; first | omega | (rw [aD]; omega) | (rw [List.length_take, aD]; omega) | (rw [W8.l_len]; omega) | (rw [bd]; omega))).as (v' := slAddr u ((j - 2) * 1)) (by rw [show ((j : Int) - 2).toNat = (j - 2) from by omega]))
   | 4, _, _ => exact fun w Y => OpV.g (au (u := wv (((sch bs 64).take j).getD (j - 2) 0#32)) (i := (j - 2)) (j := 0) (Y.ow 0 rfl) (by rw [List.length_map]; first | omega | (rw [aD]; omega) | (rw [List.length_take, aD]; omega) | (rw [W8.l_len]; omega) | (rw [bd]; omega)) rfl (isAgg133 _) (by rw [bc 0#32]; rfl))
   | 5, _, _ => exact fun w Y => bh call102 rfl (cV (((sch bs 64).take j).getD (j - 2) 0#32) 17 _ de de)
   | 6, _, _ => exact fun w Y => OpV.g (ai rfl)
   | 7, _, _ => exact fun w Y => OpV.g (ai rfl)
   | 8, _, _ => exact fun w Y => OpV.g (bo rfl rfl ⟨om, om⟩)
   | 9, _, _ => exact fun w Y => OpV.g ((ah (i := (j : Int) - 2) (sT := 134) (Y.ow 0 rfl) rfl rfl (runUnderlying134 _) (sizeOf133 _) om (by rw [List.length_map]; first | omega | (rw [aD]; omega) | (rw [List.length_take, aD]; omega) | (rw [W8.l_len]; omega) | (rw [bd]; omega))).as (v' := slAddr u ((j - 2) * 1)) (by rw [show ((j : Int) - 2).toNat = (j - 2) from by omega]))
   | 10, _, _ => exact fun w Y => OpV.g (au (u := wv (((sch bs 64).take j).getD (j - 2) 0#32)) (i := (j - 2)) (j := 0) (Y.ow 0 rfl) (by rw [List.length_map]; first | omega | (rw [aD]; omega) | (rw [List.length_take, aD]; omega) | (rw [W8.l_len]; omega) | (rw [bd]; omega)) rfl (isAgg133 _) (by rw [bc 0#32]; rfl))
   | 11, _, _ => exact fun w Y => bh call102 rfl (cV (((sch bs 64).take j).getD (j - 2) 0#32) 19 _ de de)
   | 12, _, _ => exact fun w Y => OpV.g (cr rfl rfl)
   | 13, _, _ => exact fun w Y => OpV.g (ai rfl)
   | 14, _, _ => exact fun w Y => OpV.g (ai rfl)
   | 15, _, _ => exact fun w Y => OpV.g (bo rfl rfl ⟨om, om⟩)
   | 16, _, _ => exact fun w Y => OpV.g ((ah (i := (j : Int) - 2) (sT := 134) (Y.ow 0 rfl) rfl rfl (runUnderlying134 _) (sizeOf133 _) om (by rw [List.length_map]; first | omega | (rw [aD]; omega) | (rw [List.length_take, aD]; omega) | (rw [W8.l_len]; omega) | (rw [bd]; omega))).as (v' := slAddr u ((j - 2) * 1)) (by rw [show ((j : Int) - 2).toNat = (j - 2) from by omega]))
   | 17, _, _ => exact fun w Y => OpV.g (au (u := wv (((sch bs 64).take j).getD (j - 2) 0#32)) (i := (j - 2)) (j := 0) (Y.ow 0 rfl) (by rw [List.length_map]; first | omega | (rw [aD]; omega) | (rw [List.length_take, aD]; omega) | (rw [W8.l_len]; omega) | (rw [bd]; omega)) rfl (isAgg133 _) (by rw [bc 0#32]; rfl))
   | 18, _, _ => exact fun w Y => OpV.g (dz (n := 10) rfl rfl)
   | i + 19, h, _ => exact absurd h om
  ·intro i hi
   exact absurd hi sm
  clear Z Y
  intro  a w9 Z Y
  replace Z : Fr 238 [(83, u), (84, iv (j : Int)), (85, iv ((j : Int) - 2)), (86, slAddr u ((j - 2) * 1)), (87, wv (((sch bs 64).take j).getD (j - 2) 0#32)), (88, wv (ror (((sch bs 64).take j).getD (j - 2) 0#32) 17)), (89, u), (90, iv (j : Int)), (91, iv ((j : Int) - 2)), (92, slAddr u ((j - 2) * 1)), (93, wv (((sch bs 64).take j).getD (j - 2) 0#32)), (94, wv (ror (((sch bs 64).take j).getD (j - 2) 0#32) 19)), (95, wv ((ror (((sch bs 64).take j).getD (j - 2) 0#32) 17) ^^^ (ror (((sch bs 64).take j).getD (j - 2) 0#32) 19))), (96, u), (97, iv (j : Int)), (98, iv ((j : Int) - 2)), (99, slAddr u ((j - 2) * 1)), (100, wv (((sch bs 64).take j).getD (j - 2) 0#32)), (101, wv ((((sch bs 64).take j).getD (j - 2) 0#32) >>> 10)), (0, _), (4, _), (5, _), (7, _), (8, _)] [] a := Z
  refine ab <| aK (k := 19) 21 [20] kr kr kr ?_
  refine wlv Z (cr rfl rfl) fun a Z => wla Z rfl fun a Z => ab <| aO kr ?_
  refine hK14 _ _ ?_
  replace Z := Z.p6 0 4 5 7 8 9 rfl
  refine aI kr (aL kr fun w10 hxz => ?_)
  replace Y := Y.grow hxz
  refine aP (k := 0) 17 [0, 16] Z kr kr kr rfx ?_
  replace Z := Z.p6 0 4 5 7 8 9 rfl
  refine ay [16] (fun i => match i with | 16 => pm (fun b : Nat => .slice (some ⟨b, 0, none⟩) 1 1) (fun b => [own (.slice (some ⟨b, 0, none⟩) 1 1) 133 1 [[wv ((((((sch bs 64).take j).getD (j - 16) 0#32) + (((ror (((sch bs 64).take j).getD (j - 15) 0#32) 7) ^^^ (ror (((sch bs 64).take j).getD (j - 15) 0#32) 18)) ^^^ ((((sch bs 64).take j).getD (j - 15) 0#32) >>> 3))) + (((sch bs 64).take j).getD (j - 7) 0#32)) + (((ror (((sch bs 64).take j).getD (j - 2) 0#32) 17) ^^^ (ror (((sch bs 64).take j).getD (j - 2) 0#32) 19)) ^^^ ((((sch bs 64).take j).getD (j - 2) 0#32) >>> 10)))]]]) (fun _ => True) | _ => fun _ _ => False) 17 [[], [], [], [2], [1, 3], [4], [], [5, 6], [], [], [9], [8, 10], [11], [7, 12], [], [13, 14], [15]] [u, u, iv (j : Int), iv ((j : Int) - 16), slAddr u ((j - 16) * 1), wv (((sch bs 64).take j).getD (j - 16) 0#32), wv (((ror (((sch bs 64).take j).getD (j - 15) 0#32) 7) ^^^ (ror (((sch bs 64).take j).getD (j - 15) 0#32) 18)) ^^^ ((((sch bs 64).take j).getD (j - 15) 0#32) >>> 3)), wv ((((sch bs 64).take j).getD (j - 16) 0#32) + (((ror (((sch bs 64).take j).getD (j - 15) 0#32) 7) ^^^ (ror (((sch bs 64).take j).getD (j - 15) 0#32) 18)) ^^^ ((((sch bs 64).take j).getD (j - 15) 0#32) >>> 3))), u, iv (j : Int), iv ((j : Int) - 7), slAddr u ((j - 7) * 1), wv (((sch bs 64).take j).getD (j - 7) 0#32), wv (((((sch bs 64).take j).getD (j - 16) 0#32) + (((ror (((sch bs 64).take j).getD (j - 15) 0#32) 7) ^^^ (ror (((sch bs 64).take j).getD (j - 15) 0#32) 18)) ^^^ ((((sch bs 64).take j).getD (j - 15) 0#32) >>> 3))) + (((sch bs 64).take j).getD (j - 7) 0#32)), wv (((ror (((sch bs 64).take j).getD (j - 2) 0#32) 17) ^^^ (ror (((sch bs 64).take j).getD (j - 2) 0#32) 19)) ^^^ ((((sch bs 64).take j).getD (j - 2) 0#32) >>> 10)), wv ((((((sch bs 64).take j).getD (j - 16) 0#32) + (((ror (((sch bs 64).take j).getD (j - 15) 0#32) 7) ^^^ (ror (((sch bs 64).take j).getD (j - 15) 0#32) 18)) ^^^ ((((sch bs 64).take j).getD (j - 15) 0#32) >>> 3))) + (((sch bs 64).take j).getD (j - 7) 0#32)) + (((ror (((sch bs 64).take j).getD (j - 2) 0#32) 17) ^^^ (ror (((sch bs 64).take j).getD (j - 2) 0#32) 19)) ^^^ ((((sch bs 64).take j).getD (j - 2) 0#32) >>> 10))), undef] Z Y kr kr kr ?_ ?_ ?_
  ·intro i hi hiq
   match i, hi, hiq with
   | 0, _, _ => exact fun w Y => OpV.g (ai rfl)
   | 1, _, _ => exact fun w Y => OpV.g (ai rfl)
   | 2, _, _ => exact fun w Y => OpV.g (ai rfl)
   | 3, _, _ => exact fun w Y => OpV.g (bo rfl rfl ⟨om, om⟩)
   | 4, _, _ => exact fun w Y => OpV.g ((ah (i := (j : Int) - 16) (sT := 134) (Y.ow 0 rfl) rfl rfl (runUnderlying134 _) (sizeOf133 _) om (by rw [List.length_map]; first | omega | (rw [aD]; omega) | (rw [List.length_take, aD]; omega) | (rw [W8.l_len]; omega) | (rw [bd]; omega))).as (v' := slAddr u ((j - 16) * 1)) (by rw [show ((j : Int) - 16).toNat = (j - 16) from by omega]))
   | 5, _, _ => exact fun w Y => OpV.g (au (u := wv (((sch bs 64).take j).getD (j - 16) 0#32)) (i := (j - 16)) (j := 0) (Y.ow 0 rfl) (by rw [List.length_map]; first | omega | (rw [aD]; omega) | (rw [List.length_take, aD]; omega) | (rw [W8.l_len]; omega) | (rw [bd]; omega)) rfl (isAgg133 _) (by rw [bc 0#32]; rfl))
   | 6, _, _ => exact fun w Y => OpV.g (ai rfl)
   | 7, _, _ => exact fun w Y => OpV.g (bU rfl rfl)
   | 8, _, _ => exact fun w Y => OpV.g (ai rfl)
   | 9, _, _ => exact fun w Y => OpV.g (ai rfl)
   | 10, _, _ => exact fun w Y => OpV.g (bo rfl rfl ⟨om, om⟩)
   | 11, _, _ => exact fun w Y => OpV.g ((ah (i := (j : Int) - 7) (sT := 134) (Y.ow 0 rfl) rfl rfl (runUnderlying134 _) (sizeOf133 _) om (by rw [List.length_map]; first | omega | (rw [aD]; omega) | (rw [List.length_take, aD]; omega) | (rw [W8.l_len]; omega) | (rw [bd]; omega))).as (v' := slAddr u ((j - 7) * 1)) (by rw [show ((j : Int) - 7).toNat = (j - 7) from by omega]))
   | 12, _, _ => exact fun w Y => OpV.g (au (u := wv (((sch bs 64).take j).getD (j - 7) 0#32)) (i := (j - 7)) (j := 0) (Y.ow 0 rfl) (by rw [List.length_map]; first | omega | (rw [aD]; omega) | (rw [List.length_take, aD]; omega) | (rw [W8.l_len]; omega) | (rw [bd]; omega)) rfl (isAgg133 _) (by rw [bc 0#32]; rfl))
   | 13, _, _ => exact fun w Y => OpV.g (bU rfl rfl)
   | 14, _, _ => exact fun w Y => OpV.g (ai rfl)
   | 15, _, _ => exact fun w Y => OpV.g (bU rfl rfl)
   | 16, _, h => exact absurd sm h
   | i + 17, h, _ => exact absurd h om
  ·intro i hi
   simp only [List.mem_cons, List.not_mem_nil, or_false] at hi
   subst hi
   ·intro w Y
    exact aW (E := 133) (sz := 1) rfl [[wv ((((((sch bs 64).take j).getD (j - 16) 0#32) + (((ror (((sch bs 64).take j).getD (j - 15) 0#32) 7) ^^^ (ror (((sch bs 64).take j).getD (j - 15) 0#32) 18)) ^^^ ((((sch bs 64).take j).getD (j - 15) 0#32) >>> 3))) + (((sch bs 64).take j).getD (j - 7) 0#32)) + (((ror (((sch bs 64).take j).getD (j - 2) 0#32) 17) ^^^ (ror (((sch bs 64).take j).getD (j - 2) 0#32) 19)) ^^^ ((((sch bs 64).take j).getD (j - 2) 0#32) >>> 10)))]] (fun _ => by kernel_rfl) sm rfl de
  clear Z Y
  rintro _ _ ⟨b5, rfl, -, rfl⟩ a w11 Z Y
  replace Z : Fr 238 [(103, u), (104, u), (105, iv (j : Int)), (106, iv ((j : Int) - 16)), (107, slAddr u ((j - 16) * 1)), (108, wv (((sch bs 64).take j).getD (j - 16) 0#32)), (109, wv (((ror (((sch bs 64).take j).getD (j - 15) 0#32) 7) ^^^ (ror (((sch bs 64).take j).getD (j - 15) 0#32) 18)) ^^^ ((((sch bs 64).take j).getD (j - 15) 0#32) >>> 3))), (110, wv ((((sch bs 64).take j).getD (j - 16) 0#32) + (((ror (((sch bs 64).take j).getD (j - 15) 0#32) 7) ^^^ (ror (((sch bs 64).take j).getD (j - 15) 0#32) 18)) ^^^ ((((sch bs 64).take j).getD (j - 15) 0#32) >>> 3)))), (111, u), (112, iv (j : Int)), (113, iv ((j : Int) - 7)), (114, slAddr u ((j - 7) * 1)), (115, wv (((sch bs 64).take j).getD (j - 7) 0#32)), (116, wv (((((sch bs 64).take j).getD (j - 16) 0#32) + (((ror (((sch bs 64).take j).getD (j - 15) 0#32) 7) ^^^ (ror (((sch bs 64).take j).getD (j - 15) 0#32) 18)) ^^^ ((((sch bs 64).take j).getD (j - 15) 0#32) >>> 3))) + (((sch bs 64).take j).getD (j - 7) 0#32))), (117, wv (((ror (((sch bs 64).take j).getD (j - 2) 0#32) 17) ^^^ (ror (((sch bs 64).take j).getD (j - 2) 0#32) 19)) ^^^ ((((sch bs 64).take j).getD (j - 2) 0#32) >>> 10))), (118, wv ((((((sch bs 64).take j).getD (j - 16) 0#32) + (((ror (((sch bs 64).take j).getD (j - 15) 0#32) 7) ^^^ (ror (((sch bs 64).take j).getD (j - 15) 0#32) 18)) ^^^ ((((sch bs 64).take j).getD (j - 15) 0#32) >>> 3))) + (((sch bs 64).take j).getD (j - 7) 0#32)) + (((ror (((sch bs 64).take j).getD (j - 2) 0#32) 17) ^^^ (ror (((sch bs 64).take j).getD (j - 2) 0#32) 19)) ^^^ ((((sch bs 64).take j).getD (j - 2) 0#32) >>> 10)))), (119, _), (0, _), (4, _), (5, _), (7, _), (8, _), (9, _)] [] a := Z
  replace Y : St No w0 [_, _] w11 := Y
  refine ab <| aK (k := 17) 19 [18] kr kr kr ?_
  refine aS (i := 1) (sT := 134) (inf := Tryd.t133) (z := wv (0#32)) (b := 0) (off := 0) (m := 0) (c := 0) rfl rfl rfl (Y.ow 0 rfl) sm underlying134 rfl rfl rfl rfl de (by simp [Value.oneCell', yv, wv, sv]) (by have hby : Tryd.t133.bytes = 4 := rfl; simp only [big, hby, List.length_append, List.length_map, List.length_take, aD, W8.l_len, List.length_cons, List.length_nil]; omega) (by have hby : Tryd.t133.bytes = 4 := rfl; simp only [big, hby, List.length_append, List.length_map, List.length_take, aD, W8.l_len, List.length_cons, List.length_nil]; omega) de Z Y fun a w12 s6 Z Y _ => wla Z rfl fun a Z => ab <| aO kr ?_
  refine hK12 _ _ ?_
  replace Z := Z.p4 0 4 7 5 rfl
  replace Y := Y.k1 2 rfl
  refine ao <| wlm Z rfl fun a Z => wlv Z (aT rfl rfl ⟨om, om⟩) fun a Z => wla Z rfl fun a Z => ab ?_
  rw [show (((sch bs 64).take j).map fun x => [wv x]) ++ ([[wv ((((((sch bs 64).take j).getD (j - 16) 0#32) + (((ror (((sch bs 64).take j).getD (j - 15) 0#32) 7) ^^^ (ror (((sch bs 64).take j).getD (j - 15) 0#32) 18)) ^^^ ((((sch bs 64).take j).getD (j - 15) 0#32) >>> 3))) + (((sch bs 64).take j).getD (j - 7) 0#32)) + (((ror (((sch bs 64).take j).getD (j - 2) 0#32) 17) ^^^ (ror (((sch bs 64).take j).getD (j - 2) 0#32) 19)) ^^^ ((((sch bs 64).take j).getD (j - 2) 0#32) >>> 10)))]]) = (((sch bs 64).take (j + 1)).map fun x => [wv x]) from by rw [mu bs om om]; simp] at Y
  refine ⟨_, ?_, j + 1, s6, rfl, om, om, Z.pick [0, 4, 5, 7], Y.select [0] de⟩
  omega
 rw [hc4] at Z
 try simp only [qz] at hc4
 obtain rfl : j = 64 := by omega
 rw [List.take_of_length_le (by rw [aD]; omega)] at Y
 refine aE <| hK8 _ _ <| aa fun K15 hK15 => aN Z Y de call103 rfl (iM _) ?_
 clear Z Y
 intro a w13 x7 hp Z Y
 revert x7 hp Z Y; rintro kz hp Z Y
 clear hp
 replace Y : St No w0 [_, _] w13 := Y
 refine wla Z rfl fun a Z => ab (hK15 _ _ <| aa fun K16 hK16 => ?_)
 refine wla Z rfl fun a Z => ab (hK16 _ _ <| aa fun K17 hK17 => ?_)
 refine wlm Z rfl fun a Z => wlm Z rfl fun a Z => ?_
 replace Y : St No w0 (own (.slice none 0 0) 133 1 [] :: [_, _]) w13 := Y.nil_own
 refine aM (i := 0) (sT := 134) (inf := Tryd.t133) (z := wv (0#32)) rfl rfl rfl (Y.arg hhv) underlying134 rfl rfl rfl rfl de (by simp [Value.oneCell', yv, wv, sv]) (by have hby : Tryd.t133.bytes = 4 := rfl; simp only [big, hby, List.length_append, List.length_map, List.length_take, aD, W8.l_len, List.length_cons, List.length_nil]; omega) (by have hby : Tryd.t133.bytes = 4 := rfl; simp only [big, hby, List.length_append, List.length_map, List.length_take, aD, W8.l_len, List.length_cons, List.length_nil]; omega) de Z Y ?_
 clear Z Y
 intro a w14 s8 Z Y
 refine wla Z rfl fun a Z => ab (hK17 _ _ ?_)
 replace Z := Z.p5 0 4 5 10 11 rfl
 refine ac fun K18 hK18 => aa fun K19 hK19 => wla Z rfl fun a Z => ab (hK19 _ _ <| am ?_)
 rw [show ([]) ++ ((hv.l).map fun x => [wv x]) = ((hv.l).map fun x => [wv x]) from by simp] at Y
 refine aV (fun m a w => ∃ (ix : Nat) (v : W8) (z : Value), m = 64 - ix ∧ (ix ≤ 64) ∧ (rounds (sch bs 64) hv ix = v) ∧ Fr 238 [(0, hvv), (4, .slice none 0 0), (5, u), (10, kz), (11, z), (12, iv (ix : Int))] [] a ∧ St No w0 [own z 133 1 ((v.l).map fun x => [wv x]), own u 133 1 ((sch bs 64).map fun x => [wv x]), own kz 133 1 ((kOf).map fun x => [wv x])] w) _ ⟨0, hv, s8, rfl, Nat.zero_le _, rfl, Z.pick [0, 4, 5, 10, 11, 12], Y.select [0, 2, 1] de⟩ ?_
 rintro _ a w15 ⟨ix, v, z, rfl, hi, hrv, Z, Y⟩
 refine ac fun K20 hK20 => aa fun K21 hK21 => wlm Z rfl fun a Z => wlv Z (v_lt rfl rfl) fun a Z => ab (hK21 _ _ ?_)
 refine az Z rfl (fun hc9 => ?_) (fun hc9 => ?_)
 ·rw [hc9] at Z
  try simp only [qz] at hc9
  refine ap <| hK20 _ _ <| ac fun K22 hK22 => am <| aa fun K23 hK23 => wlm Z rfl fun a Z => wlv Z ((ah (i := 0) (sT := 134) (Y.ow 0 rfl) rfl rfl (runUnderlying134 _) (sizeOf133 _) om (by rw [List.length_map, W8.l_len]; decide)).as (v' := slAddr z (0 * 1)) rfl) fun a Z => wlv Z (au (u := wv v.a) (i := 0) (j := 0) (Y.ow 0 rfl) (by rw [List.length_map, W8.l_len]; decide) rfl (isAgg133 _) rfx) fun a Z => wla Z rfl fun a Z => ab (hK23 _ _ <| aa fun K24 hK24 => ?_)
  refine wlm Z rfl fun a Z => wlv Z ((ah (i := 4) (sT := 134) (Y.ow 0 rfl) rfl rfl (runUnderlying134 _) (sizeOf133 _) om (by rw [List.length_map, W8.l_len]; decide)).as (v' := slAddr z (4 * 1)) rfl) fun a Z => wlv Z (au (u := wv v.e) (i := 4) (j := 0) (Y.ow 0 rfl) (by rw [List.length_map, W8.l_len]; decide) rfl (isAgg133 _) rfx) fun a Z => wla Z rfl fun a Z => ab (hK24 _ _ ?_)
  replace Z := Z.p8 0 4 5 10 11 12 13 14 rfl
  refine ac fun K25 hK25 => aI kr (aL kr fun w16 hxz => ?_)
  replace Y := Y.grow hxz
  refine aP (k := 0) 34 [29, 33] Z kr kr kr rfx ?_
  replace Z := Z.p8 0 4 5 10 11 12 13 14 rfl
  refine ay [] (fun i => match i with | _ => fun _ _ => False) 34 [[], [0], [1], [], [3], [], [5], [4, 6], [], [8], [7, 9], [2, 10], [], [], [13], [14], [12, 15], [], [17], [], [19], [20], [18, 21], [16, 22], [11, 23], [], [], [25, 26], [27], [24, 28], [], [], [30, 31], [32]] [z, slAddr z (7 * 1), wv v.h, wv v.e, wv (ror v.e 6), wv v.e, wv (ror v.e 11), wv ((ror v.e 6) ^^^ (ror v.e 11)), wv v.e, wv (ror v.e 25), wv (((ror v.e 6) ^^^ (ror v.e 11)) ^^^ (ror v.e 25)), wv (v.h + (((ror v.e 6) ^^^ (ror v.e 11)) ^^^ (ror v.e 25))), wv v.e, z, slAddr z (5 * 1), wv v.f, wv (v.e &&& v.f), wv v.e, wv (~~~v.e), z, slAddr z (6 * 1), wv v.g, wv ((~~~v.e) &&& v.g), wv ((v.e &&& v.f) ^^^ ((~~~v.e) &&& v.g)), wv ((v.h + (((ror v.e 6) ^^^ (ror v.e 11)) ^^^ (ror v.e 25))) + ((v.e &&& v.f) ^^^ ((~~~v.e) &&& v.g))), kz, iv (ix : Int), slAddr kz (ix * 1), wv ((kOf).getD ix 0#32), wv (((v.h + (((ror v.e 6) ^^^ (ror v.e 11)) ^^^ (ror v.e 25))) + ((v.e &&& v.f) ^^^ ((~~~v.e) &&& v.g))) + ((kOf).getD ix 0#32)), u, iv (ix : Int), slAddr u (ix * 1), wv ((sch bs 64).getD ix 0#32)] Z Y kr kr kr ?_ ?_ ?_
  ·intro i hi hiq
   match i, hi, hiq with
   | 0, _, _ => exact fun w Y => OpV.g (ai rfl)
   | 1, _, _ => exact fun w Y => OpV.g ((ah (i := 7) (sT := 134) (Y.ow 0 rfl) rfl rfl (runUnderlying134 _) (sizeOf133 _) om (by rw [List.length_map, W8.l_len]; decide)).as (v' := slAddr z (7 * 1)) rfl)
   | 2, _, _ => exact fun w Y => OpV.g (au (u := wv v.h) (i := 7) (j := 0) (Y.ow 0 rfl) (by rw [List.length_map, W8.l_len]; decide) rfl (isAgg133 _) rfx)
   | 3, _, _ => exact fun w Y => OpV.g (ai rfl)
   | 4, _, _ => exact fun w Y => bh call102 rfl (cV v.e 6 _ de de)
   | 5, _, _ => exact fun w Y => OpV.g (ai rfl)
   | 6, _, _ => exact fun w Y => bh call102 rfl (cV v.e 11 _ de de)
   | 7, _, _ => exact fun w Y => OpV.g (cr rfl rfl)
   | 8, _, _ => exact fun w Y => OpV.g (ai rfl)
   | 9, _, _ => exact fun w Y => bh call102 rfl (cV v.e 25 _ de de)
   | 10, _, _ => exact fun w Y => OpV.g (cr rfl rfl)
   | 11, _, _ => exact fun w Y => OpV.g (bU rfl rfl)
   | 12, _, _ => exact fun w Y => OpV.g (ai rfl)
   | 13, _, _ => exact fun w Y => OpV.g (ai rfl)
   | 14, _, _ => exact fun w Y => OpV.g ((ah (i := 5) (sT := 134) (Y.ow 0 rfl) rfl rfl (runUnderlying134 _) (sizeOf133 _) om (by rw [List.length_map, W8.l_len]; decide)).as (v' := slAddr z (5 * 1)) rfl)
   | 15, _, _ => exact fun w Y => OpV.g (au (u := wv v.f) (i := 5) (j := 0) (Y.ow 0 rfl) (by rw [List.length_map, W8.l_len]; decide) rfl (isAgg133 _) rfx)
   | 16, _, _ => exact fun w Y => OpV.g (dA rfl rfl)
   | 17, _, _ => exact fun w Y => OpV.g (ai rfl)
   | 18, _, _ => exact fun w Y => OpV.g (mI rfl)
   | 19, _, _ => exact fun w Y => OpV.g (ai rfl)
   | 20, _, _ => exact fun w Y => OpV.g ((ah (i := 6) (sT := 134) (Y.ow 0 rfl) rfl rfl (runUnderlying134 _) (sizeOf133 _) om (by rw [List.length_map, W8.l_len]; decide)).as (v' := slAddr z (6 * 1)) rfl)
   | 21, _, _ => exact fun w Y => OpV.g (au (u := wv v.g) (i := 6) (j := 0) (Y.ow 0 rfl) (by rw [List.length_map, W8.l_len]; decide) rfl (isAgg133 _) rfx)
   | 22, _, _ => exact fun w Y => OpV.g (dA rfl rfl)
   | 23, _, _ => exact fun w Y => OpV.g (cr rfl rfl)
   | 24, _, _ => exact fun w Y => OpV.g (bU rfl rfl)
   | 25, _, _ => exact fun w Y => OpV.g (ai rfl)
   | 26, _, _ => exact fun w Y => OpV.g (ai rfl)
   | 27, _, _ => exact fun w Y => OpV.g ((ah (i := (ix : Int)) (sT := 134) (Y.ow 2 rfl) rfl rfl (runUnderlying134 _) (sizeOf133 _) om (by rw [List.length_map]; first | omega | (rw [aD]; omega) | (rw [List.length_take, aD]; omega) | (rw [W8.l_len]; omega) | (rw [bd]; omega))).as (v' := slAddr kz (ix * 1)) rfl)
   | 28, _, _ => exact fun w Y => OpV.g (au (u := wv ((kOf).getD ix 0#32)) (i := ix) (j := 0) (Y.ow 2 rfl) (by rw [List.length_map]; first | omega | (rw [aD]; omega) | (rw [List.length_take, aD]; omega) | (rw [W8.l_len]; omega) | (rw [bd]; omega)) rfl (isAgg133 _) (by rw [bc 0#32]; rfl))
   | 29, _, _ => exact fun w Y => OpV.g (bU rfl rfl)
   | 30, _, _ => exact fun w Y => OpV.g (ai rfl)
   | 31, _, _ => exact fun w Y => OpV.g (ai rfl)
   | 32, _, _ => exact fun w Y => OpV.g ((ah (i := (ix : Int)) (sT := 134) (Y.ow 1 rfl) rfl rfl (runUnderlying134 _) (sizeOf133 _) om (by rw [List.length_map]; first | omega | (rw [aD]; omega) | (rw [List.length_take, aD]; omega) | (rw [W8.l_len]; omega) | (rw [bd]; omega))).as (v' := slAddr u (ix * 1)) rfl)
   | 33, _, _ => exact fun w Y => OpV.g (au (u := wv ((sch bs 64).getD ix 0#32)) (i := ix) (j := 0) (Y.ow 1 rfl) (by rw [List.length_map]; first | omega | (rw [aD]; omega) | (rw [List.length_take, aD]; omega) | (rw [W8.l_len]; omega) | (rw [bd]; omega)) rfl (isAgg133 _) (by rw [bc 0#32]; rfl))
   | i + 34, h, _ => exact absurd h om
  ·intro i hi
   exact absurd hi sm
  clear Z Y
  intro  a w17 Z Y
  replace Z : Fr 238 [(135, z), (136, slAddr z (7 * 1)), (137, wv v.h), (138, wv v.e), (139, wv (ror v.e 6)), (140, wv v.e), (141, wv (ror v.e 11)), (142, wv ((ror v.e 6) ^^^ (ror v.e 11))), (143, wv v.e), (144, wv (ror v.e 25)), (145, wv (((ror v.e 6) ^^^ (ror v.e 11)) ^^^ (ror v.e 25))), (146, wv (v.h + (((ror v.e 6) ^^^ (ror v.e 11)) ^^^ (ror v.e 25)))), (147, wv v.e), (148, z), (149, slAddr z (5 * 1)), (150, wv v.f), (151, wv (v.e &&& v.f)), (152, wv v.e), (153, wv (~~~v.e)), (154, z), (155, slAddr z (6 * 1)), (156, wv v.g), (157, wv ((~~~v.e) &&& v.g)), (158, wv ((v.e &&& v.f) ^^^ ((~~~v.e) &&& v.g))), (159, wv ((v.h + (((ror v.e 6) ^^^ (ror v.e 11)) ^^^ (ror v.e 25))) + ((v.e &&& v.f) ^^^ ((~~~v.e) &&& v.g)))), (160, kz), (161, iv (ix : Int)), (162, slAddr kz (ix * 1)), (163, wv ((kOf).getD ix 0#32)), (164, wv (((v.h + (((ror v.e 6) ^^^ (ror v.e 11)) ^^^ (ror v.e 25))) + ((v.e &&& v.f) ^^^ ((~~~v.e) &&& v.g))) + ((kOf).getD ix 0#32))), (165, u), (166, iv (ix : Int)), (167, slAddr u (ix * 1)), (168, wv ((sch bs 64).getD ix 0#32)), (0, _), (4, _), (5, _), (10, _), (11, _), (12, _), (13, _), (14, _)] [] a := Z
  refine ab <| aK (k := 34) 36 [35] kr kr kr ?_
  refine wlv Z (bU rfl rfl) fun a Z => wla Z rfl fun a Z => ab <| aO kr ?_
  refine hK25 _ _ ?_
  replace Z := Z.p9 0 4 5 10 11 12 13 14 15 rfl
  refine ac fun K26 hK26 => aI kr (aL kr fun w18 hxz => ?_)
  replace Y := Y.grow hxz
  refine aP (k := 0) 27 [7, 26] Z kr kr kr rfx ?_
  replace Z := Z.p9 0 4 5 10 11 12 13 14 15 rfl
  refine ay [] (fun i => match i with | _ => fun _ _ => False) 27 [[], [0], [], [2], [1, 3], [], [5], [4, 6], [], [], [9], [10], [8, 11], [], [], [14], [15], [13, 16], [12, 17], [], [19], [20], [], [22], [23], [21, 24], [18, 25]] [wv v.a, wv (ror v.a 2), wv v.a, wv (ror v.a 13), wv ((ror v.a 2) ^^^ (ror v.a 13)), wv v.a, wv (ror v.a 22), wv (((ror v.a 2) ^^^ (ror v.a 13)) ^^^ (ror v.a 22)), wv v.a, z, slAddr z (1 * 1), wv v.b, wv (v.a &&& v.b), wv v.a, z, slAddr z (2 * 1), wv v.c, wv (v.a &&& v.c), wv ((v.a &&& v.b) ^^^ (v.a &&& v.c)), z, slAddr z (1 * 1), wv v.b, z, slAddr z (2 * 1), wv v.c, wv (v.b &&& v.c), wv (((v.a &&& v.b) ^^^ (v.a &&& v.c)) ^^^ (v.b &&& v.c))] Z Y kr kr kr ?_ ?_ ?_
  ·intro i hi hiq
   match i, hi, hiq with
   | 0, _, _ => exact fun w Y => OpV.g (ai rfl)
   | 1, _, _ => exact fun w Y => bh call102 rfl (cV v.a 2 _ de de)
   | 2, _, _ => exact fun w Y => OpV.g (ai rfl)
   | 3, _, _ => exact fun w Y => bh call102 rfl (cV v.a 13 _ de de)
   | 4, _, _ => exact fun w Y => OpV.g (cr rfl rfl)
   | 5, _, _ => exact fun w Y => OpV.g (ai rfl)
   | 6, _, _ => exact fun w Y => bh call102 rfl (cV v.a 22 _ de de)
   | 7, _, _ => exact fun w Y => OpV.g (cr rfl rfl)
   | 8, _, _ => exact fun w Y => OpV.g (ai rfl)
   | 9, _, _ => exact fun w Y => OpV.g (ai rfl)
   | 10, _, _ => exact fun w Y => OpV.g ((ah (i := 1) (sT := 134) (Y.ow 0 rfl) rfl rfl (runUnderlying134 _) (sizeOf133 _) om (by rw [List.length_map, W8.l_len]; decide)).as (v' := slAddr z (1 * 1)) rfl)
   | 11, _, _ => exact fun w Y => OpV.g (au (u := wv v.b) (i := 1) (j := 0) (Y.ow 0 rfl) (by rw [List.length_map, W8.l_len]; decide) rfl (isAgg133 _) rfx)
   | 12, _, _ => exact fun w Y => OpV.g (dA rfl rfl)
   | 13, _, _ => exact fun w Y => OpV.g (ai rfl)
   | 14, _, _ => exact fun w Y => OpV.g (ai rfl)
   | 15, _, _ => exact fun w Y => OpV.g ((ah (i := 2) (sT := 134) (Y.ow 0 rfl) rfl rfl (runUnderlying134 _) (sizeOf133 _) om (by rw [List.length_map, W8.l_len]; decide)).as (v' := slAddr z (2 * 1)) rfl)
   | 16, _, _ => exact fun w Y => OpV.g (au (u := wv v.c) (i := 2) (j := 0) (Y.ow 0 rfl) (by rw [List.length_map, W8.l_len]; decide) rfl (isAgg133 _) rfx)
   | 17, _, _ => exact fun w Y => OpV.g (dA rfl rfl)
   | 18, _, _ => exact fun w Y => OpV.g (cr rfl rfl)
   | 19, _, _ => exact fun w Y => OpV.g (ai rfl)
   | 20, _, _ => exact fun w Y => OpV.g ((ah (i := 1) (sT := 134) (Y.ow 0 rfl) rfl rfl (runUnderlying134 _) (sizeOf133 _) om (by rw [List.length_map, W8.l_len]; decide)).as (v' := slAddr z (1 * 1)) rfl)
   | 21, _, _ => exact fun w Y => OpV.g (au (u := wv v.b) (i := 1) (j := 0) (Y.ow 0 rfl) (by rw [List.length_map, W8.l_len]; decide) rfl (isAgg133 _) rfx)
   | 22, _, _ => exact fun w Y => OpV.g (ai rfl)
   | 23, _, _ => exact fun w Y => OpV.g ((ah (i := 2) (sT := 134) (Y.ow 0 rfl) rfl rfl (runUnderlying134 _) (sizeOf133 _) om (by rw [List.length_map, W8.l_len]; decide)).as (v' := slAddr z (2 * 1)) rfl)
   | 24, _, _ => exact fun w Y => OpV.g (au (u := wv v.c) (i := 2) (j := 0) (Y.ow 0 rfl) (by rw [List.length_map, W8.l_len]; decide) rfl (isAgg133 _) rfx)
   | 25, _, _ => exact fun w Y => OpV.g (dA rfl rfl)
   | 26, _, _ => exact fun w Y => OpV.g (cr rfl rfl)
   | i + 27, h, _ => exact absurd h om
  ·intro i hi
   exact absurd hi sm
  clear Z Y
  intro  a w19 Z Y
  replace Z : Fr 238 [(170, wv v.a), (171, wv (ror v.a 2)), (172, wv v.a), (173, wv (ror v.a 13)), (174, wv ((ror v.a 2) ^^^ (ror v.a 13))), (175, wv v.a), (176, wv (ror v.a 22)), (177, wv (((ror v.a 2) ^^^ (ror v.a 13)) ^^^ (ror v.a 22))), (178, wv v.a), (179, z), (180, slAddr z (1 * 1)), (181, wv v.b), (182, wv (v.a &&& v.b)), (183, wv v.a), (184, z), (185, slAddr z (2 * 1)), (186, wv v.c), (187, wv (v.a &&& v.c)), (188, wv ((v.a &&& v.b) ^^^ (v.a &&& v.c))), (189, z), (190, slAddr z (1 * 1)), (191, wv v.b), (192, z), (193, slAddr z (2 * 1)), (194, wv v.c), (195, wv (v.b &&& v.c)), (196, wv (((v.a &&& v.b) ^^^ (v.a &&& v.c)) ^^^ (v.b &&& v.c))), (0, _), (4, _), (5, _), (10, _), (11, _), (12, _), (13, _), (14, _), (15, _)] [] a := Z
  refine ab <| aK (k := 27) 29 [28] kr kr kr ?_
  refine wlv Z (bU rfl rfl) fun a Z => wla Z rfl fun a Z => ab <| aO kr ?_
  refine hK26 _ _ ?_
  replace Z := Z.p10 0 4 5 10 11 12 13 14 15 16 rfl
  rw [show (((v.h + (((ror v.e 6) ^^^ (ror v.e 11)) ^^^ (ror v.e 25))) + ((v.e &&& v.f) ^^^ ((~~~v.e) &&& v.g))) + ((kOf).getD ix 0#32)) + ((sch bs 64).getD ix 0#32) = tOf v (kOf.getD ix 0#32) ((sch bs 64).getD ix 0#32) from by rw [tOf, mix3]] at Z
  rw [show (((ror v.a 2) ^^^ (ror v.a 13)) ^^^ (ror v.a 22)) + (((v.a &&& v.b) ^^^ (v.a &&& v.c)) ^^^ (v.b &&& v.c)) = uOf v from by rw [uOf, mix3]] at Z
  refine aI kr (aL kr fun w20 hxz => ?_)
  replace Y := Y.grow hxz
  refine aP (k := 0) 22 [2, 3, 6, 9, 14, 15, 18, 21] Z kr kr kr rfx ?_
  replace Z := Z.p10 0 4 5 10 11 12 13 14 15 16 rfl
  refine ay [] (fun i => match i with | _ => fun _ _ => False) 22 [[], [], [0, 1], [], [], [4], [5], [], [7], [8], [], [10], [11], [], [12, 13], [], [], [16], [17], [], [19], [20]] [wv (tOf v (kOf.getD ix 0#32) ((sch bs 64).getD ix 0#32)), wv (uOf v), wv ((tOf v (kOf.getD ix 0#32) ((sch bs 64).getD ix 0#32)) + (uOf v)), wv v.a, z, slAddr z (1 * 1), wv v.b, z, slAddr z (2 * 1), wv v.c, z, slAddr z (3 * 1), wv v.d, wv (tOf v (kOf.getD ix 0#32) ((sch bs 64).getD ix 0#32)), wv (v.d + (tOf v (kOf.getD ix 0#32) ((sch bs 64).getD ix 0#32))), wv v.e, z, slAddr z (5 * 1), wv v.f, z, slAddr z (6 * 1), wv v.g] Z Y kr kr kr ?_ ?_ ?_
  ·intro i hi hiq
   match i, hi, hiq with
   | 0, _, _ => exact fun w Y => OpV.g (ai rfl)
   | 1, _, _ => exact fun w Y => OpV.g (ai rfl)
   | 2, _, _ => exact fun w Y => OpV.g (bU rfl rfl)
   | 3, _, _ => exact fun w Y => OpV.g (ai rfl)
   | 4, _, _ => exact fun w Y => OpV.g (ai rfl)
   | 5, _, _ => exact fun w Y => OpV.g ((ah (i := 1) (sT := 134) (Y.ow 0 rfl) rfl rfl (runUnderlying134 _) (sizeOf133 _) om (by rw [List.length_map, W8.l_len]; decide)).as (v' := slAddr z (1 * 1)) rfl)
   | 6, _, _ => exact fun w Y => OpV.g (au (u := wv v.b) (i := 1) (j := 0) (Y.ow 0 rfl) (by rw [List.length_map, W8.l_len]; decide) rfl (isAgg133 _) rfx)
   | 7, _, _ => exact fun w Y => OpV.g (ai rfl)
   | 8, _, _ => exact fun w Y => OpV.g ((ah (i := 2) (sT := 134) (Y.ow 0 rfl) rfl rfl (runUnderlying134 _) (sizeOf133 _) om (by rw [List.length_map, W8.l_len]; decide)).as (v' := slAddr z (2 * 1)) rfl)
   | 9, _, _ => exact fun w Y => OpV.g (au (u := wv v.c) (i := 2) (j := 0) (Y.ow 0 rfl) (by rw [List.length_map, W8.l_len]; decide) rfl (isAgg133 _) rfx)
   | 10, _, _ => exact fun w Y => OpV.g (ai rfl)
   | 11, _, _ => exact fun w Y => OpV.g ((ah (i := 3) (sT := 134) (Y.ow 0 rfl) rfl rfl (runUnderlying134 _) (sizeOf133 _) om (by rw [List.length_map, W8.l_len]; decide)).as (v' := slAddr z (3 * 1)) rfl)
   | 12, _, _ => exact fun w Y => OpV.g (au (u := wv v.d) (i := 3) (j := 0) (Y.ow 0 rfl) (by rw [List.length_map, W8.l_len]; decide) rfl (isAgg133 _) rfx)
   | 13, _, _ => exact fun w Y => OpV.g (ai rfl)
   | 14, _, _ => exact fun w Y => OpV.g (bU rfl rfl)
   | 15, _, _ => exact fun w Y => OpV.g (ai rfl)
   | 16, _, _ => exact fun w Y => OpV.g (ai rfl)
   | 17, _, _ => exact fun w Y => OpV.g ((ah (i := 5) (sT := 134) (Y.ow 0 rfl) rfl rfl (runUnderlying134 _) (sizeOf133 _) om (by rw [List.length_map, W8.l_len]; decide)).as (v' := slAddr z (5 * 1)) rfl)
   | 18, _, _ => exact fun w Y => OpV.g (au (u := wv v.f) (i := 5) (j := 0) (Y.ow 0 rfl) (by rw [List.length_map, W8.l_len]; decide) rfl (isAgg133 _) rfx)
   | 19, _, _ => exact fun w Y => OpV.g (ai rfl)
   | 20, _, _ => exact fun w Y => OpV.g ((ah (i := 6) (sT := 134) (Y.ow 0 rfl) rfl rfl (runUnderlying134 _) (sizeOf133 _) om (by rw [List.length_map, W8.l_len]; decide)).as (v' := slAddr z (6 * 1)) rfl)
   | 21, _, _ => exact fun w Y => OpV.g (au (u := wv v.g) (i := 6) (j := 0) (Y.ow 0 rfl) (by rw [List.length_map, W8.l_len]; decide) rfl (isAgg133 _) rfx)
   | i + 22, h, _ => exact absurd h om
  ·intro i hi
   exact absurd hi sm
  clear Z Y
  intro  a w21 Z Y
  replace Z : Fr 238 [(198, wv (tOf v (kOf.getD ix 0#32) ((sch bs 64).getD ix 0#32))), (199, wv (uOf v)), (200, wv ((tOf v (kOf.getD ix 0#32) ((sch bs 64).getD ix 0#32)) + (uOf v))), (201, wv v.a), (202, z), (203, slAddr z (1 * 1)), (204, wv v.b), (205, z), (206, slAddr z (2 * 1)), (207, wv v.c), (208, z), (209, slAddr z (3 * 1)), (210, wv v.d), (211, wv (tOf v (kOf.getD ix 0#32) ((sch bs 64).getD ix 0#32))), (212, wv (v.d + (tOf v (kOf.getD ix 0#32) ((sch bs 64).getD ix 0#32)))), (213, wv v.e), (214, z), (215, slAddr z (5 * 1)), (216, wv v.f), (217, z), (218, slAddr z (6 * 1)), (219, wv v.g), (0, _), (4, _), (5, _), (10, _), (11, _), (12, _), (13, _), (14, _), (15, _), (16, _)] [] a := Z
  refine ab <| aK (k := 22) 24 [23] kr kr kr ?_
  refine ax (E := 133) (sz := 1) rfl [[wv ((tOf v (kOf.getD ix 0#32) ((sch bs 64).getD ix 0#32)) + (uOf v))], [wv v.a], [wv v.b], [wv v.c], [wv (v.d + (tOf v (kOf.getD ix 0#32) ((sch bs 64).getD ix 0#32)))], [wv v.e], [wv v.f], [wv v.g]] kr sm rfl de de Z Y ?_
  clear Z Y
  intro a w22 Z Y
  refine wla Z rfl fun a Z => ab <| aO kr ?_
  refine hK22 _ _ ?_
  replace Z := Z.p6 0 4 5 10 12 11 rfl
  refine ao <| wlm Z rfl fun a Z => wlv Z (aT rfl rfl ⟨om, om⟩) fun a Z => wla Z rfl fun a Z => ab ?_
  replace Y : St No w0 [_, _, _, _] w22 := Y
  refine ⟨_, ?_, ix + 1, (rnd v (kOf.getD ix 0#32) ((sch bs 64).getD ix 0#32)), (.slice (some ⟨w21.hz, 0, none⟩) 8 8), rfl, om, (by rw [rounds, hrv]), Z.pick [0, 4, 5, 10, 11, 12], Y.select [0, 2, 3] de⟩
  omega
 rw [hc9] at Z
 try simp only [qz] at hc9
 obtain rfl : ix = 64 := by omega
 refine aE <| hK18 _ _ <| aa fun K27 hK27 => wla Z rfl fun a Z => ab (hK27 _ _ <| ac fun K28 hK28 => ?_)
 refine aa fun K29 hK29 => wla Z rfl fun a Z => ab (hK29 _ _ <| am ?_)
 replace Y : St No w0 [own (.slice none 0 0) 133 1 (((hv.add v).l.take 0).map fun x => [wv x]), own z 133 1 ((v.l).map fun x => [wv x]), own u 133 1 ((sch bs 64).map fun x => [wv x]), own kz 133 1 ((kOf).map fun x => [wv x])] w15 := Y.nil_own
 refine aV (fun m a w => ∃ (q : Nat) (y : Value), m = 8 - q ∧ (q ≤ 8) ∧ Fr 238 [(0, hvv), (4, .slice none 0 0), (11, z), (17, y), (18, iv (q : Int))] [] a ∧ St No w0 [own y 133 1 (((hv.add v).l.take q).map fun x => [wv x]), own z 133 1 ((v.l).map fun x => [wv x])] w) _ ⟨0, .slice none 0 0, rfl, Nat.zero_le _, Z.pick [0, 4, 11, 17, 18], Y.select [0, 1] de⟩ ?_
 rintro _ a w23 ⟨q, y, rfl, hq, Z, Y⟩
 refine ac fun K30 hK30 => aa fun K31 hK31 => wlm Z rfl fun a Z => wlv Z (v_lt rfl rfl) fun a Z => ab (hK31 _ _ ?_)
 refine az Z rfl (fun hc10 => ?_) (fun hc10 => ?_)
 ·rw [hc10] at Z
  try simp only [qz] at hc10
  refine ap <| hK30 _ _ <| ac fun K32 hK32 => am <| aI kr (aL kr fun w24 hxz => ?_)
  replace Y := Y.grow hxz
  refine aP (k := 0) 11 [0, 10] Z kr kr kr rfx ?_
  replace Z := Z.p7 0 4 11 17 18 221 222 rfl
  refine ay [10] (fun i => match i with | 10 => pm (fun b : Nat => .slice (some ⟨b, 0, none⟩) 1 1) (fun b => [own (.slice (some ⟨b, 0, none⟩) 1 1) 133 1 [[wv ((hv.l.getD q 0#32) + (v.l.getD q 0#32))]]]) (fun _ => True) | _ => fun _ _ => False) 11 [[], [], [], [1, 2], [3], [], [], [5, 6], [7], [4, 8], [9]] [y, hvv, iv (q : Int), slAddr hvv (q * 1), wv (hv.l.getD q 0#32), z, iv (q : Int), slAddr z (q * 1), wv (v.l.getD q 0#32), wv ((hv.l.getD q 0#32) + (v.l.getD q 0#32)), undef] Z Y kr kr kr ?_ ?_ ?_
  ·intro i hi hiq
   match i, hi, hiq with
   | 0, _, _ => exact fun w Y => OpV.g (ai rfl)
   | 1, _, _ => exact fun w Y => OpV.g (ai rfl)
   | 2, _, _ => exact fun w Y => OpV.g (ai rfl)
   | 3, _, _ => exact fun w Y => OpV.g ((ah (i := (q : Int)) (sT := 134) (Y.arg hhv) rfl rfl (runUnderlying134 _) (sizeOf133 _) om (by rw [List.length_map]; first | omega | (rw [aD]; omega) | (rw [List.length_take, aD]; omega) | (rw [W8.l_len]; omega) | (rw [bd]; omega))).as (v' := slAddr hvv (q * 1)) rfl)
   | 4, _, _ => exact fun w Y => OpV.g (au (u := wv (hv.l.getD q 0#32)) (i := q) (j := 0) (Y.arg hhv) (by rw [List.length_map]; first | omega | (rw [aD]; omega) | (rw [List.length_take, aD]; omega) | (rw [W8.l_len]; omega) | (rw [bd]; omega)) rfl (isAgg133 _) (by rw [bc 0#32]; rfl))
   | 5, _, _ => exact fun w Y => OpV.g (ai rfl)
   | 6, _, _ => exact fun w Y => OpV.g (ai rfl)
   | 7, _, _ => exact fun w Y => OpV.g ((ah (i := (q : Int)) (sT := 134) (Y.ow 1 rfl) rfl rfl (runUnderlying134 _) (sizeOf133 _) om (by rw [List.length_map]; first | omega | (rw [aD]; omega) | (rw [List.length_take, aD]; omega) | (rw [W8.l_len]; omega) | (rw [bd]; omega))).as (v' := slAddr z (q * 1)) rfl)
   | 8, _, _ => exact fun w Y => OpV.g (au (u := wv (v.l.getD q 0#32)) (i := q) (j := 0) (Y.ow 1 rfl) (by rw [List.length_map]; first | omega | (rw [aD]; omega) | (rw [List.length_take, aD]; omega) | (rw [W8.l_len]; omega) | (rw [bd]; omega)) rfl (isAgg133 _) (by rw [bc 0#32]; rfl))
   | 9, _, _ => exact fun w Y => OpV.g (bU rfl rfl)
   | 10, _, h => exact absurd sm h
  ·intro i hi
   simp only [List.mem_cons, List.not_mem_nil, or_false] at hi
   subst hi
   ·intro w Y
    exact aW (E := 133) (sz := 1) rfl [[wv ((hv.l.getD q 0#32) + (v.l.getD q 0#32))]] (fun _ => by kernel_rfl) sm rfl de
  clear Z Y
  rintro _ _ ⟨b11, rfl, -, rfl⟩ a w25 Z Y
  replace Z : Fr 238 [(225, y), (226, hvv), (227, iv (q : Int)), (228, slAddr hvv (q * 1)), (229, wv (hv.l.getD q 0#32)), (230, z), (231, iv (q : Int)), (232, slAddr z (q * 1)), (233, wv (v.l.getD q 0#32)), (234, wv ((hv.l.getD q 0#32) + (v.l.getD q 0#32))), (235, _), (0, _), (4, _), (11, _), (17, _), (18, _), (221, _), (222, _)] [] a := Z
  replace Y : St No w0 [_, _, _] w25 := Y
  refine ab <| aK (k := 11) 13 [12] kr kr kr ?_
  refine aS (i := 1) (sT := 134) (inf := Tryd.t133) (z := wv (0#32)) (b := 0) (off := 0) (m := 0) (c := 0) rfl rfl rfl (Y.ow 0 rfl) sm underlying134 rfl rfl rfl rfl de (by simp [Value.oneCell', yv, wv, sv]) (by have hby : Tryd.t133.bytes = 4 := rfl; simp only [big, hby, List.length_append, List.length_map, List.length_take, aD, W8.l_len, List.length_cons, List.length_nil]; omega) (by have hby : Tryd.t133.bytes = 4 := rfl; simp only [big, hby, List.length_append, List.length_map, List.length_take, aD, W8.l_len, List.length_cons, List.length_nil]; omega) de Z Y fun a w26 s12 Z Y _ => wla Z rfl fun a Z => ab <| aO kr ?_
  refine hK32 _ _ ?_
  replace Z := Z.p5 0 4 11 18 17 rfl
  replace Y := Y.k2 6 rfl
  refine ao <| wlm Z rfl fun a Z => wlv Z (aT rfl rfl ⟨om, om⟩) fun a Z => wla Z rfl fun a Z => ab ?_
  rw [show (((hv.add v).l.take q).map fun x => [wv x]) ++ ([[wv ((hv.l.getD q 0#32) + (v.l.getD q 0#32))]]) = (((hv.add v).l.take (q + 1)).map fun x => [wv x]) from by rw [mG hv v om]; simp] at Y
  refine ⟨_, ?_, q + 1, s12, rfl, om, Z.pick [0, 4, 11, 17, 18], Y.select [0, 1] de⟩
  omega
 rw [hc10] at Z
 try simp only [qz] at hc10
 refine aE <| hK28 _ _ <| aa fun K33 hK33 => wlm Z rfl fun a Z => wla Z rfl fun a Z => ab (hK33 _ _ ?_)
 replace Z := Z.p1 4 rfl
 refine aw ?_
 refine ar Z results89 (ae rfl ag) ?_
 obtain rfl : q = 8 := by omega
 exact ⟨y, rfl, trivial, Y.ext, St.out (E := [own y 133 1 (((block hv bs).l).map fun x => [wv x])]) (H := []) (by rw [block, hrv]; exact Y.select [0] de)⟩
theorem nC (v : W8) {q : Nat} (h : q < 8) : v.out.take (4 * (q + 1)) = v.out.take (4 * q) ++ [UInt8.ofNat (v.l.getD q 0#32 >>> 24).toNat, UInt8.ofNat (v.l.getD q 0#32 >>> 16).toNat, UInt8.ofNat (v.l.getD q 0#32 >>> 8).toNat, UInt8.ofNat (v.l.getD q 0#32).toNat] := by
 have : q = 0 ∨ q = 1 ∨ q = 2 ∨ q = 3 ∨ q = 4 ∨ q = 5 ∨ q = 6 ∨ q = 7 := by omega
 rcases this with rfl | rfl | rfl | rfl | rfl | rfl | rfl | rfl <;> simp [W8.out, W8.l, k8]
theorem dM (s : By) (w0 : World) (hs : s.length ≤ 100000000) :
  Ret Tryd.prog 70 #[sv s] w0 fun v w => v = sv (sha s) ∧ Ext No w0 w := by
 have hpb := ff s
 refine aF func70 rfl ntmps70 (lb rfl) fun a Z => ?_
 replace Z := Z.p1 0 rfl
 replace Y : St No w0 [] w0 := St.init w0
 refine aa fun K1 hK1 => wla Z rfl fun a Z => ab (hK1 _ _ <| aa fun K2 hK2 => ?_)
 refine ax (E := 133) (sz := 1) rfl [[wv (1779033703#32)], [wv (3144134277#32)], [wv (1013904242#32)], [wv (2773480762#32)], [wv (1359893119#32)], [wv (2600822924#32)], [wv (528734635#32)], [wv (1541459225#32)]] kr sm rfl de de Z Y ?_
 clear Z Y
 intro a w1 Z Y
 refine wla Z rfl fun a Z => ab (hK2 _ _ <| aa fun K3 hK3 => ?_)
 refine wlm Z rfl fun a Z => aN Z Y de call88 rfl (jq s _ hs) ?_
 clear Z Y
 intro a w2 x1 hp Z Y
 revert x1 hp Z Y; rintro bz hp Z Y
 clear hp
 replace Y : St No w0 [_, _] w2 := Y
 refine wla Z rfl fun a Z => ab (hK3 _ _ <| ac fun K4 hK4 => ?_)
 refine aa fun K5 hK5 => wla Z rfl fun a Z => ab (hK5 _ _ <| am ?_)
 replace Y : St No w0 [_, _] w2 := Y
 refine aV (fun m a w => ∃ (q : Nat) (hz : Value), m = (padded s).length / 64 - q ∧ (q ≤ (padded s).length / 64) ∧ Fr 56 [(2, sv ([])), (4, bz), (3, hz), (5, iv ((64 * q : Nat) : Int))] [] a ∧ St No w0 [own hz 133 1 (((blocks h0 (padded s) q).l).map fun x => [wv x]), own bz 5 1 ((padded s).map fun b => [yv b])] w) _ ⟨0, (.slice (some ⟨w0.hz, 0, none⟩) 8 8), rfl, Nat.zero_le _, Z.pick [2, 4, 3, 5], Y.select [1, 0] de⟩ ?_
 rintro _ a w3 ⟨q, hz, rfl, hq, Z, Y⟩
 refine ac fun K6 hK6 => aa fun K7 hK7 => wlm Z rfl fun a Z => wlm Z rfl fun a Z => wlv Z ((aG (sT := 71) (Y.ow 1 rfl) rfl rfl (runUnderlying71 _)).asi (m' := ((padded s).length : Int)) (by rw [List.length_map])) fun a Z => wlv Z (v_lt rfl rfl) fun a Z => ab (hK7 _ _ ?_)
 refine az Z rfl (fun hc2 => ?_) (fun hc2 => ?_)
 ·rw [hc2] at Z
  try simp only [qz] at hc2
  have hpl := eN s
  refine ap <| hK6 _ _ <| ac fun K8 hK8 => am <| ao <| wlm Z rfl fun a Z => wlm Z rfl fun a Z => wlm Z rfl fun a Z => wlm Z rfl fun a Z => wlv Z (aT rfl rfl ⟨om, om⟩) fun a Z => wlv Z (bx (l := (64 * q)) (h := (64 * q + 64)) (Y.ow 1 rfl) rfl rfl rfl underlying71 kr (.inr (by first | rfl | (rw [show (((64 * q : Nat) : Int) : Int) = (((64 * q) : Nat) : Int) from by omega] <;> rfl))) (.inr (by first | rfl | (rw [show (((64 * q : Nat) : Int) + 64 : Int) = (((64 * q + 64) : Nat) : Int) from by omega] <;> rfl))) om (by first | (rw [List.length_map]; omega) | (simp <;> omega))) fun a Z => aN Z Y de call89 rfl (lU hz (cut bz 1 (64 * q) (64 * q + 64) (slCap bz)) (blocks h0 (padded s) q) (((padded s).drop (64 * q)).take 64) _ (Y.ow 0 rfl) (by have h := ((Y.ow 1 rfl).cutm (l := (64 * q)) (h := (64 * q + 64)) om (by first | omega | (simp; omega))); rwa [show 64 * q + 64 - 64 * q = 64 from by omega] at h) (by simp; omega)) ?_
  clear Z Y
  intro a w4 x4 hp Z Y
  revert x4 hp Z Y; rintro v3 hp Z Y
  clear hp
  replace Y : St No w0 [_, _, _] w4 := Y
  refine wla Z rfl fun a Z => ab <| hK8 _ _ ?_
  replace Z := Z.p4 2 4 5 3 rfl
  refine ao <| wlm Z rfl fun a Z => wlv Z (aT rfl rfl ⟨om, om⟩) fun a Z => wla Z rfl fun a Z => ab ?_
  replace Y : St No w0 [_, _, _] w4 := Y
  rw [show ((64 * q : Nat) : Int) + 64 = ((64 * (q + 1) : Nat) : Int) from by omega] at Z
  refine ⟨_, ?_, q + 1, v3, rfl, om, Z.pick [2, 4, 3, 5], Y.select [0, 2] de⟩
  omega
 rw [hc2] at Z
 try simp only [qz] at hc2
 have hpl := eN s
 obtain rfl : q = (padded s).length / 64 := by omega
 refine aE <| hK4 _ _ <| aa fun K9 hK9 => wla Z rfl fun a Z => ab (hK9 _ _ ?_)
 replace Z := Z.p3 2 3 6 rfl
 refine ac fun K10 hK10 => aa fun K11 hK11 => wla Z rfl fun a Z => ab (hK11 _ _ <| am ?_)
 replace Y : St No w0 [own (.slice none 0 0) 5 1 (((blocks h0 (padded s) ((padded s).length / 64)).out.take (4 * 0)).map fun b => [yv b]), own hz 133 1 (((blocks h0 (padded s) ((padded s).length / 64)).l).map fun x => [wv x]), own bz 5 1 ((padded s).map fun b => [yv b])] w3 := Y.nil_own
 refine aV (fun m a w => ∃ (r : Nat) (oz : Value), m = 8 - r ∧ (r ≤ 8) ∧ Fr 56 [(2, sv ([])), (3, hz), (6, oz), (7, iv (r : Int))] [] a ∧ St No w0 [own oz 5 1 (((blocks h0 (padded s) ((padded s).length / 64)).out.take (4 * r)).map fun b => [yv b]), own hz 133 1 (((blocks h0 (padded s) ((padded s).length / 64)).l).map fun x => [wv x])] w) _ ⟨0, .slice none 0 0, rfl, Nat.zero_le _, Z.pick [2, 3, 6, 7], Y.select [0, 1] de⟩ ?_
 rintro _ a w5 ⟨r, oz, rfl, hr, Z, Y⟩
 refine ac fun K12 hK12 => aa fun K13 hK13 => wlm Z rfl fun a Z => wlv Z (v_lt rfl rfl) fun a Z => ab (hK13 _ _ ?_)
 refine az Z rfl (fun hc5 => ?_) (fun hc5 => ?_)
 ·rw [hc5] at Z
  try simp only [qz] at hc5
  refine ap <| hK12 _ _ <| ac fun K14 hK14 => am <| aI kr (aL kr fun w6 hxz => ?_)
  replace Y := Y.grow hxz
  refine aP (k := 0) 25 [0, 24] Z kr kr kr rfx ?_
  replace Z := Z.p6 2 3 6 7 24 25 rfl
  refine ay [24] (fun i => match i with | 24 => pm (fun b : Nat => .slice (some ⟨b, 0, none⟩) 4 4) (fun b => [own (.slice (some ⟨b, 0, none⟩) 4 4) 5 1 [[yv (UInt8.ofNat (((blocks h0 (padded s) ((padded s).length / 64)).l.getD r 0#32) >>> 24).toNat)], [yv (UInt8.ofNat (((blocks h0 (padded s) ((padded s).length / 64)).l.getD r 0#32) >>> 16).toNat)], [yv (UInt8.ofNat (((blocks h0 (padded s) ((padded s).length / 64)).l.getD r 0#32) >>> 8).toNat)], [yv (UInt8.ofNat ((blocks h0 (padded s) ((padded s).length / 64)).l.getD r 0#32).toNat)]]]) (fun _ => True) | _ => fun _ _ => False) 25 [[], [], [], [1, 2], [3], [4], [5], [], [], [7, 8], [9], [10], [11], [], [], [13, 14], [15], [16], [17], [], [], [19, 20], [21], [22], [6, 12, 18, 23]] [oz, hz, iv (r : Int), slAddr hz (r * 1), wv ((blocks h0 (padded s) ((padded s).length / 64)).l.getD r 0#32), wv (((blocks h0 (padded s) ((padded s).length / 64)).l.getD r 0#32) >>> 24), yv (UInt8.ofNat (((blocks h0 (padded s) ((padded s).length / 64)).l.getD r 0#32) >>> 24).toNat), hz, iv (r : Int), slAddr hz (r * 1), wv ((blocks h0 (padded s) ((padded s).length / 64)).l.getD r 0#32), wv (((blocks h0 (padded s) ((padded s).length / 64)).l.getD r 0#32) >>> 16), yv (UInt8.ofNat (((blocks h0 (padded s) ((padded s).length / 64)).l.getD r 0#32) >>> 16).toNat), hz, iv (r : Int), slAddr hz (r * 1), wv ((blocks h0 (padded s) ((padded s).length / 64)).l.getD r 0#32), wv (((blocks h0 (padded s) ((padded s).length / 64)).l.getD r 0#32) >>> 8), yv (UInt8.ofNat (((blocks h0 (padded s) ((padded s).length / 64)).l.getD r 0#32) >>> 8).toNat), hz, iv (r : Int), slAddr hz (r * 1), wv ((blocks h0 (padded s) ((padded s).length / 64)).l.getD r 0#32), yv (UInt8.ofNat ((blocks h0 (padded s) ((padded s).length / 64)).l.getD r 0#32).toNat), undef] Z Y kr kr kr ?_ ?_ ?_
  ·intro i hi hiq
   match i, hi, hiq with
   | 0, _, _ => exact fun w Y => OpV.g (ai rfl)
   | 1, _, _ => exact fun w Y => OpV.g (ai rfl)
   | 2, _, _ => exact fun w Y => OpV.g (ai rfl)
   | 3, _, _ => exact fun w Y => OpV.g ((ah (i := (r : Int)) (sT := 134) (Y.ow 1 rfl) rfl rfl (runUnderlying134 _) (sizeOf133 _) om (by rw [List.length_map]; first | omega | (rw [W8.l_len]; omega))).as (v' := slAddr hz (r * 1)) rfl)
   | 4, _, _ => exact fun w Y => OpV.g (au (u := wv ((blocks h0 (padded s) ((padded s).length / 64)).l.getD r 0#32)) (i := r) (j := 0) (Y.ow 1 rfl) (by rw [List.length_map]; first | omega | (rw [W8.l_len]; omega)) rfl (isAgg133 _) (by rw [bc 0#32]; rfl))
   | 5, _, _ => exact fun w Y => OpV.g (dz (n := 24) rfl rfl)
   | 6, _, _ => exact fun w Y => OpV.g (dC rfl kr underlying5)
   | 7, _, _ => exact fun w Y => OpV.g (ai rfl)
   | 8, _, _ => exact fun w Y => OpV.g (ai rfl)
   | 9, _, _ => exact fun w Y => OpV.g ((ah (i := (r : Int)) (sT := 134) (Y.ow 1 rfl) rfl rfl (runUnderlying134 _) (sizeOf133 _) om (by rw [List.length_map]; first | omega | (rw [W8.l_len]; omega))).as (v' := slAddr hz (r * 1)) rfl)
   | 10, _, _ => exact fun w Y => OpV.g (au (u := wv ((blocks h0 (padded s) ((padded s).length / 64)).l.getD r 0#32)) (i := r) (j := 0) (Y.ow 1 rfl) (by rw [List.length_map]; first | omega | (rw [W8.l_len]; omega)) rfl (isAgg133 _) (by rw [bc 0#32]; rfl))
   | 11, _, _ => exact fun w Y => OpV.g (dz (n := 16) rfl rfl)
   | 12, _, _ => exact fun w Y => OpV.g (dC rfl kr underlying5)
   | 13, _, _ => exact fun w Y => OpV.g (ai rfl)
   | 14, _, _ => exact fun w Y => OpV.g (ai rfl)
   | 15, _, _ => exact fun w Y => OpV.g ((ah (i := (r : Int)) (sT := 134) (Y.ow 1 rfl) rfl rfl (runUnderlying134 _) (sizeOf133 _) om (by rw [List.length_map]; first | omega | (rw [W8.l_len]; omega))).as (v' := slAddr hz (r * 1)) rfl)
   | 16, _, _ => exact fun w Y => OpV.g (au (u := wv ((blocks h0 (padded s) ((padded s).length / 64)).l.getD r 0#32)) (i := r) (j := 0) (Y.ow 1 rfl) (by rw [List.length_map]; first | omega | (rw [W8.l_len]; omega)) rfl (isAgg133 _) (by rw [bc 0#32]; rfl))
   | 17, _, _ => exact fun w Y => OpV.g (dz (n := 8) rfl rfl)
   | 18, _, _ => exact fun w Y => OpV.g (dC rfl kr underlying5)
   | 19, _, _ => exact fun w Y => OpV.g (ai rfl)
   | 20, _, _ => exact fun w Y => OpV.g (ai rfl)
   | 21, _, _ => exact fun w Y => OpV.g ((ah (i := (r : Int)) (sT := 134) (Y.ow 1 rfl) rfl rfl (runUnderlying134 _) (sizeOf133 _) om (by rw [List.length_map]; first | omega | (rw [W8.l_len]; omega))).as (v' := slAddr hz (r * 1)) rfl)
   | 22, _, _ => exact fun w Y => OpV.g (au (u := wv ((blocks h0 (padded s) ((padded s).length / 64)).l.getD r 0#32)) (i := r) (j := 0) (Y.ow 1 rfl) (by rw [List.length_map]; first | omega | (rw [W8.l_len]; omega)) rfl (isAgg133 _) (by rw [bc 0#32]; rfl))
   | 23, _, _ => exact fun w Y => OpV.g (dC rfl kr underlying5)
   | 24, _, h => exact absurd sm h
   | i + 25, h, _ => exact absurd h om
  ·intro i hi
   simp only [List.mem_cons, List.not_mem_nil, or_false] at hi
   subst hi
   ·intro w Y
    exact aW (E := 5) (sz := 1) rfl [[yv (UInt8.ofNat (((blocks h0 (padded s) ((padded s).length / 64)).l.getD r 0#32) >>> 24).toNat)], [yv (UInt8.ofNat (((blocks h0 (padded s) ((padded s).length / 64)).l.getD r 0#32) >>> 16).toNat)], [yv (UInt8.ofNat (((blocks h0 (padded s) ((padded s).length / 64)).l.getD r 0#32) >>> 8).toNat)], [yv (UInt8.ofNat ((blocks h0 (padded s) ((padded s).length / 64)).l.getD r 0#32).toNat)]] (fun _ => by kernel_rfl) sm rfl de
  clear Z Y
  rintro _ _ ⟨b6, rfl, -, rfl⟩ a w7 Z Y
  replace Z : Fr 56 [(28, oz), (29, hz), (30, iv (r : Int)), (31, slAddr hz (r * 1)), (32, wv ((blocks h0 (padded s) ((padded s).length / 64)).l.getD r 0#32)), (33, wv (((blocks h0 (padded s) ((padded s).length / 64)).l.getD r 0#32) >>> 24)), (34, yv (UInt8.ofNat (((blocks h0 (padded s) ((padded s).length / 64)).l.getD r 0#32) >>> 24).toNat)), (35, hz), (36, iv (r : Int)), (37, slAddr hz (r * 1)), (38, wv ((blocks h0 (padded s) ((padded s).length / 64)).l.getD r 0#32)), (39, wv (((blocks h0 (padded s) ((padded s).length / 64)).l.getD r 0#32) >>> 16)), (40, yv (UInt8.ofNat (((blocks h0 (padded s) ((padded s).length / 64)).l.getD r 0#32) >>> 16).toNat)), (41, hz), (42, iv (r : Int)), (43, slAddr hz (r * 1)), (44, wv ((blocks h0 (padded s) ((padded s).length / 64)).l.getD r 0#32)), (45, wv (((blocks h0 (padded s) ((padded s).length / 64)).l.getD r 0#32) >>> 8)), (46, yv (UInt8.ofNat (((blocks h0 (padded s) ((padded s).length / 64)).l.getD r 0#32) >>> 8).toNat)), (47, hz), (48, iv (r : Int)), (49, slAddr hz (r * 1)), (50, wv ((blocks h0 (padded s) ((padded s).length / 64)).l.getD r 0#32)), (51, yv (UInt8.ofNat ((blocks h0 (padded s) ((padded s).length / 64)).l.getD r 0#32).toNat)), (52, _), (2, _), (3, _), (6, _), (7, _), (24, _), (25, _)] [] a := Z
  replace Y : St No w0 [_, _, _] w7 := Y
  refine ab <| aK (k := 25) 27 [26] kr kr kr ?_
  refine aS (i := 1) (sT := 71) (inf := Tryd.t5) (z := yv (0 : UInt8)) (b := 0) (off := 0) (m := 0) (c := 0) rfl rfl rfl (Y.ow 0 rfl) sm underlying71 rfl rfl rfl rfl de (by simp [Value.oneCell', yv, wv, sv]) (by have hby : Tryd.t5.bytes = 1 := rfl; simp only [big, hby, List.length_append, List.length_map, List.length_take, fT, List.length_cons, List.length_nil]; omega) (by have hby : Tryd.t5.bytes = 1 := rfl; simp only [big, hby, List.length_append, List.length_map, List.length_take, fT, List.length_cons, List.length_nil]; omega) de Z Y fun a w8 s7 Z Y _ => wla Z rfl fun a Z => ab <| aO kr ?_
  refine hK14 _ _ ?_
  replace Z := Z.p4 2 3 7 6 rfl
  replace Y := Y.k2 6 rfl
  refine ao <| wlm Z rfl fun a Z => wlv Z (aT rfl rfl ⟨om, om⟩) fun a Z => wla Z rfl fun a Z => ab ?_
  rw [show (((blocks h0 (padded s) ((padded s).length / 64)).out.take (4 * r)).map fun b => [yv b]) ++ ([[yv (UInt8.ofNat (((blocks h0 (padded s) ((padded s).length / 64)).l.getD r 0#32) >>> 24).toNat)], [yv (UInt8.ofNat (((blocks h0 (padded s) ((padded s).length / 64)).l.getD r 0#32) >>> 16).toNat)], [yv (UInt8.ofNat (((blocks h0 (padded s) ((padded s).length / 64)).l.getD r 0#32) >>> 8).toNat)], [yv (UInt8.ofNat ((blocks h0 (padded s) ((padded s).length / 64)).l.getD r 0#32).toNat)]]) = (((blocks h0 (padded s) ((padded s).length / 64)).out.take (4 * (r + 1))).map fun b => [yv b]) from by rw [nC _ om]; simp] at Y
  refine ⟨_, ?_, r + 1, s7, rfl, om, Z.pick [2, 3, 6, 7], Y.select [0, 1] de⟩
  omega
 rw [hc5] at Z
 try simp only [qz] at hc5
 obtain rfl : r = 8 := by omega
 rw [show 4 * 8 = 32 from rfl, List.take_of_length_le (by rw [fT]; decide)] at Y
 refine aE <| hK10 _ _ <| aa fun K15 hK15 => wlm Z rfl fun a Z => wlv Z (dk (Y.ow 0 rfl) rfl underlying71 underlying5 underlying9) fun a Z => wla Z rfl fun a Z => ab (hK15 _ _ ?_)
 replace Z := Z.p1 2 rfl
 refine aw ?_
 refine ar Z results70 (ae rfl ag) ?_
 exact ⟨by rfl, Y.ext⟩
theorem gz (s : By) (w0 : World) (hs : s.length ≤ 40000000) :
  Ret Tryd.prog 39 #[sv s] w0 fun v w => v = sv (leafH sha s) ∧ Ext No w0 w := by
 refine aF func39 rfl ntmps39 (lb rfl) fun a Z => ?_
 replace Z := Z.p1 0 rfl
 replace Y : St No w0 [] w0 := St.init w0
 refine aa fun K1 hK1 => wla Z rfl fun a Z => ab (hK1 _ _ <| aa fun K2 hK2 => ?_)
 refine wlm Z rfl fun a Z => wlv Z (bY rfl rfl (by (simp only [List.length_append, List.length_cons, List.length_nil]); omega)) fun a Z => ak Z Y de call70 rfl (dM (([0]) ++ s) _ (by simp only [List.length_append, List.length_cons, List.length_nil]; omega)) ?_
 clear Z Y
 intro a w1 Z Y
 refine wla Z rfl fun a Z => ab (hK2 _ _ <| aw ?_)
 refine ar Z results39 (ae rfl ag) ?_
 exact ⟨by rfl, Y.ext⟩
theorem gw (s t : By) (w0 : World) (hs : s.length ≤ 40000000) (ht : t.length ≤ 40000000) :
  Ret Tryd.prog 69 #[sv s, sv t] w0 fun v w => v = sv (nodeH sha s t) ∧ Ext No w0 w := by
 refine aF func69 rfl ntmps69 (lb rfl) fun a Z => ?_
 replace Z := Z.p2 0 1 rfl
 replace Y : St No w0 [] w0 := St.init w0
 refine aa fun K1 hK1 => wla Z rfl fun a Z => ab (hK1 _ _ <| aa fun K2 hK2 => ?_)
 refine wlm Z rfl fun a Z => wlv Z (bY rfl rfl (by (simp only [List.length_append, List.length_cons, List.length_nil]); omega)) fun a Z => wlm Z rfl fun a Z => wlv Z (bY rfl rfl (by (simp only [List.length_append, List.length_cons, List.length_nil]); omega)) fun a Z => ak Z Y de call70 rfl (dM ((([1]) ++ s) ++ t) _ (by simp only [List.length_append, List.length_cons, List.length_nil]; omega)) ?_
 clear Z Y
 intro a w1 Z Y
 refine wla Z rfl fun a Z => ab (hK2 _ _ ?_)
 replace Z := Z.p1 4 rfl
 refine aw ?_
 refine ar Z results69 (ae rfl ag) ?_
 exact ⟨by rfl, Y.ext⟩
theorem jw {l : List By} (h : l.length = 1) : rootH sha l = leafH sha (l.getD 0 []) := by
 match l, h with
 | [x], _ => rfl
theorem jE (L : Nat) :
  ∀ (lv : Value) (ls : List By) (w0 : World), ls.length = L → SlAt w0 lv 1 (ls.map fun s => [sv s]) → ls.length ≤ 1000 → (∀ s ∈ ls, s.length ≤ 40000000) → Ret Tryd.prog 68 #[lv] w0 fun v w => v = sv (rootH sha ls) ∧ Ext No w0 w := by
 induction L using Nat.strongRecOn
 rename_i L ih
 intro lv ls w0 hL hlv hln hls
 have hnb := hlv.le
 rw [List.length_map] at hnb
 refine aF func68 rfl ntmps68 (lb rfl) fun a Z => ?_
 replace Z := Z.p1 0 rfl
 replace Y : St No w0 [] w0 := St.init w0
 refine aa fun K1 hK1 => wla Z rfl fun a Z => ab (hK1 _ _ <| ac fun K2 hK2 => ?_)
 refine aa fun K3 hK3 => wlm Z rfl fun a Z => wlv Z ((aG (sT := 45) (Y.arg hlv) rfl rfl (runUnderlying45 _)).asi (m' := (ls.length : Int)) sm) fun a Z => wlv Z (v_eq rfl rfl) fun a Z => ab (hK3 _ _ ?_)
 refine az Z rfl (fun hc1 => ?_) (fun hc1 => ?_)
 ·rw [hc1] at Z
  try simp only [qz] at hc1
  refine aa fun K4 hK4 => ak Z Y de call70 rfl (dM [] _ sm) ?_
  clear Z Y
  intro a w1 Z Y
  refine wla Z rfl fun a Z => ab (hK4 _ _ <| aw ?_)
  refine ar Z results68 (ae rfl ag) ?_
  exact ⟨by simp only [retv]; rw [show ls = [] from List.eq_nil_of_length_eq_zero om]; rfl, Y.ext⟩
 rw [hc1] at Z
 try simp only [qz] at hc1
 refine ap <| hK2 _ _ <| ac fun K5 hK5 => aa fun K6 hK6 => wlm Z rfl fun a Z => wlv Z ((aG (sT := 45) (Y.arg hlv) rfl rfl (runUnderlying45 _)).asi (m' := (ls.length : Int)) sm) fun a Z => wlv Z (v_eq rfl rfl) fun a Z => ab (hK6 _ _ ?_)
 refine az Z rfl (fun hc2 => ?_) (fun hc2 => ?_)
 ·rw [hc2] at Z
  try simp only [qz] at hc2
  have hx := hls _ (aY (d := []) (show 0 < ls.length by omega))
  refine aa fun K7 hK7 => wlm Z rfl fun a Z => wlv Z ((ah (i := 0) (sT := 45) (Y.arg hlv) rfl rfl (runUnderlying45 _) (sizeOf9 _) om (by rw [List.length_map]; omega)).as (v' := slAddr lv (0 * 1)) rfl) fun a Z => ?_
  refine wlv Z (au (u := sv (ls.getD 0 [])) (i := 0) (j := 0) (Y.arg hlv) (by rw [List.length_map]; omega) rfl (isAgg9 _) (by simp [List.getD_eq_getElem?_getD, List.getElem?_eq_getElem (show 0 < ls.length by omega)])) fun a Z => ?_
  refine ak Z Y de call39 rfl (gz (ls.getD 0 []) _ om) ?_
  clear Z Y
  intro a w2 Z Y
  refine wla Z rfl fun a Z => ab (hK7 _ _ ?_)
  replace Z := Z.p2 0 2 rfl
  refine aw ?_
  refine ar Z results68 (ae rfl ag) ?_
  exact ⟨by simp only [retv]; rw [jw om]; try rfl, Y.ext⟩
 rw [hc2] at Z
 try simp only [qz] at hc2
 have hlt := bN (n := ls.length) om
 have hlp := bE ls.length
 refine ap <| hK5 _ _ <| aa fun K8 hK8 => wlm Z rfl fun a Z => wlv Z ((aG (sT := 45) (Y.arg hlv) rfl rfl (runUnderlying45 _)).asi (m' := (ls.length : Int)) sm) fun a Z => ak Z Y de call67 rfl (f5 ls.length _ om om) ?_
 clear Z Y
 intro a w3 Z Y
 refine wla Z rfl fun a Z => ab (hK8 _ _ ?_)
 replace Z := Z.p3 0 2 3 rfl
 refine ac fun K9 hK9 => aI kr (aL kr fun w4 hxz => ?_)
 replace Y := Y.grow hxz
 refine aP (k := 0) 7 [3, 6] Z kr kr kr rfx ?_
 replace Z := Z.p3 0 2 3 rfl
 refine ay [] (fun i => match i with | _ => fun _ _ => False) 7 [[], [], [0, 1], [2], [], [], [4, 5]] [lv, iv (lft ls.length : Int), (cut lv 1 0 (lft ls.length) (slCap lv)), sv (rootH sha (ls.take (lft ls.length))), lv, iv (lft ls.length : Int), (cut lv 1 (lft ls.length) ls.length (slCap lv))] Z Y kr kr kr ?_ ?_ ?_
 ·intro i hi hiq
  match i, hi, hiq with
  | 0, _, _ => exact fun w Y => OpV.g (ai rfl)
  | 1, _, _ => exact fun w Y => OpV.g (ai rfl)
  | 2, _, _ => exact fun w Y => OpV.g (bx (l := 0) (h := (lft ls.length)) (Y.arg hlv) rfl rfl rfl underlying45 kr (.inl ⟨rfl, rfl⟩) (.inr (by rw [show ((lft ls.length : Int) : Int) = (((lft ls.length) : Nat) : Int) from by omega] <;> rfl)) (Nat.zero_le _) (by first | (rw [List.length_map]; omega) | (simp <;> omega)))
  | 3, _, _ => exact fun w Y => bh call68 rfl (ih _ (by simp only [List.length_take, List.length_drop]; omega) (cut lv 1 0 (lft ls.length) (slCap lv)) (ls.take (lft ls.length)) _ rfl ((Y.arg hlv).cut0 (h := (lft ls.length)) (by first | omega | (rw [List.length_reverse]; omega) | simp | (simp; omega))) (by simp only [List.length_take, List.length_drop]; omega) (fun s h => hls s (List.mem_of_mem_take h)))
  | 4, _, _ => exact fun w Y => OpV.g (ai rfl)
  | 5, _, _ => exact fun w Y => OpV.g (ai rfl)
  | 6, _, _ => exact fun w Y => OpV.g (bx (l := (lft ls.length)) (h := ls.length) (Y.arg hlv) rfl rfl rfl underlying45 kr (.inr (by rw [show ((lft ls.length : Int) : Int) = (((lft ls.length) : Nat) : Int) from by omega] <;> rfl)) (.inl ⟨rfl, by simp⟩) om sm)
 ·intro i hi
  exact absurd hi sm
 clear Z Y
 intro  a w5 Z Y
 replace Z : Fr 27 [(18, lv), (19, iv (lft ls.length : Int)), (20, (cut lv 1 0 (lft ls.length) (slCap lv))), (21, sv (rootH sha (ls.take (lft ls.length)))), (22, lv), (23, iv (lft ls.length : Int)), (24, (cut lv 1 (lft ls.length) ls.length (slCap lv))), (0, _), (2, _), (3, _)] [] a := Z
 refine ab <| aK (k := 7) 10 [9] kr kr kr ?_
 refine ak Z Y de call68 rfl (ih _ (by simp only [List.length_take, List.length_drop]; omega) (cut lv 1 (lft ls.length) ls.length (slCap lv)) (ls.drop (lft ls.length)) _ rfl ((Y.arg hlv).cutd (l := (lft ls.length)) (by first | omega | (rw [List.length_reverse]; omega) | simp | (simp; omega))) (by simp only [List.length_take, List.length_drop]; omega) (fun s h => hls s (List.mem_of_mem_drop h))) ?_
 clear Z Y
 intro a w6 Z Y
 refine ak Z Y de call69 rfl (gw (rootH sha (ls.take (lft ls.length))) (rootH sha (ls.drop (lft ls.length))) _ (by first | omega | (rw [bD bl]; decide)) (by first | omega | (rw [bD bl]; decide))) ?_
 clear Z Y
 intro a w7 Z Y
 refine wla Z rfl fun a Z => ab <| aO kr ?_
 refine hK9 _ _ ?_
 replace Z := Z.p1 2 rfl
 refine aw ?_
 refine ar Z results68 (ae rfl ag) ?_
 exact ⟨by simp only [retv]; rw [← cN sha om]; try rfl, Y.ext⟩
theorem nB {f z : Nat} (h : z < 128 ^ (f + 1)) (hz : 128 ≤ z) : ∃ g, f = g + 1 := by
 cases f with
 | zero => exfalso; simp at h; omega
 | succ g => exact ⟨g, rfl⟩
theorem iG {f z : Nat} (h : z < 128 ^ (f + 1 + 1)) : z / 128 < 128 ^ (f + 1) := by
 rw [Nat.pow_succ] at h
 exact Nat.div_lt_of_lt_mul (by rw [Nat.mul_comm]; exact h)
theorem oN {f z : Nat} (h : 128 ≤ z) : vb (f + 1) z = UInt8.ofNat (z % 128 + 128) :: vb f (z / 128) := by rw [vb, if_neg om]
theorem o0 {f z : Nat} (h : z < 128) : vb f z = [UInt8.ofNat z] := by cases f <;> simp [vb, h]
theorem kI {n : Int} (h : small n) : zz n < 128 ^ (8 + 1) := by
 have := j5 h.1 h.2
 have e : (128 : Nat) ^ (8 + 1) = 9223372036854775808 := by decide
 rw [e]; exact this
theorem nm {n : Int} (h : small n) : zz n < 18446744073709551616 := by have := j5 h.1 h.2; omega
def gs : Nat → Nat → List (UInt8 × Bool)
 | 0, z => [(UInt8.ofNat (z % 128), true)]
 | f + 1, z => if z < 128 then [(UInt8.ofNat (z % 128), true)] else (UInt8.ofNat (z % 128), false) :: gs f (z / 128)
def enc1 (x : UInt8 × Bool) : UInt8 := if x.2 then x.1 else x.1 ||| 128
def encG (x : UInt8 × Bool) : List Value := [yv x.1, .bool x.2]
def NxG (pre : List (UInt8 × Bool)) (x : UInt8 × Bool) : Prop := pre.length < 9
theorem oW {f z : Nat} (h : ¬ z < 128) : gs (f + 1) z = (UInt8.ofNat (z % 128), false) :: gs f (z / 128) := by rw [gs, if_neg h]
theorem oc {f z : Nat} (h : z < 128) : gs f z = [(UInt8.ofNat (z % 128), true)] := by cases f <;> simp [gs, h]
theorem or128 : ∀ k, k < 128 → UInt8.ofNat k ||| 128 = UInt8.ofNat (k + 128) := by decide
theorem pg : ∀ (f z : Nat), z < 128 ^ (f + 1) → (gs f z).map enc1 = vb f z
 | 0, z, h => by simp [gs, vb, enc1] at h ⊢; rw [Nat.mod_eq_of_lt h]
 | f + 1, z, h => by
  unfold gs vb
  split
  ·rename_i h1
   simp [enc1, Nat.mod_eq_of_lt h1]
  ·rw [List.map_cons, pg f _ (iG h), enc1]
   simp only [Bool.false_eq_true, if_false]
   rw [or128 _ (Nat.mod_lt _ de)]
def cu (n : Int) : Nat := (n % 18446744073709551616).toNat
theorem v_zz {P : Program} {w : World} {L : List (Nat × Value)} {dst : Option Tmp} {T T' ty : TypeId} {pos : String} {af : Array Edge} {gd : Option (Nat × Bool)} {x y : Operand} {n : Int} (hs : small n)
  (hx : ev L x = some (.int .u64 ((cu n * 2 % 18446744073709551616 : Nat) : Int))) (hy : ev L y = some (.int .u64 ((cu (if n < 0 then -1 else 0) : Nat) : Int))) : OpV P ⟨dst, .binOp .xor T x y T', ty, pos, af, gd⟩ L w (.int .u64 ((zz n : Nat) : Int)) := by
 have h1 := hs.1
 have h2 := hs.2
 by_cases hn : n < 0
 ·rw [if_pos hn] at hy
  have e : zz n = 18446744073709551615 - cu n * 2 % 18446744073709551616 := by unfold zz cu; rw [if_pos hn]; omega
  rw [e]
  exact oF (Nat.mod_lt _ de) hx (by rw [hy]; rfl)
 ·rw [if_neg hn] at hy
  have e : zz n = cu n * 2 % 18446744073709551616 := by unfold zz cu; rw [if_neg hn]; omega
  rw [e]
  exact oM (Nat.mod_lt _ de) hx (by rw [hy]; rfl)
theorem l0 (n : Int) (w0 : World) (hs : small n) :
  Ret Tryd.prog 77 #[iv n] w0 fun v w => v = .int .u64 ((zz n : Nat) : Int) ∧ Ext No w0 w := by
 have hs1 := hs.1
 have hs2 := hs.2
 refine aF func77 rfl ntmps77 (lb rfl) fun a Z => ?_
 replace Z := Z.p1 0 rfl
 replace Y : St No w0 [] w0 := St.init w0
 refine aa fun K1 hK1 => wla Z rfl fun a Z => ab (hK1 _ _ <| ac fun K2 hK2 => ?_)
 refine aa fun K3 hK3 => wlm Z rfl fun a Z => wlv Z (v_lt rfl rfl) fun a Z => ab (hK3 _ _ ?_)
 refine az Z rfl (fun hc1 => ?_) (fun hc1 => ?_)
 ·rw [hc1] at Z
  try simp only [qz] at hc1
  refine aa fun K4 hK4 => wlm Z rfl fun a Z => wlv Z (js rfl om om) fun a Z => wlv Z ((dc rfl kr underlying118).asi (m' := (((-n).toNat : Nat) : Int)) om) fun a Z => wlv Z (mO (m := (-n).toNat) (n := 2) om rfl rfl) fun a Z => wlv Z (mY (m := ((-n).toNat * 2)) (n := 1) om om rfl rfl) fun a Z => wla Z rfl fun a Z => ab (hK4 _ _ ?_)
  replace Z := Z.p2 0 2 rfl
  refine aw ?_
  refine ar Z results77 (ae rfl ag) ?_
  refine ⟨congrArg (Value.int .u64) ?_, Y.ext⟩
  unfold zz
  split <;> omega
 rw [hc1] at Z
 try simp only [qz] at hc1
 refine ap <| hK2 _ _ <| aa fun K5 hK5 => wlm Z rfl fun a Z => wlv Z ((dc rfl kr underlying118).asi (m' := (((n).toNat : Nat) : Int)) om) fun a Z => wlv Z (mO (m := (n).toNat) (n := 2) om rfl rfl) fun a Z => wla Z rfl fun a Z => ab (hK5 _ _ ?_)
 replace Z := Z.p1 2 rfl
 refine aw ?_
 refine ar Z results77 (ae rfl ag) ?_
 refine ⟨congrArg (Value.int .u64) ?_, Y.ext⟩
 unfold zz
 split <;> omega
theorem cR (n : Int) (w0 : World) (hs : small n) :
  Ret Tryd.prog 53 #[iv n] w0 fun v w => v = .tuple #[sv (putI n), iv 0] ∧ Ext No w0 w := by
 refine aF func53 rfl ntmps53 (lb rfl) fun a Z => ?_
 replace Z := Z.p1 0 rfl
 replace Y : St No w0 [] w0 := St.init w0
 refine aa fun K1 hK1 => wla Z rfl fun a Z => wla Z rfl fun a Z => ab (hK1 _ _ <| ac fun K2 hK2 => ?_)
 refine aa fun K3 hK3 => wlm Z rfl fun a Z => wlv Z ((v_lt rfl rfl).asb (b' := false) (by rw [decide_eq_false_iff_not]; have := hs.1; omega)) fun a Z => wlm Z rfl fun a Z => wly Z (ai rfl) fun a Z => wly Z ((v_gt rfl rfl).asb (b' := false) (by rw [decide_eq_false_iff_not]; have := hs.2; omega)) fun a Z => wlv Z (aA rfl rfl) fun a Z => ab (hK3 _ _ <| aH Z rfl ?_)
 refine ap <| hK2 _ _ <| aa fun K4 hK4 => wlm Z rfl fun a Z => ak Z Y de call77 rfl (l0 n _ hs) ?_
 clear Z Y
 intro a w1 Z Y
 refine wla Z rfl fun a Z => ab (hK4 _ _ ?_)
 replace Z := Z.p3 2 3 4 rfl
 refine aa fun K5 hK5 => wla Z rfl fun a Z => ab (hK5 _ _ <| ac fun K6 hK6 => ?_)
 refine am ?_
 replace Y : St No w0 [own (.slice none 0 0) 5 1 ((([] : By)).map fun b => [yv b])] w1 := Y.nil_own
 refine aV (fun m a w => ∃ (f : Nat) (z : Nat) (bs : By) (v : Value), m = f ∧ (bs ++ vb f z = putI n) ∧ (z < 128 ^ (f + 1)) ∧ (bs.length + f = 8) ∧ (z < 18446744073709551616) ∧ Fr 31 [(2, sv ([])), (3, iv 0), (4, .int .u64 (z : Int)), (5, v)] [] a ∧ St No w0 [own v 5 1 ((bs).map fun b => [yv b])] w) _ ⟨8, zz n, [], .slice none 0 0, rfl, rfl, kI hs, rfl, nm hs, Z.pick [2, 3, 4, 5], Y⟩ ?_
 rintro _ a w2 ⟨f, z, bs, v, rfl, hb, hz, hl, hz6, Z, Y⟩
 refine ac fun K7 hK7 => aa fun K8 hK8 => wlm Z rfl fun a Z => wlv Z (v_ge rfl rfl) fun a Z => ab (hK8 _ _ ?_)
 refine az Z rfl (fun hc1 => ?_) (fun hc1 => ?_)
 ·rw [hc1] at Z
  try simp only [qz] at hc1
  obtain ⟨g, rfl⟩ := nB hz om
  rw [oN om] at hb
  refine ap <| hK7 _ _ <| am <| aa fun K9 hK9 => wlm Z rfl fun a Z => wlm Z rfl fun a Z => wlv Z (pR (m := z) (n := 128) om rfl rfl) fun a Z => wlv Z (pk (m := (z % 128)) (n := 128) om rfl rfl) fun a Z => wlv Z (fq (n := ((z % 128) + 128)) rfl kr underlying5) fun a Z => ax (E := 5) (sz := 1) rfl [[yv (UInt8.ofNat ((z % 128) + 128))]] kr sm rfl de de Z Y ?_
  clear Z Y
  intro a w3 Z Y
  refine aS (i := 1) (sT := 71) (inf := Tryd.t5) (z := yv (0 : UInt8)) (b := 0) (off := 0) (m := 0) (c := 0) rfl rfl rfl (Y.ow 0 rfl) sm underlying71 rfl rfl rfl rfl de (by simp [Value.oneCell', yv, wv, sv]) (by have hby : Tryd.t5.bytes = 1 := rfl; simp [big, hby] <;> omega) (by have hby : Tryd.t5.bytes = 1 := rfl; simp [big, hby] <;> omega) de Z Y fun a w4 s2 Z Y _ => ?_
  rw [show ((bs).map fun b => [yv b]) ++ ([[yv (UInt8.ofNat ((z % 128) + 128))]]) = ((bs ++ [(UInt8.ofNat ((z % 128) + 128))]).map fun b => [yv b]) from by simp] at Y
  refine wla Z rfl fun a Z => ab (hK9 _ _ ?_)
  replace Z := Z.p4 2 3 4 5 rfl
  replace Y := Y.k1 2 rfl
  refine ao <| wlm Z rfl fun a Z => wlv Z (pM (m := z) (n := 128) om om rfl rfl) fun a Z => wla Z rfl fun a Z => ab ?_
  refine ⟨_, ?_, g, z / 128, bs ++ [UInt8.ofNat (z % 128 + 128)], s2, rfl, (by rw [List.append_assoc]; exact hb), (iG hz), (by rw [List.length_append]; simp; omega), om, Z.pick [2, 3, 4, 5], Y⟩
  omega
 rw [hc1] at Z
 try simp only [qz] at hc1
 rw [o0 om] at hb
 refine aE <| hK6 _ _ <| aa fun K10 hK10 => wlm Z rfl fun a Z => wlm Z rfl fun a Z => wlv Z (fq (n := z) rfl kr underlying5) fun a Z => ax (E := 5) (sz := 1) rfl [[yv (UInt8.ofNat z)]] kr sm rfl de de Z Y ?_
 clear Z Y
 intro a w5 Z Y
 refine aS (i := 1) (sT := 71) (inf := Tryd.t5) (z := yv (0 : UInt8)) (b := 0) (off := 0) (m := 0) (c := 0) rfl rfl rfl (Y.ow 0 rfl) sm underlying71 rfl rfl rfl rfl de (by simp [Value.oneCell', yv, wv, sv]) (by have hby : Tryd.t5.bytes = 1 := rfl; simp [big, hby] <;> omega) (by have hby : Tryd.t5.bytes = 1 := rfl; simp [big, hby] <;> omega) de Z Y fun a w6 s3 Z Y _ => ?_
 rw [show ((bs).map fun b => [yv b]) ++ ([[yv (UInt8.ofNat z)]]) = ((bs ++ [(UInt8.ofNat z)]).map fun b => [yv b]) from by simp] at Y
 refine wlv Z (dk (Y.ow 1 rfl) rfl underlying71 underlying5 underlying9) fun a Z => wla Z rfl fun a Z => wla Z rfl fun a Z => ab (hK10 _ _ ?_)
 replace Z := Z.p2 2 3 rfl
 replace Y : St No w0 [] w6 := Y.mask [false, false]
 refine aw ?_
 refine ar Z results53 (ae rfl (ae rfl ag)) ?_
 exact ⟨by rw [← hb]; rfl, Y.ext⟩
theorem ma (z : Nat) (w0 : World) :
  Ret Tryd.prog 91 #[.int .u64 (z : Int)] w0 (MemR w0 (fun b : Nat => .func (.func 104) #[] #[pt b]) (fun b => [blk b [.int .u64 (z : Int)] 118]) (fun _ => True)) := by
 refine aF func91 rfl ntmps91 (lb rfl) fun a Z => ?_
 replace Z := Z.p1 0 rfl
 replace Y : St No w0 [] w0 := St.init w0
 refine aa fun K1 hK1 => bp Z Y de rfl (cs := [.int .u64 (z : Int)]) rfl ?_
 clear Z Y
 intro a w1 Z Y
 refine wla Z rfl fun a Z => ab (hK1 _ _ <| aa fun K2 hK2 => ?_)
 refine wlv Z (cE rfl rfl) fun a Z => wla Z rfl fun a Z => ab (hK2 _ _ <| aw ?_)
 refine ar Z results91 (ae rfl ag) ?_
 exact ⟨w0.hz, rfl, trivial, Y.ext, St.out (H := []) Y⟩
theorem ke {M : Nat → Prop} {w0 : World} (z0 lp bg : Nat) (J Jx : List (UInt8 × Bool) → Ent → Prop) (hY : Rounds Tryd.prog M w0 lp encG NxG J Jx) (e0 : Ent) (ws : World) (hz0 : z0 < 128 ^ (8 + 1)) (hz06 : z0 < 18446744073709551616) (hJ : J [] e0) (Y : St M w0 [e0, blk bg [.int .u64 (z0 : Int)] 118] ws) :
  Ret Tryd.prog 104 #[.func (.yield lp) #[] #[], pt bg] ws fun _ w => ∃ e1 Hi1, St M w0 (e1 :: Hi1) w ∧ ((∃ xs, (xs = gs 8 z0 ∧ ∃ z1 : Nat, Hi1 = [blk bg [.int .u64 (z1 : Int)] 118]) ∧ J xs e1) ∨ (∃ pre, (∃ z1 : Nat, Hi1 = [blk bg [.int .u64 (z1 : Int)] 118]) ∧ Jx pre e1)) := by
 refine aF func104 rfl ntmps104 (lb rfl) fun a Z => ?_
 replace Z := Z.p2 0 1 rfl
 skip
 refine am <| aV (fun m a w => ∃ (f : Nat) (z : Nat) (e : Ent) (dn : List (UInt8 × Bool)), m = f ∧ (dn ++ gs f z = gs 8 z0) ∧ (z < 128 ^ (f + 1)) ∧ (dn.length + f = 8) ∧ (z < 18446744073709551616) ∧ (J dn e) ∧ Fr 18 [(0, .func (.yield lp) #[] #[]), (1, pt bg)] [] a ∧ St M w0 [e, blk bg [.int .u64 (z : Int)] 118] w) _ ⟨8, z0, e0, [], rfl, rfl, hz0, rfl, hz06, hJ, Z.pick [0, 1], Y⟩ ?_
 rintro _ a w1 ⟨f, z, e, dn, rfl, hg, hz, hl, hz6, hJ, Z, Y⟩
 refine am <| aa fun K1 hK1 => wlv Z (ld Y 1 rfl rfl (isAgg118 _) rfl) fun a Z => wlv Z (v_lt rfl rfl) fun a Z => wla Z rfl fun a Z => ab (hK1 _ _ <| ac fun K2 hK2 => ?_)
 refine aa fun K3 hK3 => wlm Z rfl fun a Z => wlv Z (ld Y 1 rfl rfl (isAgg118 _) rfl) fun a Z => wlv Z ((nV (m := z) (k := 7) om om rfl rfl).asi (m' := ((z % 128 : Nat) : Int)) rfl) fun a Z => wlv Z (fq (n := (z % 128)) rfl kr underlying5) fun a Z => wlm Z rfl fun a Z => wl_r (eW rfl rfl (hY.yield (pre := dn) (x := (UInt8.ofNat (z % 128), decide ((z : Int) < 128))) (by show dn.length < 9; omega) hJ (Y.only (i := 0) rfl))) rfl rfl Z ?_
 clear Z
 intro a v w2 hR Z
 obtain ⟨y1, e2, rfl, hx, hok, hft, hJt, hJf⟩ := hR
 replace Y := Y.exchange (k := 0) rfl hx hok hft
 replace Y : St M w0 [_, _] w2 := Y
 clear hx hok hft
 refine wlv Z (aX rfl) fun a Z => wlm Z rfl fun a Z => ?_
 rcases Bool.eq_false_or_eq_true (!y1) with hb3 | hb3
 ·rw [hb3] at Z
  try simp only [qz] at hb3
  have hJ := hJf hb3
  refine wln Z fun a Z => wlv Z (aB rfl rfl) fun a Z => ab (hK3 _ _ ?_)
  replace Z := Z.p3 0 1 15 rfl
  refine aC Z rfl ?_
  refine aw ?_
  refine ar Z results104 ag ?_
  first | exact ⟨_, _, Y, .inl ⟨_, ⟨rfl, _, rfl⟩, hJ⟩⟩ | exact ⟨_, _, Y, .inr ⟨_, ⟨_, rfl⟩, hJ⟩⟩
 rw [hb3] at Z
 try simp only [qz] at hb3
 have hJ := hJt hb3
 refine wly Z (ai rfl) fun a Z => wlv Z (aA rfl rfl) fun a Z => ab (hK3 _ _ ?_)
 replace Z := Z.p3 0 1 15 rfl
 refine az Z rfl (fun hc4 => ?_) (fun hc4 => ?_)
 ·rw [hc4] at Z
  try simp only [qz] at hc4
  rw [decide_eq_true hc4] at hJ
  rw [oc om] at hg
  rw [hg] at hJ
  refine aw ?_
  refine ar Z results104 ag ?_
  first | exact ⟨_, _, Y, .inl ⟨_, ⟨rfl, _, rfl⟩, hJ⟩⟩ | exact ⟨_, _, Y, .inr ⟨_, ⟨_, rfl⟩, hJ⟩⟩
 rw [hc4] at Z
 try simp only [qz] at hc4
 rw [decide_eq_false hc4] at hJ
 obtain ⟨g, rfl⟩ := nB hz om
 rw [oW om] at hg
 refine ap <| hK2 _ _ <| ao <| wlv Z (ld Y 1 rfl rfl (isAgg118 _) rfl) fun a Z => wlv Z ((nJ (m := z) (n := 7) om rfl rfl).asi (m' := ((z / 128 : Nat) : Int)) rfl) fun a Z => aJ 1 Z Y rfl rfl rfl (sizeOf118 _) rfl (lb rfl) (ds := [.int .u64 ((z / 128 : Nat) : Int)]) rfl rfl ?_
 clear Z Y
 intro a w3 Z Y
 refine ab ?_
 refine ⟨_, ?_, g, z / 128, e2, dn ++ [(UInt8.ofNat (z % 128), false)], rfl, (by rw [List.append_assoc]; exact hg), (iG hz), (by rw [List.length_append]; simp; omega), om, hJ, Z.pick [0, 1], Y⟩
 omega
theorem kd {M : Nat → Prop} {w0 : World} (z0 bg : Nat) (hz0 : z0 < 128 ^ (8 + 1)) (hz06 : z0 < 18446744073709551616) :
  Iter Tryd.prog 104 [pt bg] encG NxG (fun xs Hi1 => xs = gs 8 z0 ∧ ∃ z1 : Nat, Hi1 = [blk bg [.int .u64 (z1 : Int)] 118]) (fun pre Hi1 => ∃ z1 : Nat, Hi1 = [blk bg [.int .u64 (z1 : Int)] 118]) M w0 [blk bg [.int .u64 (z0 : Int)] 118] :=
 fun lp J Jx w e hY hJ Y => ke z0 lp bg J Jx hY e w hz0 hz06 hJ Y
theorem ik (n : Int) (w0 : World) (hs : small n) :
  Ret Tryd.prog 75 #[iv n] w0 fun v w => v = .tuple #[sv (putI n), iv 0] ∧ Ext No w0 w := by
 have hs1 := hs.1
 have hs2 := hs.2
 refine aF func75 rfl ntmps75 (lb rfl) fun a Z => ?_
 replace Z := Z.p1 0 rfl
 replace Y : St No w0 [] w0 := St.init w0
 refine aa fun K1 hK1 => wla Z rfl fun a Z => wla Z rfl fun a Z => ab (hK1 _ _ <| ac fun K2 hK2 => ?_)
 refine aa fun K3 hK3 => wlm Z rfl fun a Z => wlv Z ((v_lt rfl rfl).asb (b' := false) (by rw [decide_eq_false_iff_not]; have := hs.1; omega)) fun a Z => wlm Z rfl fun a Z => wly Z (ai rfl) fun a Z => wly Z ((v_gt rfl rfl).asb (b' := false) (by rw [decide_eq_false_iff_not]; have := hs.2; omega)) fun a Z => wlv Z (aA rfl rfl) fun a Z => ab (hK3 _ _ <| aH Z rfl ?_)
 refine ap <| hK2 _ _ <| aa fun K4 hK4 => aU Z Y de (zeroValue71 _) (cs := [.slice none 0 0]) rfl ?_
 clear Z Y
 intro a w1 Z Y
 refine ab (hK4 _ _ ?_)
 replace Z := Z.p4 0 2 3 4 rfl
 refine ac fun K5 hK5 => aa fun K6 hK6 => wlm Z rfl fun a Z => wlv Z ((dc rfl kr underlying118).asi (m' := ((cu (n) : Nat) : Int)) rfl) fun a Z => wlv Z (np (m := cu n) (n := 1) om rfl rfl) fun a Z => wlm Z rfl fun a Z => wlv Z (o3 om om rfl rfl) fun a Z => wlv Z ((dc rfl kr underlying118).asi (m' := ((cu (if n < 0 then -1 else 0) : Nat) : Int)) rfl) fun a Z => wlv Z (v_zz hs rfl rfl) fun a Z => aN Z Y de call91 rfl (ma (zz n) _) ?_
 clear Z Y
 intro a w2 x1 hp Z Y
 revert x1 hp Z Y; rintro bg hp Z Y
 clear hp
 replace Y : St No w0 [_, _] w2 := Y
 refine ab (hK6 _ _ ?_)
 replace Z := Z.p4 2 3 4 20 rfl
 refine am ?_
 replace Y : St No w0 [own (.slice none 0 0) 5 1 ((([] : List (UInt8 × Bool)).map enc1).map fun b => [yv b]), blk bg [.int .u64 (zz n : Int)] 118, blk w0.hz [.slice none 0 0] 71] w2 := Y.nil_own
 replace Y : St No w0 [blk w0.hz [.slice none 0 0] 71, own (.slice none 0 0) 5 1 ((([] : List (UInt8 × Bool)).map enc1).map fun b => [yv b]), blk bg [.int .u64 (zz n : Int)] 118] w2 := Y.select [2, 0, 1] de
 replace Z : Fr 33 [(2, sv ([])), (3, iv 0), (4, pt w0.hz), (20, .func (.func 104) #[] #[pt bg])] [] a := Z.pick [2, 3, 4, 20]
 refine cY (M := No) (w0 := w0) (encs := encG) (Hi := [blk bg [.int .u64 (zz n : Int)] 118]) (Hc := [blk w0.hz [.slice none 0 0] 71, own (.slice none 0 0) 5 1 ((([] : List (UInt8 × Bool)).map enc1).map fun b => [yv b])]) (fun pre H => ∃ (v : Value), H = [blk w0.hz [v] 71, own v 5 1 ((pre.map enc1).map fun b => [yv b])]) (fun _ _ _ => False) (fun pre xs H a => Fr 33 [(2, sv ([])), (3, iv 0), (4, pt w0.hz), (20, .func (.func 104) #[] #[pt bg]), (5, yv xs.1), (6, .bool xs.2)] [] a ∧ ∃ (v : Value), H = [blk w0.hz [v] 71, own v 5 1 ((pre.map enc1).map fun b => [yv b])]) rfl call104 Z Y (kd (zz n) bg (kI hs) (nm hs)) de (fun _ => rfl) ⟨.slice none 0 0, rfl⟩ ?_ ?_ ?_ ?_
 ·clear Z Y
  rintro lp pre xs _ a w3 hnx ⟨v, rfl⟩ Z Y
  generalize (join [blk w0.hz [v] 71, own v 5 1 ((pre.map enc1).map fun b => [yv b])]).foot = M1 at Y ⊢
  replace Z : Fr 33 [(22, .bool xs.2), (21, yv xs.1), (2, sv ([])), (3, iv 0), (4, pt w0.hz), (20, .func (.func 104) #[] #[pt bg])] [] a := Z
  refine aa fun K7 hK7 => wla Z rfl fun a Z => ab (hK7 _ _ <| ao ?_)
  refine wla Z rfl fun a Z => ab ?_
  exact ⟨_, ⟨Z.pick [2, 3, 4, 20, 5, 6], v, rfl⟩, Y⟩
 ·rintro lp pre xs _ a w4 hnx ⟨Z, v, rfl⟩ hout hrec hnl Y
  clear hrec hnl
  generalize (join [blk w0.hz [v] 71, own v 5 1 ((pre.map enc1).map fun b => [yv b])]).foot = M1 at Y hout ⊢
  refine am <| ac fun K8 hK8 => aa fun K9 hK9 => wlm Z rfl fun a Z => wlv Z (aX rfl) fun a Z => ab (hK9 _ _ ?_)
  refine az Z rfl (fun hc2 => ?_) (fun hc2 => ?_)
  ·rw [hc2] at Z
   try simp only [qz] at hc2
   refine ao <| wlm Z rfl fun a Z => wlv Z (v_yor (a := xs.1) (b := (128 : UInt8)) rfl rfl) fun a Z => wla Z rfl fun a Z => ab <| hK8 _ _ ?_
   replace Z := Z.p4 2 3 4 5 rfl
   refine ao <| wlv Z (ld Y 0 rfl rfl (isAgg71 _) rfl) fun a Z => wlm Z rfl fun a Z => ax (E := 5) (sz := 1) rfl [[yv (xs.1 ||| (128 : UInt8))]] kr sm rfl de de Z Y ?_
   clear Z Y
   intro a w5 Z Y
   refine aS (i := 2) (sT := 71) (inf := Tryd.t5) (z := yv (0 : UInt8)) (b := 0) (off := 0) (m := 0) (c := 0) rfl rfl rfl (Y.ow 0 rfl) sm underlying71 rfl rfl rfl rfl de (by simp [Value.oneCell', yv, wv, sv]) (by have hby : Tryd.t5.bytes = 1 := rfl; have : pre.length < 9 := hnx; simp [big, hby] <;> omega) (by have hby : Tryd.t5.bytes = 1 := rfl; have : pre.length < 9 := hnx; simp [big, hby] <;> omega) de Z Y fun a w6 s3 Z Y _ => ?_
   rw [show ((pre.map enc1).map fun b => [yv b]) ++ ([[yv (xs.1 ||| (128 : UInt8))]]) = (((pre ++ [xs]).map enc1).map fun b => [yv b]) from by simp [enc1, hc2]] at Y
   refine cZ 1 Z Y (Y.ow 2 rfl) rfl rfl rfl (sizeOf71 _) (lb rfl) (ds := [s3]) rfl rfl ?_
   clear Z Y
   intro a w7 Z Y
   refine ab ?_
   exact ⟨_, ⟨s3, rfl⟩, Y.select [1, 2] de⟩
  rw [hc2] at Z
  try simp only [qz] at hc2
  refine ap <| hK8 _ _ <| ao <| wlv Z (ld Y 0 rfl rfl (isAgg71 _) rfl) fun a Z => wlm Z rfl fun a Z => ax (E := 5) (sz := 1) rfl [[yv xs.1]] kr sm rfl de de Z Y ?_
  clear Z Y
  intro a w8 Z Y
  refine aS (i := 2) (sT := 71) (inf := Tryd.t5) (z := yv (0 : UInt8)) (b := 0) (off := 0) (m := 0) (c := 0) rfl rfl rfl (Y.ow 0 rfl) sm underlying71 rfl rfl rfl rfl de (by simp [Value.oneCell', yv, wv, sv]) (by have hby : Tryd.t5.bytes = 1 := rfl; have : pre.length < 9 := hnx; simp [big, hby] <;> omega) (by have hby : Tryd.t5.bytes = 1 := rfl; have : pre.length < 9 := hnx; simp [big, hby] <;> omega) de Z Y fun a w9 s4 Z Y _ => ?_
  rw [show ((pre.map enc1).map fun b => [yv b]) ++ ([[yv xs.1]]) = (((pre ++ [xs]).map enc1).map fun b => [yv b]) from by simp [enc1, hc2]] at Y
  refine cZ 1 Z Y (Y.ow 2 rfl) rfl rfl rfl (sizeOf71 _) (lb rfl) (ds := [s4]) rfl rfl ?_
  clear Z Y
  intro a w10 Z Y
  refine ab ?_
  exact ⟨_, ⟨s4, rfl⟩, Y.select [1, 2] de⟩
 ·rintro D pre _ _ a w11 ⟨rfl, z1, rfl⟩ ⟨v, rfl⟩ Y Z
  replace Z : Fr 33 [(2, sv ([])), (3, iv 0), (4, pt w0.hz), (20, .func (.func 104) #[] #[pt bg])] [{ target := .collected D, args := #[] }] a := Z
  replace Y : St No w0 [_, _, _, _] w11 := Y
  refine hK5 _ _ <| aa fun K10 hK10 => wlv Z (ld Y 1 rfl rfl (isAgg71 _) rfl) fun a Z => wlv Z (dk (Y.ow 2 rfl) rfl underlying71 underlying5 underlying9) fun a Z => wla Z rfl fun a Z => wla Z rfl fun a Z => ab (hK10 _ _ <| aw ?_)
  have hD := Y.g 0 rfl
  replace Y := Y.unmark (i := 0) (o' := .deferred none) rfl
  replace Y : St No w0 [_, _, _] _ := Y
  refine cb Z hD results75 (ae rfl (ae rfl ag)) ?_
  exact ⟨by rw [pg 8 _ (kI hs)]; rfl, Y.ext⟩
 ·rintro D c pre _ _ a w12 _ h
  exact h.elim
def bld (T : TypeId) (b : Nat) (ad v : Value) (bs : By) : Ent := join [blk b [ad, v] T, own v 5 1 ((bs).map fun b => [yv b])]
theorem gH {M : Nat → Prop} {w0 w : World} {T : TypeId} {b : Nat} {ad v : Value} {bs : By} {H : List Ent} (h : St M w0 (bld T b ad v bs :: H) w) : St M w0 ([blk b [ad, v] T, own v 5 1 ((bs).map fun b => [yv b])] ++ H) w := St.unjoin _ _ h
theorem jK (T : TypeId) (b : Nat) (v : Value) (w0 : World) (hlie : liesAt Tryd.prog Tryd.prog.depth T (2 / Tryd.prog.cellsOf T) 0 83 1 = true) (hb : (blk b [.pointer none, v] T).ok w0) :
  Ret Tryd.prog 76 #[pt b] w0 fun u w => u = .tuple #[] ∧ Ext (· = b) w0 w ∧ (blk b [pt b, v] T).ok w := by
 refine aF func76 rfl ntmps76 (lb rfl) fun a Z => ?_
 replace Z := Z.p1 0 rfl
 replace Y : St (· = b) w0 [blk b [.pointer none, v] T] w0 := St.one hb
 refine aa fun K1 hK1 => wlm Z rfl fun a Z => wlv Z (bq rfl) fun a Z => wlv Z (al (v := pt b) rfl kr) fun a Z => wlv Z (ld Y 0 rfl rfl (isAgg81 _) rfl) fun a Z => wlv Z (pr rfl rfl underlying81) fun a Z => ab (hK1 _ _ <| aC Z rfl ?_)
 refine ao <| wlm Z rfl fun a Z => wlm Z rfl fun a Z => wlv Z (kp (j := Tryd.t83) (Y.g 0 rfl) rfl underlying81 underlying141 rfl rfl sm) fun a Z => wlv Z (kN func92 kr kr kr kr rfl) fun a Z => wlv Z (iI (j := Tryd.t83) (Y.g 0 rfl) rfl underlying141 underlying81 rfl hlie) fun a Z => wlv Z (bq rfl) fun a Z => wlv Z (al (v := pt b) rfl kr) fun a Z => aJ 0 Z Y rfl rfl rfl (sizeOf81 _) rfl (lb rfl) (ds := [pt b, v]) rfl rfl ?_
 clear Z Y
 intro a w2 Z Y
 refine ab ?_
 refine dq Z results76 ag ?_
 exact ⟨rfl, Y.ext, Y.g 0 rfl⟩
theorem kj (T : TypeId) (b : Nat) (v : Value) (w0 : World) (hlie : liesAt Tryd.prog Tryd.prog.depth T (2 / Tryd.prog.cellsOf T) 0 83 1 = true) (hb : (blk b [pt b, v] T).ok w0) :
  Ret Tryd.prog 76 #[pt b] w0 fun u w => u = .tuple #[] ∧ Ext (· = b) w0 w ∧ (blk b [pt b, v] T).ok w := by
 refine aF func76 rfl ntmps76 (lb rfl) fun a Z => ?_
 replace Z := Z.p1 0 rfl
 replace Y : St (· = b) w0 [blk b [pt b, v] T] w0 := St.one hb
 refine aa fun K1 hK1 => wlm Z rfl fun a Z => wlv Z (bq rfl) fun a Z => wlv Z (al (v := pt b) rfl kr) fun a Z => wlv Z (ld Y 0 rfl rfl (isAgg81 _) rfl) fun a Z => wlv Z (mL rfl rfl underlying81) fun a Z => ab (hK1 _ _ <| aH Z rfl ?_)
 refine aa fun K2 hK2 => wlm Z rfl fun a Z => wlv Z (bq rfl) fun a Z => wlv Z (al (v := pt b) rfl kr) fun a Z => wlv Z (ld Y 0 rfl rfl (isAgg81 _) rfl) fun a Z => wlm Z rfl fun a Z => wlv Z (n5 (j := Tryd.t83) rfl rfl underlying81 rfl) fun a Z => ab (hK2 _ _ ?_)
 replace Z := Z.p1 19 rfl
 refine aH Z rfl ?_
 refine ap ?_
 refine dq Z results76 ag ?_
 exact ⟨rfl, Y.ext, Y.g 0 rfl⟩
theorem kS {M : Nat → Prop} {w0 : World} (T : TypeId) (b : Nat) (v : Value) (bs : By) (s : By) (ws : World) (hlie : liesAt Tryd.prog Tryd.prog.depth T (2 / Tryd.prog.cellsOf T) 0 83 1 = true) (hne : s ≠ []) (hbn : bs.length + s.length ≤ 1000000000) (Y : St M w0 [bld T b (.pointer none) v bs] ws) :
  Ret Tryd.prog 51 #[pt b, sv s] ws fun u w => u = .tuple #[iv (s.length : Int), .nilIface] ∧ ∃ v2, St M w0 [bld T b (pt b) v2 (bs ++ s)] w := by
 refine aF func51 rfl ntmps51 (lb rfl) fun a Z => ?_
 replace Z := Z.p2 0 1 rfl
 replace Y : St M w0 [blk b [.pointer none, v] T, own v 5 1 ((bs).map fun b => [yv b])] ws := gH Y
 refine aa fun K1 hK1 => wla Z rfl fun a Z => wla Z rfl fun a Z => ab (hK1 _ _ <| aa fun K2 hK2 => ?_)
 refine wlm Z rfl fun a Z => gq 0 Z Y de call76 rfl rfl (jK T b _ _ hlie (Y.g 0 rfl)) rfl ?_
 clear Z Y
 intro a w1 Z Y
 refine ab (hK2 _ _ <| aa fun K3 hK3 => ?_)
 refine wlm Z rfl fun a Z => wlm Z rfl fun a Z => wlv Z (bq rfl) fun a Z => wlv Z (al (v := po b 1) rfl kr) fun a Z => wlv Z (ld Y 0 rfl rfl (isAgg71 _) rfl) fun a Z => wlm Z rfl fun a Z => eD (i := 1) (sT := 71) (uT := 9) (inf := Tryd.t5) (bs := bs) (s := s) rfl rfl rfl hne underlying71 underlying9 rfl rfl rfl rfl om de Z Y ?_
 clear Z Y
 intro a w2 s1 Z Y
 refine wlv Z (bq rfl) fun a Z => wlv Z (al (v := po b 1) rfl kr) fun a Z => cZ 0 Z Y (Y.ow 1 rfl) rfl rfl rfl (sizeOf71 _) (lb rfl) (ds := [pt b, s1]) rfl rfl ?_
 clear Z Y
 intro a w3 Z Y
 refine ab (hK3 _ _ ?_)
 replace Z := Z.p3 1 4 5 rfl
 refine aa fun K4 hK4 => wlm Z rfl fun a Z => wlv Z (bn rfl rfl (runUnderlying9 _)) fun a Z => wla Z rfl fun a Z => wla Z rfl fun a Z => ab (hK4 _ _ <| aw ?_)
 refine ar Z results51 (ae rfl (ae rfl ag)) ?_
 replace Y : St M w0 [blk b [pt b, s1] T, own s1 5 1 ((bs ++ s).map fun b => [yv b])] _ := Y.select [0, 1] de
 exact ⟨rfl, s1, St.join [blk b [pt b, s1] T, own s1 5 1 ((bs ++ s).map fun b => [yv b])] [] Y⟩
theorem l8 {M : Nat → Prop} {w0 : World} (T : TypeId) (b : Nat) (v : Value) (bs : By) (s : By) (ws : World) (hlie : liesAt Tryd.prog Tryd.prog.depth T (2 / Tryd.prog.cellsOf T) 0 83 1 = true) (hne : s ≠ []) (hbn : bs.length + s.length ≤ 1000000000) (Y : St M w0 [bld T b (pt b) v bs] ws) :
  Ret Tryd.prog 51 #[pt b, sv s] ws fun u w => u = .tuple #[iv (s.length : Int), .nilIface] ∧ ∃ v2, St M w0 [bld T b (pt b) v2 (bs ++ s)] w := by
 refine aF func51 rfl ntmps51 (lb rfl) fun a Z => ?_
 replace Z := Z.p2 0 1 rfl
 replace Y : St M w0 [blk b [pt b, v] T, own v 5 1 ((bs).map fun b => [yv b])] ws := gH Y
 refine aa fun K1 hK1 => wla Z rfl fun a Z => wla Z rfl fun a Z => ab (hK1 _ _ <| aa fun K2 hK2 => ?_)
 refine wlm Z rfl fun a Z => gq 0 Z Y de call76 rfl rfl (kj T b _ _ hlie (Y.g 0 rfl)) rfl ?_
 clear Z Y
 intro a w1 Z Y
 refine ab (hK2 _ _ <| aa fun K3 hK3 => ?_)
 refine wlm Z rfl fun a Z => wlm Z rfl fun a Z => wlv Z (bq rfl) fun a Z => wlv Z (al (v := po b 1) rfl kr) fun a Z => wlv Z (ld Y 0 rfl rfl (isAgg71 _) rfl) fun a Z => wlm Z rfl fun a Z => eD (i := 1) (sT := 71) (uT := 9) (inf := Tryd.t5) (bs := bs) (s := s) rfl rfl rfl hne underlying71 underlying9 rfl rfl rfl rfl om de Z Y ?_
 clear Z Y
 intro a w2 s1 Z Y
 refine wlv Z (bq rfl) fun a Z => wlv Z (al (v := po b 1) rfl kr) fun a Z => cZ 0 Z Y (Y.ow 1 rfl) rfl rfl rfl (sizeOf71 _) (lb rfl) (ds := [pt b, s1]) rfl rfl ?_
 clear Z Y
 intro a w3 Z Y
 refine ab (hK3 _ _ ?_)
 replace Z := Z.p3 1 4 5 rfl
 refine aa fun K4 hK4 => wlm Z rfl fun a Z => wlv Z (bn rfl rfl (runUnderlying9 _)) fun a Z => wla Z rfl fun a Z => wla Z rfl fun a Z => ab (hK4 _ _ <| aw ?_)
 refine ar Z results51 (ae rfl (ae rfl ag)) ?_
 replace Y : St M w0 [blk b [pt b, s1] T, own s1 5 1 ((bs ++ s).map fun b => [yv b])] _ := Y.select [0, 1] de
 exact ⟨rfl, s1, St.join [blk b [pt b, s1] T, own s1 5 1 ((bs ++ s).map fun b => [yv b])] [] Y⟩
theorem oh {w : World} {E : TypeId} {v : Value} {bs : By} (h : (own v E 1 ((bs).map fun b => [yv b])).ok w) (hne : bs ≠ []) : ∃ g cap, v = .slice (some ⟨g, 0, none⟩) bs.length cap ∧ cap ≠ 0 := by
 obtain ⟨h1, h2, h3, h4⟩ := h
 have hn : bs.length ≠ 0 := by simpa using hne
 rcases h4 with ⟨_, h0⟩ | ⟨g, cap, cur, fz, hv, _, _, hnc, _⟩
 ·rw [List.length_map] at h0; exact absurd h0 hn
 ·rw [List.length_map] at hv hnc; exact ⟨g, cap, hv, by omega⟩
theorem jQ {M : Nat → Prop} {w0 : World} (T : TypeId) (b g cap : Nat) (bs : By) (ws : World) (hne : bs ≠ []) (hcap : cap ≠ 0) (Y : St M w0 [blk b [pt b, .slice (some ⟨g, 0, none⟩) bs.length cap] T, own (.slice (some ⟨g, 0, none⟩) bs.length cap) 5 1 ((bs).map fun b => [yv b])] ws) :
  Ret Tryd.prog 52 #[pt b] ws fun u w => u = sv bs ∧ St M w0 [blk b [pt b, .slice (some ⟨g, 0, none⟩) bs.length cap] T] w := by
 refine aF func52 rfl ntmps52 (lb rfl) fun a Z => ?_
 replace Z := Z.p1 0 rfl
 skip
 refine aa fun K1 hK1 => wla Z rfl fun a Z => ab (hK1 _ _ <| ac fun K2 hK2 => ?_)
 refine aI kr ?_
 replace Z := Z.p2 0 2 rfl
 replace Y : St M w0 (own (.slice (some ⟨g, 0, none⟩) bs.length cap) 5 1 ((bs).map fun b => [yv b]) :: [blk b [pt b, .slice (some ⟨g, 0, none⟩) bs.length cap] T]) ws := Y.front (i := 1) rfl
 refine gO 10 (own (.slice (some ⟨g, 0, none⟩) bs.length cap) 5 1 ((bs).map fun b => [yv b])) (fun _ => sl (.slice (some ⟨g, 0, none⟩) bs.length cap) 1 ((bs).map fun b => [yv b])) 11 [[], [0], [1], [2], [3], [], [5], [6], [7], [8], [4, 9]] (fun i => match i with | 0 => pv (pt b) | 1 => pv (pt b) | 2 => pv (po b 1) | 3 => pv (.slice (some ⟨g, 0, none⟩) bs.length cap) | 4 => pv (pt g) | 5 => pv (pt b) | 6 => pv (pt b) | 7 => pv (po b 1) | 8 => pv (.slice (some ⟨g, 0, none⟩) bs.length cap) | 9 => pv (iv (bs.length : Int)) | 10 => fun v E => v = sv bs ∧ E = [] | _ => fun _ _ => False) Z Y kr kr kr de ?_ ?_ ?_ ?_
 ·intro i v E h
  match i, h with
  | 0, _ => exact by decide
  | 1, _ => exact by decide
  | 2, _ => exact by decide
  | 3, _ => exact by decide
  | 4, _ => exact by decide
  | 5, _ => exact by decide
  | 6, _ => exact by decide
  | 7, _ => exact by decide
  | 8, _ => exact by decide
  | 9, _ => exact by decide
  | 10, _ => exact by decide
  | i + 11, h => exact h.elim
 ·intro i hi hiq e
  match i, hi, hiq with
  | 0, _, _ => exact fun w Y => OpV.g (ai rfl)
  | 1, _, _ =>
   rintro _ _ ⟨rfl, rfl⟩
   intro w Y
   exact OpV.g (bq rfl)
  | 2, _, _ =>
   rintro _ _ ⟨rfl, rfl⟩
   intro w Y
   exact OpV.g (al (v := po b 1) rfl kr)
  | 3, _, _ =>
   rintro _ _ ⟨rfl, rfl⟩
   intro w Y
   exact OpV.g (ld Y 1 rfl rfl (isAgg71 _) rfl)
  | 4, _, _ =>
   rintro _ _ ⟨rfl, rfl⟩
   intro w Y
   exact OpV.g (jd rfl hcap)
  | 5, _, _ => exact fun w Y => OpV.g (ai rfl)
  | 6, _, _ =>
   rintro _ _ ⟨rfl, rfl⟩
   intro w Y
   exact OpV.g (bq rfl)
  | 7, _, _ =>
   rintro _ _ ⟨rfl, rfl⟩
   intro w Y
   exact OpV.g (al (v := po b 1) rfl kr)
  | 8, _, _ =>
   rintro _ _ ⟨rfl, rfl⟩
   intro w Y
   exact OpV.g (ld Y 1 rfl rfl (isAgg71 _) rfl)
  | 9, _, _ =>
   rintro _ _ ⟨rfl, rfl⟩
   intro w Y
   exact OpV.g ((cM (v := iv (bs.length : Int)) (vs := [.slice (some ⟨g, 0, none⟩) bs.length cap]) (by simp [evs]; rfl) (by simp [builtin, Builtin.len_, runUnderlying71]; rfl)).as rfl)
  | 10, _, h => exact absurd rfl h
 ·rintro _ _ ⟨rfl, rfl⟩ _ _ ⟨rfl, rfl⟩
  intro w Y
  exact (gD (Y.g 0 rfl) hne rfl rfl underlying117 kr).mono fun v w' ⟨h1, h2, h3, h4⟩ => ⟨h2, h3, h4, ⟨h1, rfl⟩⟩
 clear Z Y
 rintro vq _ _ ⟨⟨rfl, rfl⟩, -⟩ _ _ ⟨⟨rfl, rfl⟩, -⟩ _ _ ⟨⟨rfl, rfl⟩, -⟩ _ _ ⟨⟨rfl, rfl⟩, -⟩ _ _ ⟨⟨rfl, rfl⟩, -⟩ _ _ ⟨⟨rfl, rfl⟩, -⟩ _ _ ⟨⟨rfl, rfl⟩, -⟩ _ _ ⟨⟨rfl, rfl⟩, -⟩ _ _ ⟨⟨rfl, rfl⟩, -⟩ _ _ ⟨⟨rfl, rfl⟩, -⟩ _ _ ⟨⟨rfl, rfl⟩, -⟩ a w1 Z Y
 replace Z : Fr 14 [(3, _), (4, _), (5, _), (6, _), (7, _), (8, _), (9, _), (10, _), (11, _), (12, _), (13, _), (0, _), (2, _)] [] a := Z
 replace Y : St M w0 [_, _] w1 := Y
 refine wla Z rfl fun a Z => ab <| hK2 _ _ ?_
 replace Z := Z.p1 2 rfl
 refine aw ?_
 refine ar Z results52 (ae rfl ag) ?_
 exact ⟨rfl, Y.select [1] de⟩
theorem gy {M : Nat → Prop} {w0 : World} (T : TypeId) (b : Nat) (v : Value) (bs : By) (ws : World) (hne : bs ≠ []) (Y : St M w0 [bld T b (pt b) v bs] ws) :
  Ret Tryd.prog 52 #[pt b] ws fun u w => u = sv bs ∧ St M w0 [blk b [pt b, v] T] w := by
 have Y : St M w0 [blk b [pt b, v] T, own v 5 1 ((bs).map fun b => [yv b])] ws := gH Y
 obtain ⟨g, cap, rfl, hcap⟩ := oh (Y.g 1 rfl) hne
 exact jQ T b g cap bs ws hne hcap Y
theorem p128 (i : Nat) : (128 : Nat) ^ i = 2 ^ (7 * i) := by rw [Nat.pow_mul]
theorem v_ixz {P : Program} {w : World} {L : List (Nat × Value)} {dst : Option Tmp} {T T' ty : TypeId} {pos : String} {af : Array Edge} {gd : Option (Nat × Bool)} {x y : Operand} {z : Nat} (hz : z < 9223372036854775808)
  (hx : ev L x = some (iv ((z / 2 : Nat) : Int))) (hy : ev L y = some (iv (-((z % 2 : Nat) : Int)))) : OpV P ⟨dst, .binOp .xor T x y T', ty, pos, af, gd⟩ L w (iv (uz z)) := by
 have h := pL (P := P) (w := w) (dst := dst) (T := T) (T' := T') (ty := ty) (pos := pos) (af := af) (gd := gd) (n := ((z / 2 : Nat) : Int)) (decide (z % 2 = 1)) om om hx (hy.trans (by
  congr 2
  by_cases h : z % 2 = 1
  ·rw [decide_eq_true h, h]; rfl
  ·rw [decide_eq_false h, show z % 2 = 0 from by omega]; rfl))
 refine h.as ?_
 congr 1
 unfold uz
 by_cases h : z % 2 = 1
 ·rw [decide_eq_true h, if_pos rfl, if_neg om]
 ·rw [decide_eq_false h, if_neg de, if_pos om]
theorem pA {f i z : Nat} : wI f i z [] = none := by cases f <;> rfl
theorem iu {s : By} {p : Nat} (h : p < s.length) : s.drop p = s.getD p 0 :: s.drop (p + 1) := by
 rw [List.drop_eq_getElem_cons h, List.getD_eq_getElem?_getD, List.getElem?_eq_getElem h]; rfl
theorem oV {s : By} {p i z : Nat} (hi : i < 9) (hp : p + i < s.length) (hb : 128 ≤ (s.getD (p + i) 0).toNat) :
  wI (9 - i) i z (s.drop (p + i)) = wI (9 - (i + 1)) (i + 1) (z + (s.getD (p + i) 0).toNat % 128 * 2 ^ (7 * i)) (s.drop (p + (i + 1))) := by
 rw [iu hp, show 9 - i = (9 - (i + 1)) + 1 from by omega, wI, if_neg om, p128]; rfl
theorem kE {s : By} {p i z : Nat} (hi : i < 9) (hp : p + i < s.length) (hb : (s.getD (p + i) 0).toNat < 128) (h : ((s.getD (p + i) 0).toNat = 0 ∧ 0 < i) ∨ uz (z + (s.getD (p + i) 0).toNat % 128 * 2 ^ (7 * i)) < -4611686018427387903) :
  wI (9 - i) i z (s.drop (p + i)) = none := by
 rw [iu hp, show 9 - i = (9 - (i + 1)) + 1 from by omega, wI, if_pos hb, p128, if_pos]
 exact h.imp_left fun ⟨h1, h2⟩ => ⟨UInt8.toNat_inj.1 (by rw [h1]; rfl), h2⟩
theorem lz {s : By} {p i z : Nat} (hi : i < 9) (hp : p + i < s.length) (hb : (s.getD (p + i) 0).toNat < 128) (h : ¬ ((s.getD (p + i) 0).toNat = 0 ∧ 0 < i)) (h2 : ¬ uz (z + (s.getD (p + i) 0).toNat % 128 * 2 ^ (7 * i)) < -4611686018427387903) :
  wI (9 - i) i z (s.drop (p + i)) = some (uz (z + (s.getD (p + i) 0).toNat % 128 * 2 ^ (7 * i)), i + 1) := by
 rw [iu hp, show 9 - i = (9 - (i + 1)) + 1 from by omega, wI, if_pos hb, p128, if_neg]
 rintro (⟨h3, h4⟩ | h3)
 ·exact h ⟨by rw [h3]; rfl, h4⟩
 ·exact h2 h3
theorem pj {z i b : Nat} (hz : z < 2 ^ (7 * i)) (hb : b < 128) : z + b * 2 ^ (7 * i) < 2 ^ (7 * (i + 1)) := by
 have e : 2 ^ (7 * (i + 1)) = 128 * 2 ^ (7 * i) := by rw [Nat.mul_add, Nat.pow_add, Nat.mul_comm]
 rw [e]
 have : (b + 1) * 2 ^ (7 * i) ≤ 128 * 2 ^ (7 * i) := Nat.mul_le_mul_right _ om
 rw [Nat.add_mul] at this
 omega
theorem z_63 {z i : Nat} (hi : i < 9) (hz : z < 2 ^ (7 * (i + 1))) : z < 9223372036854775808 := by
 have : (2 : Nat) ^ (7 * (i + 1)) ≤ 2 ^ 63 := Nat.pow_le_pow_right de om
 omega
def intV (s : By) (p : Nat) : Value := match rdI (s.drop p) with
 | some (n, r) => .tuple #[iv n, iv ((s.length - r.length : Nat) : Int), iv 0]
 | none => .tuple #[iv 0, iv 0, iv 10]
theorem dY {s : By} {p : Nat} (h : wI 9 0 0 (s.drop p) = none) : intV s p = .tuple #[iv 0, iv 0, iv 10] := by
 rw [m3] at h
 unfold intV
 cases hr : rdI (s.drop p) with
 | none => rfl
 | some x => rw [hr] at h; cases h
theorem jB {s : By} {p k : Nat} {n : Int} (hp : p ≤ s.length) (h : wI 9 0 0 (s.drop p) = some (n, k)) : intV s p = .tuple #[iv n, iv ((p + k : Nat) : Int), iv 0] := by
 rw [m3] at h
 unfold intV
 cases hr : rdI (s.drop p) with
 | none => rw [hr] at h; cases h
 | some x =>
  obtain ⟨n2, r⟩ := x
  rw [hr] at h
  simp only [Option.map_some, Option.some.injEq, Prod.mk.injEq] at h
  obtain ⟨rfl, rfl⟩ := h
  obtain ⟨_, h2⟩ := ji hr
  have h3 := congrArg List.length h2
  rw [List.length_drop, List.length_append] at h3
  have h4 := (bG n2).1
  simp only
  rw [List.length_drop, show p + (s.length - p - r.length) = s.length - r.length from by omega]
theorem jn (s : By) (p : Nat) (w0 : World) (hp : p ≤ s.length) (hsl : s.length ≤ 1000000) :
  Ret Tryd.prog 57 #[sv s, iv (p : Int)] w0 fun v w => v = intV s p ∧ Ext No w0 w := by
 refine aF func57 rfl ntmps57 (lb rfl) fun a Z => ?_
 replace Z := Z.p2 0 1 rfl
 replace Y : St No w0 [] w0 := St.init w0
 refine aa fun K1 hK1 => wla Z rfl fun a Z => wla Z rfl fun a Z => wla Z rfl fun a Z => ab (hK1 _ _ <| ac fun K2 hK2 => ?_)
 refine aa fun K3 hK3 => wlm Z rfl fun a Z => wlv Z ((v_lt rfl rfl).asb (b' := false) (by exact decide_eq_false om)) fun a Z => wlm Z rfl fun a Z => wly Z (ai rfl) fun a Z => wly Z (ai rfl) fun a Z => wly Z (bn rfl rfl (runUnderlying9 _)) fun a Z => wly Z ((v_gt rfl rfl).asb (b' := false) (by exact decide_eq_false om)) fun a Z => wlv Z (aA rfl rfl) fun a Z => ab (hK3 _ _ ?_)
 replace Z := Z.p6 0 1 4 5 6 18 rfl
 refine aH Z rfl ?_
 refine ap <| hK2 _ _ <| aa fun K4 hK4 => wla Z rfl fun a Z => ab (hK4 _ _ <| ac fun K5 hK5 => ?_)
 refine aa fun K6 hK6 => wlm Z rfl fun a Z => ab (hK6 _ _ <| am ?_)
 refine aV (fun m a w => ∃ (i : Nat) (z : Nat), m = 9 - i ∧ (i ≤ 9) ∧ (wI 9 0 0 (s.drop p) = wI (9 - i) i z (s.drop (p + i))) ∧ (z < 2 ^ (7 * i)) ∧ Fr 67 [(0, sv s), (1, iv (p : Int)), (7, .int .u64 (z : Int)), (19, iv (i : Int))] [] a ∧ St No w0 [] w) _ ⟨0, 0, rfl, de, rfl, de, Z.pick [0, 1, 7, 19], Y.select [] de⟩ ?_
 rintro _ a w1 ⟨i, z, rfl, hi, hw, hz, Z, Y⟩
 refine aa fun K7 hK7 => wlv Z (v_lt rfl rfl) fun a Z => ab (hK7 _ _ <| ac fun K8 hK8 => ?_)
 refine az Z rfl (fun hc1 => ?_) (fun hc1 => ?_)
 ·rw [hc1] at Z
  try simp only [qz] at hc1
  refine ap <| hK8 _ _ <| ac fun K9 hK9 => am <| aa fun K10 hK10 => wlm Z rfl fun a Z => wla Z rfl fun a Z => ab (hK10 _ _ <| ac fun K11 hK11 => ?_)
  refine aa fun K12 hK12 => wlm Z rfl fun a Z => wlm Z rfl fun a Z => wlv Z (aT rfl rfl ⟨om, om⟩) fun a Z => wlm Z rfl fun a Z => wlv Z (bn rfl rfl (runUnderlying9 _)) fun a Z => wlv Z (v_ge rfl rfl) fun a Z => ab (hK12 _ _ ?_)
  replace Z := Z.p6 0 1 7 19 8 27 rfl
  refine az Z rfl (fun hc2 => ?_) (fun hc2 => ?_)
  ·rw [hc2] at Z
   try simp only [qz] at hc2
   have hwn : wI 9 0 0 (s.drop p) = none := by rw [hw, List.drop_eq_nil_of_le om]; exact pA
   refine aE <| hK5 _ _ <| aa fun K13 hK13 => wla Z rfl fun a Z => wla Z rfl fun a Z => wla Z rfl fun a Z => ab (hK13 _ _ ?_)
   replace Z := Z.p3 4 5 6 rfl
   refine aw ?_
   refine ar Z results57 (ae rfl (ae rfl (ae rfl ag))) ?_
   exact ⟨(dY hwn).symm, Y.ext⟩
  rw [hc2] at Z
  try simp only [qz] at hc2
  have hpi : p + i < s.length := by omega
  have hm8 : (s.getD (p + i) 0).toNat % 128 < 128 := Nat.mod_lt _ de
  have hzl := pj hz hm8
  have hz6 := z_63 (i := i) om hzl
  refine ap <| hK11 _ _ <| aa fun K14 hK14 => wlm Z rfl fun a Z => wlm Z rfl fun a Z => wlm Z rfl fun a Z => wlv Z (aT rfl rfl ⟨om, om⟩) fun a Z => wlv Z (fG (k := (p + i)) rfl rfl (runUnderlying9 _) om om) fun a Z => wla Z rfl fun a Z => ab (hK14 _ _ ?_)
  replace Z := Z.p6 0 1 7 19 8 9 rfl
  refine aa fun K15 hK15 => wlm Z rfl fun a Z => wlm Z rfl fun a Z => wlv Z (pV (a := s.getD (p + i) 0) (b := (127 : UInt8)) rfl rfl) fun a Z => wlv Z ((mB rfl kr underlying118).asi (m' := (((s.getD (p + i) 0).toNat % 128 : Nat) : Int)) (by rw [y127])) fun a Z => wlm Z rfl fun a Z => wlv Z ((cX rfl rfl ⟨om, om⟩).asi (m' := ((7 * i : Nat) : Int)) om) fun a Z => wlv Z ((np (m := (s.getD (p + i) 0).toNat % 128) (n := 7 * i) om rfl rfl).asi (m' := (((s.getD (p + i) 0).toNat % 128 * 2 ^ (7 * i) : Nat) : Int)) (by rw [Nat.mod_eq_of_lt om])) fun a Z => wlv Z (v_uor (m := z) (n := (s.getD (p + i) 0).toNat % 128) (k := 7 * i) hz om rfl rfl) fun a Z => wla Z rfl fun a Z => ab (hK15 _ _ ?_)
  replace Z := Z.p6 0 1 19 8 9 7 rfl
  refine ac fun K16 hK16 => aa fun K17 hK17 => wlm Z rfl fun a Z => wlv Z (v_ge rfl rfl) fun a Z => ab (hK17 _ _ ?_)
  refine az Z rfl (fun hc3 => ?_) (fun hc3 => ?_)
  ·rw [hc3] at Z
   try simp only [qz] at hc3
   refine aE <| hK9 _ _ <| ao <| wlv Z (aT rfl rfl ⟨om, om⟩) fun a Z => wlm Z rfl fun a Z => ab ?_
   refine ⟨_, ?_, i + 1, (z + (s.getD (p + i) 0).toNat % 128 * 2 ^ (7 * i)), rfl, om, (by rw [hw]; exact oV om hpi om), hzl, Z.pick [0, 1, 7, 19], Y.select [] de⟩
   omega
  rw [hc3] at Z
  try simp only [qz] at hc3
  refine ap <| hK16 _ _ <| aa fun K18 hK18 => wlm Z rfl fun a Z => wlv Z ((nJ (m := (z + (s.getD (p + i) 0).toNat % 128 * 2 ^ (7 * i))) (n := 1) de rfl rfl).asi (m' := (((z + (s.getD (p + i) 0).toNat % 128 * 2 ^ (7 * i)) / 2 : Nat) : Int)) rfl) fun a Z => wlv Z (gT (n := (z + (s.getD (p + i) 0).toNat % 128 * 2 ^ (7 * i)) / 2) om rfl kr underlying3) fun a Z => wlm Z rfl fun a Z => wlv Z ((nV (m := (z + (s.getD (p + i) 0).toNat % 128 * 2 ^ (7 * i))) (k := 1) om de rfl rfl).asi (m' := (((z + (s.getD (p + i) 0).toNat % 128 * 2 ^ (7 * i)) % 2 : Nat) : Int)) rfl) fun a Z => wlv Z (gT (n := (z + (s.getD (p + i) 0).toNat % 128 * 2 ^ (7 * i)) % 2) om rfl kr underlying3) fun a Z => wlv Z (js rfl om om) fun a Z => wlv Z (v_ixz (z := (z + (s.getD (p + i) 0).toNat % 128 * 2 ^ (7 * i))) om rfl rfl) fun a Z => wla Z rfl fun a Z => ?_
  refine ab (hK18 _ _ ?_)
  replace Z := Z.p7 0 1 19 8 9 7 10 rfl
  refine ac fun K19 hK19 => aa fun K20 hK20 => wlm Z rfl fun a Z => wlv Z (v_eq rfl rfl) fun a Z => wlm Z rfl fun a Z => ?_
  rcases Bool.eq_false_or_eq_true (decide (((s.getD (p + i) 0).toNat : Int) = 0)) with hb4 | hb4
  ·rw [hb4] at Z
   try simp only [qz] at hb4
   refine wly Z (ai rfl) fun a Z => wly Z (v_gt rfl rfl) fun a Z => wlv Z (aB rfl rfl) fun a Z => wlm Z rfl fun a Z => ?_
   rcases Bool.eq_false_or_eq_true (decide (0 < (i : Int))) with hb5 | hb5
   ·rw [hb5] at Z
    try simp only [qz] at hb5
    have hwn : wI 9 0 0 (s.drop p) = none := by rw [hw]; exact kE om hpi om (.inl ⟨om, om⟩)
    refine wln Z fun a Z => wln Z fun a Z => wlv Z (aB rfl rfl) fun a Z => ab (hK20 _ _ ?_)
    replace Z := Z.p7 0 1 19 8 7 10 60 rfl
    refine aC Z rfl ?_
    refine aE <| hK5 _ _ <| aa fun K21 hK21 => wla Z rfl fun a Z => wla Z rfl fun a Z => wla Z rfl fun a Z => ab (hK21 _ _ ?_)
    replace Z := Z.p3 4 5 6 rfl
    refine aw ?_
    refine ar Z results57 (ae rfl (ae rfl (ae rfl ag))) ?_
    exact ⟨(dY hwn).symm, Y.ext⟩
   rw [hb5] at Z
   try simp only [qz] at hb5
   have hng : ¬ ((s.getD (p + i) 0).toNat = 0 ∧ 0 < i) := by omega
   refine wly Z (ai rfl) fun a Z => wly Z (v_lt rfl rfl) fun a Z => wlv Z (aA rfl rfl) fun a Z => ab (hK20 _ _ ?_)
   replace Z := Z.p7 0 1 19 8 7 10 60 rfl
   refine az Z rfl (fun hc6 => ?_) (fun hc6 => ?_)
   ·rw [hc6] at Z
    try simp only [qz] at hc6
    have hwn : wI 9 0 0 (s.drop p) = none := by rw [hw]; exact kE om hpi om (.inr hc6)
    refine aE <| hK5 _ _ <| aa fun K22 hK22 => wla Z rfl fun a Z => wla Z rfl fun a Z => wla Z rfl fun a Z => ab (hK22 _ _ ?_)
    replace Z := Z.p3 4 5 6 rfl
    refine aw ?_
    refine ar Z results57 (ae rfl (ae rfl (ae rfl ag))) ?_
    exact ⟨(dY hwn).symm, Y.ext⟩
   rw [hc6] at Z
   try simp only [qz] at hc6
   have hwg := hw.trans (lz om hpi om om hc6)
   refine ap <| hK19 _ _ <| aa fun K23 hK23 => wlm Z rfl fun a Z => wlm Z rfl fun a Z => wlm Z rfl fun a Z => wlv Z (aT rfl rfl ⟨om, om⟩) fun a Z => wlv Z (aT rfl rfl ⟨om, om⟩) fun a Z => wla Z rfl fun a Z => wla Z rfl fun a Z => wla Z rfl fun a Z => ab (hK23 _ _ ?_)
   replace Z := Z.p7 0 1 19 7 4 5 6 rfl
   refine aw ?_
   refine ar Z results57 (ae rfl (ae rfl (ae rfl ag))) ?_
   exact ⟨((jB hp hwg).trans (by simp only [retv]; congr 3; all_goals omega)).symm, Y.ext⟩
  rw [hb4] at Z
  try simp only [qz] at hb4
  refine wln Z fun a Z => wln Z fun a Z => wlv Z (aA rfl rfl) fun a Z => wlm Z rfl fun a Z => wly Z (ai rfl) fun a Z => wly Z (v_lt rfl rfl) fun a Z => wlv Z (aA rfl rfl) fun a Z => ab (hK20 _ _ ?_)
  replace Z := Z.p7 0 1 19 8 7 10 60 rfl
  refine az Z rfl (fun hc7 => ?_) (fun hc7 => ?_)
  ·rw [hc7] at Z
   try simp only [qz] at hc7
   have hwn : wI 9 0 0 (s.drop p) = none := by rw [hw]; exact kE om hpi om (.inr hc7)
   refine aE <| hK5 _ _ <| aa fun K24 hK24 => wla Z rfl fun a Z => wla Z rfl fun a Z => wla Z rfl fun a Z => ab (hK24 _ _ ?_)
   replace Z := Z.p3 4 5 6 rfl
   refine aw ?_
   refine ar Z results57 (ae rfl (ae rfl (ae rfl ag))) ?_
   exact ⟨(dY hwn).symm, Y.ext⟩
  rw [hc7] at Z
  try simp only [qz] at hc7
  have hwg := hw.trans (lz om hpi om om hc7)
  refine ap <| hK19 _ _ <| aa fun K25 hK25 => wlm Z rfl fun a Z => wlm Z rfl fun a Z => wlm Z rfl fun a Z => wlv Z (aT rfl rfl ⟨om, om⟩) fun a Z => wlv Z (aT rfl rfl ⟨om, om⟩) fun a Z => wla Z rfl fun a Z => wla Z rfl fun a Z => wla Z rfl fun a Z => ab (hK25 _ _ ?_)
  replace Z := Z.p7 0 1 19 7 4 5 6 rfl
  refine aw ?_
  refine ar Z results57 (ae rfl (ae rfl (ae rfl ag))) ?_
  exact ⟨((jB hp hwg).trans (by simp only [retv]; congr 3; all_goals omega)).symm, Y.ext⟩
 rw [hc1] at Z
 try simp only [qz] at hc1
 have hwn : wI 9 0 0 (s.drop p) = none := by rw [hw, show 9 - i = 0 from by omega]; rfl
 refine aE <| hK5 _ _ <| aa fun K26 hK26 => wla Z rfl fun a Z => wla Z rfl fun a Z => wla Z rfl fun a Z => ab (hK26 _ _ <| aw ?_)
 refine ar Z results57 (ae rfl (ae rfl (ae rfl ag))) ?_
 exact ⟨(dY hwn).symm, Y.ext⟩
theorem dU {r q : By} {n : Int} (h : rdI r = some (n, q)) : q <:+ r := by
 obtain ⟨_, rfl⟩ := ji h; exact List.suffix_append _ _
theorem nA {r x q : By} (h : rdS r = some (x, q)) : ∃ n r2, rdI r = some (n, r2) ∧ 0 ≤ n ∧ n ≤ 65536 ∧ n ≤ (r2.length : Int) ∧ x = r2.take n.toNat ∧ q = r2.drop n.toNat ∧ q.length = r2.length - n.toNat := by
 unfold rdS at h
 cases hq : rdI r with
 | none => rw [hq] at h; cases h
 | some p =>
  obtain ⟨n, t⟩ := p
  rw [hq] at h
  simp only at h
  split at h
  ·rename_i hc
   cases h
   exact ⟨n, t, rfl, hc.1, hc.2.1, hc.2.2, rfl, rfl, by rw [List.length_drop]⟩
  ·cases h
theorem pD {r : By} (h : rdS r = none) : rdI r = none ∨ ∃ n r2, rdI r = some (n, r2) ∧ (n < 0 ∨ 65536 < n ∨ (r2.length : Int) < n) := by
 unfold rdS at h
 cases hq : rdI r with
 | none => exact .inl rfl
 | some p =>
  obtain ⟨n, t⟩ := p
  rw [hq] at h
  simp only at h
  split at h
  ·cases h
  ·rename_i hc
   exact .inr ⟨n, t, rfl, by omega⟩
theorem oo {r x q : By} (h : rdS r = some (x, q)) : q <:+ r := by
 obtain ⟨n, r2, hi, _, _, _, _, rfl, _⟩ := nA h
 exact (List.drop_suffix _ _).trans (dU hi)
theorem oB {s r2 q x : By} {n : Int} (hs : r2 <:+ s) (hx : x = r2.take n.toNat) (h0 : 0 ≤ n) (hn : n ≤ (r2.length : Int)) (hq : q.length = r2.length - n.toNat) : x = (s.drop (s.length - r2.length)).take (s.length - q.length - (s.length - r2.length)) := by
 have := hs.length_le
 rw [← List.suffix_iff_eq_drop.1 hs, hx]
 congr 1
 omega
theorem iY (s : By) (w0 : World) (hs : s.length ≤ 65536) :
  Ret Tryd.prog 50 #[sv s] w0 fun v w => v = .tuple #[sv (putS s), iv 0] ∧ Ext No w0 w := by
 have hpl := bG (s.length : Int)
 refine aF func50 rfl ntmps50 (lb rfl) fun a Z => ?_
 replace Z := Z.p1 0 rfl
 replace Y : St No w0 [] w0 := St.init w0
 refine aa fun K1 hK1 => wla Z rfl fun a Z => wla Z rfl fun a Z => ab (hK1 _ _ <| ac fun K2 hK2 => ?_)
 refine aa fun K3 hK3 => wlm Z rfl fun a Z => wlv Z (bn rfl rfl (runUnderlying9 _)) fun a Z => wlv Z ((v_gt rfl rfl).asb (b' := false) (by exact decide_eq_false om)) fun a Z => ab (hK3 _ _ <| aH Z rfl ?_)
 refine ap <| hK2 _ _ <| aa fun K4 hK4 => wlm Z rfl fun a Z => wlv Z (bn rfl rfl (runUnderlying9 _)) fun a Z => ak Z Y de call75 rfl (ik (s.length : Int) _ (by unfold small; omega)) ?_
 clear Z Y
 intro a w1 Z Y
 refine wlm Z rfl fun a Z => wlv Z (aj rfl rfl) fun a Z => wlv Z (aj rfl rfl) fun a Z => wla Z rfl fun a Z => wla Z rfl fun a Z => ab (hK4 _ _ ?_)
 replace Z := Z.p4 0 2 3 4 rfl
 refine aa fun K5 hK5 => wlm Z rfl fun a Z => wlm Z rfl fun a Z => wlv Z (bY rfl rfl (by (try simp only [List.length_append]); omega)) fun a Z => wla Z rfl fun a Z => wla Z rfl fun a Z => ab (hK5 _ _ <| aw ?_)
 refine ar Z results50 (ae rfl (ae rfl ag)) ?_
 exact ⟨by rfl, Y.ext⟩
theorem es {s r r2 : By} {n z : Int} {w0 : World} (hz : z = ((s.length - r.length : Nat) : Int)) (hsf : r <:+ s) (hsl : s.length ≤ 1000000) (hq : rdI r = some (n, r2)) :
  Ret Tryd.prog 57 #[sv s, iv z] w0 fun v w => v = .tuple #[iv n, iv ((s.length - r2.length : Nat) : Int), iv 0] ∧ Ext No w0 w := by
 subst hz
 have := jn s (s.length - r.length) w0 om hsl
 unfold intV at this
 rw [← List.suffix_iff_eq_drop.1 hsf, hq] at this
 exact this
theorem ea {s r : By} {z : Int} {w0 : World} (hz : z = ((s.length - r.length : Nat) : Int)) (hsf : r <:+ s) (hsl : s.length ≤ 1000000) (hq : rdI r = none) :
  Ret Tryd.prog 57 #[sv s, iv z] w0 fun v w => v = .tuple #[iv 0, iv 0, iv 10] ∧ Ext No w0 w := by
 subst hz
 have := jn s (s.length - r.length) w0 om hsl
 unfold intV at this
 rw [← List.suffix_iff_eq_drop.1 hsf, hq] at this
 exact this
theorem mz (s r x q : By) (z : Int) (w0 : World) (hz : z = ((s.length - r.length : Nat) : Int)) (hsf : r <:+ s) (hsl : s.length ≤ 1000000) (hq : rdS r = some (x, q)) :
  Ret Tryd.prog 59 #[sv s, iv z] w0 fun v w => v = .tuple #[sv x, iv ((s.length - q.length : Nat) : Int), iv 0] ∧ Ext No w0 w := by
 obtain ⟨n, r2, hi, h0, h6, hl, hx, -, hql⟩ := nA hq
 have hsu := hsf.length_le
 have hsf2 := (dU hi).trans hsf
 have hsu2 := hsf2.length_le
 refine aF func59 rfl ntmps59 (lb rfl) fun a Z => ?_
 replace Z := Z.p2 0 1 rfl
 replace Y : St No w0 [] w0 := St.init w0
 refine aa fun K1 hK1 => wla Z rfl fun a Z => wla Z rfl fun a Z => wla Z rfl fun a Z => ab (hK1 _ _ <| aa fun K2 hK2 => ?_)
 refine wlm Z rfl fun a Z => wlm Z rfl fun a Z => ak Z Y de call57 rfl (es hz hsf hsl hi) ?_
 clear Z Y
 intro a w1 Z Y
 refine wlm Z rfl fun a Z => wlv Z (aj rfl rfl) fun a Z => wlv Z (aj rfl rfl) fun a Z => wlv Z (aj rfl rfl) fun a Z => wla Z rfl fun a Z => wla Z rfl fun a Z => wla Z rfl fun a Z => ab (hK2 _ _ ?_)
 replace Z := Z.p7 0 4 5 6 7 8 9 rfl
 refine ac fun K3 hK3 => aa fun K4 hK4 => wlm Z rfl fun a Z => wlv Z ((v_ne rfl rfl).asb (b' := false) rfl) fun a Z => ab (hK4 _ _ <| aH Z rfl ?_)
 refine ap <| hK3 _ _ <| ac fun K5 hK5 => aa fun K6 hK6 => wlm Z rfl fun a Z => wlv Z ((v_lt rfl rfl).asb (b' := false) (by exact decide_eq_false om)) fun a Z => wlm Z rfl fun a Z => wly Z (ai rfl) fun a Z => wly Z ((v_gt rfl rfl).asb (b' := false) (by exact decide_eq_false om)) fun a Z => wlv Z (aA rfl rfl) fun a Z => wlm Z rfl fun a Z => wly Z (ai rfl) fun a Z => wly Z (ai rfl) fun a Z => wly Z (bn rfl rfl (runUnderlying9 _)) fun a Z => wly Z (ai rfl) fun a Z => wly Z (bo rfl rfl ⟨om, om⟩) fun a Z => wly Z ((v_gt rfl rfl).asb (b' := false) (by exact decide_eq_false om)) fun a Z => wlv Z (aA rfl rfl) fun a Z => ab (hK6 _ _ ?_)
 replace Z := Z.p7 0 4 5 6 7 8 33 rfl
 refine aH Z rfl ?_
 refine ap <| hK5 _ _ <| aa fun K7 hK7 => wlm Z rfl fun a Z => wlm Z rfl fun a Z => wlm Z rfl fun a Z => wlm Z rfl fun a Z => wlv Z ((aT rfl rfl ⟨om, om⟩).asi (m' := ((s.length - q.length : Nat) : Int)) om) fun a Z => wlv Z ((iZ (xs := s) (l := s.length - r2.length) (h := s.length - q.length) rfl rfl rfl underlying9 (.inr ⟨.i64, rfl⟩) (.inr ⟨.i64, rfl⟩) om om).as (v' := sv x) (by rw [← oB hsf2 hx h0 hl hql])) fun a Z => wlm Z rfl fun a Z => wlm Z rfl fun a Z => wlv Z ((aT rfl rfl ⟨om, om⟩).asi (m' := ((s.length - q.length : Nat) : Int)) om) fun a Z => wla Z rfl fun a Z => wla Z rfl fun a Z => wla Z rfl fun a Z => ab (hK7 _ _ ?_)
 replace Z := Z.p3 4 5 6 rfl
 refine aw ?_
 refine ar Z results59 (ae rfl (ae rfl (ae rfl ag))) ?_
 exact ⟨by rfl, Y.ext⟩
theorem jW (s r r2 : By) (n z : Int) (w0 : World) (hz : z = ((s.length - r.length : Nat) : Int)) (hsf : r <:+ s) (hsl : s.length ≤ 1000000) (hi : rdI r = some (n, r2)) (hb : n < 0 ∨ 65536 < n ∨ (r2.length : Int) < n) :
  Ret Tryd.prog 59 #[sv s, iv z] w0 fun v w => v = .tuple #[sv ([] : By), iv 0, iv 10] ∧ Ext No w0 w := by
 have hsu := hsf.length_le
 have hsf2 := (dU hi).trans hsf
 have hsu2 := hsf2.length_le
 refine aF func59 rfl ntmps59 (lb rfl) fun a Z => ?_
 replace Z := Z.p2 0 1 rfl
 replace Y : St No w0 [] w0 := St.init w0
 refine aa fun K1 hK1 => wla Z rfl fun a Z => wla Z rfl fun a Z => wla Z rfl fun a Z => ab (hK1 _ _ <| aa fun K2 hK2 => ?_)
 refine wlm Z rfl fun a Z => wlm Z rfl fun a Z => ak Z Y de call57 rfl (es hz hsf hsl hi) ?_
 clear Z Y
 intro a w1 Z Y
 refine wlm Z rfl fun a Z => wlv Z (aj rfl rfl) fun a Z => wlv Z (aj rfl rfl) fun a Z => wlv Z (aj rfl rfl) fun a Z => wla Z rfl fun a Z => wla Z rfl fun a Z => wla Z rfl fun a Z => ab (hK2 _ _ ?_)
 replace Z := Z.p7 0 4 5 6 7 8 9 rfl
 refine ac fun K3 hK3 => aa fun K4 hK4 => wlm Z rfl fun a Z => wlv Z ((v_ne rfl rfl).asb (b' := false) rfl) fun a Z => ab (hK4 _ _ <| aH Z rfl ?_)
 refine ap <| hK3 _ _ <| ac fun K5 hK5 => aa fun K6 hK6 => wlm Z rfl fun a Z => wlv Z (v_lt rfl rfl) fun a Z => wlm Z rfl fun a Z => ?_
 rcases Bool.eq_false_or_eq_true (decide (n < 0)) with hb1 | hb1
 ·rw [hb1] at Z
  try simp only [qz] at hb1
  refine wln Z fun a Z => wln Z fun a Z => wlv Z (aB rfl rfl) fun a Z => wlm Z rfl fun a Z => wln Z fun a Z => wln Z fun a Z => wln Z fun a Z => wln Z fun a Z => wln Z fun a Z => wln Z fun a Z => wlv Z (aB rfl rfl) fun a Z => ?_
  refine ab (hK6 _ _ ?_)
  replace Z := Z.p7 0 4 5 6 7 8 33 rfl
  refine aC Z rfl ?_
  refine aa fun K7 hK7 => wla Z rfl fun a Z => wla Z rfl fun a Z => wla Z rfl fun a Z => ab (hK7 _ _ <| aw ?_)
  refine ar Z results59 (ae rfl (ae rfl (ae rfl ag))) ?_
  exact ⟨by rfl, Y.ext⟩
 rw [hb1] at Z
 try simp only [qz] at hb1
 refine wly Z (ai rfl) fun a Z => wly Z (v_gt rfl rfl) fun a Z => wlv Z (aA rfl rfl) fun a Z => wlm Z rfl fun a Z => ?_
 rcases Bool.eq_false_or_eq_true (decide (65536 < n)) with hb2 | hb2
 ·rw [hb2] at Z
  try simp only [qz] at hb2
  refine wln Z fun a Z => wln Z fun a Z => wln Z fun a Z => wln Z fun a Z => wln Z fun a Z => wln Z fun a Z => wlv Z (aB rfl rfl) fun a Z => ab (hK6 _ _ ?_)
  replace Z := Z.p7 0 4 5 6 7 8 33 rfl
  refine aC Z rfl ?_
  refine aa fun K8 hK8 => wla Z rfl fun a Z => wla Z rfl fun a Z => wla Z rfl fun a Z => ab (hK8 _ _ <| aw ?_)
  refine ar Z results59 (ae rfl (ae rfl (ae rfl ag))) ?_
  exact ⟨by rfl, Y.ext⟩
 rw [hb2] at Z
 try simp only [qz] at hb2
 refine wly Z (ai rfl) fun a Z => wly Z (ai rfl) fun a Z => wly Z (bn rfl rfl (runUnderlying9 _)) fun a Z => wly Z (ai rfl) fun a Z => wly Z (bo rfl rfl ⟨om, om⟩) fun a Z => wly Z (v_gt rfl rfl) fun a Z => wlv Z (aA rfl rfl) fun a Z => ab (hK6 _ _ ?_)
 replace Z := Z.p7 0 4 5 6 7 8 33 rfl
 refine az Z rfl (fun hc3 => ?_) (fun hc3 => ?_)
 ·rw [hc3] at Z
  try simp only [qz] at hc3
  refine aa fun K9 hK9 => wla Z rfl fun a Z => wla Z rfl fun a Z => wla Z rfl fun a Z => ab (hK9 _ _ <| aw ?_)
  refine ar Z results59 (ae rfl (ae rfl (ae rfl ag))) ?_
  exact ⟨by rfl, Y.ext⟩
 rw [hc3] at Z
 try simp only [qz] at hc3
 exfalso; omega
theorem j4 (s r : By) (z : Int) (w0 : World) (hz : z = ((s.length - r.length : Nat) : Int)) (hsf : r <:+ s) (hsl : s.length ≤ 1000000) (hi : rdI r = none) :
  Ret Tryd.prog 59 #[sv s, iv z] w0 fun v w => v = .tuple #[sv ([] : By), iv 0, iv 10] ∧ Ext No w0 w := by
 refine aF func59 rfl ntmps59 (lb rfl) fun a Z => ?_
 replace Z := Z.p2 0 1 rfl
 replace Y : St No w0 [] w0 := St.init w0
 refine aa fun K1 hK1 => wla Z rfl fun a Z => wla Z rfl fun a Z => wla Z rfl fun a Z => ab (hK1 _ _ <| aa fun K2 hK2 => ?_)
 refine wlm Z rfl fun a Z => wlm Z rfl fun a Z => ak Z Y de call57 rfl (ea hz hsf hsl hi) ?_
 clear Z Y
 intro a w1 Z Y
 refine wlm Z rfl fun a Z => wlv Z (aj rfl rfl) fun a Z => wlv Z (aj rfl rfl) fun a Z => wlv Z (aj rfl rfl) fun a Z => wla Z rfl fun a Z => wla Z rfl fun a Z => wla Z rfl fun a Z => ab (hK2 _ _ ?_)
 replace Z := Z.p7 0 4 5 6 7 8 9 rfl
 refine ac fun K3 hK3 => aa fun K4 hK4 => wlm Z rfl fun a Z => wlv Z ((v_ne rfl rfl).asb (b' := true) rfl) fun a Z => ab (hK4 _ _ <| aC Z rfl ?_)
 refine aa fun K5 hK5 => wlm Z rfl fun a Z => wla Z rfl fun a Z => wla Z rfl fun a Z => wla Z rfl fun a Z => ab (hK5 _ _ <| aw ?_)
 refine ar Z results59 (ae rfl (ae rfl (ae rfl ag))) ?_
 exact ⟨by rfl, Y.ext⟩
theorem kx {s r : By} {z : Int} {w0 : World} (hz : z = ((s.length - r.length : Nat) : Int)) (hsf : r <:+ s) (hsl : s.length ≤ 1000000) (hq : rdS r = none) :
  Ret Tryd.prog 59 #[sv s, iv z] w0 fun v w => v = .tuple #[sv ([] : By), iv 0, iv 10] ∧ Ext No w0 w := by
 rcases pD hq with hi | ⟨n, r2, hi, hb⟩
 ·exact j4 s r z w0 hz hsf hsl hi
 ·exact jW s r r2 n z w0 hz hsf hsl hi hb
theorem gS (s : By) (w0 : World) (hs : s.length ≤ 65536) :
  Ret Tryd.prog 54 #[sv s] w0 fun v w => v = .tuple #[sv (putS s), iv 0] ∧ Ext No w0 w := by
 have hpl := bG (s.length : Int)
 refine aF func54 rfl ntmps54 (lb rfl) fun a Z => ?_
 replace Z := Z.p1 0 rfl
 replace Y : St No w0 [] w0 := St.init w0
 refine aa fun K1 hK1 => wla Z rfl fun a Z => wla Z rfl fun a Z => ab (hK1 _ _ <| ac fun K2 hK2 => ?_)
 refine aa fun K3 hK3 => wlm Z rfl fun a Z => wlv Z (bn rfl rfl (runUnderlying9 _)) fun a Z => wlv Z ((v_gt rfl rfl).asb (b' := false) (by exact decide_eq_false om)) fun a Z => ab (hK3 _ _ <| aH Z rfl ?_)
 refine ap <| hK2 _ _ <| aa fun K4 hK4 => wlm Z rfl fun a Z => wlv Z (bn rfl rfl (runUnderlying9 _)) fun a Z => ak Z Y de call53 rfl (cR (s.length : Int) _ (by unfold small; omega)) ?_
 clear Z Y
 intro a w1 Z Y
 refine wlm Z rfl fun a Z => wlv Z (aj rfl rfl) fun a Z => wlv Z (aj rfl rfl) fun a Z => wla Z rfl fun a Z => wla Z rfl fun a Z => ab (hK4 _ _ ?_)
 replace Z := Z.p4 0 2 3 4 rfl
 refine aa fun K5 hK5 => wlm Z rfl fun a Z => wlm Z rfl fun a Z => wlv Z (bY rfl rfl (by (try simp only [List.length_append]); omega)) fun a Z => wla Z rfl fun a Z => wla Z rfl fun a Z => ab (hK5 _ _ <| aw ?_)
 refine ar Z results54 (ae rfl (ae rfl ag)) ?_
 exact ⟨by rfl, Y.ext⟩
def smalls (l : List Int) : Prop := ∀ n ∈ l, small n
def i64 (n : Int) : Prop := -9223372036854775808 ≤ n ∧ n ≤ 9223372036854775807
def Rec.cells (x : Rec) : List Value := [iv x.t, iv x.kind, iv x.a, iv x.b, sv x.text]
theorem eV {l : List (List Value)} (h : ∀ e ∈ l, ∃ p : Rec, e = p.cells) : ∀ e ∈ l, ∀ u ∈ e, u.oneCell' = true := by
 intro e he u hu
 obtain ⟨p, rfl⟩ := h e he
 simp only [Rec.cells, List.mem_cons, List.not_mem_nil, or_false] at hu
 rcases hu with rfl | rfl | rfl | rfl | rfl <;> rfl
def Rin.cells (y : Rin) : List Value := [iv y.x0, iv y.x1, iv y.x2, iv y.x3, iv y.x4]
def Rin.z : Rin := ⟨0, 0, 0, 0, 0⟩
def Rin.wt (y : Rin) : Prop := i64 y.x0 ∧ i64 y.x1 ∧ i64 y.x2 ∧ i64 y.x3 ∧ i64 y.x4
def prevT (l : List Rec) : Nat → Int
 | 0 => 0
 | k + 1 => (l.getD k Rec.z).t
theorem Rec.t0 {x : Rec} (h : x.ok = true) : 0 ≤ x.t := by
 simp only [Rec.ok, inB, Bool.and_eq_true, decide_eq_true_eq] at h; omega
theorem eS {l : List Rec} {k : Nat} (h : k < l.length) : l.drop k = l.getD k Rec.z :: l.drop (k + 1) := by
 rw [List.drop_eq_getElem_cons h, List.getD_eq_getElem?_getD, List.getElem?_eq_getElem h]; rfl
section
variable {l : List Rec} {k : Nat} {t : Int}
theorem sr_go (hk : k < l.length) (ho : (l.getD k Rec.z).ok = true) (ht : t ≤ (l.getD k Rec.z).t) : bT t (l.drop k) = bT (prevT l (k + 1)) (l.drop (k + 1)) := by
 rw [eS hk, bT, ho, decide_eq_true ht]; rfl
theorem sr_no (hk : k < l.length) (ho : (l.getD k Rec.z).ok = false) : bT t (l.drop k) = false := by rw [eS hk, bT, ho]; rfl
theorem sr_lt (hk : k < l.length) (ht : (l.getD k Rec.z).t < t) : bT t (l.drop k) = false := by rw [eS hk, bT, decide_eq_false om, Bool.and_false]; rfl
end
def eB (x : Rec) : By := if x.ok = true then x.enc else []
def eE (x : Rec) : Int := if x.ok = true then 0 else 110
theorem cF (x : Rec) : (eB x).length ≤ 300 := by
 unfold eB
 split
 ·rename_i h
  have h1 := x.enc_len
  have h2 := Rec.len h
  omega
 ·simp
def decR (acc : List Int) (m : Nat) (r : By) : Option Rec := match intsR m r with
 | none => none
 | some (l, t) => tailR (acc ++ l) t
def decX (s : By) : Rec := (decRec s).getD Rec.z
def decE (s : By) : Int := if (decRec s).isSome = true then 0 else 110
section
variable {acc : List Int} {m : Nat} {r q x s : By} {n : Int}
theorem nw : decRec s = decR [] 4 s := by
 unfold decRec decR
 cases intsR 4 s <;> rfl
theorem fN (h : rdI r = some (n, q)) : decR acc (m + 1) r = decR (acc ++ [n]) m q := by
 unfold decR
 rw [nu h]
 cases intsR m q with
 | none => rfl
 | some p => simp
theorem fl (h : rdI r = none) : decR acc (m + 1) r = none := by unfold decR; rw [l5 h]
theorem mD : decR acc 0 r = tailR acc r := by unfold decR; simp [intsR]
theorem mg (h : rdS r = none) : tailR acc r = none := by unfold tailR; rw [h]
theorem no (h : rdS r = some (x, q)) : tailR acc r = shutR acc x q := by unfold tailR; rw [h]
theorem lA (h1 : q = []) (h2 : (recN acc x).ok = true) : shutR acc x q = some (recN acc x) := if_pos ⟨h1, h2⟩
theorem mb (h : q ≠ []) : shutR acc x q = none := if_neg fun hh => h hh.1
theorem mn (h : (recN acc x).ok = false) : shutR acc x q = none := if_neg fun hh => by rw [h] at hh; cases hh.2
end
def codesB (l : List Rec) : List By := l.map eB
theorem dH {l : List Rec} (h : ∀ x ∈ l, x.ok = true) : codesB l = codesR l := List.map_congr_left fun x hx => if_pos (h x hx)
theorem gI (l : List Rec) : ∀ s ∈ codesB l, s.length ≤ 300 := by
 intro s hs
 obtain ⟨x, _, rfl⟩ := List.mem_map.1 hs
 exact cF x
theorem dl (l : List Rec) : (codesB l).length = l.length := List.length_map ..
theorem j0 (l : List Rec) (x : Rec) : codesB (l ++ [x]) = codesB l ++ [eB x] := by simp [codesB]
def addOk (o : Int) (l : List Rec) (x : Rec) : Bool := logOk o l && logOk o (l ++ [x])
theorem dZ {P : Program} {w : World} {d : Nat} {xs ys : Array Value} {f : Field} {fs : List Field} {a b : Value} {r r' : Bool} (hn : f.name ≠ "_") (h1 : (part f.type xs f.offset).run P w = .ok a w) (h2 : (part f.type ys f.offset).run P w = .ok b w)
  (h3 : (Op.equalIn d f.type a b).run P w = .ok r w) (h4 : (Op.eqFields d xs ys fs).run P w = .ok r' w) : (Op.eqFields d xs ys (f :: fs)).run P w = .ok (r && r') w := by
 simp only [Op.eqFields, hn, ne_eq, not_false_eq_true, if_true, Sem.run_bind, h1, h2, h3, Result.andThen_ok]
 cases r
 ·simp
 ·simpa using h4
theorem ob {P : Program} {w : World} {d : Nat} {xs ys : Array Value} : (Op.eqFields d xs ys []).run P w = .ok true w := by simp [Op.eqFields]
theorem eqI {w : World} (d : Nat) (a b : Int) : (Op.equalIn (d + 1) 3 (iv a) (iv b)).run Tryd.prog w = .ok (decide (a = b)) w := by
 rw [run_equalIn_int w d 3 .i64 .i64 a b underlying3]; congr 1
theorem eqS {w : World} (d : Nat) (a b : By) : (Op.equalIn (d + 1) 9 (sv a) (sv b)).run Tryd.prog w = .ok (decide (a = b)) w := by
 unfold sv
 rw [run_equalIn_string w d 9 _ _ underlying9, ByteArray.toList_mk, ByteArray.toList_mk]; congr 1
 rw [Bool.eq_iff_iff]; simp
theorem eqRec (a0 a1 a2 a3 : Int) (a4 : By) (c0 c1 c2 c3 : Int) (c4 : By) (w : World) : (Op.equal 27 (.agg #[iv a0, iv a1, iv a2, iv a3, sv a4]) (.agg #[iv c0, iv c1, iv c2, iv c3, sv c4])).run Tryd.prog w = .ok (decide (Rec.mk a0 a1 a2 a3 a4 = Rec.mk c0 c1 c2 c3 c4)) w := by
 have e : decide (Rec.mk a0 a1 a2 a3 a4 = Rec.mk c0 c1 c2 c3 c4) = (decide (a0 = c0) && (decide (a1 = c1) && (decide (a2 = c2) && (decide (a3 = c3) && (decide (a4 = c4) && true))))) := by
  rw [Bool.eq_iff_iff]; simp [and_assoc]
 rw [e]
 unfold Op.equal Op.maxDepth
 obtain ⟨dd, hd⟩ : ∃ dd, 10000 = dd + 1 + 1 + 1 := ⟨9997, rfl⟩
 rw [hd, run_equalIn_struct w (dd + 1 + 1) 27 _ _ kr kr]
 simp only [Program.fieldsOf, underlying27]
 refine dZ (a := iv a0) (b := iv c0) (r := decide (a0 = c0)) de (by simp [part, isAgg3, sv]) (by simp [part, isAgg3, sv]) (eqI _ _ _) ?_
 refine dZ (a := iv a1) (b := iv c1) (r := decide (a1 = c1)) de (by simp [part, isAgg3, sv]) (by simp [part, isAgg3, sv]) (eqI _ _ _) ?_
 refine dZ (a := iv a2) (b := iv c2) (r := decide (a2 = c2)) de (by simp [part, isAgg3, sv]) (by simp [part, isAgg3, sv]) (eqI _ _ _) ?_
 refine dZ (a := iv a3) (b := iv c3) (r := decide (a3 = c3)) de (by simp [part, isAgg3, sv]) (by simp [part, isAgg3, sv]) (eqI _ _ _) ?_
 refine dZ (a := sv a4) (b := sv c4) (r := decide (a4 = c4)) de (by simp [part, isAgg9, sv]) (by simp [part, isAgg9, sv]) (eqS _ _ _) ?_
 exact ob
theorem cz (n m : Int) (w0 : World) (hn : -9223372036854775808 ≤ n ∧ n ≤ 9223372036854775807) (hm : 0 < m ∧ m ≤ 9223372036854775807) :
  Ret Tryd.prog 44 #[iv n, iv m] w0 fun v w => v = iv (pickI n m) ∧ Ext No w0 w := by
 refine aF func44 rfl ntmps44 (lb rfl) fun a Z => ?_
 replace Z := Z.p2 0 1 rfl
 replace Y : St No w0 [] w0 := St.init w0
 refine aa fun K1 hK1 => wla Z rfl fun a Z => ab (hK1 _ _ <| ac fun K2 hK2 => ?_)
 refine aa fun K3 hK3 => wlm Z rfl fun a Z => wlv Z (v_lt rfl rfl) fun a Z => ab (hK3 _ _ ?_)
 refine az Z rfl (fun hc1 => ?_) (fun hc1 => ?_)
 ·rw [hc1] at Z
  try simp only [qz] at hc1
  refine ao <| wlm Z rfl fun a Z => wlv Z (aT rfl rfl ⟨om, om⟩) fun a Z => wlv Z (js rfl om om) fun a Z => wla Z rfl fun a Z => ab <| hK2 _ _ <| aa fun K4 hK4 => wlm Z rfl fun a Z => wlm Z rfl fun a Z => wlv Z (hU rfl rfl om om) fun a Z => wla Z rfl fun a Z => ab (hK4 _ _ ?_)
  replace Z := Z.p1 4 rfl
  refine aw ?_
  refine ar Z results44 (ae rfl ag) ?_
  exact ⟨by simp only [retv, pickI]; simp [hc1], Y.ext⟩
 rw [hc1] at Z
 try simp only [qz] at hc1
 refine ap <| hK2 _ _ <| aa fun K5 hK5 => wlm Z rfl fun a Z => wlm Z rfl fun a Z => wlv Z (hU rfl rfl om om) fun a Z => wla Z rfl fun a Z => ab (hK5 _ _ ?_)
 replace Z := Z.p1 4 rfl
 refine aw ?_
 refine ar Z results44 (ae rfl ag) ?_
 exact ⟨by simp only [retv, pickI]; simp [hc1], Y.ext⟩
theorem fj (n m : Int) (w0 : World) (hn : -9223372036854775808 ≤ n ∧ n ≤ 9223372036854775807) (hm : 0 < m ∧ m ≤ 9223372036854775807) :
  Ret Tryd.prog 19 #[iv n, iv m] w0 fun v w => v = iv (pickI n m) ∧ Ext No w0 w := by
 refine aF func19 rfl ntmps19 (lb rfl) fun a Z => ?_
 replace Z := Z.p2 0 1 rfl
 replace Y : St No w0 [] w0 := St.init w0
 refine aa fun K1 hK1 => wla Z rfl fun a Z => ab (hK1 _ _ <| ac fun K2 hK2 => ?_)
 refine aa fun K3 hK3 => wlm Z rfl fun a Z => wlv Z (v_lt rfl rfl) fun a Z => ab (hK3 _ _ ?_)
 refine az Z rfl (fun hc1 => ?_) (fun hc1 => ?_)
 ·rw [hc1] at Z
  try simp only [qz] at hc1
  refine ao <| wlm Z rfl fun a Z => wlv Z (aT rfl rfl ⟨om, om⟩) fun a Z => wlv Z (js rfl om om) fun a Z => wla Z rfl fun a Z => ab <| hK2 _ _ <| aa fun K4 hK4 => wlm Z rfl fun a Z => wlm Z rfl fun a Z => wlv Z (hU rfl rfl om om) fun a Z => wla Z rfl fun a Z => ab (hK4 _ _ ?_)
  replace Z := Z.p1 4 rfl
  refine aw ?_
  refine ar Z results19 (ae rfl ag) ?_
  exact ⟨by simp only [retv, pickI]; simp [hc1], Y.ext⟩
 rw [hc1] at Z
 try simp only [qz] at hc1
 refine ap <| hK2 _ _ <| aa fun K5 hK5 => wlm Z rfl fun a Z => wlm Z rfl fun a Z => wlv Z (hU rfl rfl om om) fun a Z => wla Z rfl fun a Z => ab (hK5 _ _ ?_)
 replace Z := Z.p1 4 rfl
 refine aw ?_
 refine ar Z results19 (ae rfl ag) ?_
 exact ⟨by simp only [retv, pickI]; simp [hc1], Y.ext⟩
theorem il (x : Rec) (w0 : World) :
  Ret Tryd.prog 47 #[.agg #[iv x.t, iv x.kind, iv x.a, iv x.b, sv x.text]] w0 fun v w => v = .bool x.ok ∧ Ext No w0 w := by
 refine aF func47 rfl ntmps47 (lb rfl) fun a Z => ?_
 replace Z := Z.p1 0 rfl
 replace Y : St No w0 [] w0 := St.init w0
 refine aa fun K1 hK1 => bp Z Y de rfl (cs := [iv x.t, iv x.kind, iv x.a, iv x.b, sv x.text]) rfl ?_
 clear Z Y
 intro a w1 Z Y
 refine wla Z rfl fun a Z => ab (hK1 _ _ <| aa fun K2 hK2 => ?_)
 refine wlv Z (al (v := pt w0.hz) rfl kr) fun a Z => wlv Z (ld Y 0 rfl rfl (isAgg3 _) rfl) fun a Z => wlv Z (v_ge rfl rfl) fun a Z => wlm Z rfl fun a Z => ?_
 refine cU (N := 47) (df := []) 4 [(10, .bool ((decide (0 ≤ x.t)) && (decide (x.t ≤ 10000000)))), (0, .agg #[iv x.t, iv x.kind, iv x.a, iv x.b, sv x.text]), (1, pt w0.hz), (2, .bool false)] ?_ (fun hj => ?_)
 rotate_left
 ·rcases Bool.eq_false_or_eq_true (decide (0 ≤ x.t)) with hb1 | hb1
  ·rw [hb1] at Z
   have hb1b := hb1
   try simp only [qz, Bool.and_eq_true, Bool.or_eq_true, Bool.and_eq_false_iff, Bool.or_eq_false_iff] at hb1
   refine wly Z (al (v := pt w0.hz) rfl kr) fun a Z => wly Z (ld Y 0 rfl rfl (isAgg3 _) rfl) fun a Z => wly Z (v_le rfl rfl) fun a Z => wlv Z (aB rfl rfl) fun a Z => ?_
   refine hj _ ?_
   try rw [hb1b]
   exact Z.pick [10, 0, 1, 2]
  rw [hb1] at Z
  have hb1b := hb1
  try simp only [qz, Bool.and_eq_true, Bool.or_eq_true, Bool.and_eq_false_iff, Bool.or_eq_false_iff] at hb1
  refine wln Z fun a Z => wln Z fun a Z => wln Z fun a Z => wlv Z (aA rfl rfl) fun a Z => ?_
  refine hj _ ?_
  try rw [hb1b]
  exact Z.pick [10, 0, 1, 2]
 intro a Z
 refine wlm Z rfl fun a Z => ?_
 refine cU (N := 47) (df := []) 4 [(15, .bool (((decide (0 ≤ x.t)) && (decide (x.t ≤ 10000000))) && (decide (1 ≤ x.kind)))), (0, .agg #[iv x.t, iv x.kind, iv x.a, iv x.b, sv x.text]), (1, pt w0.hz), (2, .bool false)] ?_ (fun hj => ?_)
 rotate_left
 ·rcases Bool.eq_false_or_eq_true ((decide (0 ≤ x.t)) && (decide (x.t ≤ 10000000))) with hb2 | hb2
  ·rw [hb2] at Z
   have hb2b := hb2
   try simp only [qz, Bool.and_eq_true, Bool.or_eq_true, Bool.and_eq_false_iff, Bool.or_eq_false_iff] at hb2
   refine wly Z (al (v := po w0.hz 1) rfl kr) fun a Z => wly Z (ld Y 0 rfl rfl (isAgg3 _) rfl) fun a Z => wly Z (v_ge rfl rfl) fun a Z => wlv Z (aB rfl rfl) fun a Z => ?_
   refine hj _ ?_
   try rw [hb2b]
   exact Z.pick [15, 0, 1, 2]
  rw [hb2] at Z
  have hb2b := hb2
  try simp only [qz, Bool.and_eq_true, Bool.or_eq_true, Bool.and_eq_false_iff, Bool.or_eq_false_iff] at hb2
  refine wln Z fun a Z => wln Z fun a Z => wln Z fun a Z => wlv Z (aA rfl rfl) fun a Z => ?_
  refine hj _ ?_
  try rw [hb2b]
  exact Z.pick [15, 0, 1, 2]
 intro a Z
 refine wlm Z rfl fun a Z => ?_
 refine cU (N := 47) (df := []) 4 [(20, .bool ((((decide (0 ≤ x.t)) && (decide (x.t ≤ 10000000))) && (decide (1 ≤ x.kind))) && (decide (x.kind ≤ 20)))), (0, .agg #[iv x.t, iv x.kind, iv x.a, iv x.b, sv x.text]), (1, pt w0.hz), (2, .bool false)] ?_ (fun hj => ?_)
 rotate_left
 ·rcases Bool.eq_false_or_eq_true (((decide (0 ≤ x.t)) && (decide (x.t ≤ 10000000))) && (decide (1 ≤ x.kind))) with hb3 | hb3
  ·rw [hb3] at Z
   have hb3b := hb3
   try simp only [qz, Bool.and_eq_true, Bool.or_eq_true, Bool.and_eq_false_iff, Bool.or_eq_false_iff] at hb3
   refine wly Z (al (v := po w0.hz 1) rfl kr) fun a Z => wly Z (ld Y 0 rfl rfl (isAgg3 _) rfl) fun a Z => wly Z (v_le rfl rfl) fun a Z => wlv Z (aB rfl rfl) fun a Z => ?_
   refine hj _ ?_
   try rw [hb3b]
   exact Z.pick [20, 0, 1, 2]
  rw [hb3] at Z
  have hb3b := hb3
  try simp only [qz, Bool.and_eq_true, Bool.or_eq_true, Bool.and_eq_false_iff, Bool.or_eq_false_iff] at hb3
  refine wln Z fun a Z => wln Z fun a Z => wln Z fun a Z => wlv Z (aA rfl rfl) fun a Z => ?_
  refine hj _ ?_
  try rw [hb3b]
  exact Z.pick [20, 0, 1, 2]
 intro a Z
 refine wlm Z rfl fun a Z => ?_
 refine cU (N := 47) (df := []) 4 [(25, .bool (((((decide (0 ≤ x.t)) && (decide (x.t ≤ 10000000))) && (decide (1 ≤ x.kind))) && (decide (x.kind ≤ 20))) && (decide (-1 ≤ x.a)))), (0, .agg #[iv x.t, iv x.kind, iv x.a, iv x.b, sv x.text]), (1, pt w0.hz), (2, .bool false)] ?_ (fun hj => ?_)
 rotate_left
 ·rcases Bool.eq_false_or_eq_true ((((decide (0 ≤ x.t)) && (decide (x.t ≤ 10000000))) && (decide (1 ≤ x.kind))) && (decide (x.kind ≤ 20))) with hb4 | hb4
  ·rw [hb4] at Z
   have hb4b := hb4
   try simp only [qz, Bool.and_eq_true, Bool.or_eq_true, Bool.and_eq_false_iff, Bool.or_eq_false_iff] at hb4
   refine wly Z (al (v := po w0.hz 2) rfl kr) fun a Z => wly Z (ld Y 0 rfl rfl (isAgg3 _) rfl) fun a Z => wly Z (v_ge rfl rfl) fun a Z => wlv Z (aB rfl rfl) fun a Z => ?_
   refine hj _ ?_
   try rw [hb4b]
   exact Z.pick [25, 0, 1, 2]
  rw [hb4] at Z
  have hb4b := hb4
  try simp only [qz, Bool.and_eq_true, Bool.or_eq_true, Bool.and_eq_false_iff, Bool.or_eq_false_iff] at hb4
  refine wln Z fun a Z => wln Z fun a Z => wln Z fun a Z => wlv Z (aA rfl rfl) fun a Z => ?_
  refine hj _ ?_
  try rw [hb4b]
  exact Z.pick [25, 0, 1, 2]
 intro a Z
 refine wlm Z rfl fun a Z => ?_
 refine cU (N := 47) (df := []) 4 [(30, .bool ((((((decide (0 ≤ x.t)) && (decide (x.t ≤ 10000000))) && (decide (1 ≤ x.kind))) && (decide (x.kind ≤ 20))) && (decide (-1 ≤ x.a))) && (decide (x.a ≤ 99999999)))), (0, .agg #[iv x.t, iv x.kind, iv x.a, iv x.b, sv x.text]), (1, pt w0.hz), (2, .bool false)] ?_ (fun hj => ?_)
 rotate_left
 ·rcases Bool.eq_false_or_eq_true (((((decide (0 ≤ x.t)) && (decide (x.t ≤ 10000000))) && (decide (1 ≤ x.kind))) && (decide (x.kind ≤ 20))) && (decide (-1 ≤ x.a))) with hb5 | hb5
  ·rw [hb5] at Z
   have hb5b := hb5
   try simp only [qz, Bool.and_eq_true, Bool.or_eq_true, Bool.and_eq_false_iff, Bool.or_eq_false_iff] at hb5
   refine wly Z (al (v := po w0.hz 2) rfl kr) fun a Z => wly Z (ld Y 0 rfl rfl (isAgg3 _) rfl) fun a Z => wly Z (v_le rfl rfl) fun a Z => wlv Z (aB rfl rfl) fun a Z => ?_
   refine hj _ ?_
   try rw [hb5b]
   exact Z.pick [30, 0, 1, 2]
  rw [hb5] at Z
  have hb5b := hb5
  try simp only [qz, Bool.and_eq_true, Bool.or_eq_true, Bool.and_eq_false_iff, Bool.or_eq_false_iff] at hb5
  refine wln Z fun a Z => wln Z fun a Z => wln Z fun a Z => wlv Z (aA rfl rfl) fun a Z => ?_
  refine hj _ ?_
  try rw [hb5b]
  exact Z.pick [30, 0, 1, 2]
 intro a Z
 refine wlm Z rfl fun a Z => ?_
 refine cU (N := 47) (df := []) 4 [(35, .bool (((((((decide (0 ≤ x.t)) && (decide (x.t ≤ 10000000))) && (decide (1 ≤ x.kind))) && (decide (x.kind ≤ 20))) && (decide (-1 ≤ x.a))) && (decide (x.a ≤ 99999999))) && (decide (-1 ≤ x.b)))), (0, .agg #[iv x.t, iv x.kind, iv x.a, iv x.b, sv x.text]), (1, pt w0.hz), (2, .bool false)] ?_ (fun hj => ?_)
 rotate_left
 ·rcases Bool.eq_false_or_eq_true ((((((decide (0 ≤ x.t)) && (decide (x.t ≤ 10000000))) && (decide (1 ≤ x.kind))) && (decide (x.kind ≤ 20))) && (decide (-1 ≤ x.a))) && (decide (x.a ≤ 99999999))) with hb6 | hb6
  ·rw [hb6] at Z
   have hb6b := hb6
   try simp only [qz, Bool.and_eq_true, Bool.or_eq_true, Bool.and_eq_false_iff, Bool.or_eq_false_iff] at hb6
   refine wly Z (al (v := po w0.hz 3) rfl kr) fun a Z => wly Z (ld Y 0 rfl rfl (isAgg3 _) rfl) fun a Z => wly Z (v_ge rfl rfl) fun a Z => wlv Z (aB rfl rfl) fun a Z => ?_
   refine hj _ ?_
   try rw [hb6b]
   exact Z.pick [35, 0, 1, 2]
  rw [hb6] at Z
  have hb6b := hb6
  try simp only [qz, Bool.and_eq_true, Bool.or_eq_true, Bool.and_eq_false_iff, Bool.or_eq_false_iff] at hb6
  refine wln Z fun a Z => wln Z fun a Z => wln Z fun a Z => wlv Z (aA rfl rfl) fun a Z => ?_
  refine hj _ ?_
  try rw [hb6b]
  exact Z.pick [35, 0, 1, 2]
 intro a Z
 refine wlm Z rfl fun a Z => ?_
 refine cU (N := 47) (df := []) 4 [(40, .bool ((((((((decide (0 ≤ x.t)) && (decide (x.t ≤ 10000000))) && (decide (1 ≤ x.kind))) && (decide (x.kind ≤ 20))) && (decide (-1 ≤ x.a))) && (decide (x.a ≤ 99999999))) && (decide (-1 ≤ x.b))) && (decide (x.b ≤ 99999999)))), (0, .agg #[iv x.t, iv x.kind, iv x.a, iv x.b, sv x.text]), (1, pt w0.hz), (2, .bool false)] ?_ (fun hj => ?_)
 rotate_left
 ·rcases Bool.eq_false_or_eq_true (((((((decide (0 ≤ x.t)) && (decide (x.t ≤ 10000000))) && (decide (1 ≤ x.kind))) && (decide (x.kind ≤ 20))) && (decide (-1 ≤ x.a))) && (decide (x.a ≤ 99999999))) && (decide (-1 ≤ x.b))) with hb7 | hb7
  ·rw [hb7] at Z
   have hb7b := hb7
   try simp only [qz, Bool.and_eq_true, Bool.or_eq_true, Bool.and_eq_false_iff, Bool.or_eq_false_iff] at hb7
   refine wly Z (al (v := po w0.hz 3) rfl kr) fun a Z => wly Z (ld Y 0 rfl rfl (isAgg3 _) rfl) fun a Z => wly Z (v_le rfl rfl) fun a Z => wlv Z (aB rfl rfl) fun a Z => ?_
   refine hj _ ?_
   try rw [hb7b]
   exact Z.pick [40, 0, 1, 2]
  rw [hb7] at Z
  have hb7b := hb7
  try simp only [qz, Bool.and_eq_true, Bool.or_eq_true, Bool.and_eq_false_iff, Bool.or_eq_false_iff] at hb7
  refine wln Z fun a Z => wln Z fun a Z => wln Z fun a Z => wlv Z (aA rfl rfl) fun a Z => ?_
  refine hj _ ?_
  try rw [hb7b]
  exact Z.pick [40, 0, 1, 2]
 intro a Z
 refine wlm Z rfl fun a Z => ?_
 refine cU (N := 47) (df := []) 5 [(46, .bool (((((((((decide (0 ≤ x.t)) && (decide (x.t ≤ 10000000))) && (decide (1 ≤ x.kind))) && (decide (x.kind ≤ 20))) && (decide (-1 ≤ x.a))) && (decide (x.a ≤ 99999999))) && (decide (-1 ≤ x.b))) && (decide (x.b ≤ 99999999))) && (decide ((x.text.length : Int) ≤ 200)))), (0, .agg #[iv x.t, iv x.kind, iv x.a, iv x.b, sv x.text]), (1, pt w0.hz), (2, .bool false)] ?_ (fun hj => ?_)
 rotate_left
 ·rcases Bool.eq_false_or_eq_true ((((((((decide (0 ≤ x.t)) && (decide (x.t ≤ 10000000))) && (decide (1 ≤ x.kind))) && (decide (x.kind ≤ 20))) && (decide (-1 ≤ x.a))) && (decide (x.a ≤ 99999999))) && (decide (-1 ≤ x.b))) && (decide (x.b ≤ 99999999))) with hb8 | hb8
  ·rw [hb8] at Z
   have hb8b := hb8
   try simp only [qz, Bool.and_eq_true, Bool.or_eq_true, Bool.and_eq_false_iff, Bool.or_eq_false_iff] at hb8
   refine wly Z (al (v := po w0.hz 4) rfl kr) fun a Z => wly Z (ld Y 0 rfl rfl (isAgg9 _) rfl) fun a Z => wly Z (bn rfl rfl (runUnderlying9 _)) fun a Z => wly Z (v_le rfl rfl) fun a Z => wlv Z (aB rfl rfl) fun a Z => ?_
   refine hj _ ?_
   try rw [hb8b]
   exact Z.pick [46, 0, 1, 2]
  rw [hb8] at Z
  have hb8b := hb8
  try simp only [qz, Bool.and_eq_true, Bool.or_eq_true, Bool.and_eq_false_iff, Bool.or_eq_false_iff] at hb8
  refine wln Z fun a Z => wln Z fun a Z => wln Z fun a Z => wln Z fun a Z => wlv Z (aA rfl rfl) fun a Z => ?_
  refine hj _ ?_
  try rw [hb8b]
  exact Z.pick [46, 0, 1, 2]
 intro a Z
 refine wla Z rfl fun a Z => ab (hK2 _ _ <| aw ?_)
 refine ar Z results47 (ae rfl ag) ?_
 refine ⟨?_, Y.ext⟩
 simp only [retv]
 refine congrArg Value.bool ?_
 rw [Bool.eq_iff_iff]; simp only [Rec.ok, inB, Bool.and_eq_true, decide_eq_true_eq]; omega
theorem oe (x : Rec) (w0 : World) (hok : x.ok = true) :
  Ret Tryd.prog 23 #[.agg #[iv x.t, iv x.kind, iv x.a, iv x.b, sv x.text]] w0 fun v w => v = .tuple #[sv x.enc, iv 0] ∧ Ext No w0 w := by
 have hsm := Rec.smalls hok
 have hs0 : small x.t := hsm _ sm
 have hs1 : small x.kind := hsm _ sm
 have hs2 : small x.a := hsm _ sm
 have hs3 : small x.b := hsm _ sm
 have hle := Rec.len hok
 have hq0 := bG x.t
 have hq1 := bG x.kind
 have hq2 := bG x.a
 have hq3 := bG x.b
 have hq4 := bG (x.text.length : Int)
 have hq5 : (putS x.text).length ≤ 300 := by unfold putS; rw [List.length_append]; omega
 refine aF func23 rfl ntmps23 (lb rfl) fun a Z => ?_
 replace Z := Z.p1 0 rfl
 replace Y : St No w0 [] w0 := St.init w0
 refine aa fun K1 hK1 => bp Z Y de rfl (cs := [iv x.t, iv x.kind, iv x.a, iv x.b, sv x.text]) rfl ?_
 clear Z Y
 intro a w1 Z Y
 refine wla Z rfl fun a Z => wla Z rfl fun a Z => ab (hK1 _ _ <| ac fun K2 hK2 => ?_)
 refine aa fun K3 hK3 => wlv Z (aq (Y.g 0 rfl) rfl (isAgg27 _) (sizeOf27 _)) fun a Z => ak Z Y de call47 rfl (il x _) ?_
 clear Z Y
 intro a w2 Z Y
 refine wlv Z (aX rfl) fun a Z => ab (hK3 _ _ ?_)
 refine az Z rfl (fun hc1 => ?_) (fun hc1 => ?_)
 ·rw [hc1] at Z
  try simp only [qz] at hc1
  simp [hok] at hc1
 rw [hc1] at Z
 try simp only [qz] at hc1
 refine ap <| hK2 _ _ <| aa fun K4 hK4 => wla Z rfl fun a Z => ab (hK4 _ _ <| ac fun K5 hK5 => ?_)
 refine aa fun K6 hK6 => wlv Z (al (v := pt w0.hz) rfl kr) fun a Z => wlv Z (ld Y 0 rfl rfl (isAgg3 _) rfl) fun a Z => wlv Z (al (v := po w0.hz 1) rfl kr) fun a Z => wlv Z (ld Y 0 rfl rfl (isAgg3 _) rfl) fun a Z => wlv Z (al (v := po w0.hz 2) rfl kr) fun a Z => wlv Z (ld Y 0 rfl rfl (isAgg3 _) rfl) fun a Z => wlv Z (al (v := po w0.hz 3) rfl kr) fun a Z => wlv Z (ld Y 0 rfl rfl (isAgg3 _) rfl) fun a Z => ax (E := 3) (sz := 1) rfl [[iv x.t], [iv x.kind], [iv x.a], [iv x.b]] kr sm rfl de de Z Y ?_
 clear Z Y
 intro a w3 Z Y
 refine wlv Z ((aG (sT := 41) (Y.ow 0 rfl) rfl rfl (runUnderlying41 _)).asi (m' := 4) rfx) fun a Z => wlm Z rfl fun a Z => ab (hK6 _ _ ?_)
 replace Z := Z.p7 1 2 3 4 22 23 24 rfl
 refine am <| cJ 6 ?_
 refine bf ?_
 refine aa fun K7 hK7 => wlv Z ((v_lt rfl rfl).asb (b' := true) rfl) fun a Z => ab (hK7 _ _ <| ac fun K8 hK8 => ?_)
 refine aC Z rfl ?_
 refine ap <| hK8 _ _ <| ac fun K9 hK9 => am <| aa fun K10 hK10 => wlv Z ((ah (i := 0) (sT := 41) (Y.ow 0 rfl) rfl rfl (runUnderlying41 _) (sizeOf3 _) om sm).as (v' := slAddr (.slice (some ⟨w2.hz, 0, none⟩) 4 4) (0 * 1)) rfl) fun a Z => wlv Z (au (u := iv x.t) (i := 0) (j := 0) (Y.ow 0 rfl) sm rfl (isAgg3 _) rfx) fun a Z => wla Z rfl fun a Z => ab (hK10 _ _ <| aa fun K11 hK11 => ?_)
 refine wlm Z rfl fun a Z => ak Z Y de call53 rfl (cR x.t _ (by assumption)) ?_
 clear Z Y
 intro a w4 Z Y
 refine wlm Z rfl fun a Z => wlv Z (aj rfl rfl) fun a Z => wlv Z (aj rfl rfl) fun a Z => wla Z rfl fun a Z => wla Z rfl fun a Z => ab (hK11 _ _ ?_)
 replace Z := Z.p8 1 2 3 4 22 23 24 7 rfl
 refine ao <| wlm Z rfl fun a Z => wlm Z rfl fun a Z => wlv Z (bY rfl rfl (by first | omega | (simp only [List.length_append, List.length_nil]; omega))) fun a Z => wla Z rfl fun a Z => ab <| hK9 _ _ <| ao <| wlv Z ((aT rfl rfl de).asi (m' := 1) rfl) fun a Z => wlm Z rfl fun a Z => ab <| bf ?_
 refine aa fun K12 hK12 => wlv Z ((v_lt rfl rfl).asb (b' := true) rfl) fun a Z => ab (hK12 _ _ <| ac fun K13 hK13 => ?_)
 refine aC Z rfl ?_
 refine ap <| hK13 _ _ <| ac fun K14 hK14 => am <| aa fun K15 hK15 => wlv Z ((ah (i := 1) (sT := 41) (Y.ow 0 rfl) rfl rfl (runUnderlying41 _) (sizeOf3 _) om sm).as (v' := slAddr (.slice (some ⟨w2.hz, 0, none⟩) 4 4) (1 * 1)) rfl) fun a Z => wlv Z (au (u := iv x.kind) (i := 1) (j := 0) (Y.ow 0 rfl) sm rfl (isAgg3 _) rfx) fun a Z => wla Z rfl fun a Z => ab (hK15 _ _ ?_)
 replace Z := Z.p8 1 2 3 22 23 4 24 6 rfl
 refine aa fun K16 hK16 => wlm Z rfl fun a Z => ak Z Y de call53 rfl (cR x.kind _ (by assumption)) ?_
 clear Z Y
 intro a w5 Z Y
 refine wlm Z rfl fun a Z => wlv Z (aj rfl rfl) fun a Z => wlv Z (aj rfl rfl) fun a Z => wla Z rfl fun a Z => wla Z rfl fun a Z => ab (hK16 _ _ ?_)
 replace Z := Z.p8 1 2 3 22 23 4 24 7 rfl
 refine ao <| wlm Z rfl fun a Z => wlm Z rfl fun a Z => wlv Z (bY rfl rfl (by first | omega | (simp only [List.length_append, List.length_nil]; omega))) fun a Z => wla Z rfl fun a Z => ab <| hK14 _ _ <| ao <| wlv Z ((aT rfl rfl de).asi (m' := 2) rfl) fun a Z => wlm Z rfl fun a Z => ab <| bf ?_
 refine aa fun K17 hK17 => wlv Z ((v_lt rfl rfl).asb (b' := true) rfl) fun a Z => ab (hK17 _ _ <| ac fun K18 hK18 => ?_)
 refine aC Z rfl ?_
 refine ap <| hK18 _ _ <| ac fun K19 hK19 => am <| aa fun K20 hK20 => wlv Z ((ah (i := 2) (sT := 41) (Y.ow 0 rfl) rfl rfl (runUnderlying41 _) (sizeOf3 _) om sm).as (v' := slAddr (.slice (some ⟨w2.hz, 0, none⟩) 4 4) (2 * 1)) rfl) fun a Z => wlv Z (au (u := iv x.a) (i := 2) (j := 0) (Y.ow 0 rfl) sm rfl (isAgg3 _) rfx) fun a Z => wla Z rfl fun a Z => ab (hK20 _ _ ?_)
 replace Z := Z.p8 1 2 3 22 23 4 24 6 rfl
 refine aa fun K21 hK21 => wlm Z rfl fun a Z => ak Z Y de call53 rfl (cR x.a _ (by assumption)) ?_
 clear Z Y
 intro a w6 Z Y
 refine wlm Z rfl fun a Z => wlv Z (aj rfl rfl) fun a Z => wlv Z (aj rfl rfl) fun a Z => wla Z rfl fun a Z => wla Z rfl fun a Z => ab (hK21 _ _ ?_)
 replace Z := Z.p8 1 2 3 22 23 4 24 7 rfl
 refine ao <| wlm Z rfl fun a Z => wlm Z rfl fun a Z => wlv Z (bY rfl rfl (by first | omega | (simp only [List.length_append, List.length_nil]; omega))) fun a Z => wla Z rfl fun a Z => ab <| hK19 _ _ <| ao <| wlv Z ((aT rfl rfl de).asi (m' := 3) rfl) fun a Z => wlm Z rfl fun a Z => ab <| bf ?_
 refine aa fun K22 hK22 => wlv Z ((v_lt rfl rfl).asb (b' := true) rfl) fun a Z => ab (hK22 _ _ <| ac fun K23 hK23 => ?_)
 refine aC Z rfl ?_
 refine ap <| hK23 _ _ <| ac fun K24 hK24 => am <| aa fun K25 hK25 => wlv Z ((ah (i := 3) (sT := 41) (Y.ow 0 rfl) rfl rfl (runUnderlying41 _) (sizeOf3 _) om sm).as (v' := slAddr (.slice (some ⟨w2.hz, 0, none⟩) 4 4) (3 * 1)) rfl) fun a Z => wlv Z (au (u := iv x.b) (i := 3) (j := 0) (Y.ow 0 rfl) sm rfl (isAgg3 _) rfx) fun a Z => wla Z rfl fun a Z => ab (hK25 _ _ ?_)
 replace Z := Z.p8 1 2 3 22 23 4 24 6 rfl
 refine aa fun K26 hK26 => wlm Z rfl fun a Z => ak Z Y de call53 rfl (cR x.b _ (by assumption)) ?_
 clear Z Y
 intro a w7 Z Y
 refine wlm Z rfl fun a Z => wlv Z (aj rfl rfl) fun a Z => wlv Z (aj rfl rfl) fun a Z => wla Z rfl fun a Z => wla Z rfl fun a Z => ab (hK26 _ _ ?_)
 replace Z := Z.p8 1 2 3 22 23 4 24 7 rfl
 refine ao <| wlm Z rfl fun a Z => wlm Z rfl fun a Z => wlv Z (bY rfl rfl (by first | omega | (simp only [List.length_append, List.length_nil]; omega))) fun a Z => wla Z rfl fun a Z => ab <| hK24 _ _ <| ao <| wlv Z ((aT rfl rfl de).asi (m' := 4) rfl) fun a Z => wlm Z rfl fun a Z => ab <| bf ?_
 refine aa fun K27 hK27 => wlv Z ((v_lt rfl rfl).asb (b' := false) rfl) fun a Z => ab (hK27 _ _ <| ac fun K28 hK28 => ?_)
 refine aH Z rfl ?_
 refine aE <| hK5 _ _ <| aa fun K29 hK29 => wlv Z (al (v := po w0.hz 4) rfl kr) fun a Z => wlv Z (ld Y 1 rfl rfl (isAgg9 _) rfl) fun a Z => ak Z Y de call54 rfl (gS x.text _ om) ?_
 clear Z Y
 intro a w8 Z Y
 refine wlm Z rfl fun a Z => wlv Z (aj rfl rfl) fun a Z => wlv Z (aj rfl rfl) fun a Z => wla Z rfl fun a Z => wla Z rfl fun a Z => ab (hK29 _ _ ?_)
 replace Z := Z.p4 2 3 4 9 rfl
 replace Y : St No w0 [] w8 := Y.mask [false, false]
 refine aa fun K30 hK30 => wlm Z rfl fun a Z => wlm Z rfl fun a Z => wlv Z (bY rfl rfl (by first | omega | (simp only [List.length_append, List.length_nil]; omega))) fun a Z => wla Z rfl fun a Z => wla Z rfl fun a Z => ab (hK30 _ _ <| aw ?_)
 refine ar Z results23 (ae rfl (ae rfl ag)) ?_
 exact ⟨by simp only [retv]; simp [Rec.enc, puts], Y.ext⟩
theorem nE (x : Rec) (w0 : World) (hok : x.ok = false) :
  Ret Tryd.prog 23 #[.agg #[iv x.t, iv x.kind, iv x.a, iv x.b, sv x.text]] w0 fun v w => v = .tuple #[sv ([] : By), iv 110] ∧ Ext No w0 w := by
 refine aF func23 rfl ntmps23 (lb rfl) fun a Z => ?_
 replace Z := Z.p1 0 rfl
 replace Y : St No w0 [] w0 := St.init w0
 refine aa fun K1 hK1 => bp Z Y de rfl (cs := [iv x.t, iv x.kind, iv x.a, iv x.b, sv x.text]) rfl ?_
 clear Z Y
 intro a w1 Z Y
 refine wla Z rfl fun a Z => wla Z rfl fun a Z => ab (hK1 _ _ <| ac fun K2 hK2 => ?_)
 refine aa fun K3 hK3 => wlv Z (aq (Y.g 0 rfl) rfl (isAgg27 _) (sizeOf27 _)) fun a Z => ak Z Y de call47 rfl (il x _) ?_
 clear Z Y
 intro a w2 Z Y
 refine wlv Z (aX rfl) fun a Z => ab (hK3 _ _ ?_)
 refine az Z rfl (fun hc1 => ?_) (fun hc1 => ?_)
 ·rw [hc1] at Z
  try simp only [qz] at hc1
  refine aa fun K4 hK4 => wla Z rfl fun a Z => wla Z rfl fun a Z => ab (hK4 _ _ <| aw ?_)
  refine ar Z results23 (ae rfl (ae rfl ag)) ?_
  exact ⟨by rfl, Y.ext⟩
 rw [hc1] at Z
 try simp only [qz] at hc1
 simp [hok] at hc1
theorem jL (x : Rec) (w0 : World) : Ret Tryd.prog 23 #[.agg #[iv x.t, iv x.kind, iv x.a, iv x.b, sv x.text]] w0 fun v w => v = .tuple #[sv (eB x), iv (eE x)] ∧ Ext No w0 w := by
 unfold eB eE
 cases h : x.ok with
 | true => rw [if_pos rfl, if_pos rfl]; exact oe x w0 h
 | false => rw [if_neg sm, if_neg sm]; exact nE x w0 h
end Go.Proofs.YtddfkkdanpmnaaaDoor
namespace Go.Proofs.YtddfkkdanpmnaaaDoor
open Go.RowKit Go.PW _root_.Go.Proofs.Tryd
theorem gY {o : Int} {l : List Rec} {x : Rec} (h : addOk o l x = true) : logOk o l = true ∧ logOk o (l ++ [x]) = true := by
 unfold addOk at h; simpa using h
theorem lP (o : Int) (lv : Value) (l : List Rec) (w0 : World) (hlv : SlAt w0 lv 5 (l.map Rec.cells)) (hll : l.length ≤ 1000) :
  Ret Tryd.prog 32 #[.agg #[iv o, lv]] w0 (MemR w0 (fun v : Value => v) (fun v => [own v 9 1 ((codesB (l)).map fun s => [sv s])]) (fun _ => True)) := by
 refine aF func32 rfl ntmps32 (lb rfl) fun a Z => ?_
 replace Z := Z.p1 0 rfl
 replace Y : St No w0 [] w0 := St.init w0
 refine aa fun K1 hK1 => bp Z Y de rfl (cs := [iv o, lv]) rfl ?_
 clear Z Y
 intro a w1 Z Y
 refine wla Z rfl fun a Z => ab (hK1 _ _ <| aa fun K2 hK2 => ?_)
 refine wla Z rfl fun a Z => ab (hK2 _ _ <| ac fun K3 hK3 => ?_)
 refine aa fun K4 hK4 => wla Z rfl fun a Z => ab (hK4 _ _ <| am ?_)
 replace Y : St No w0 [own (.slice none 0 0) 9 1 ((codesB (l.take 0)).map fun s => [sv s]), blk w0.hz [iv o, lv] 25] w1 := Y.nil_own
 refine aV (fun m a w => ∃ (k : Nat) (v : Value), m = l.length - k ∧ (k ≤ l.length) ∧ Fr 28 [(1, pt w0.hz), (2, .slice none 0 0), (3, v), (4, iv (k : Int))] [] a ∧ St No w0 [own v 9 1 ((codesB (l.take k)).map fun s => [sv s]), blk w0.hz [iv o, lv] 25] w) _ ⟨0, .slice none 0 0, rfl, Nat.zero_le _, Z.pick [1, 2, 3, 4], Y⟩ ?_
 rintro _ a w2 ⟨k, v, rfl, hk, Z, Y⟩
 refine ac fun K5 hK5 => aa fun K6 hK6 => wlm Z rfl fun a Z => wlv Z (al (v := po w0.hz 1) rfl kr) fun a Z => wlv Z (ld Y 1 rfl rfl (isAgg23 _) rfl) fun a Z => wlv Z ((aG (sT := 23) (Y.arg hlv) rfl rfl (runUnderlying23 _)).asi (m' := (l.length : Int)) (by rw [List.length_map])) fun a Z => wlv Z (v_lt rfl rfl) fun a Z => ab (hK6 _ _ ?_)
 refine az Z rfl (fun hc1 => ?_) (fun hc1 => ?_)
 ·rw [hc1] at Z
  try simp only [qz] at hc1
  have hkx : k < l.length := by omega
  refine ap <| hK5 _ _ <| ac fun K7 hK7 => am <| aa fun K8 hK8 => wlv Z (al (v := po w0.hz 1) rfl kr) fun a Z => wlv Z (ld Y 1 rfl rfl (isAgg23 _) rfl) fun a Z => wlm Z rfl fun a Z => wlv Z ((ah (i := (k : Int)) (sT := 23) (Y.arg hlv) rfl rfl (runUnderlying23 _) (sizeOf27 _) om (by rw [List.length_map]; omega)).as (v' := slAddr lv (k * 5)) rfl) fun a Z => wlv Z ((ba (Y.arg hlv) (i := k) (by rw [List.length_map]; omega) rfl (isAgg27 _) (sizeOf27 _)).as (v' := .agg #[iv ((l.getD k Rec.z).t), iv ((l.getD k Rec.z).kind), iv ((l.getD k Rec.z).a), iv ((l.getD k Rec.z).b), sv ((l.getD k Rec.z).text)]) (by rw [bc Rec.z]; rfl)) fun a Z => ak Z Y de call23 rfl (jL (l.getD k Rec.z) _) ?_
  clear Z Y
  intro a w3 Z Y
  refine wlm Z rfl fun a Z => wlv Z (aj rfl rfl) fun a Z => wlv Z (aj rfl rfl) fun a Z => wla Z rfl fun a Z => wla Z rfl fun a Z => ab (hK8 _ _ ?_)
  replace Z := Z.p5 1 2 3 4 5 rfl
  refine ao <| wlm Z rfl fun a Z => wlm Z rfl fun a Z => ax (E := 9) (sz := 1) rfl [[sv (eB (l.getD k Rec.z))]] kr sm rfl de de Z Y ?_
  clear Z Y
  intro a w4 Z Y
  refine aS (i := 1) (sT := 45) (inf := Tryd.t9) (z := .string (⟨#[]⟩)) (b := 0) (off := 0) (m := 0) (c := 0) rfl rfl rfl (Y.ow 0 rfl) sm underlying45 rfl rfl rfl rfl de (by simp [Value.oneCell', yv, wv, sv]) (by have hby : Tryd.t9.bytes = 16 := rfl; simp only [big, hby, List.length_append, List.length_map, dl, List.length_take, List.length_cons, List.length_nil]; omega) (by have hby : Tryd.t9.bytes = 16 := rfl; simp only [big, hby, List.length_append, List.length_map, dl, List.length_take, List.length_cons, List.length_nil]; omega) de Z Y fun a w5 s2 Z Y _ => ?_
  rw [show ((codesB (l.take k)).map fun s => [sv s]) ++ ([[sv (eB (l.getD k Rec.z))]]) = ((codesB (l.take (k + 1))).map fun s => [sv s]) from by rw [bV Rec.z hkx, j0]; simp] at Y
  refine wla Z rfl fun a Z => ab <| hK7 _ _ <| ao <| wlm Z rfl fun a Z => wlv Z (aT rfl rfl ⟨om, om⟩) fun a Z => wla Z rfl fun a Z => ab ?_
  refine ⟨_, ?_, k + 1, s2, rfl, om, Z.pick [1, 2, 3, 4], Y.mask [false, true, true]⟩
  omega
 rw [hc1] at Z
 try simp only [qz] at hc1
 have hke : k = l.length := by omega
 rw [hke, List.take_length] at Y
 refine aE <| hK3 _ _ <| aa fun K9 hK9 => wlm Z rfl fun a Z => wla Z rfl fun a Z => ab (hK9 _ _ ?_)
 replace Z := Z.p1 2 rfl
 replace Y := Y.k1 1 rfl
 refine aw ?_
 refine ar Z results32 (ae rfl ag) ?_
 exact ⟨v, rfl, trivial, Y.ext, St.out (E := [own v 9 1 ((codesB (l)).map fun s => [sv s])]) (H := []) (Y.select [0] de)⟩
end Go.Proofs.YtddfkkdanpmnaaaDoor
