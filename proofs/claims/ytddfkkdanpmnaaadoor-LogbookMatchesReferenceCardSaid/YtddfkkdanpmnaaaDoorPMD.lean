/- Texts joined: RefB, RefC, RefD, RefE, WirA, BldA, WshN, RefI, LgA. -/
import Derived.Test.YtddfkkdanpmnaaaDoorPMC
import Derived.Test.YtddfkkdanpmnaaaDoorPMB
import Derived.Test.YtddfkkdanpmnaaaDoorPMA
import Derived.Laws.StructEq
set_option linter.unusedVariables false
set_option linter.unusedSimpArgs false
set_option maxRecDepth 4000
set_option maxHeartbeats 4000000
namespace Go.Proofs.YtddfkkdanpmnaaaDoor
open Go.RowKit Go.PW _root_.Go.Proofs.Tryd
theorem cN (x : Wd) (n : Nat) (w0 : World) (hn : 0 < n) (hn2 : n < 32) : Ret Tryd.prog 102 #[wv x, iv (n : Int)] w0 fun v w => v = wv (ror x n) ∧ Ext No w0 w := by
 have := j9 x n w0 hn hn2
 rw [show (x >>> n) ||| (x <<< (32 - n)) = ror x n from BitVec.or_comm _ _] at this
 exact this
theorem mix2 (x : Wd) (a b : Nat) : mix x [a, b] = ror x a ^^^ ror x b := by simp [mix]
theorem mix3 (x : Wd) (a b c : Nat) : mix x [a, b, c] = ror x a ^^^ ror x b ^^^ ror x c := by simp [mix]
theorem iw (bs : List UInt8) {j : Nat} : ∀ {i : Nat}, j < i → (d : Nat) → (sch bs (i + d)).getD j 0#32 = (sch bs i).getD j 0#32
 | i, h, 0 => rfl
 | i, h, d + 1 => by
  have e : sch bs (i + (d + 1)) = (sch bs (i + d)).set (i + d) (if i + d < 16 then be bs (i + d) else nx (sch bs (i + d)) (i + d)) := rfl
  rw [e, List.getD_eq_getElem?_getD, List.getElem?_set_ne om, ← List.getD_eq_getElem?_getD]
  exact iw bs h d
theorem mE (bs : List UInt8) {j : Nat} (h : j < 64) : (sch bs 64).getD j 0#32 = if j < 16 then be bs j else nx (sch bs j) j := by
 have := iw bs (j := j) (i := j + 1) om (63 - j)
 rw [show j + 1 + (63 - j) = 64 from by omega] at this
 rw [this, sch, List.getD_eq_getElem?_getD, List.getElem?_set_self (by rw [aF]; omega)]; rfl
theorem iJ (bs : List UInt8) {i j : Nat} (h : i < j) (hj : j ≤ 64) : (sch bs j).getD i 0#32 = (sch bs 64).getD i 0#32 := by
 have := iw bs h (64 - j)
 rw [show j + (64 - j) = 64 from by omega] at this
 exact this.symm
theorem lO (bs : List UInt8) {k : Nat} (h : k < 16) : (sch bs 64).take (k + 1) = (sch bs 64).take k ++ [be bs k] := by
 rw [cc 0#32 (by rw [aF]; omega), mE bs om, if_pos h]
theorem lx (bs : List UInt8) {j : Nat} (h : 16 ≤ j) (hj : j < 64) : (sch bs 64).take (j + 1) = (sch bs 64).take j ++ [((((sch bs 64).take j).getD (j - 16) 0#32 + (ror (((sch bs 64).take j).getD (j - 15) 0#32) 7 ^^^ ror (((sch bs 64).take j).getD (j - 15) 0#32) 18 ^^^ ((sch bs 64).take j).getD (j - 15) 0#32 >>> 3)) + ((sch bs 64).take j).getD (j - 7) 0#32) + (ror (((sch bs 64).take j).getD (j - 2) 0#32) 17 ^^^ ror (((sch bs 64).take j).getD (j - 2) 0#32) 19 ^^^ ((sch bs 64).take j).getD (j - 2) 0#32 >>> 10)] := by
 rw [cc 0#32 (by rw [aF]; omega), mE bs om, if_neg om, nx, mix2, mix2]
 rw [iJ bs (i := j - 16) (j := j) om om, iJ bs (i := j - 15) (j := j) om om, iJ bs (i := j - 7) (j := j) om om, iJ bs (i := j - 2) (j := j) om om]
 rw [em _ om, em _ om, em _ om, em _ om]
theorem nC (x y : W8) {q : Nat} (h : q < 8) : (x.add y).l.take (q + 1) = (x.add y).l.take q ++ [x.l.getD q 0#32 + y.l.getD q 0#32] := by
 rw [cc 0#32 (by exact h)]
 congr 2
 have : q = 0 ∨ q = 1 ∨ q = 2 ∨ q = 3 ∨ q = 4 ∨ q = 5 ∨ q = 6 ∨ q = 7 := by omega
 rcases this with rfl | rfl | rfl | rfl | rfl | rfl | rfl | rfl <;> rfl
theorem lX (hvv bv : Value) (hv : W8) (bs : List UInt8) (w0 : World) (hhv : SlAt w0 hvv 1 ((hv.l).map fun x => [wv x])) (hbv : SlAt w0 bv 1 (bs.map fun b => [yv b])) (hbl : bs.length = 64) :
  Ret Tryd.prog 89 #[hvv, bv] w0 (MemR w0 (fun v : Value => v) (fun v => [own v 133 1 (((block hv bs).l).map fun x => [wv x])]) (fun _ => True)) := by
 refine aI func89 rfl ntmps89 (lb rfl) fun a Y => ?_
 replace Y := Y.p2 0 1 rfl
 replace U : St No w0 [] w0 := St.init w0
 refine aa fun K1 hK1 => wla Y rfl fun a Y => ab (hK1 _ _ <| aa fun K2 hK2 => ?_)
 refine wla Y rfl fun a Y => ab (hK2 _ _ <| ac fun K3 hK3 => ?_)
 refine aa fun K4 hK4 => wla Y rfl fun a Y => ab (hK4 _ _ <| ap ?_)
 replace U : St No w0 [own (.slice none 0 0) 133 1 (((sch bs 64).take 0).map fun x => [wv x])] w0 := U.nil_own
 refine aV (fun m a w => ∃ (k : Nat) (u : Value), m = 16 - k ∧ (k ≤ 16) ∧ Fr 238 [(0, hvv), (1, bv), (4, .slice none 0 0), (5, u), (6, iv (k : Int))] [] a ∧ St No w0 [own u 133 1 (((sch bs 64).take k).map fun x => [wv x])] w) _ ⟨0, .slice none 0 0, rfl, Nat.zero_le _, Y.pick [0, 1, 4, 5, 6], U.select [0] de⟩ ?_
 rintro _ a w1 ⟨k, u, rfl, hk, Y, U⟩
 refine ac fun K5 hK5 => aa fun K6 hK6 => wlm Y rfl fun a Y => wlv Y (v_lt rfl rfl) fun a Y => ab (hK6 _ _ ?_)
 refine az Y rfl (fun hc1 => ?_) (fun hc1 => ?_)
 ·rw [hc1] at Y
  try simp only [qz] at hc1
  refine aq <| hK5 _ _ <| ac fun K7 hK7 => ap <| aO kr (aP kr fun w2 hxz => ?_)
  replace U := U.grow hxz
  refine aS (k := 0) 35 [0, 34] Y kr kr kr rfx ?_
  replace Y := Y.p7 0 1 4 5 6 19 20 rfl
  refine aA [34] (fun i => match i with | 34 => pm (fun b : Nat => .slice (some ⟨b, 0, none⟩) 1 1) (fun b => [own (.slice (some ⟨b, 0, none⟩) 1 1) 133 1 [[wv (((((BitVec.ofNat 32 (bs.getD (4 * k) 0).toNat) <<< 24) ||| ((BitVec.ofNat 32 (bs.getD (4 * k + 1) 0).toNat) <<< 16)) ||| ((BitVec.ofNat 32 (bs.getD (4 * k + 2) 0).toNat) <<< 8)) ||| (BitVec.ofNat 32 (bs.getD (4 * k + 3) 0).toNat))]]]) (fun _ => True) | _ => fun _ _ => False) 35 [[], [], [], [2], [1, 3], [4], [5], [6], [], [], [9], [10], [8, 11], [12], [13], [14], [7, 15], [], [], [18], [19], [17, 20], [21], [22], [23], [16, 24], [], [], [27], [28], [26, 29], [30], [31], [25, 32], [33]] [u, bv, iv (k : Int), iv (4 * (k : Int)), slAddr bv ((4 * k) * 1), yv (bs.getD (4 * k) 0), wv (BitVec.ofNat 32 (bs.getD (4 * k) 0).toNat), wv ((BitVec.ofNat 32 (bs.getD (4 * k) 0).toNat) <<< 24), bv, iv (k : Int), iv (4 * (k : Int)), iv ((4 * (k : Int)) + 1), slAddr bv ((4 * k + 1) * 1), yv (bs.getD (4 * k + 1) 0), wv (BitVec.ofNat 32 (bs.getD (4 * k + 1) 0).toNat), wv ((BitVec.ofNat 32 (bs.getD (4 * k + 1) 0).toNat) <<< 16), wv (((BitVec.ofNat 32 (bs.getD (4 * k) 0).toNat) <<< 24) ||| ((BitVec.ofNat 32 (bs.getD (4 * k + 1) 0).toNat) <<< 16)), bv, iv (k : Int), iv (4 * (k : Int)), iv ((4 * (k : Int)) + 2), slAddr bv ((4 * k + 2) * 1), yv (bs.getD (4 * k + 2) 0), wv (BitVec.ofNat 32 (bs.getD (4 * k + 2) 0).toNat), wv ((BitVec.ofNat 32 (bs.getD (4 * k + 2) 0).toNat) <<< 8), wv ((((BitVec.ofNat 32 (bs.getD (4 * k) 0).toNat) <<< 24) ||| ((BitVec.ofNat 32 (bs.getD (4 * k + 1) 0).toNat) <<< 16)) ||| ((BitVec.ofNat 32 (bs.getD (4 * k + 2) 0).toNat) <<< 8)), bv, iv (k : Int), iv (4 * (k : Int)), iv ((4 * (k : Int)) + 3), slAddr bv ((4 * k + 3) * 1), yv (bs.getD (4 * k + 3) 0), wv (BitVec.ofNat 32 (bs.getD (4 * k + 3) 0).toNat), wv (((((BitVec.ofNat 32 (bs.getD (4 * k) 0).toNat) <<< 24) ||| ((BitVec.ofNat 32 (bs.getD (4 * k + 1) 0).toNat) <<< 16)) ||| ((BitVec.ofNat 32 (bs.getD (4 * k + 2) 0).toNat) <<< 8)) ||| (BitVec.ofNat 32 (bs.getD (4 * k + 3) 0).toNat)), undef] Y U kr kr kr ?_ ?_ ?_
  ·intro i hi hiq
   match i, hi, hiq with
   | 0, _, _ => exact fun w U => OpV.g (ai rfl)
   | 1, _, _ => exact fun w U => OpV.g (ai rfl)
   | 2, _, _ => exact fun w U => OpV.g (ai rfl)
   | 3, _, _ => exact fun w U => OpV.g (cW rfl rfl ⟨om, om⟩)
   | 4, _, _ => exact fun w U => OpV.g ((ak (i := 4 * (k : Int)) (sT := 71) (U.arg hbv) rfl rfl (runUnderlying71 _) (sizeOf5 _) om (by rw [List.length_map]; first | omega | (rw [aF]; omega) | (rw [List.length_take, aF]; omega) | (rw [W8.l_len]; omega) | (rw [bl]; omega))).as (v' := slAddr bv ((4 * k) * 1)) (by rw [show (4 * (k : Int)).toNat = (4 * k) from by omega]))
   | 5, _, _ => exact fun w U => OpV.g (ax (u := yv (bs.getD (4 * k) 0)) (i := (4 * k)) (j := 0) (U.arg hbv) (by rw [List.length_map]; first | omega | (rw [aF]; omega) | (rw [List.length_take, aF]; omega) | (rw [W8.l_len]; omega) | (rw [bl]; omega)) rfl (isAgg5 _) (by simp [List.getD_eq_getElem?_getD, List.getElem?_eq_getElem (show (4 * k) < bs.length by omega)]))
   | 6, _, _ => exact fun w U => OpV.g (cC rfl kr underlying133)
   | 7, _, _ => exact fun w U => OpV.g (dW (n := 24) rfl rfl)
   | 8, _, _ => exact fun w U => OpV.g (ai rfl)
   | 9, _, _ => exact fun w U => OpV.g (ai rfl)
   | 10, _, _ => exact fun w U => OpV.g (cW rfl rfl ⟨om, om⟩)
   | 11, _, _ => exact fun w U => OpV.g (aM rfl rfl ⟨om, om⟩)
   | 12, _, _ => exact fun w U => OpV.g ((ak (i := (4 * (k : Int)) + 1) (sT := 71) (U.arg hbv) rfl rfl (runUnderlying71 _) (sizeOf5 _) om (by rw [List.length_map]; first | omega | (rw [aF]; omega) | (rw [List.length_take, aF]; omega) | (rw [W8.l_len]; omega) | (rw [bl]; omega))).as (v' := slAddr bv ((4 * k + 1) * 1)) (by rw [show ((4 * (k : Int)) + 1).toNat = (4 * k + 1) from by omega]))
   | 13, _, _ => exact fun w U => OpV.g (ax (u := yv (bs.getD (4 * k + 1) 0)) (i := (4 * k + 1)) (j := 0) (U.arg hbv) (by rw [List.length_map]; first | omega | (rw [aF]; omega) | (rw [List.length_take, aF]; omega) | (rw [W8.l_len]; omega) | (rw [bl]; omega)) rfl (isAgg5 _) (by simp [List.getD_eq_getElem?_getD, List.getElem?_eq_getElem (show (4 * k + 1) < bs.length by omega)]))
   | 14, _, _ => exact fun w U => OpV.g (cC rfl kr underlying133)
   | 15, _, _ => exact fun w U => OpV.g (dW (n := 16) rfl rfl)
   | 16, _, _ => exact fun w U => OpV.g (fC rfl rfl)
   | 17, _, _ => exact fun w U => OpV.g (ai rfl)
   | 18, _, _ => exact fun w U => OpV.g (ai rfl)
   | 19, _, _ => exact fun w U => OpV.g (cW rfl rfl ⟨om, om⟩)
   | 20, _, _ => exact fun w U => OpV.g (aM rfl rfl ⟨om, om⟩)
   | 21, _, _ => exact fun w U => OpV.g ((ak (i := (4 * (k : Int)) + 2) (sT := 71) (U.arg hbv) rfl rfl (runUnderlying71 _) (sizeOf5 _) om (by rw [List.length_map]; first | omega | (rw [aF]; omega) | (rw [List.length_take, aF]; omega) | (rw [W8.l_len]; omega) | (rw [bl]; omega))).as (v' := slAddr bv ((4 * k + 2) * 1)) (by rw [show ((4 * (k : Int)) + 2).toNat = (4 * k + 2) from by omega]))
   | 22, _, _ => exact fun w U => OpV.g (ax (u := yv (bs.getD (4 * k + 2) 0)) (i := (4 * k + 2)) (j := 0) (U.arg hbv) (by rw [List.length_map]; first | omega | (rw [aF]; omega) | (rw [List.length_take, aF]; omega) | (rw [W8.l_len]; omega) | (rw [bl]; omega)) rfl (isAgg5 _) (by simp [List.getD_eq_getElem?_getD, List.getElem?_eq_getElem (show (4 * k + 2) < bs.length by omega)]))
   | 23, _, _ => exact fun w U => OpV.g (cC rfl kr underlying133)
   | 24, _, _ => exact fun w U => OpV.g (dW (n := 8) rfl rfl)
   | 25, _, _ => exact fun w U => OpV.g (fC rfl rfl)
   | 26, _, _ => exact fun w U => OpV.g (ai rfl)
   | 27, _, _ => exact fun w U => OpV.g (ai rfl)
   | 28, _, _ => exact fun w U => OpV.g (cW rfl rfl ⟨om, om⟩)
   | 29, _, _ => exact fun w U => OpV.g (aM rfl rfl ⟨om, om⟩)
   | 30, _, _ => exact fun w U => OpV.g ((ak (i := (4 * (k : Int)) + 3) (sT := 71) (U.arg hbv) rfl rfl (runUnderlying71 _) (sizeOf5 _) om (by rw [List.length_map]; first | omega | (rw [aF]; omega) | (rw [List.length_take, aF]; omega) | (rw [W8.l_len]; omega) | (rw [bl]; omega))).as (v' := slAddr bv ((4 * k + 3) * 1)) (by rw [show ((4 * (k : Int)) + 3).toNat = (4 * k + 3) from by omega]))
   | 31, _, _ => exact fun w U => OpV.g (ax (u := yv (bs.getD (4 * k + 3) 0)) (i := (4 * k + 3)) (j := 0) (U.arg hbv) (by rw [List.length_map]; first | omega | (rw [aF]; omega) | (rw [List.length_take, aF]; omega) | (rw [W8.l_len]; omega) | (rw [bl]; omega)) rfl (isAgg5 _) (by simp [List.getD_eq_getElem?_getD, List.getElem?_eq_getElem (show (4 * k + 3) < bs.length by omega)]))
   | 32, _, _ => exact fun w U => OpV.g (cC rfl kr underlying133)
   | 33, _, _ => exact fun w U => OpV.g (fC rfl rfl)
   | 34, _, h => exact absurd sm h
   | i + 35, h, _ => exact absurd h om
  ·intro i hi
   simp only [List.mem_cons, List.not_mem_nil, or_false] at hi
   subst hi
   ·intro w U
    exact aY (E := 133) (sz := 1) rfl [[wv (((((BitVec.ofNat 32 (bs.getD (4 * k) 0).toNat) <<< 24) ||| ((BitVec.ofNat 32 (bs.getD (4 * k + 1) 0).toNat) <<< 16)) ||| ((BitVec.ofNat 32 (bs.getD (4 * k + 2) 0).toNat) <<< 8)) ||| (BitVec.ofNat 32 (bs.getD (4 * k + 3) 0).toNat))]] (fun _ => by kernel_rfl) sm rfl de
  clear Y U
  rintro _ _ ⟨b2, rfl, -, rfl⟩ a w3 Y U
  replace Y : Fr 238 [(23, u), (24, bv), (25, iv (k : Int)), (26, iv (4 * (k : Int))), (27, slAddr bv ((4 * k) * 1)), (28, yv (bs.getD (4 * k) 0)), (29, wv (BitVec.ofNat 32 (bs.getD (4 * k) 0).toNat)), (30, wv ((BitVec.ofNat 32 (bs.getD (4 * k) 0).toNat) <<< 24)), (31, bv), (32, iv (k : Int)), (33, iv (4 * (k : Int))), (34, iv ((4 * (k : Int)) + 1)), (35, slAddr bv ((4 * k + 1) * 1)), (36, yv (bs.getD (4 * k + 1) 0)), (37, wv (BitVec.ofNat 32 (bs.getD (4 * k + 1) 0).toNat)), (38, wv ((BitVec.ofNat 32 (bs.getD (4 * k + 1) 0).toNat) <<< 16)), (39, wv (((BitVec.ofNat 32 (bs.getD (4 * k) 0).toNat) <<< 24) ||| ((BitVec.ofNat 32 (bs.getD (4 * k + 1) 0).toNat) <<< 16))), (40, bv), (41, iv (k : Int)), (42, iv (4 * (k : Int))), (43, iv ((4 * (k : Int)) + 2)), (44, slAddr bv ((4 * k + 2) * 1)), (45, yv (bs.getD (4 * k + 2) 0)), (46, wv (BitVec.ofNat 32 (bs.getD (4 * k + 2) 0).toNat)), (47, wv ((BitVec.ofNat 32 (bs.getD (4 * k + 2) 0).toNat) <<< 8)), (48, wv ((((BitVec.ofNat 32 (bs.getD (4 * k) 0).toNat) <<< 24) ||| ((BitVec.ofNat 32 (bs.getD (4 * k + 1) 0).toNat) <<< 16)) ||| ((BitVec.ofNat 32 (bs.getD (4 * k + 2) 0).toNat) <<< 8))), (49, bv), (50, iv (k : Int)), (51, iv (4 * (k : Int))), (52, iv ((4 * (k : Int)) + 3)), (53, slAddr bv ((4 * k + 3) * 1)), (54, yv (bs.getD (4 * k + 3) 0)), (55, wv (BitVec.ofNat 32 (bs.getD (4 * k + 3) 0).toNat)), (56, wv (((((BitVec.ofNat 32 (bs.getD (4 * k) 0).toNat) <<< 24) ||| ((BitVec.ofNat 32 (bs.getD (4 * k + 1) 0).toNat) <<< 16)) ||| ((BitVec.ofNat 32 (bs.getD (4 * k + 2) 0).toNat) <<< 8)) ||| (BitVec.ofNat 32 (bs.getD (4 * k + 3) 0).toNat))), (57, _), (0, _), (1, _), (4, _), (5, _), (6, _), (19, _), (20, _)] [] a := Y
  replace U : St No w0 [_, _] w3 := U
  refine ab <| aQ (k := 35) 37 [36] kr kr kr ?_
  refine bf (i := 1) (sT := 134) (inf := Tryd.t133) (z := wv (0#32)) (b := 0) (off := 0) (m := 0) (c := 0) rfl rfl rfl (U.ow 0 rfl) sm underlying134 rfl rfl rfl rfl de (by simp [Value.oneCell', yv, wv, sv]) (by have hby : Tryd.t133.bytes = 4 := rfl; simp only [big, hby, List.length_append, List.length_map, List.length_take, aF, W8.l_len, List.length_cons, List.length_nil]; omega) (by have hby : Tryd.t133.bytes = 4 := rfl; simp only [big, hby, List.length_append, List.length_map, List.length_take, aF, W8.l_len, List.length_cons, List.length_nil]; omega) de Y U fun a w4 s3 Y U _ => wla Y rfl fun a Y => ab <| bd kr ?_
  refine hK7 _ _ ?_
  replace Y := Y.p5 0 1 4 6 5 rfl
  replace U := U.k1 2 rfl
  refine ao <| wlm Y rfl fun a Y => wlv Y (aM rfl rfl ⟨om, om⟩) fun a Y => wla Y rfl fun a Y => ab ?_
  rw [show (((sch bs 64).take k).map fun x => [wv x]) ++ ([[wv (((((BitVec.ofNat 32 (bs.getD (4 * k) 0).toNat) <<< 24) ||| ((BitVec.ofNat 32 (bs.getD (4 * k + 1) 0).toNat) <<< 16)) ||| ((BitVec.ofNat 32 (bs.getD (4 * k + 2) 0).toNat) <<< 8)) ||| (BitVec.ofNat 32 (bs.getD (4 * k + 3) 0).toNat))]]) = (((sch bs 64).take (k + 1)).map fun x => [wv x]) from by rw [lO bs om]; simp [be]] at U
  refine ⟨_, ?_, k + 1, s3, rfl, om, Y.pick [0, 1, 4, 5, 6], U.select [0] de⟩
  omega
 rw [hc1] at Y
 try simp only [qz] at hc1
 obtain rfl : k = 16 := by omega
 refine aL <| hK3 _ _ <| ac fun K8 hK8 => aa fun K9 hK9 => wla Y rfl fun a Y => ab (hK9 _ _ <| ap ?_)
 refine aV (fun m a w => ∃ (j : Nat) (u : Value), m = 64 - j ∧ (16 ≤ j) ∧ (j ≤ 64) ∧ Fr 238 [(0, hvv), (4, .slice none 0 0), (5, u), (7, iv (j : Int))] [] a ∧ St No w0 [own u 133 1 (((sch bs 64).take j).map fun x => [wv x])] w) _ ⟨16, u, rfl, om, om, Y.pick [0, 4, 5, 7], U.select [0] de⟩ ?_
 rintro _ a w5 ⟨j, u, rfl, hj, hj2, Y, U⟩
 refine ac fun K10 hK10 => aa fun K11 hK11 => wlm Y rfl fun a Y => wlv Y (v_lt rfl rfl) fun a Y => ab (hK11 _ _ ?_)
 refine az Y rfl (fun hc4 => ?_) (fun hc4 => ?_)
 ·rw [hc4] at Y
  try simp only [qz] at hc4
  refine aq <| hK10 _ _ <| ac fun K12 hK12 => ap <| ac fun K13 hK13 => aO kr (aP kr fun w6 hxz => ?_)
  replace U := U.grow hxz
  refine aS (k := 0) 19 [12, 18] Y kr kr kr rfx ?_
  replace Y := Y.p6 0 4 5 7 59 60 rfl
  refine aA [] (fun i => match i with | _ => fun _ _ => False) 19 [[], [], [1], [0, 2], [3], [4], [], [], [7], [6, 8], [9], [10], [5, 11], [], [], [14], [13, 15], [16], [17]] [u, iv (j : Int), iv ((j : Int) - 15), slAddr u ((j - 15) * 1), wv (((sch bs 64).take j).getD (j - 15) 0#32), wv (ror (((sch bs 64).take j).getD (j - 15) 0#32) 7), u, iv (j : Int), iv ((j : Int) - 15), slAddr u ((j - 15) * 1), wv (((sch bs 64).take j).getD (j - 15) 0#32), wv (ror (((sch bs 64).take j).getD (j - 15) 0#32) 18), wv ((ror (((sch bs 64).take j).getD (j - 15) 0#32) 7) ^^^ (ror (((sch bs 64).take j).getD (j - 15) 0#32) 18)), u, iv (j : Int), iv ((j : Int) - 15), slAddr u ((j - 15) * 1), wv (((sch bs 64).take j).getD (j - 15) 0#32), wv ((((sch bs 64).take j).getD (j - 15) 0#32) >>> 3)] Y U kr kr kr ?_ ?_ ?_
  ·intro i hi hiq
   match i, hi, hiq with
   | 0, _, _ => exact fun w U => OpV.g (ai rfl)
   | 1, _, _ => exact fun w U => OpV.g (ai rfl)
   | 2, _, _ => exact fun w U => OpV.g (bq rfl rfl ⟨om, om⟩)
   | 3, _, _ => exact fun w U => OpV.g ((ak (i := (j : Int) - 15) (sT := 134) (U.ow 0 rfl) rfl rfl (runUnderlying134 _) (sizeOf133 _) om (by rw [List.length_map]; first | omega | (rw [aF]; omega) | (rw [List.length_take, aF]; omega) | (rw [W8.l_len]; omega) | (rw [bl]; omega))).as (v' := slAddr u ((j - 15) * 1)) (by rw [show ((j : Int) - 15).toNat = (j - 15) from by omega]))
   | 4, _, _ => exact fun w U => OpV.g (ax (u := wv (((sch bs 64).take j).getD (j - 15) 0#32)) (i := (j - 15)) (j := 0) (U.ow 0 rfl) (by rw [List.length_map]; first | omega | (rw [aF]; omega) | (rw [List.length_take, aF]; omega) | (rw [W8.l_len]; omega) | (rw [bl]; omega)) rfl (isAgg133 _) (by rw [br 0#32]; rfl))
   | 5, _, _ => exact fun w U => aT call102 rfl (cN (((sch bs 64).take j).getD (j - 15) 0#32) 7 _ de de)
   | 6, _, _ => exact fun w U => OpV.g (ai rfl)
   | 7, _, _ => exact fun w U => OpV.g (ai rfl)
   | 8, _, _ => exact fun w U => OpV.g (bq rfl rfl ⟨om, om⟩)
   | 9, _, _ => exact fun w U => OpV.g ((ak (i := (j : Int) - 15) (sT := 134) (U.ow 0 rfl) rfl rfl (runUnderlying134 _) (sizeOf133 _) om (by rw [List.length_map]; first | omega | (rw [aF]; omega) | (rw [List.length_take, aF]; omega) | (rw [W8.l_len]; omega) | (rw [bl]; omega))).as (v' := slAddr u ((j - 15) * 1)) (by rw [show ((j : Int) - 15).toNat = (j - 15) from by omega]))
   | 10, _, _ => exact fun w U => OpV.g (ax (u := wv (((sch bs 64).take j).getD (j - 15) 0#32)) (i := (j - 15)) (j := 0) (U.ow 0 rfl) (by rw [List.length_map]; first | omega | (rw [aF]; omega) | (rw [List.length_take, aF]; omega) | (rw [W8.l_len]; omega) | (rw [bl]; omega)) rfl (isAgg133 _) (by rw [br 0#32]; rfl))
   | 11, _, _ => exact fun w U => aT call102 rfl (cN (((sch bs 64).take j).getD (j - 15) 0#32) 18 _ de de)
   | 12, _, _ => exact fun w U => OpV.g (cg rfl rfl)
   | 13, _, _ => exact fun w U => OpV.g (ai rfl)
   | 14, _, _ => exact fun w U => OpV.g (ai rfl)
   | 15, _, _ => exact fun w U => OpV.g (bq rfl rfl ⟨om, om⟩)
   | 16, _, _ => exact fun w U => OpV.g ((ak (i := (j : Int) - 15) (sT := 134) (U.ow 0 rfl) rfl rfl (runUnderlying134 _) (sizeOf133 _) om (by rw [List.length_map]; first | omega | (rw [aF]; omega) | (rw [List.length_take, aF]; omega) | (rw [W8.l_len]; omega) | (rw [bl]; omega))).as (v' := slAddr u ((j - 15) * 1)) (by rw [show ((j : Int) - 15).toNat = (j - 15) from by omega]))
   | 17, _, _ => exact fun w U => OpV.g (ax (u := wv (((sch bs 64).take j).getD (j - 15) 0#32)) (i := (j - 15)) (j := 0) (U.ow 0 rfl) (by rw [List.length_map]; first | omega | (rw [aF]; omega) | (rw [List.length_take, aF]; omega) | (rw [W8.l_len]; omega) | (rw [bl]; omega)) rfl (isAgg133 _) (by rw [br 0#32]; rfl))
   | 18, _, _ => exact fun w U => OpV.g (dw (n := 3) rfl rfl)
   | i + 19, h, _ => exact absurd h om
  ·intro i hi
   exact absurd hi sm
  clear Y U
  intro  a w7 Y U
  replace Y : Fr 238 [(63, u), (64, iv (j : Int)), (65, iv ((j : Int) - 15)), (66, slAddr u ((j - 15) * 1)), (67, wv (((sch bs 64).take j).getD (j - 15) 0#32)), (68, wv (ror (((sch bs 64).take j).getD (j - 15) 0#32) 7)), (69, u), (70, iv (j : Int)), (71, iv ((j : Int) - 15)), (72, slAddr u ((j - 15) * 1)), (73, wv (((sch bs 64).take j).getD (j - 15) 0#32)), (74, wv (ror (((sch bs 64).take j).getD (j - 15) 0#32) 18)), (75, wv ((ror (((sch bs 64).take j).getD (j - 15) 0#32) 7) ^^^ (ror (((sch bs 64).take j).getD (j - 15) 0#32) 18))), (76, u), (77, iv (j : Int)), (78, iv ((j : Int) - 15)), (79, slAddr u ((j - 15) * 1)), (80, wv (((sch bs 64).take j).getD (j - 15) 0#32)), (81, wv ((((sch bs 64).take j).getD (j - 15) 0#32) >>> 3)), (0, _), (4, _), (5, _), (7, _), (59, _), (60, _)] [] a := Y
  refine ab <| aQ (k := 19) 21 [20] kr kr kr ?_
  refine wlv Y (cg rfl rfl) fun a Y => wla Y rfl fun a Y => ab <| bd kr ?_
  refine hK13 _ _ ?_
  replace Y := Y.p5 0 4 5 7 8 rfl
  refine ac fun K14 hK14 => aO kr (aP kr fun w8 hxz => ?_)
  replace U := U.grow hxz
  refine aS (k := 0) 19 [12, 18] Y kr kr kr rfx ?_
  replace Y := Y.p5 0 4 5 7 8 rfl
  refine aA [] (fun i => match i with | _ => fun _ _ => False) 19 [[], [], [1], [0, 2], [3], [4], [], [], [7], [6, 8], [9], [10], [5, 11], [], [], [14], [13, 15], [16], [17]] [u, iv (j : Int), iv ((j : Int) - 2), slAddr u ((j - 2) * 1), wv (((sch bs 64).take j).getD (j - 2) 0#32), wv (ror (((sch bs 64).take j).getD (j - 2) 0#32) 17), u, iv (j : Int), iv ((j : Int) - 2), slAddr u ((j - 2) * 1), wv (((sch bs 64).take j).getD (j - 2) 0#32), wv (ror (((sch bs 64).take j).getD (j - 2) 0#32) 19), wv ((ror (((sch bs 64).take j).getD (j - 2) 0#32) 17) ^^^ (ror (((sch bs 64).take j).getD (j - 2) 0#32) 19)), u, iv (j : Int), iv ((j : Int) - 2), slAddr u ((j - 2) * 1), wv (((sch bs 64).take j).getD (j - 2) 0#32), wv ((((sch bs 64).take j).getD (j - 2) 0#32) >>> 10)] Y U kr kr kr ?_ ?_ ?_
  ·intro i hi hiq
   match i, hi, hiq with
   | 0, _, _ => exact fun w U => OpV.g (ai rfl)
   | 1, _, _ => exact fun w U => OpV.g (ai rfl)
   | 2, _, _ => exact fun w U => OpV.g (bq rfl rfl ⟨om, om⟩)
   | 3, _, _ => exact fun w U => OpV.g ((ak (i := (j : Int) - 2) (sT := 134) (U.ow 0 rfl) rfl rfl (runUnderlying134 _) (sizeOf133 _) om (by rw [List.length_map]; first | omega | (rw [aF]; omega) | (rw [List.length_take, aF]; omega) | (rw [W8.l_len]; omega) | (rw [bl]; omega))).as (v' := slAddr u ((j - 2) * 1)) (by rw [show ((j : Int) - 2).toNat = (j - 2) from by omega]))
   | 4, _, _ => exact fun w U => OpV.g (ax (u := wv (((sch bs 64).take j).getD (j - 2) 0#32)) (i := (j - 2)) (j := 0) (U.ow 0 rfl) (by rw [List.length_map]; first | omega | (rw [aF]; omega) | (rw [List.length_take, aF]; omega) | (rw [W8.l_len]; omega) | (rw [bl]; omega)) rfl (isAgg133 _) (by rw [br 0#32]; rfl))
   | 5, _, _ => exact fun w U => aT call102 rfl (cN (((sch bs 64).take j).getD (j - 2) 0#32) 17 _ de de)
   | 6, _, _ => exact fun w U => OpV.g (ai rfl)
   | 7, _, _ => exact fun w U => OpV.g (ai rfl)
   | 8, _, _ => exact fun w U => OpV.g (bq rfl rfl ⟨om, om⟩)
   | 9, _, _ => exact fun w U => OpV.g ((ak (i := (j : Int) - 2) (sT := 134) (U.ow 0 rfl) rfl rfl (runUnderlying134 _) (sizeOf133 _) om (by rw [List.length_map]; first | omega | (rw [aF]; omega) | (rw [List.length_take, aF]; omega) | (rw [W8.l_len]; omega) | (rw [bl]; omega))).as (v' := slAddr u ((j - 2) * 1)) (by rw [show ((j : Int) - 2).toNat = (j - 2) from by omega]))
   | 10, _, _ => exact fun w U => OpV.g (ax (u := wv (((sch bs 64).take j).getD (j - 2) 0#32)) (i := (j - 2)) (j := 0) (U.ow 0 rfl) (by rw [List.length_map]; first | omega | (rw [aF]; omega) | (rw [List.length_take, aF]; omega) | (rw [W8.l_len]; omega) | (rw [bl]; omega)) rfl (isAgg133 _) (by rw [br 0#32]; rfl))
   | 11, _, _ => exact fun w U => aT call102 rfl (cN (((sch bs 64).take j).getD (j - 2) 0#32) 19 _ de de)
   | 12, _, _ => exact fun w U => OpV.g (cg rfl rfl)
   | 13, _, _ => exact fun w U => OpV.g (ai rfl)
   | 14, _, _ => exact fun w U => OpV.g (ai rfl)
   | 15, _, _ => exact fun w U => OpV.g (bq rfl rfl ⟨om, om⟩)
   | 16, _, _ => exact fun w U => OpV.g ((ak (i := (j : Int) - 2) (sT := 134) (U.ow 0 rfl) rfl rfl (runUnderlying134 _) (sizeOf133 _) om (by rw [List.length_map]; first | omega | (rw [aF]; omega) | (rw [List.length_take, aF]; omega) | (rw [W8.l_len]; omega) | (rw [bl]; omega))).as (v' := slAddr u ((j - 2) * 1)) (by rw [show ((j : Int) - 2).toNat = (j - 2) from by omega]))
   | 17, _, _ => exact fun w U => OpV.g (ax (u := wv (((sch bs 64).take j).getD (j - 2) 0#32)) (i := (j - 2)) (j := 0) (U.ow 0 rfl) (by rw [List.length_map]; first | omega | (rw [aF]; omega) | (rw [List.length_take, aF]; omega) | (rw [W8.l_len]; omega) | (rw [bl]; omega)) rfl (isAgg133 _) (by rw [br 0#32]; rfl))
   | 18, _, _ => exact fun w U => OpV.g (dw (n := 10) rfl rfl)
   | i + 19, h, _ => exact absurd h om
  ·intro i hi
   exact absurd hi sm
  clear Y U
  intro  a w9 Y U
  replace Y : Fr 238 [(83, u), (84, iv (j : Int)), (85, iv ((j : Int) - 2)), (86, slAddr u ((j - 2) * 1)), (87, wv (((sch bs 64).take j).getD (j - 2) 0#32)), (88, wv (ror (((sch bs 64).take j).getD (j - 2) 0#32) 17)), (89, u), (90, iv (j : Int)), (91, iv ((j : Int) - 2)), (92, slAddr u ((j - 2) * 1)), (93, wv (((sch bs 64).take j).getD (j - 2) 0#32)), (94, wv (ror (((sch bs 64).take j).getD (j - 2) 0#32) 19)), (95, wv ((ror (((sch bs 64).take j).getD (j - 2) 0#32) 17) ^^^ (ror (((sch bs 64).take j).getD (j - 2) 0#32) 19))), (96, u), (97, iv (j : Int)), (98, iv ((j : Int) - 2)), (99, slAddr u ((j - 2) * 1)), (100, wv (((sch bs 64).take j).getD (j - 2) 0#32)), (101, wv ((((sch bs 64).take j).getD (j - 2) 0#32) >>> 10)), (0, _), (4, _), (5, _), (7, _), (8, _)] [] a := Y
  refine ab <| aQ (k := 19) 21 [20] kr kr kr ?_
  refine wlv Y (cg rfl rfl) fun a Y => wla Y rfl fun a Y => ab <| bd kr ?_
  refine hK14 _ _ ?_
  replace Y := Y.p6 0 4 5 7 8 9 rfl
  refine aO kr (aP kr fun w10 hxz => ?_)
  replace U := U.grow hxz
  refine aS (k := 0) 17 [0, 16] Y kr kr kr rfx ?_
  replace Y := Y.p6 0 4 5 7 8 9 rfl
  refine aA [16] (fun i => match i with | 16 => pm (fun b : Nat => .slice (some ⟨b, 0, none⟩) 1 1) (fun b => [own (.slice (some ⟨b, 0, none⟩) 1 1) 133 1 [[wv ((((((sch bs 64).take j).getD (j - 16) 0#32) + (((ror (((sch bs 64).take j).getD (j - 15) 0#32) 7) ^^^ (ror (((sch bs 64).take j).getD (j - 15) 0#32) 18)) ^^^ ((((sch bs 64).take j).getD (j - 15) 0#32) >>> 3))) + (((sch bs 64).take j).getD (j - 7) 0#32)) + (((ror (((sch bs 64).take j).getD (j - 2) 0#32) 17) ^^^ (ror (((sch bs 64).take j).getD (j - 2) 0#32) 19)) ^^^ ((((sch bs 64).take j).getD (j - 2) 0#32) >>> 10)))]]]) (fun _ => True) | _ => fun _ _ => False) 17 [[], [], [], [2], [1, 3], [4], [], [5, 6], [], [], [9], [8, 10], [11], [7, 12], [], [13, 14], [15]] [u, u, iv (j : Int), iv ((j : Int) - 16), slAddr u ((j - 16) * 1), wv (((sch bs 64).take j).getD (j - 16) 0#32), wv (((ror (((sch bs 64).take j).getD (j - 15) 0#32) 7) ^^^ (ror (((sch bs 64).take j).getD (j - 15) 0#32) 18)) ^^^ ((((sch bs 64).take j).getD (j - 15) 0#32) >>> 3)), wv ((((sch bs 64).take j).getD (j - 16) 0#32) + (((ror (((sch bs 64).take j).getD (j - 15) 0#32) 7) ^^^ (ror (((sch bs 64).take j).getD (j - 15) 0#32) 18)) ^^^ ((((sch bs 64).take j).getD (j - 15) 0#32) >>> 3))), u, iv (j : Int), iv ((j : Int) - 7), slAddr u ((j - 7) * 1), wv (((sch bs 64).take j).getD (j - 7) 0#32), wv (((((sch bs 64).take j).getD (j - 16) 0#32) + (((ror (((sch bs 64).take j).getD (j - 15) 0#32) 7) ^^^ (ror (((sch bs 64).take j).getD (j - 15) 0#32) 18)) ^^^ ((((sch bs 64).take j).getD (j - 15) 0#32) >>> 3))) + (((sch bs 64).take j).getD (j - 7) 0#32)), wv (((ror (((sch bs 64).take j).getD (j - 2) 0#32) 17) ^^^ (ror (((sch bs 64).take j).getD (j - 2) 0#32) 19)) ^^^ ((((sch bs 64).take j).getD (j - 2) 0#32) >>> 10)), wv ((((((sch bs 64).take j).getD (j - 16) 0#32) + (((ror (((sch bs 64).take j).getD (j - 15) 0#32) 7) ^^^ (ror (((sch bs 64).take j).getD (j - 15) 0#32) 18)) ^^^ ((((sch bs 64).take j).getD (j - 15) 0#32) >>> 3))) + (((sch bs 64).take j).getD (j - 7) 0#32)) + (((ror (((sch bs 64).take j).getD (j - 2) 0#32) 17) ^^^ (ror (((sch bs 64).take j).getD (j - 2) 0#32) 19)) ^^^ ((((sch bs 64).take j).getD (j - 2) 0#32) >>> 10))), undef] Y U kr kr kr ?_ ?_ ?_
  ·intro i hi hiq
   match i, hi, hiq with
   | 0, _, _ => exact fun w U => OpV.g (ai rfl)
   | 1, _, _ => exact fun w U => OpV.g (ai rfl)
   | 2, _, _ => exact fun w U => OpV.g (ai rfl)
   | 3, _, _ => exact fun w U => OpV.g (bq rfl rfl ⟨om, om⟩)
   | 4, _, _ => exact fun w U => OpV.g ((ak (i := (j : Int) - 16) (sT := 134) (U.ow 0 rfl) rfl rfl (runUnderlying134 _) (sizeOf133 _) om (by rw [List.length_map]; first | omega | (rw [aF]; omega) | (rw [List.length_take, aF]; omega) | (rw [W8.l_len]; omega) | (rw [bl]; omega))).as (v' := slAddr u ((j - 16) * 1)) (by rw [show ((j : Int) - 16).toNat = (j - 16) from by omega]))
   | 5, _, _ => exact fun w U => OpV.g (ax (u := wv (((sch bs 64).take j).getD (j - 16) 0#32)) (i := (j - 16)) (j := 0) (U.ow 0 rfl) (by rw [List.length_map]; first | omega | (rw [aF]; omega) | (rw [List.length_take, aF]; omega) | (rw [W8.l_len]; omega) | (rw [bl]; omega)) rfl (isAgg133 _) (by rw [br 0#32]; rfl))
   | 6, _, _ => exact fun w U => OpV.g (ai rfl)
   | 7, _, _ => exact fun w U => OpV.g (bM rfl rfl)
   | 8, _, _ => exact fun w U => OpV.g (ai rfl)
   | 9, _, _ => exact fun w U => OpV.g (ai rfl)
   | 10, _, _ => exact fun w U => OpV.g (bq rfl rfl ⟨om, om⟩)
   | 11, _, _ => exact fun w U => OpV.g ((ak (i := (j : Int) - 7) (sT := 134) (U.ow 0 rfl) rfl rfl (runUnderlying134 _) (sizeOf133 _) om (by rw [List.length_map]; first | omega | (rw [aF]; omega) | (rw [List.length_take, aF]; omega) | (rw [W8.l_len]; omega) | (rw [bl]; omega))).as (v' := slAddr u ((j - 7) * 1)) (by rw [show ((j : Int) - 7).toNat = (j - 7) from by omega]))
   | 12, _, _ => exact fun w U => OpV.g (ax (u := wv (((sch bs 64).take j).getD (j - 7) 0#32)) (i := (j - 7)) (j := 0) (U.ow 0 rfl) (by rw [List.length_map]; first | omega | (rw [aF]; omega) | (rw [List.length_take, aF]; omega) | (rw [W8.l_len]; omega) | (rw [bl]; omega)) rfl (isAgg133 _) (by rw [br 0#32]; rfl))
   | 13, _, _ => exact fun w U => OpV.g (bM rfl rfl)
   | 14, _, _ => exact fun w U => OpV.g (ai rfl)
   | 15, _, _ => exact fun w U => OpV.g (bM rfl rfl)
   | 16, _, h => exact absurd sm h
   | i + 17, h, _ => exact absurd h om
  ·intro i hi
   simp only [List.mem_cons, List.not_mem_nil, or_false] at hi
   subst hi
   ·intro w U
    exact aY (E := 133) (sz := 1) rfl [[wv ((((((sch bs 64).take j).getD (j - 16) 0#32) + (((ror (((sch bs 64).take j).getD (j - 15) 0#32) 7) ^^^ (ror (((sch bs 64).take j).getD (j - 15) 0#32) 18)) ^^^ ((((sch bs 64).take j).getD (j - 15) 0#32) >>> 3))) + (((sch bs 64).take j).getD (j - 7) 0#32)) + (((ror (((sch bs 64).take j).getD (j - 2) 0#32) 17) ^^^ (ror (((sch bs 64).take j).getD (j - 2) 0#32) 19)) ^^^ ((((sch bs 64).take j).getD (j - 2) 0#32) >>> 10)))]] (fun _ => by kernel_rfl) sm rfl de
  clear Y U
  rintro _ _ ⟨b5, rfl, -, rfl⟩ a w11 Y U
  replace Y : Fr 238 [(103, u), (104, u), (105, iv (j : Int)), (106, iv ((j : Int) - 16)), (107, slAddr u ((j - 16) * 1)), (108, wv (((sch bs 64).take j).getD (j - 16) 0#32)), (109, wv (((ror (((sch bs 64).take j).getD (j - 15) 0#32) 7) ^^^ (ror (((sch bs 64).take j).getD (j - 15) 0#32) 18)) ^^^ ((((sch bs 64).take j).getD (j - 15) 0#32) >>> 3))), (110, wv ((((sch bs 64).take j).getD (j - 16) 0#32) + (((ror (((sch bs 64).take j).getD (j - 15) 0#32) 7) ^^^ (ror (((sch bs 64).take j).getD (j - 15) 0#32) 18)) ^^^ ((((sch bs 64).take j).getD (j - 15) 0#32) >>> 3)))), (111, u), (112, iv (j : Int)), (113, iv ((j : Int) - 7)), (114, slAddr u ((j - 7) * 1)), (115, wv (((sch bs 64).take j).getD (j - 7) 0#32)), (116, wv (((((sch bs 64).take j).getD (j - 16) 0#32) + (((ror (((sch bs 64).take j).getD (j - 15) 0#32) 7) ^^^ (ror (((sch bs 64).take j).getD (j - 15) 0#32) 18)) ^^^ ((((sch bs 64).take j).getD (j - 15) 0#32) >>> 3))) + (((sch bs 64).take j).getD (j - 7) 0#32))), (117, wv (((ror (((sch bs 64).take j).getD (j - 2) 0#32) 17) ^^^ (ror (((sch bs 64).take j).getD (j - 2) 0#32) 19)) ^^^ ((((sch bs 64).take j).getD (j - 2) 0#32) >>> 10))), (118, wv ((((((sch bs 64).take j).getD (j - 16) 0#32) + (((ror (((sch bs 64).take j).getD (j - 15) 0#32) 7) ^^^ (ror (((sch bs 64).take j).getD (j - 15) 0#32) 18)) ^^^ ((((sch bs 64).take j).getD (j - 15) 0#32) >>> 3))) + (((sch bs 64).take j).getD (j - 7) 0#32)) + (((ror (((sch bs 64).take j).getD (j - 2) 0#32) 17) ^^^ (ror (((sch bs 64).take j).getD (j - 2) 0#32) 19)) ^^^ ((((sch bs 64).take j).getD (j - 2) 0#32) >>> 10)))), (119, _), (0, _), (4, _), (5, _), (7, _), (8, _), (9, _)] [] a := Y
  replace U : St No w0 [_, _] w11 := U
  refine ab <| aQ (k := 17) 19 [18] kr kr kr ?_
  refine bf (i := 1) (sT := 134) (inf := Tryd.t133) (z := wv (0#32)) (b := 0) (off := 0) (m := 0) (c := 0) rfl rfl rfl (U.ow 0 rfl) sm underlying134 rfl rfl rfl rfl de (by simp [Value.oneCell', yv, wv, sv]) (by have hby : Tryd.t133.bytes = 4 := rfl; simp only [big, hby, List.length_append, List.length_map, List.length_take, aF, W8.l_len, List.length_cons, List.length_nil]; omega) (by have hby : Tryd.t133.bytes = 4 := rfl; simp only [big, hby, List.length_append, List.length_map, List.length_take, aF, W8.l_len, List.length_cons, List.length_nil]; omega) de Y U fun a w12 s6 Y U _ => wla Y rfl fun a Y => ab <| bd kr ?_
  refine hK12 _ _ ?_
  replace Y := Y.p4 0 4 7 5 rfl
  replace U := U.k1 2 rfl
  refine ao <| wlm Y rfl fun a Y => wlv Y (aM rfl rfl ⟨om, om⟩) fun a Y => wla Y rfl fun a Y => ab ?_
  rw [show (((sch bs 64).take j).map fun x => [wv x]) ++ ([[wv ((((((sch bs 64).take j).getD (j - 16) 0#32) + (((ror (((sch bs 64).take j).getD (j - 15) 0#32) 7) ^^^ (ror (((sch bs 64).take j).getD (j - 15) 0#32) 18)) ^^^ ((((sch bs 64).take j).getD (j - 15) 0#32) >>> 3))) + (((sch bs 64).take j).getD (j - 7) 0#32)) + (((ror (((sch bs 64).take j).getD (j - 2) 0#32) 17) ^^^ (ror (((sch bs 64).take j).getD (j - 2) 0#32) 19)) ^^^ ((((sch bs 64).take j).getD (j - 2) 0#32) >>> 10)))]]) = (((sch bs 64).take (j + 1)).map fun x => [wv x]) from by rw [lx bs om om]; simp] at U
  refine ⟨_, ?_, j + 1, s6, rfl, om, om, Y.pick [0, 4, 5, 7], U.select [0] de⟩
  omega
 rw [hc4] at Y
 try simp only [qz] at hc4
 obtain rfl : j = 64 := by omega
 rw [List.take_of_length_le (by rw [aF]; omega)] at U
 refine aL <| hK8 _ _ <| aa fun K15 hK15 => aX Y U de call103 rfl (jc _) ?_
 clear Y U
 intro a w13 x7 hp Y U
 revert x7 hp Y U; rintro kz hp Y U
 clear hp
 replace U : St No w0 [_, _] w13 := U
 refine wla Y rfl fun a Y => ab (hK15 _ _ <| aa fun K16 hK16 => ?_)
 refine wla Y rfl fun a Y => ab (hK16 _ _ <| aa fun K17 hK17 => ?_)
 refine wlm Y rfl fun a Y => wlm Y rfl fun a Y => ?_
 replace U : St No w0 (own (.slice none 0 0) 133 1 [] :: [_, _]) w13 := U.nil_own
 refine ey (i := 0) (sT := 134) (inf := Tryd.t133) (z := wv (0#32)) rfl rfl rfl (U.arg hhv) underlying134 rfl rfl rfl rfl de (by simp [Value.oneCell', yv, wv, sv]) (by have hby : Tryd.t133.bytes = 4 := rfl; simp only [big, hby, List.length_append, List.length_map, List.length_take, aF, W8.l_len, List.length_cons, List.length_nil]; omega) (by have hby : Tryd.t133.bytes = 4 := rfl; simp only [big, hby, List.length_append, List.length_map, List.length_take, aF, W8.l_len, List.length_cons, List.length_nil]; omega) de Y U ?_
 clear Y U
 intro a w14 s8 Y U
 refine wla Y rfl fun a Y => ab (hK17 _ _ ?_)
 replace Y := Y.p5 0 4 5 10 11 rfl
 refine ac fun K18 hK18 => aa fun K19 hK19 => wla Y rfl fun a Y => ab (hK19 _ _ <| ap ?_)
 rw [show ([]) ++ ((hv.l).map fun x => [wv x]) = ((hv.l).map fun x => [wv x]) from by simp] at U
 refine aV (fun m a w => ∃ (ix : Nat) (v : W8) (z : Value), m = 64 - ix ∧ (ix ≤ 64) ∧ (rounds (sch bs 64) hv ix = v) ∧ Fr 238 [(0, hvv), (4, .slice none 0 0), (5, u), (10, kz), (11, z), (12, iv (ix : Int))] [] a ∧ St No w0 [own z 133 1 ((v.l).map fun x => [wv x]), own u 133 1 ((sch bs 64).map fun x => [wv x]), own kz 133 1 ((kOf).map fun x => [wv x])] w) _ ⟨0, hv, s8, rfl, Nat.zero_le _, rfl, Y.pick [0, 4, 5, 10, 11, 12], U.select [0, 2, 1] de⟩ ?_
 rintro _ a w15 ⟨ix, v, z, rfl, hi, hrv, Y, U⟩
 refine ac fun K20 hK20 => aa fun K21 hK21 => wlm Y rfl fun a Y => wlv Y (v_lt rfl rfl) fun a Y => ab (hK21 _ _ ?_)
 refine az Y rfl (fun hc9 => ?_) (fun hc9 => ?_)
 ·rw [hc9] at Y
  try simp only [qz] at hc9
  refine aq <| hK20 _ _ <| ac fun K22 hK22 => ap <| aa fun K23 hK23 => wlm Y rfl fun a Y => wlv Y ((ak (i := 0) (sT := 134) (U.ow 0 rfl) rfl rfl (runUnderlying134 _) (sizeOf133 _) om (by rw [List.length_map, W8.l_len]; decide)).as (v' := slAddr z (0 * 1)) rfl) fun a Y => wlv Y (ax (u := wv v.a) (i := 0) (j := 0) (U.ow 0 rfl) (by rw [List.length_map, W8.l_len]; decide) rfl (isAgg133 _) rfx) fun a Y => wla Y rfl fun a Y => ab (hK23 _ _ <| aa fun K24 hK24 => ?_)
  refine wlm Y rfl fun a Y => wlv Y ((ak (i := 4) (sT := 134) (U.ow 0 rfl) rfl rfl (runUnderlying134 _) (sizeOf133 _) om (by rw [List.length_map, W8.l_len]; decide)).as (v' := slAddr z (4 * 1)) rfl) fun a Y => wlv Y (ax (u := wv v.e) (i := 4) (j := 0) (U.ow 0 rfl) (by rw [List.length_map, W8.l_len]; decide) rfl (isAgg133 _) rfx) fun a Y => wla Y rfl fun a Y => ab (hK24 _ _ ?_)
  replace Y := Y.p8 0 4 5 10 11 12 13 14 rfl
  refine ac fun K25 hK25 => aO kr (aP kr fun w16 hxz => ?_)
  replace U := U.grow hxz
  refine aS (k := 0) 34 [29, 33] Y kr kr kr rfx ?_
  replace Y := Y.p8 0 4 5 10 11 12 13 14 rfl
  refine aA [] (fun i => match i with | _ => fun _ _ => False) 34 [[], [0], [1], [], [3], [], [5], [4, 6], [], [8], [7, 9], [2, 10], [], [], [13], [14], [12, 15], [], [17], [], [19], [20], [18, 21], [16, 22], [11, 23], [], [], [25, 26], [27], [24, 28], [], [], [30, 31], [32]] [z, slAddr z (7 * 1), wv v.h, wv v.e, wv (ror v.e 6), wv v.e, wv (ror v.e 11), wv ((ror v.e 6) ^^^ (ror v.e 11)), wv v.e, wv (ror v.e 25), wv (((ror v.e 6) ^^^ (ror v.e 11)) ^^^ (ror v.e 25)), wv (v.h + (((ror v.e 6) ^^^ (ror v.e 11)) ^^^ (ror v.e 25))), wv v.e, z, slAddr z (5 * 1), wv v.f, wv (v.e &&& v.f), wv v.e, wv (~~~v.e), z, slAddr z (6 * 1), wv v.g, wv ((~~~v.e) &&& v.g), wv ((v.e &&& v.f) ^^^ ((~~~v.e) &&& v.g)), wv ((v.h + (((ror v.e 6) ^^^ (ror v.e 11)) ^^^ (ror v.e 25))) + ((v.e &&& v.f) ^^^ ((~~~v.e) &&& v.g))), kz, iv (ix : Int), slAddr kz (ix * 1), wv ((kOf).getD ix 0#32), wv (((v.h + (((ror v.e 6) ^^^ (ror v.e 11)) ^^^ (ror v.e 25))) + ((v.e &&& v.f) ^^^ ((~~~v.e) &&& v.g))) + ((kOf).getD ix 0#32)), u, iv (ix : Int), slAddr u (ix * 1), wv ((sch bs 64).getD ix 0#32)] Y U kr kr kr ?_ ?_ ?_
  ·intro i hi hiq
   match i, hi, hiq with
   | 0, _, _ => exact fun w U => OpV.g (ai rfl)
   | 1, _, _ => exact fun w U => OpV.g ((ak (i := 7) (sT := 134) (U.ow 0 rfl) rfl rfl (runUnderlying134 _) (sizeOf133 _) om (by rw [List.length_map, W8.l_len]; decide)).as (v' := slAddr z (7 * 1)) rfl)
   | 2, _, _ => exact fun w U => OpV.g (ax (u := wv v.h) (i := 7) (j := 0) (U.ow 0 rfl) (by rw [List.length_map, W8.l_len]; decide) rfl (isAgg133 _) rfx)
   | 3, _, _ => exact fun w U => OpV.g (ai rfl)
   | 4, _, _ => exact fun w U => aT call102 rfl (cN v.e 6 _ de de)
   | 5, _, _ => exact fun w U => OpV.g (ai rfl)
   | 6, _, _ => exact fun w U => aT call102 rfl (cN v.e 11 _ de de)
   | 7, _, _ => exact fun w U => OpV.g (cg rfl rfl)
   | 8, _, _ => exact fun w U => OpV.g (ai rfl)
   | 9, _, _ => exact fun w U => aT call102 rfl (cN v.e 25 _ de de)
   | 10, _, _ => exact fun w U => OpV.g (cg rfl rfl)
   | 11, _, _ => exact fun w U => OpV.g (bM rfl rfl)
   | 12, _, _ => exact fun w U => OpV.g (ai rfl)
   | 13, _, _ => exact fun w U => OpV.g (ai rfl)
   | 14, _, _ => exact fun w U => OpV.g ((ak (i := 5) (sT := 134) (U.ow 0 rfl) rfl rfl (runUnderlying134 _) (sizeOf133 _) om (by rw [List.length_map, W8.l_len]; decide)).as (v' := slAddr z (5 * 1)) rfl)
   | 15, _, _ => exact fun w U => OpV.g (ax (u := wv v.f) (i := 5) (j := 0) (U.ow 0 rfl) (by rw [List.length_map, W8.l_len]; decide) rfl (isAgg133 _) rfx)
   | 16, _, _ => exact fun w U => OpV.g (dy rfl rfl)
   | 17, _, _ => exact fun w U => OpV.g (ai rfl)
   | 18, _, _ => exact fun w U => OpV.g (ms rfl)
   | 19, _, _ => exact fun w U => OpV.g (ai rfl)
   | 20, _, _ => exact fun w U => OpV.g ((ak (i := 6) (sT := 134) (U.ow 0 rfl) rfl rfl (runUnderlying134 _) (sizeOf133 _) om (by rw [List.length_map, W8.l_len]; decide)).as (v' := slAddr z (6 * 1)) rfl)
   | 21, _, _ => exact fun w U => OpV.g (ax (u := wv v.g) (i := 6) (j := 0) (U.ow 0 rfl) (by rw [List.length_map, W8.l_len]; decide) rfl (isAgg133 _) rfx)
   | 22, _, _ => exact fun w U => OpV.g (dy rfl rfl)
   | 23, _, _ => exact fun w U => OpV.g (cg rfl rfl)
   | 24, _, _ => exact fun w U => OpV.g (bM rfl rfl)
   | 25, _, _ => exact fun w U => OpV.g (ai rfl)
   | 26, _, _ => exact fun w U => OpV.g (ai rfl)
   | 27, _, _ => exact fun w U => OpV.g ((ak (i := (ix : Int)) (sT := 134) (U.ow 2 rfl) rfl rfl (runUnderlying134 _) (sizeOf133 _) om (by rw [List.length_map]; first | omega | (rw [aF]; omega) | (rw [List.length_take, aF]; omega) | (rw [W8.l_len]; omega) | (rw [bl]; omega))).as (v' := slAddr kz (ix * 1)) rfl)
   | 28, _, _ => exact fun w U => OpV.g (ax (u := wv ((kOf).getD ix 0#32)) (i := ix) (j := 0) (U.ow 2 rfl) (by rw [List.length_map]; first | omega | (rw [aF]; omega) | (rw [List.length_take, aF]; omega) | (rw [W8.l_len]; omega) | (rw [bl]; omega)) rfl (isAgg133 _) (by rw [br 0#32]; rfl))
   | 29, _, _ => exact fun w U => OpV.g (bM rfl rfl)
   | 30, _, _ => exact fun w U => OpV.g (ai rfl)
   | 31, _, _ => exact fun w U => OpV.g (ai rfl)
   | 32, _, _ => exact fun w U => OpV.g ((ak (i := (ix : Int)) (sT := 134) (U.ow 1 rfl) rfl rfl (runUnderlying134 _) (sizeOf133 _) om (by rw [List.length_map]; first | omega | (rw [aF]; omega) | (rw [List.length_take, aF]; omega) | (rw [W8.l_len]; omega) | (rw [bl]; omega))).as (v' := slAddr u (ix * 1)) rfl)
   | 33, _, _ => exact fun w U => OpV.g (ax (u := wv ((sch bs 64).getD ix 0#32)) (i := ix) (j := 0) (U.ow 1 rfl) (by rw [List.length_map]; first | omega | (rw [aF]; omega) | (rw [List.length_take, aF]; omega) | (rw [W8.l_len]; omega) | (rw [bl]; omega)) rfl (isAgg133 _) (by rw [br 0#32]; rfl))
   | i + 34, h, _ => exact absurd h om
  ·intro i hi
   exact absurd hi sm
  clear Y U
  intro  a w17 Y U
  replace Y : Fr 238 [(135, z), (136, slAddr z (7 * 1)), (137, wv v.h), (138, wv v.e), (139, wv (ror v.e 6)), (140, wv v.e), (141, wv (ror v.e 11)), (142, wv ((ror v.e 6) ^^^ (ror v.e 11))), (143, wv v.e), (144, wv (ror v.e 25)), (145, wv (((ror v.e 6) ^^^ (ror v.e 11)) ^^^ (ror v.e 25))), (146, wv (v.h + (((ror v.e 6) ^^^ (ror v.e 11)) ^^^ (ror v.e 25)))), (147, wv v.e), (148, z), (149, slAddr z (5 * 1)), (150, wv v.f), (151, wv (v.e &&& v.f)), (152, wv v.e), (153, wv (~~~v.e)), (154, z), (155, slAddr z (6 * 1)), (156, wv v.g), (157, wv ((~~~v.e) &&& v.g)), (158, wv ((v.e &&& v.f) ^^^ ((~~~v.e) &&& v.g))), (159, wv ((v.h + (((ror v.e 6) ^^^ (ror v.e 11)) ^^^ (ror v.e 25))) + ((v.e &&& v.f) ^^^ ((~~~v.e) &&& v.g)))), (160, kz), (161, iv (ix : Int)), (162, slAddr kz (ix * 1)), (163, wv ((kOf).getD ix 0#32)), (164, wv (((v.h + (((ror v.e 6) ^^^ (ror v.e 11)) ^^^ (ror v.e 25))) + ((v.e &&& v.f) ^^^ ((~~~v.e) &&& v.g))) + ((kOf).getD ix 0#32))), (165, u), (166, iv (ix : Int)), (167, slAddr u (ix * 1)), (168, wv ((sch bs 64).getD ix 0#32)), (0, _), (4, _), (5, _), (10, _), (11, _), (12, _), (13, _), (14, _)] [] a := Y
  refine ab <| aQ (k := 34) 36 [35] kr kr kr ?_
  refine wlv Y (bM rfl rfl) fun a Y => wla Y rfl fun a Y => ab <| bd kr ?_
  refine hK25 _ _ ?_
  replace Y := Y.p9 0 4 5 10 11 12 13 14 15 rfl
  refine ac fun K26 hK26 => aO kr (aP kr fun w18 hxz => ?_)
  replace U := U.grow hxz
  refine aS (k := 0) 27 [7, 26] Y kr kr kr rfx ?_
  replace Y := Y.p9 0 4 5 10 11 12 13 14 15 rfl
  refine aA [] (fun i => match i with | _ => fun _ _ => False) 27 [[], [0], [], [2], [1, 3], [], [5], [4, 6], [], [], [9], [10], [8, 11], [], [], [14], [15], [13, 16], [12, 17], [], [19], [20], [], [22], [23], [21, 24], [18, 25]] [wv v.a, wv (ror v.a 2), wv v.a, wv (ror v.a 13), wv ((ror v.a 2) ^^^ (ror v.a 13)), wv v.a, wv (ror v.a 22), wv (((ror v.a 2) ^^^ (ror v.a 13)) ^^^ (ror v.a 22)), wv v.a, z, slAddr z (1 * 1), wv v.b, wv (v.a &&& v.b), wv v.a, z, slAddr z (2 * 1), wv v.c, wv (v.a &&& v.c), wv ((v.a &&& v.b) ^^^ (v.a &&& v.c)), z, slAddr z (1 * 1), wv v.b, z, slAddr z (2 * 1), wv v.c, wv (v.b &&& v.c), wv (((v.a &&& v.b) ^^^ (v.a &&& v.c)) ^^^ (v.b &&& v.c))] Y U kr kr kr ?_ ?_ ?_
  ·intro i hi hiq
   match i, hi, hiq with
   | 0, _, _ => exact fun w U => OpV.g (ai rfl)
   | 1, _, _ => exact fun w U => aT call102 rfl (cN v.a 2 _ de de)
   | 2, _, _ => exact fun w U => OpV.g (ai rfl)
   | 3, _, _ => exact fun w U => aT call102 rfl (cN v.a 13 _ de de)
   | 4, _, _ => exact fun w U => OpV.g (cg rfl rfl)
   | 5, _, _ => exact fun w U => OpV.g (ai rfl)
   | 6, _, _ => exact fun w U => aT call102 rfl (cN v.a 22 _ de de)
   | 7, _, _ => exact fun w U => OpV.g (cg rfl rfl)
   | 8, _, _ => exact fun w U => OpV.g (ai rfl)
   | 9, _, _ => exact fun w U => OpV.g (ai rfl)
   | 10, _, _ => exact fun w U => OpV.g ((ak (i := 1) (sT := 134) (U.ow 0 rfl) rfl rfl (runUnderlying134 _) (sizeOf133 _) om (by rw [List.length_map, W8.l_len]; decide)).as (v' := slAddr z (1 * 1)) rfl)
   | 11, _, _ => exact fun w U => OpV.g (ax (u := wv v.b) (i := 1) (j := 0) (U.ow 0 rfl) (by rw [List.length_map, W8.l_len]; decide) rfl (isAgg133 _) rfx)
   | 12, _, _ => exact fun w U => OpV.g (dy rfl rfl)
   | 13, _, _ => exact fun w U => OpV.g (ai rfl)
   | 14, _, _ => exact fun w U => OpV.g (ai rfl)
   | 15, _, _ => exact fun w U => OpV.g ((ak (i := 2) (sT := 134) (U.ow 0 rfl) rfl rfl (runUnderlying134 _) (sizeOf133 _) om (by rw [List.length_map, W8.l_len]; decide)).as (v' := slAddr z (2 * 1)) rfl)
   | 16, _, _ => exact fun w U => OpV.g (ax (u := wv v.c) (i := 2) (j := 0) (U.ow 0 rfl) (by rw [List.length_map, W8.l_len]; decide) rfl (isAgg133 _) rfx)
   | 17, _, _ => exact fun w U => OpV.g (dy rfl rfl)
   | 18, _, _ => exact fun w U => OpV.g (cg rfl rfl)
   | 19, _, _ => exact fun w U => OpV.g (ai rfl)
   | 20, _, _ => exact fun w U => OpV.g ((ak (i := 1) (sT := 134) (U.ow 0 rfl) rfl rfl (runUnderlying134 _) (sizeOf133 _) om (by rw [List.length_map, W8.l_len]; decide)).as (v' := slAddr z (1 * 1)) rfl)
   | 21, _, _ => exact fun w U => OpV.g (ax (u := wv v.b) (i := 1) (j := 0) (U.ow 0 rfl) (by rw [List.length_map, W8.l_len]; decide) rfl (isAgg133 _) rfx)
   | 22, _, _ => exact fun w U => OpV.g (ai rfl)
   | 23, _, _ => exact fun w U => OpV.g ((ak (i := 2) (sT := 134) (U.ow 0 rfl) rfl rfl (runUnderlying134 _) (sizeOf133 _) om (by rw [List.length_map, W8.l_len]; decide)).as (v' := slAddr z (2 * 1)) rfl)
   | 24, _, _ => exact fun w U => OpV.g (ax (u := wv v.c) (i := 2) (j := 0) (U.ow 0 rfl) (by rw [List.length_map, W8.l_len]; decide) rfl (isAgg133 _) rfx)
   | 25, _, _ => exact fun w U => OpV.g (dy rfl rfl)
   | 26, _, _ => exact fun w U => OpV.g (cg rfl rfl)
   | i + 27, h, _ => exact absurd h om
  ·intro i hi
   exact absurd hi sm
  clear Y U
  intro  a w19 Y U
  replace Y : Fr 238 [(170, wv v.a), (171, wv (ror v.a 2)), (172, wv v.a), (173, wv (ror v.a 13)), (174, wv ((ror v.a 2) ^^^ (ror v.a 13))), (175, wv v.a), (176, wv (ror v.a 22)), (177, wv (((ror v.a 2) ^^^ (ror v.a 13)) ^^^ (ror v.a 22))), (178, wv v.a), (179, z), (180, slAddr z (1 * 1)), (181, wv v.b), (182, wv (v.a &&& v.b)), (183, wv v.a), (184, z), (185, slAddr z (2 * 1)), (186, wv v.c), (187, wv (v.a &&& v.c)), (188, wv ((v.a &&& v.b) ^^^ (v.a &&& v.c))), (189, z), (190, slAddr z (1 * 1)), (191, wv v.b), (192, z), (193, slAddr z (2 * 1)), (194, wv v.c), (195, wv (v.b &&& v.c)), (196, wv (((v.a &&& v.b) ^^^ (v.a &&& v.c)) ^^^ (v.b &&& v.c))), (0, _), (4, _), (5, _), (10, _), (11, _), (12, _), (13, _), (14, _), (15, _)] [] a := Y
  refine ab <| aQ (k := 27) 29 [28] kr kr kr ?_
  refine wlv Y (bM rfl rfl) fun a Y => wla Y rfl fun a Y => ab <| bd kr ?_
  refine hK26 _ _ ?_
  replace Y := Y.p10 0 4 5 10 11 12 13 14 15 16 rfl
  rw [show (((v.h + (((ror v.e 6) ^^^ (ror v.e 11)) ^^^ (ror v.e 25))) + ((v.e &&& v.f) ^^^ ((~~~v.e) &&& v.g))) + ((kOf).getD ix 0#32)) + ((sch bs 64).getD ix 0#32) = tOf v (kOf.getD ix 0#32) ((sch bs 64).getD ix 0#32) from by rw [tOf, mix3]] at Y
  rw [show (((ror v.a 2) ^^^ (ror v.a 13)) ^^^ (ror v.a 22)) + (((v.a &&& v.b) ^^^ (v.a &&& v.c)) ^^^ (v.b &&& v.c)) = uOf v from by rw [uOf, mix3]] at Y
  refine aO kr (aP kr fun w20 hxz => ?_)
  replace U := U.grow hxz
  refine aS (k := 0) 22 [2, 3, 6, 9, 14, 15, 18, 21] Y kr kr kr rfx ?_
  replace Y := Y.p10 0 4 5 10 11 12 13 14 15 16 rfl
  refine aA [] (fun i => match i with | _ => fun _ _ => False) 22 [[], [], [0, 1], [], [], [4], [5], [], [7], [8], [], [10], [11], [], [12, 13], [], [], [16], [17], [], [19], [20]] [wv (tOf v (kOf.getD ix 0#32) ((sch bs 64).getD ix 0#32)), wv (uOf v), wv ((tOf v (kOf.getD ix 0#32) ((sch bs 64).getD ix 0#32)) + (uOf v)), wv v.a, z, slAddr z (1 * 1), wv v.b, z, slAddr z (2 * 1), wv v.c, z, slAddr z (3 * 1), wv v.d, wv (tOf v (kOf.getD ix 0#32) ((sch bs 64).getD ix 0#32)), wv (v.d + (tOf v (kOf.getD ix 0#32) ((sch bs 64).getD ix 0#32))), wv v.e, z, slAddr z (5 * 1), wv v.f, z, slAddr z (6 * 1), wv v.g] Y U kr kr kr ?_ ?_ ?_
  ·intro i hi hiq
   match i, hi, hiq with
   | 0, _, _ => exact fun w U => OpV.g (ai rfl)
   | 1, _, _ => exact fun w U => OpV.g (ai rfl)
   | 2, _, _ => exact fun w U => OpV.g (bM rfl rfl)
   | 3, _, _ => exact fun w U => OpV.g (ai rfl)
   | 4, _, _ => exact fun w U => OpV.g (ai rfl)
   | 5, _, _ => exact fun w U => OpV.g ((ak (i := 1) (sT := 134) (U.ow 0 rfl) rfl rfl (runUnderlying134 _) (sizeOf133 _) om (by rw [List.length_map, W8.l_len]; decide)).as (v' := slAddr z (1 * 1)) rfl)
   | 6, _, _ => exact fun w U => OpV.g (ax (u := wv v.b) (i := 1) (j := 0) (U.ow 0 rfl) (by rw [List.length_map, W8.l_len]; decide) rfl (isAgg133 _) rfx)
   | 7, _, _ => exact fun w U => OpV.g (ai rfl)
   | 8, _, _ => exact fun w U => OpV.g ((ak (i := 2) (sT := 134) (U.ow 0 rfl) rfl rfl (runUnderlying134 _) (sizeOf133 _) om (by rw [List.length_map, W8.l_len]; decide)).as (v' := slAddr z (2 * 1)) rfl)
   | 9, _, _ => exact fun w U => OpV.g (ax (u := wv v.c) (i := 2) (j := 0) (U.ow 0 rfl) (by rw [List.length_map, W8.l_len]; decide) rfl (isAgg133 _) rfx)
   | 10, _, _ => exact fun w U => OpV.g (ai rfl)
   | 11, _, _ => exact fun w U => OpV.g ((ak (i := 3) (sT := 134) (U.ow 0 rfl) rfl rfl (runUnderlying134 _) (sizeOf133 _) om (by rw [List.length_map, W8.l_len]; decide)).as (v' := slAddr z (3 * 1)) rfl)
   | 12, _, _ => exact fun w U => OpV.g (ax (u := wv v.d) (i := 3) (j := 0) (U.ow 0 rfl) (by rw [List.length_map, W8.l_len]; decide) rfl (isAgg133 _) rfx)
   | 13, _, _ => exact fun w U => OpV.g (ai rfl)
   | 14, _, _ => exact fun w U => OpV.g (bM rfl rfl)
   | 15, _, _ => exact fun w U => OpV.g (ai rfl)
   | 16, _, _ => exact fun w U => OpV.g (ai rfl)
   | 17, _, _ => exact fun w U => OpV.g ((ak (i := 5) (sT := 134) (U.ow 0 rfl) rfl rfl (runUnderlying134 _) (sizeOf133 _) om (by rw [List.length_map, W8.l_len]; decide)).as (v' := slAddr z (5 * 1)) rfl)
   | 18, _, _ => exact fun w U => OpV.g (ax (u := wv v.f) (i := 5) (j := 0) (U.ow 0 rfl) (by rw [List.length_map, W8.l_len]; decide) rfl (isAgg133 _) rfx)
   | 19, _, _ => exact fun w U => OpV.g (ai rfl)
   | 20, _, _ => exact fun w U => OpV.g ((ak (i := 6) (sT := 134) (U.ow 0 rfl) rfl rfl (runUnderlying134 _) (sizeOf133 _) om (by rw [List.length_map, W8.l_len]; decide)).as (v' := slAddr z (6 * 1)) rfl)
   | 21, _, _ => exact fun w U => OpV.g (ax (u := wv v.g) (i := 6) (j := 0) (U.ow 0 rfl) (by rw [List.length_map, W8.l_len]; decide) rfl (isAgg133 _) rfx)
   | i + 22, h, _ => exact absurd h om
  ·intro i hi
   exact absurd hi sm
  clear Y U
  intro  a w21 Y U
  replace Y : Fr 238 [(198, wv (tOf v (kOf.getD ix 0#32) ((sch bs 64).getD ix 0#32))), (199, wv (uOf v)), (200, wv ((tOf v (kOf.getD ix 0#32) ((sch bs 64).getD ix 0#32)) + (uOf v))), (201, wv v.a), (202, z), (203, slAddr z (1 * 1)), (204, wv v.b), (205, z), (206, slAddr z (2 * 1)), (207, wv v.c), (208, z), (209, slAddr z (3 * 1)), (210, wv v.d), (211, wv (tOf v (kOf.getD ix 0#32) ((sch bs 64).getD ix 0#32))), (212, wv (v.d + (tOf v (kOf.getD ix 0#32) ((sch bs 64).getD ix 0#32)))), (213, wv v.e), (214, z), (215, slAddr z (5 * 1)), (216, wv v.f), (217, z), (218, slAddr z (6 * 1)), (219, wv v.g), (0, _), (4, _), (5, _), (10, _), (11, _), (12, _), (13, _), (14, _), (15, _), (16, _)] [] a := Y
  refine ab <| aQ (k := 22) 24 [23] kr kr kr ?_
  refine aG (E := 133) (sz := 1) rfl [[wv ((tOf v (kOf.getD ix 0#32) ((sch bs 64).getD ix 0#32)) + (uOf v))], [wv v.a], [wv v.b], [wv v.c], [wv (v.d + (tOf v (kOf.getD ix 0#32) ((sch bs 64).getD ix 0#32)))], [wv v.e], [wv v.f], [wv v.g]] kr sm rfl de de Y U ?_
  clear Y U
  intro a w22 Y U
  refine wla Y rfl fun a Y => ab <| bd kr ?_
  refine hK22 _ _ ?_
  replace Y := Y.p6 0 4 5 10 12 11 rfl
  refine ao <| wlm Y rfl fun a Y => wlv Y (aM rfl rfl ⟨om, om⟩) fun a Y => wla Y rfl fun a Y => ab ?_
  replace U : St No w0 [_, _, _, _] w22 := U
  refine ⟨_, ?_, ix + 1, (rnd v (kOf.getD ix 0#32) ((sch bs 64).getD ix 0#32)), (.slice (some ⟨w21.hz, 0, none⟩) 8 8), rfl, om, (by rw [rounds, hrv]), Y.pick [0, 4, 5, 10, 11, 12], U.select [0, 2, 3] de⟩
  omega
 rw [hc9] at Y
 try simp only [qz] at hc9
 obtain rfl : ix = 64 := by omega
 refine aL <| hK18 _ _ <| aa fun K27 hK27 => wla Y rfl fun a Y => ab (hK27 _ _ <| ac fun K28 hK28 => ?_)
 refine aa fun K29 hK29 => wla Y rfl fun a Y => ab (hK29 _ _ <| ap ?_)
 replace U : St No w0 [own (.slice none 0 0) 133 1 (((hv.add v).l.take 0).map fun x => [wv x]), own z 133 1 ((v.l).map fun x => [wv x]), own u 133 1 ((sch bs 64).map fun x => [wv x]), own kz 133 1 ((kOf).map fun x => [wv x])] w15 := U.nil_own
 refine aV (fun m a w => ∃ (q : Nat) (y : Value), m = 8 - q ∧ (q ≤ 8) ∧ Fr 238 [(0, hvv), (4, .slice none 0 0), (11, z), (17, y), (18, iv (q : Int))] [] a ∧ St No w0 [own y 133 1 (((hv.add v).l.take q).map fun x => [wv x]), own z 133 1 ((v.l).map fun x => [wv x])] w) _ ⟨0, .slice none 0 0, rfl, Nat.zero_le _, Y.pick [0, 4, 11, 17, 18], U.select [0, 1] de⟩ ?_
 rintro _ a w23 ⟨q, y, rfl, hq, Y, U⟩
 refine ac fun K30 hK30 => aa fun K31 hK31 => wlm Y rfl fun a Y => wlv Y (v_lt rfl rfl) fun a Y => ab (hK31 _ _ ?_)
 refine az Y rfl (fun hc10 => ?_) (fun hc10 => ?_)
 ·rw [hc10] at Y
  try simp only [qz] at hc10
  refine aq <| hK30 _ _ <| ac fun K32 hK32 => ap <| aO kr (aP kr fun w24 hxz => ?_)
  replace U := U.grow hxz
  refine aS (k := 0) 11 [0, 10] Y kr kr kr rfx ?_
  replace Y := Y.p7 0 4 11 17 18 221 222 rfl
  refine aA [10] (fun i => match i with | 10 => pm (fun b : Nat => .slice (some ⟨b, 0, none⟩) 1 1) (fun b => [own (.slice (some ⟨b, 0, none⟩) 1 1) 133 1 [[wv ((hv.l.getD q 0#32) + (v.l.getD q 0#32))]]]) (fun _ => True) | _ => fun _ _ => False) 11 [[], [], [], [1, 2], [3], [], [], [5, 6], [7], [4, 8], [9]] [y, hvv, iv (q : Int), slAddr hvv (q * 1), wv (hv.l.getD q 0#32), z, iv (q : Int), slAddr z (q * 1), wv (v.l.getD q 0#32), wv ((hv.l.getD q 0#32) + (v.l.getD q 0#32)), undef] Y U kr kr kr ?_ ?_ ?_
  ·intro i hi hiq
   match i, hi, hiq with
   | 0, _, _ => exact fun w U => OpV.g (ai rfl)
   | 1, _, _ => exact fun w U => OpV.g (ai rfl)
   | 2, _, _ => exact fun w U => OpV.g (ai rfl)
   | 3, _, _ => exact fun w U => OpV.g ((ak (i := (q : Int)) (sT := 134) (U.arg hhv) rfl rfl (runUnderlying134 _) (sizeOf133 _) om (by rw [List.length_map]; first | omega | (rw [aF]; omega) | (rw [List.length_take, aF]; omega) | (rw [W8.l_len]; omega) | (rw [bl]; omega))).as (v' := slAddr hvv (q * 1)) rfl)
   | 4, _, _ => exact fun w U => OpV.g (ax (u := wv (hv.l.getD q 0#32)) (i := q) (j := 0) (U.arg hhv) (by rw [List.length_map]; first | omega | (rw [aF]; omega) | (rw [List.length_take, aF]; omega) | (rw [W8.l_len]; omega) | (rw [bl]; omega)) rfl (isAgg133 _) (by rw [br 0#32]; rfl))
   | 5, _, _ => exact fun w U => OpV.g (ai rfl)
   | 6, _, _ => exact fun w U => OpV.g (ai rfl)
   | 7, _, _ => exact fun w U => OpV.g ((ak (i := (q : Int)) (sT := 134) (U.ow 1 rfl) rfl rfl (runUnderlying134 _) (sizeOf133 _) om (by rw [List.length_map]; first | omega | (rw [aF]; omega) | (rw [List.length_take, aF]; omega) | (rw [W8.l_len]; omega) | (rw [bl]; omega))).as (v' := slAddr z (q * 1)) rfl)
   | 8, _, _ => exact fun w U => OpV.g (ax (u := wv (v.l.getD q 0#32)) (i := q) (j := 0) (U.ow 1 rfl) (by rw [List.length_map]; first | omega | (rw [aF]; omega) | (rw [List.length_take, aF]; omega) | (rw [W8.l_len]; omega) | (rw [bl]; omega)) rfl (isAgg133 _) (by rw [br 0#32]; rfl))
   | 9, _, _ => exact fun w U => OpV.g (bM rfl rfl)
   | 10, _, h => exact absurd sm h
  ·intro i hi
   simp only [List.mem_cons, List.not_mem_nil, or_false] at hi
   subst hi
   ·intro w U
    exact aY (E := 133) (sz := 1) rfl [[wv ((hv.l.getD q 0#32) + (v.l.getD q 0#32))]] (fun _ => by kernel_rfl) sm rfl de
  clear Y U
  rintro _ _ ⟨b11, rfl, -, rfl⟩ a w25 Y U
  replace Y : Fr 238 [(225, y), (226, hvv), (227, iv (q : Int)), (228, slAddr hvv (q * 1)), (229, wv (hv.l.getD q 0#32)), (230, z), (231, iv (q : Int)), (232, slAddr z (q * 1)), (233, wv (v.l.getD q 0#32)), (234, wv ((hv.l.getD q 0#32) + (v.l.getD q 0#32))), (235, _), (0, _), (4, _), (11, _), (17, _), (18, _), (221, _), (222, _)] [] a := Y
  replace U : St No w0 [_, _, _] w25 := U
  refine ab <| aQ (k := 11) 13 [12] kr kr kr ?_
  refine bf (i := 1) (sT := 134) (inf := Tryd.t133) (z := wv (0#32)) (b := 0) (off := 0) (m := 0) (c := 0) rfl rfl rfl (U.ow 0 rfl) sm underlying134 rfl rfl rfl rfl de (by simp [Value.oneCell', yv, wv, sv]) (by have hby : Tryd.t133.bytes = 4 := rfl; simp only [big, hby, List.length_append, List.length_map, List.length_take, aF, W8.l_len, List.length_cons, List.length_nil]; omega) (by have hby : Tryd.t133.bytes = 4 := rfl; simp only [big, hby, List.length_append, List.length_map, List.length_take, aF, W8.l_len, List.length_cons, List.length_nil]; omega) de Y U fun a w26 s12 Y U _ => wla Y rfl fun a Y => ab <| bd kr ?_
  refine hK32 _ _ ?_
  replace Y := Y.p5 0 4 11 18 17 rfl
  replace U := U.k2 6 rfl
  refine ao <| wlm Y rfl fun a Y => wlv Y (aM rfl rfl ⟨om, om⟩) fun a Y => wla Y rfl fun a Y => ab ?_
  rw [show (((hv.add v).l.take q).map fun x => [wv x]) ++ ([[wv ((hv.l.getD q 0#32) + (v.l.getD q 0#32))]]) = (((hv.add v).l.take (q + 1)).map fun x => [wv x]) from by rw [nC hv v om]; simp] at U
  refine ⟨_, ?_, q + 1, s12, rfl, om, Y.pick [0, 4, 11, 17, 18], U.select [0, 1] de⟩
  omega
 rw [hc10] at Y
 try simp only [qz] at hc10
 refine aL <| hK28 _ _ <| aa fun K33 hK33 => wlm Y rfl fun a Y => wla Y rfl fun a Y => ab (hK33 _ _ ?_)
 replace Y := Y.p1 4 rfl
 refine au ?_
 refine ar Y results89 (ae rfl ah) ?_
 obtain rfl : q = 8 := by omega
 exact ⟨y, rfl, trivial, U.ext, St.out (E := [own y 133 1 (((block hv bs).l).map fun x => [wv x])]) (H := []) (by rw [block, hrv]; exact U.select [0] de)⟩
theorem mP (v : W8) {q : Nat} (h : q < 8) : v.out.take (4 * (q + 1)) = v.out.take (4 * q) ++ [UInt8.ofNat (v.l.getD q 0#32 >>> 24).toNat, UInt8.ofNat (v.l.getD q 0#32 >>> 16).toNat, UInt8.ofNat (v.l.getD q 0#32 >>> 8).toNat, UInt8.ofNat (v.l.getD q 0#32).toNat] := by
 have : q = 0 ∨ q = 1 ∨ q = 2 ∨ q = 3 ∨ q = 4 ∨ q = 5 ∨ q = 6 ∨ q = 7 := by omega
 rcases this with rfl | rfl | rfl | rfl | rfl | rfl | rfl | rfl <;> simp [W8.out, W8.l, kT]
theorem oi (s : By) (w0 : World) (hs : s.length ≤ 100000000) :
  Ret Tryd.prog 70 #[sv s] w0 fun v w => v = sv (sha s) ∧ Ext No w0 w := by
 have hpb := eR s
 refine aI func70 rfl ntmps70 (lb rfl) fun a Y => ?_
 replace Y := Y.p1 0 rfl
 replace U : St No w0 [] w0 := St.init w0
 refine aa fun K1 hK1 => wla Y rfl fun a Y => ab (hK1 _ _ <| aa fun K2 hK2 => ?_)
 refine aG (E := 133) (sz := 1) rfl [[wv (1779033703#32)], [wv (3144134277#32)], [wv (1013904242#32)], [wv (2773480762#32)], [wv (1359893119#32)], [wv (2600822924#32)], [wv (528734635#32)], [wv (1541459225#32)]] kr sm rfl de de Y U ?_
 clear Y U
 intro a w1 Y U
 refine wla Y rfl fun a Y => ab (hK2 _ _ <| aa fun K3 hK3 => ?_)
 refine wlm Y rfl fun a Y => aX Y U de call88 rfl (jW s _ hs) ?_
 clear Y U
 intro a w2 x1 hp Y U
 revert x1 hp Y U; rintro bz hp Y U
 clear hp
 replace U : St No w0 [_, _] w2 := U
 refine wla Y rfl fun a Y => ab (hK3 _ _ <| ac fun K4 hK4 => ?_)
 refine aa fun K5 hK5 => wla Y rfl fun a Y => ab (hK5 _ _ <| ap ?_)
 replace U : St No w0 [_, _] w2 := U
 refine aV (fun m a w => ∃ (q : Nat) (hz : Value), m = (padded s).length / 64 - q ∧ (q ≤ (padded s).length / 64) ∧ Fr 56 [(2, sv ([])), (4, bz), (3, hz), (5, iv ((64 * q : Nat) : Int))] [] a ∧ St No w0 [own hz 133 1 (((blocks h0 (padded s) q).l).map fun x => [wv x]), own bz 5 1 ((padded s).map fun b => [yv b])] w) _ ⟨0, (.slice (some ⟨w0.hz, 0, none⟩) 8 8), rfl, Nat.zero_le _, Y.pick [2, 4, 3, 5], U.select [1, 0] de⟩ ?_
 rintro _ a w3 ⟨q, hz, rfl, hq, Y, U⟩
 refine ac fun K6 hK6 => aa fun K7 hK7 => wlm Y rfl fun a Y => wlm Y rfl fun a Y => wlv Y ((aK (sT := 71) (U.ow 1 rfl) rfl rfl (runUnderlying71 _)).asi (m' := ((padded s).length : Int)) (by rw [List.length_map])) fun a Y => wlv Y (v_lt rfl rfl) fun a Y => ab (hK7 _ _ ?_)
 refine az Y rfl (fun hc2 => ?_) (fun hc2 => ?_)
 ·rw [hc2] at Y
  try simp only [qz] at hc2
  have hpl := eK s
  refine aq <| hK6 _ _ <| ac fun K8 hK8 => ap <| ao <| wlm Y rfl fun a Y => wlm Y rfl fun a Y => wlm Y rfl fun a Y => wlm Y rfl fun a Y => wlv Y (aM rfl rfl ⟨om, om⟩) fun a Y => wlv Y (bW (l := (64 * q)) (h := (64 * q + 64)) (U.ow 1 rfl) rfl rfl rfl underlying71 kr (.inr (by first | rfl | (rw [show (((64 * q : Nat) : Int) : Int) = (((64 * q) : Nat) : Int) from by omega] <;> rfl))) (.inr (by first | rfl | (rw [show (((64 * q : Nat) : Int) + 64 : Int) = (((64 * q + 64) : Nat) : Int) from by omega] <;> rfl))) om (by first | (rw [List.length_map]; omega) | (simp <;> omega))) fun a Y => aX Y U de call89 rfl (lX hz (cut bz 1 (64 * q) (64 * q + 64) (slCap bz)) (blocks h0 (padded s) q) (((padded s).drop (64 * q)).take 64) _ (U.ow 0 rfl) (by have h := ((U.ow 1 rfl).cutm (l := (64 * q)) (h := (64 * q + 64)) om (by first | omega | (simp; omega))); rwa [show 64 * q + 64 - 64 * q = 64 from by omega] at h) (by simp; omega)) ?_
  clear Y U
  intro a w4 x4 hp Y U
  revert x4 hp Y U; rintro v3 hp Y U
  clear hp
  replace U : St No w0 [_, _, _] w4 := U
  refine wla Y rfl fun a Y => ab <| hK8 _ _ ?_
  replace Y := Y.p4 2 4 5 3 rfl
  refine ao <| wlm Y rfl fun a Y => wlv Y (aM rfl rfl ⟨om, om⟩) fun a Y => wla Y rfl fun a Y => ab ?_
  replace U : St No w0 [_, _, _] w4 := U
  rw [show ((64 * q : Nat) : Int) + 64 = ((64 * (q + 1) : Nat) : Int) from by omega] at Y
  refine ⟨_, ?_, q + 1, v3, rfl, om, Y.pick [2, 4, 3, 5], U.select [0, 2] de⟩
  omega
 rw [hc2] at Y
 try simp only [qz] at hc2
 have hpl := eK s
 obtain rfl : q = (padded s).length / 64 := by omega
 refine aL <| hK4 _ _ <| aa fun K9 hK9 => wla Y rfl fun a Y => ab (hK9 _ _ ?_)
 replace Y := Y.p3 2 3 6 rfl
 refine ac fun K10 hK10 => aa fun K11 hK11 => wla Y rfl fun a Y => ab (hK11 _ _ <| ap ?_)
 replace U : St No w0 [own (.slice none 0 0) 5 1 (((blocks h0 (padded s) ((padded s).length / 64)).out.take (4 * 0)).map fun b => [yv b]), own hz 133 1 (((blocks h0 (padded s) ((padded s).length / 64)).l).map fun x => [wv x]), own bz 5 1 ((padded s).map fun b => [yv b])] w3 := U.nil_own
 refine aV (fun m a w => ∃ (r : Nat) (oz : Value), m = 8 - r ∧ (r ≤ 8) ∧ Fr 56 [(2, sv ([])), (3, hz), (6, oz), (7, iv (r : Int))] [] a ∧ St No w0 [own oz 5 1 (((blocks h0 (padded s) ((padded s).length / 64)).out.take (4 * r)).map fun b => [yv b]), own hz 133 1 (((blocks h0 (padded s) ((padded s).length / 64)).l).map fun x => [wv x])] w) _ ⟨0, .slice none 0 0, rfl, Nat.zero_le _, Y.pick [2, 3, 6, 7], U.select [0, 1] de⟩ ?_
 rintro _ a w5 ⟨r, oz, rfl, hr, Y, U⟩
 refine ac fun K12 hK12 => aa fun K13 hK13 => wlm Y rfl fun a Y => wlv Y (v_lt rfl rfl) fun a Y => ab (hK13 _ _ ?_)
 refine az Y rfl (fun hc5 => ?_) (fun hc5 => ?_)
 ·rw [hc5] at Y
  try simp only [qz] at hc5
  refine aq <| hK12 _ _ <| ac fun K14 hK14 => ap <| aO kr (aP kr fun w6 hxz => ?_)
  replace U := U.grow hxz
  refine aS (k := 0) 25 [0, 24] Y kr kr kr rfx ?_
  replace Y := Y.p6 2 3 6 7 24 25 rfl
  refine aA [24] (fun i => match i with | 24 => pm (fun b : Nat => .slice (some ⟨b, 0, none⟩) 4 4) (fun b => [own (.slice (some ⟨b, 0, none⟩) 4 4) 5 1 [[yv (UInt8.ofNat (((blocks h0 (padded s) ((padded s).length / 64)).l.getD r 0#32) >>> 24).toNat)], [yv (UInt8.ofNat (((blocks h0 (padded s) ((padded s).length / 64)).l.getD r 0#32) >>> 16).toNat)], [yv (UInt8.ofNat (((blocks h0 (padded s) ((padded s).length / 64)).l.getD r 0#32) >>> 8).toNat)], [yv (UInt8.ofNat ((blocks h0 (padded s) ((padded s).length / 64)).l.getD r 0#32).toNat)]]]) (fun _ => True) | _ => fun _ _ => False) 25 [[], [], [], [1, 2], [3], [4], [5], [], [], [7, 8], [9], [10], [11], [], [], [13, 14], [15], [16], [17], [], [], [19, 20], [21], [22], [6, 12, 18, 23]] [oz, hz, iv (r : Int), slAddr hz (r * 1), wv ((blocks h0 (padded s) ((padded s).length / 64)).l.getD r 0#32), wv (((blocks h0 (padded s) ((padded s).length / 64)).l.getD r 0#32) >>> 24), yv (UInt8.ofNat (((blocks h0 (padded s) ((padded s).length / 64)).l.getD r 0#32) >>> 24).toNat), hz, iv (r : Int), slAddr hz (r * 1), wv ((blocks h0 (padded s) ((padded s).length / 64)).l.getD r 0#32), wv (((blocks h0 (padded s) ((padded s).length / 64)).l.getD r 0#32) >>> 16), yv (UInt8.ofNat (((blocks h0 (padded s) ((padded s).length / 64)).l.getD r 0#32) >>> 16).toNat), hz, iv (r : Int), slAddr hz (r * 1), wv ((blocks h0 (padded s) ((padded s).length / 64)).l.getD r 0#32), wv (((blocks h0 (padded s) ((padded s).length / 64)).l.getD r 0#32) >>> 8), yv (UInt8.ofNat (((blocks h0 (padded s) ((padded s).length / 64)).l.getD r 0#32) >>> 8).toNat), hz, iv (r : Int), slAddr hz (r * 1), wv ((blocks h0 (padded s) ((padded s).length / 64)).l.getD r 0#32), yv (UInt8.ofNat ((blocks h0 (padded s) ((padded s).length / 64)).l.getD r 0#32).toNat), undef] Y U kr kr kr ?_ ?_ ?_
  ·intro i hi hiq
   match i, hi, hiq with
   | 0, _, _ => exact fun w U => OpV.g (ai rfl)
   | 1, _, _ => exact fun w U => OpV.g (ai rfl)
   | 2, _, _ => exact fun w U => OpV.g (ai rfl)
   | 3, _, _ => exact fun w U => OpV.g ((ak (i := (r : Int)) (sT := 134) (U.ow 1 rfl) rfl rfl (runUnderlying134 _) (sizeOf133 _) om (by rw [List.length_map]; first | omega | (rw [W8.l_len]; omega))).as (v' := slAddr hz (r * 1)) rfl)
   | 4, _, _ => exact fun w U => OpV.g (ax (u := wv ((blocks h0 (padded s) ((padded s).length / 64)).l.getD r 0#32)) (i := r) (j := 0) (U.ow 1 rfl) (by rw [List.length_map]; first | omega | (rw [W8.l_len]; omega)) rfl (isAgg133 _) (by rw [br 0#32]; rfl))
   | 5, _, _ => exact fun w U => OpV.g (dw (n := 24) rfl rfl)
   | 6, _, _ => exact fun w U => OpV.g (dH rfl kr underlying5)
   | 7, _, _ => exact fun w U => OpV.g (ai rfl)
   | 8, _, _ => exact fun w U => OpV.g (ai rfl)
   | 9, _, _ => exact fun w U => OpV.g ((ak (i := (r : Int)) (sT := 134) (U.ow 1 rfl) rfl rfl (runUnderlying134 _) (sizeOf133 _) om (by rw [List.length_map]; first | omega | (rw [W8.l_len]; omega))).as (v' := slAddr hz (r * 1)) rfl)
   | 10, _, _ => exact fun w U => OpV.g (ax (u := wv ((blocks h0 (padded s) ((padded s).length / 64)).l.getD r 0#32)) (i := r) (j := 0) (U.ow 1 rfl) (by rw [List.length_map]; first | omega | (rw [W8.l_len]; omega)) rfl (isAgg133 _) (by rw [br 0#32]; rfl))
   | 11, _, _ => exact fun w U => OpV.g (dw (n := 16) rfl rfl)
   | 12, _, _ => exact fun w U => OpV.g (dH rfl kr underlying5)
   | 13, _, _ => exact fun w U => OpV.g (ai rfl)
   | 14, _, _ => exact fun w U => OpV.g (ai rfl)
   | 15, _, _ => exact fun w U => OpV.g ((ak (i := (r : Int)) (sT := 134) (U.ow 1 rfl) rfl rfl (runUnderlying134 _) (sizeOf133 _) om (by rw [List.length_map]; first | omega | (rw [W8.l_len]; omega))).as (v' := slAddr hz (r * 1)) rfl)
   | 16, _, _ => exact fun w U => OpV.g (ax (u := wv ((blocks h0 (padded s) ((padded s).length / 64)).l.getD r 0#32)) (i := r) (j := 0) (U.ow 1 rfl) (by rw [List.length_map]; first | omega | (rw [W8.l_len]; omega)) rfl (isAgg133 _) (by rw [br 0#32]; rfl))
   | 17, _, _ => exact fun w U => OpV.g (dw (n := 8) rfl rfl)
   | 18, _, _ => exact fun w U => OpV.g (dH rfl kr underlying5)
   | 19, _, _ => exact fun w U => OpV.g (ai rfl)
   | 20, _, _ => exact fun w U => OpV.g (ai rfl)
   | 21, _, _ => exact fun w U => OpV.g ((ak (i := (r : Int)) (sT := 134) (U.ow 1 rfl) rfl rfl (runUnderlying134 _) (sizeOf133 _) om (by rw [List.length_map]; first | omega | (rw [W8.l_len]; omega))).as (v' := slAddr hz (r * 1)) rfl)
   | 22, _, _ => exact fun w U => OpV.g (ax (u := wv ((blocks h0 (padded s) ((padded s).length / 64)).l.getD r 0#32)) (i := r) (j := 0) (U.ow 1 rfl) (by rw [List.length_map]; first | omega | (rw [W8.l_len]; omega)) rfl (isAgg133 _) (by rw [br 0#32]; rfl))
   | 23, _, _ => exact fun w U => OpV.g (dH rfl kr underlying5)
   | 24, _, h => exact absurd sm h
   | i + 25, h, _ => exact absurd h om
  ·intro i hi
   simp only [List.mem_cons, List.not_mem_nil, or_false] at hi
   subst hi
   ·intro w U
    exact aY (E := 5) (sz := 1) rfl [[yv (UInt8.ofNat (((blocks h0 (padded s) ((padded s).length / 64)).l.getD r 0#32) >>> 24).toNat)], [yv (UInt8.ofNat (((blocks h0 (padded s) ((padded s).length / 64)).l.getD r 0#32) >>> 16).toNat)], [yv (UInt8.ofNat (((blocks h0 (padded s) ((padded s).length / 64)).l.getD r 0#32) >>> 8).toNat)], [yv (UInt8.ofNat ((blocks h0 (padded s) ((padded s).length / 64)).l.getD r 0#32).toNat)]] (fun _ => by kernel_rfl) sm rfl de
  clear Y U
  rintro _ _ ⟨b6, rfl, -, rfl⟩ a w7 Y U
  replace Y : Fr 56 [(28, oz), (29, hz), (30, iv (r : Int)), (31, slAddr hz (r * 1)), (32, wv ((blocks h0 (padded s) ((padded s).length / 64)).l.getD r 0#32)), (33, wv (((blocks h0 (padded s) ((padded s).length / 64)).l.getD r 0#32) >>> 24)), (34, yv (UInt8.ofNat (((blocks h0 (padded s) ((padded s).length / 64)).l.getD r 0#32) >>> 24).toNat)), (35, hz), (36, iv (r : Int)), (37, slAddr hz (r * 1)), (38, wv ((blocks h0 (padded s) ((padded s).length / 64)).l.getD r 0#32)), (39, wv (((blocks h0 (padded s) ((padded s).length / 64)).l.getD r 0#32) >>> 16)), (40, yv (UInt8.ofNat (((blocks h0 (padded s) ((padded s).length / 64)).l.getD r 0#32) >>> 16).toNat)), (41, hz), (42, iv (r : Int)), (43, slAddr hz (r * 1)), (44, wv ((blocks h0 (padded s) ((padded s).length / 64)).l.getD r 0#32)), (45, wv (((blocks h0 (padded s) ((padded s).length / 64)).l.getD r 0#32) >>> 8)), (46, yv (UInt8.ofNat (((blocks h0 (padded s) ((padded s).length / 64)).l.getD r 0#32) >>> 8).toNat)), (47, hz), (48, iv (r : Int)), (49, slAddr hz (r * 1)), (50, wv ((blocks h0 (padded s) ((padded s).length / 64)).l.getD r 0#32)), (51, yv (UInt8.ofNat ((blocks h0 (padded s) ((padded s).length / 64)).l.getD r 0#32).toNat)), (52, _), (2, _), (3, _), (6, _), (7, _), (24, _), (25, _)] [] a := Y
  replace U : St No w0 [_, _, _] w7 := U
  refine ab <| aQ (k := 25) 27 [26] kr kr kr ?_
  refine bf (i := 1) (sT := 71) (inf := Tryd.t5) (z := yv (0 : UInt8)) (b := 0) (off := 0) (m := 0) (c := 0) rfl rfl rfl (U.ow 0 rfl) sm underlying71 rfl rfl rfl rfl de (by simp [Value.oneCell', yv, wv, sv]) (by have hby : Tryd.t5.bytes = 1 := rfl; simp only [big, hby, List.length_append, List.length_map, List.length_take, fQ, List.length_cons, List.length_nil]; omega) (by have hby : Tryd.t5.bytes = 1 := rfl; simp only [big, hby, List.length_append, List.length_map, List.length_take, fQ, List.length_cons, List.length_nil]; omega) de Y U fun a w8 s7 Y U _ => wla Y rfl fun a Y => ab <| bd kr ?_
  refine hK14 _ _ ?_
  replace Y := Y.p4 2 3 7 6 rfl
  replace U := U.k2 6 rfl
  refine ao <| wlm Y rfl fun a Y => wlv Y (aM rfl rfl ⟨om, om⟩) fun a Y => wla Y rfl fun a Y => ab ?_
  rw [show (((blocks h0 (padded s) ((padded s).length / 64)).out.take (4 * r)).map fun b => [yv b]) ++ ([[yv (UInt8.ofNat (((blocks h0 (padded s) ((padded s).length / 64)).l.getD r 0#32) >>> 24).toNat)], [yv (UInt8.ofNat (((blocks h0 (padded s) ((padded s).length / 64)).l.getD r 0#32) >>> 16).toNat)], [yv (UInt8.ofNat (((blocks h0 (padded s) ((padded s).length / 64)).l.getD r 0#32) >>> 8).toNat)], [yv (UInt8.ofNat ((blocks h0 (padded s) ((padded s).length / 64)).l.getD r 0#32).toNat)]]) = (((blocks h0 (padded s) ((padded s).length / 64)).out.take (4 * (r + 1))).map fun b => [yv b]) from by rw [mP _ om]; simp] at U
  refine ⟨_, ?_, r + 1, s7, rfl, om, Y.pick [2, 3, 6, 7], U.select [0, 1] de⟩
  omega
 rw [hc5] at Y
 try simp only [qz] at hc5
 obtain rfl : r = 8 := by omega
 rw [show 4 * 8 = 32 from rfl, List.take_of_length_le (by rw [fQ]; decide)] at U
 refine aL <| hK10 _ _ <| aa fun K15 hK15 => wlm Y rfl fun a Y => wlv Y (dh (U.ow 0 rfl) rfl underlying71 underlying5 underlying9) fun a Y => wla Y rfl fun a Y => ab (hK15 _ _ ?_)
 replace Y := Y.p1 2 rfl
 refine au ?_
 refine ar Y results70 (ae rfl ah) ?_
 exact ⟨by rfl, U.ext⟩
theorem mJ {f z : Nat} (h : z < 128 ^ (f + 1)) (hz : 128 ≤ z) : ∃ g, f = g + 1 := by
 cases f with
 | zero => exfalso; simp at h; omega
 | succ g => exact ⟨g, rfl⟩
theorem iS {f z : Nat} (h : z < 128 ^ (f + 1 + 1)) : z / 128 < 128 ^ (f + 1) := by
 rw [Nat.pow_succ] at h
 exact Nat.div_lt_of_lt_mul (by rw [Nat.mul_comm]; exact h)
theorem oD {f z : Nat} (h : 128 ≤ z) : vb (f + 1) z = UInt8.ofNat (z % 128 + 128) :: vb f (z / 128) := by rw [vb, if_neg om]
theorem oq {f z : Nat} (h : z < 128) : vb f z = [UInt8.ofNat z] := by cases f <;> simp [vb, h]
theorem kH {n : Int} (h : small n) : zz n < 128 ^ (8 + 1) := by
 have := oR h.1 h.2
 have e : (128 : Nat) ^ (8 + 1) = 9223372036854775808 := by decide
 rw [e]; exact this
theorem nw {n : Int} (h : small n) : zz n < 18446744073709551616 := by have := oR h.1 h.2; omega
def gs : Nat → Nat → List (UInt8 × Bool)
 | 0, z => [(UInt8.ofNat (z % 128), true)]
 | f + 1, z => if z < 128 then [(UInt8.ofNat (z % 128), true)] else (UInt8.ofNat (z % 128), false) :: gs f (z / 128)
def enc1 (x : UInt8 × Bool) : UInt8 := if x.2 then x.1 else x.1 ||| 128
def encG (x : UInt8 × Bool) : List Value := [yv x.1, .bool x.2]
def NxG (pre : List (UInt8 × Bool)) (x : UInt8 × Bool) : Prop := pre.length < 9
theorem nR {f z : Nat} (h : ¬ z < 128) : gs (f + 1) z = (UInt8.ofNat (z % 128), false) :: gs f (z / 128) := by rw [gs, if_neg h]
theorem nQ {f z : Nat} (h : z < 128) : gs f z = [(UInt8.ofNat (z % 128), true)] := by cases f <;> simp [gs, h]
theorem or128 : ∀ k, k < 128 → UInt8.ofNat k ||| 128 = UInt8.ofNat (k + 128) := by decide
theorem oW : ∀ (f z : Nat), z < 128 ^ (f + 1) → (gs f z).map enc1 = vb f z
 | 0, z, h => by simp [gs, vb, enc1] at h ⊢; rw [Nat.mod_eq_of_lt h]
 | f + 1, z, h => by
  unfold gs vb
  split
  ·rename_i h1
   simp [enc1, Nat.mod_eq_of_lt h1]
  ·rw [List.map_cons, oW f _ (iS h), enc1]
   simp only [Bool.false_eq_true, if_false]
   rw [or128 _ (Nat.mod_lt _ de)]
def cu (n : Int) : Nat := (n % 18446744073709551616).toNat
theorem v_zz {P : Program} {w : World} {L : List (Nat × Value)} {dst : Option Tmp} {T T' ty : TypeId} {pos : String} {af : Array Edge} {gd : Option (Nat × Bool)} {x y : Operand} {n : Int} (hs : small n)
  (hx : ev L x = some (.int .u64 ((cu n * 2 % 18446744073709551616 : Nat) : Int))) (hy : ev L y = some (.int .u64 ((cu (if n < 0 then -1 else 0) : Nat) : Int))) : OpV P ⟨dst, .binOp .xor T x y T', ty, pos, af, gd⟩ L w (.int .u64 ((zz n : Nat) : Int)) := by
 have h1 := hs.1
 have h2 := hs.2
 by_cases hn : n < 0
 ·rw [if_pos hn] at hy
  have e : zz n = 18446744073709551615 - cu n * 2 % 18446744073709551616 := by unfold zz cu; rw [if_pos hn]; omega
  rw [e]
  exact nW (Nat.mod_lt _ de) hx (by rw [hy]; rfl)
 ·rw [if_neg hn] at hy
  have e : zz n = cu n * 2 % 18446744073709551616 := by unfold zz cu; rw [if_neg hn]; omega
  rw [e]
  exact nT (Nat.mod_lt _ de) hx (by rw [hy]; rfl)
theorem lY (n : Int) (w0 : World) (hs : small n) :
  Ret Tryd.prog 77 #[iv n] w0 fun v w => v = .int .u64 ((zz n : Nat) : Int) ∧ Ext No w0 w := by
 have hs1 := hs.1
 have hs2 := hs.2
 refine aI func77 rfl ntmps77 (lb rfl) fun a Y => ?_
 replace Y := Y.p1 0 rfl
 replace U : St No w0 [] w0 := St.init w0
 refine aa fun K1 hK1 => wla Y rfl fun a Y => ab (hK1 _ _ <| ac fun K2 hK2 => ?_)
 refine aa fun K3 hK3 => wlm Y rfl fun a Y => wlv Y (v_lt rfl rfl) fun a Y => ab (hK3 _ _ ?_)
 refine az Y rfl (fun hc1 => ?_) (fun hc1 => ?_)
 ·rw [hc1] at Y
  try simp only [qz] at hc1
  refine aa fun K4 hK4 => wlm Y rfl fun a Y => wlv Y (ig rfl om om) fun a Y => wlv Y ((da rfl kr underlying118).asi (m' := (((-n).toNat : Nat) : Int)) om) fun a Y => wlv Y (ml (m := (-n).toNat) (n := 2) om rfl rfl) fun a Y => wlv Y (nI (m := ((-n).toNat * 2)) (n := 1) om om rfl rfl) fun a Y => wla Y rfl fun a Y => ab (hK4 _ _ ?_)
  replace Y := Y.p2 0 2 rfl
  refine au ?_
  refine ar Y results77 (ae rfl ah) ?_
  refine ⟨congrArg (Value.int .u64) ?_, U.ext⟩
  unfold zz
  split <;> omega
 rw [hc1] at Y
 try simp only [qz] at hc1
 refine aq <| hK2 _ _ <| aa fun K5 hK5 => wlm Y rfl fun a Y => wlv Y ((da rfl kr underlying118).asi (m' := (((n).toNat : Nat) : Int)) om) fun a Y => wlv Y (ml (m := (n).toNat) (n := 2) om rfl rfl) fun a Y => wla Y rfl fun a Y => ab (hK5 _ _ ?_)
 replace Y := Y.p1 2 rfl
 refine au ?_
 refine ar Y results77 (ae rfl ah) ?_
 refine ⟨congrArg (Value.int .u64) ?_, U.ext⟩
 unfold zz
 split <;> omega
theorem cy (n : Int) (w0 : World) (hs : small n) :
  Ret Tryd.prog 53 #[iv n] w0 fun v w => v = .tuple #[sv (putI n), iv 0] ∧ Ext No w0 w := by
 refine aI func53 rfl ntmps53 (lb rfl) fun a Y => ?_
 replace Y := Y.p1 0 rfl
 replace U : St No w0 [] w0 := St.init w0
 refine aa fun K1 hK1 => wla Y rfl fun a Y => wla Y rfl fun a Y => ab (hK1 _ _ <| ac fun K2 hK2 => ?_)
 refine aa fun K3 hK3 => wlm Y rfl fun a Y => wlv Y ((v_lt rfl rfl).asb (b' := false) (by rw [decide_eq_false_iff_not]; have := hs.1; omega)) fun a Y => wlm Y rfl fun a Y => wly Y (ai rfl) fun a Y => wly Y ((v_gt rfl rfl).asb (b' := false) (by rw [decide_eq_false_iff_not]; have := hs.2; omega)) fun a Y => wlv Y (aw rfl rfl) fun a Y => ab (hK3 _ _ <| aE Y rfl ?_)
 refine aq <| hK2 _ _ <| aa fun K4 hK4 => wlm Y rfl fun a Y => am Y U de call77 rfl (lY n _ hs) ?_
 clear Y U
 intro a w1 Y U
 refine wla Y rfl fun a Y => ab (hK4 _ _ ?_)
 replace Y := Y.p3 2 3 4 rfl
 refine aa fun K5 hK5 => wla Y rfl fun a Y => ab (hK5 _ _ <| ac fun K6 hK6 => ?_)
 refine ap ?_
 replace U : St No w0 [own (.slice none 0 0) 5 1 ((([] : By)).map fun b => [yv b])] w1 := U.nil_own
 refine aV (fun m a w => ∃ (f : Nat) (z : Nat) (bs : By) (v : Value), m = f ∧ (bs ++ vb f z = putI n) ∧ (z < 128 ^ (f + 1)) ∧ (bs.length + f = 8) ∧ (z < 18446744073709551616) ∧ Fr 31 [(2, sv ([])), (3, iv 0), (4, .int .u64 (z : Int)), (5, v)] [] a ∧ St No w0 [own v 5 1 ((bs).map fun b => [yv b])] w) _ ⟨8, zz n, [], .slice none 0 0, rfl, rfl, kH hs, rfl, nw hs, Y.pick [2, 3, 4, 5], U⟩ ?_
 rintro _ a w2 ⟨f, z, bs, v, rfl, hb, hz, hl, hz6, Y, U⟩
 refine ac fun K7 hK7 => aa fun K8 hK8 => wlm Y rfl fun a Y => wlv Y (v_ge rfl rfl) fun a Y => ab (hK8 _ _ ?_)
 refine az Y rfl (fun hc1 => ?_) (fun hc1 => ?_)
 ·rw [hc1] at Y
  try simp only [qz] at hc1
  obtain ⟨g, rfl⟩ := mJ hz om
  rw [oD om] at hb
  refine aq <| hK7 _ _ <| ap <| aa fun K9 hK9 => wlm Y rfl fun a Y => wlm Y rfl fun a Y => wlv Y (kA (m := z) (n := 128) om rfl rfl) fun a Y => wlv Y (nH (m := (z % 128)) (n := 128) om rfl rfl) fun a Y => wlv Y (fp (n := ((z % 128) + 128)) rfl kr underlying5) fun a Y => aG (E := 5) (sz := 1) rfl [[yv (UInt8.ofNat ((z % 128) + 128))]] kr sm rfl de de Y U ?_
  clear Y U
  intro a w3 Y U
  refine bf (i := 1) (sT := 71) (inf := Tryd.t5) (z := yv (0 : UInt8)) (b := 0) (off := 0) (m := 0) (c := 0) rfl rfl rfl (U.ow 0 rfl) sm underlying71 rfl rfl rfl rfl de (by simp [Value.oneCell', yv, wv, sv]) (by have hby : Tryd.t5.bytes = 1 := rfl; simp [big, hby] <;> omega) (by have hby : Tryd.t5.bytes = 1 := rfl; simp [big, hby] <;> omega) de Y U fun a w4 s2 Y U _ => ?_
  rw [show ((bs).map fun b => [yv b]) ++ ([[yv (UInt8.ofNat ((z % 128) + 128))]]) = ((bs ++ [(UInt8.ofNat ((z % 128) + 128))]).map fun b => [yv b]) from by simp] at U
  refine wla Y rfl fun a Y => ab (hK9 _ _ ?_)
  replace Y := Y.p4 2 3 4 5 rfl
  replace U := U.k1 2 rfl
  refine ao <| wlm Y rfl fun a Y => wlv Y (nE (m := z) (n := 128) om om rfl rfl) fun a Y => wla Y rfl fun a Y => ab ?_
  refine ⟨_, ?_, g, z / 128, bs ++ [UInt8.ofNat (z % 128 + 128)], s2, rfl, (by rw [List.append_assoc]; exact hb), (iS hz), (by rw [List.length_append]; simp; omega), om, Y.pick [2, 3, 4, 5], U⟩
  omega
 rw [hc1] at Y
 try simp only [qz] at hc1
 rw [oq om] at hb
 refine aL <| hK6 _ _ <| aa fun K10 hK10 => wlm Y rfl fun a Y => wlm Y rfl fun a Y => wlv Y (fp (n := z) rfl kr underlying5) fun a Y => aG (E := 5) (sz := 1) rfl [[yv (UInt8.ofNat z)]] kr sm rfl de de Y U ?_
 clear Y U
 intro a w5 Y U
 refine bf (i := 1) (sT := 71) (inf := Tryd.t5) (z := yv (0 : UInt8)) (b := 0) (off := 0) (m := 0) (c := 0) rfl rfl rfl (U.ow 0 rfl) sm underlying71 rfl rfl rfl rfl de (by simp [Value.oneCell', yv, wv, sv]) (by have hby : Tryd.t5.bytes = 1 := rfl; simp [big, hby] <;> omega) (by have hby : Tryd.t5.bytes = 1 := rfl; simp [big, hby] <;> omega) de Y U fun a w6 s3 Y U _ => ?_
 rw [show ((bs).map fun b => [yv b]) ++ ([[yv (UInt8.ofNat z)]]) = ((bs ++ [(UInt8.ofNat z)]).map fun b => [yv b]) from by simp] at U
 refine wlv Y (dh (U.ow 1 rfl) rfl underlying71 underlying5 underlying9) fun a Y => wla Y rfl fun a Y => wla Y rfl fun a Y => ab (hK10 _ _ ?_)
 replace Y := Y.p2 2 3 rfl
 replace U : St No w0 [] w6 := U.mask [false, false]
 refine au ?_
 refine ar Y results53 (ae rfl (ae rfl ah)) ?_
 exact ⟨by rw [← hb]; rfl, U.ext⟩
theorem lA (z : Nat) (w0 : World) :
  Ret Tryd.prog 91 #[.int .u64 (z : Int)] w0 (MemR w0 (fun b : Nat => .func (.func 104) #[] #[pq b]) (fun b => [blk b [.int .u64 (z : Int)] 118]) (fun _ => True)) := by
 refine aI func91 rfl ntmps91 (lb rfl) fun a Y => ?_
 replace Y := Y.p1 0 rfl
 replace U : St No w0 [] w0 := St.init w0
 refine aa fun K1 hK1 => bh Y U de rfl (cs := [.int .u64 (z : Int)]) rfl ?_
 clear Y U
 intro a w1 Y U
 refine wla Y rfl fun a Y => ab (hK1 _ _ <| aa fun K2 hK2 => ?_)
 refine wlv Y (cz rfl rfl) fun a Y => wla Y rfl fun a Y => ab (hK2 _ _ <| au ?_)
 refine ar Y results91 (ae rfl ah) ?_
 exact ⟨w0.hz, rfl, trivial, U.ext, St.out (H := []) U⟩
theorem kB {M : Nat → Prop} {w0 : World} (z0 lp bg : Nat) (J Jx : List (UInt8 × Bool) → Ent → Prop) (hY : Rounds Tryd.prog M w0 lp encG NxG J Jx) (e0 : Ent) (ws : World) (hz0 : z0 < 128 ^ (8 + 1)) (hz06 : z0 < 18446744073709551616) (hJ : J [] e0) (U : St M w0 [e0, blk bg [.int .u64 (z0 : Int)] 118] ws) :
  Ret Tryd.prog 104 #[.func (.yield lp) #[] #[], pq bg] ws fun _ w => ∃ e1 Hi1, St M w0 (e1 :: Hi1) w ∧ ((∃ xs, (xs = gs 8 z0 ∧ ∃ z1 : Nat, Hi1 = [blk bg [.int .u64 (z1 : Int)] 118]) ∧ J xs e1) ∨ (∃ pre, (∃ z1 : Nat, Hi1 = [blk bg [.int .u64 (z1 : Int)] 118]) ∧ Jx pre e1)) := by
 refine aI func104 rfl ntmps104 (lb rfl) fun a Y => ?_
 replace Y := Y.p2 0 1 rfl
 skip
 refine ap <| aV (fun m a w => ∃ (f : Nat) (z : Nat) (e : Ent) (dn : List (UInt8 × Bool)), m = f ∧ (dn ++ gs f z = gs 8 z0) ∧ (z < 128 ^ (f + 1)) ∧ (dn.length + f = 8) ∧ (z < 18446744073709551616) ∧ (J dn e) ∧ Fr 18 [(0, .func (.yield lp) #[] #[]), (1, pq bg)] [] a ∧ St M w0 [e, blk bg [.int .u64 (z : Int)] 118] w) _ ⟨8, z0, e0, [], rfl, rfl, hz0, rfl, hz06, hJ, Y.pick [0, 1], U⟩ ?_
 rintro _ a w1 ⟨f, z, e, dn, rfl, hg, hz, hl, hz6, hJ, Y, U⟩
 refine ap <| aa fun K1 hK1 => wlv Y (ld U 1 rfl rfl (isAgg118 _) rfl) fun a Y => wlv Y (v_lt rfl rfl) fun a Y => wla Y rfl fun a Y => ab (hK1 _ _ <| ac fun K2 hK2 => ?_)
 refine aa fun K3 hK3 => wlm Y rfl fun a Y => wlv Y (ld U 1 rfl rfl (isAgg118 _) rfl) fun a Y => wlv Y ((nG (m := z) (k := 7) om om rfl rfl).asi (m' := ((z % 128 : Nat) : Int)) rfl) fun a Y => wlv Y (fp (n := (z % 128)) rfl kr underlying5) fun a Y => wlm Y rfl fun a Y => wl_r (eZ rfl rfl (hY.yield (pre := dn) (x := (UInt8.ofNat (z % 128), decide ((z : Int) < 128))) (by show dn.length < 9; omega) hJ (U.only (i := 0) rfl))) rfl rfl Y ?_
 clear Y
 intro a v w2 hR Y
 obtain ⟨y1, e2, rfl, hx, hok, hft, hJt, hJf⟩ := hR
 replace U := U.exchange (k := 0) rfl hx hok hft
 replace U : St M w0 [_, _] w2 := U
 clear hx hok hft
 refine wlv Y (bn rfl) fun a Y => wlm Y rfl fun a Y => ?_
 rcases Bool.eq_false_or_eq_true (!y1) with hb3 | hb3
 ·rw [hb3] at Y
  try simp only [qz] at hb3
  have hJ := hJf hb3
  refine wln Y fun a Y => wlv Y (aB rfl rfl) fun a Y => ab (hK3 _ _ ?_)
  replace Y := Y.p3 0 1 15 rfl
  refine aD Y rfl ?_
  refine au ?_
  refine ar Y results104 ah ?_
  first | exact ⟨_, _, U, .inl ⟨_, ⟨rfl, _, rfl⟩, hJ⟩⟩ | exact ⟨_, _, U, .inr ⟨_, ⟨_, rfl⟩, hJ⟩⟩
 rw [hb3] at Y
 try simp only [qz] at hb3
 have hJ := hJt hb3
 refine wly Y (ai rfl) fun a Y => wlv Y (aw rfl rfl) fun a Y => ab (hK3 _ _ ?_)
 replace Y := Y.p3 0 1 15 rfl
 refine az Y rfl (fun hc4 => ?_) (fun hc4 => ?_)
 ·rw [hc4] at Y
  try simp only [qz] at hc4
  rw [decide_eq_true hc4] at hJ
  rw [nQ om] at hg
  rw [hg] at hJ
  refine au ?_
  refine ar Y results104 ah ?_
  first | exact ⟨_, _, U, .inl ⟨_, ⟨rfl, _, rfl⟩, hJ⟩⟩ | exact ⟨_, _, U, .inr ⟨_, ⟨_, rfl⟩, hJ⟩⟩
 rw [hc4] at Y
 try simp only [qz] at hc4
 rw [decide_eq_false hc4] at hJ
 obtain ⟨g, rfl⟩ := mJ hz om
 rw [nR om] at hg
 refine aq <| hK2 _ _ <| ao <| wlv Y (ld U 1 rfl rfl (isAgg118 _) rfl) fun a Y => wlv Y ((nt (m := z) (n := 7) om rfl rfl).asi (m' := ((z / 128 : Nat) : Int)) rfl) fun a Y => ay 1 Y U rfl rfl rfl (sizeOf118 _) rfl (lb rfl) (ds := [.int .u64 ((z / 128 : Nat) : Int)]) rfl rfl ?_
 clear Y U
 intro a w3 Y U
 refine ab ?_
 refine ⟨_, ?_, g, z / 128, e2, dn ++ [(UInt8.ofNat (z % 128), false)], rfl, (by rw [List.append_assoc]; exact hg), (iS hz), (by rw [List.length_append]; simp; omega), om, hJ, Y.pick [0, 1], U⟩
 omega
theorem jZ {M : Nat → Prop} {w0 : World} (z0 bg : Nat) (hz0 : z0 < 128 ^ (8 + 1)) (hz06 : z0 < 18446744073709551616) :
  Iter Tryd.prog 104 [pq bg] encG NxG (fun xs Hi1 => xs = gs 8 z0 ∧ ∃ z1 : Nat, Hi1 = [blk bg [.int .u64 (z1 : Int)] 118]) (fun pre Hi1 => ∃ z1 : Nat, Hi1 = [blk bg [.int .u64 (z1 : Int)] 118]) M w0 [blk bg [.int .u64 (z0 : Int)] 118] :=
 fun lp J Jx w e hY hJ U => kB z0 lp bg J Jx hY e w hz0 hz06 hJ U
theorem ib (n : Int) (w0 : World) (hs : small n) :
  Ret Tryd.prog 75 #[iv n] w0 fun v w => v = .tuple #[sv (putI n), iv 0] ∧ Ext No w0 w := by
 have hs1 := hs.1
 have hs2 := hs.2
 refine aI func75 rfl ntmps75 (lb rfl) fun a Y => ?_
 replace Y := Y.p1 0 rfl
 replace U : St No w0 [] w0 := St.init w0
 refine aa fun K1 hK1 => wla Y rfl fun a Y => wla Y rfl fun a Y => ab (hK1 _ _ <| ac fun K2 hK2 => ?_)
 refine aa fun K3 hK3 => wlm Y rfl fun a Y => wlv Y ((v_lt rfl rfl).asb (b' := false) (by rw [decide_eq_false_iff_not]; have := hs.1; omega)) fun a Y => wlm Y rfl fun a Y => wly Y (ai rfl) fun a Y => wly Y ((v_gt rfl rfl).asb (b' := false) (by rw [decide_eq_false_iff_not]; have := hs.2; omega)) fun a Y => wlv Y (aw rfl rfl) fun a Y => ab (hK3 _ _ <| aE Y rfl ?_)
 refine aq <| hK2 _ _ <| aa fun K4 hK4 => aC Y U de (zeroValue71 _) (cs := [.slice none 0 0]) rfl ?_
 clear Y U
 intro a w1 Y U
 refine ab (hK4 _ _ ?_)
 replace Y := Y.p4 0 2 3 4 rfl
 refine ac fun K5 hK5 => aa fun K6 hK6 => wlm Y rfl fun a Y => wlv Y ((da rfl kr underlying118).asi (m' := ((cu (n) : Nat) : Int)) rfl) fun a Y => wlv Y (kJ (m := cu n) (n := 1) om rfl rfl) fun a Y => wlm Y rfl fun a Y => wlv Y (nZ om om rfl rfl) fun a Y => wlv Y ((da rfl kr underlying118).asi (m' := ((cu (if n < 0 then -1 else 0) : Nat) : Int)) rfl) fun a Y => wlv Y (v_zz hs rfl rfl) fun a Y => aX Y U de call91 rfl (lA (zz n) _) ?_
 clear Y U
 intro a w2 x1 hp Y U
 revert x1 hp Y U; rintro bg hp Y U
 clear hp
 replace U : St No w0 [_, _] w2 := U
 refine ab (hK6 _ _ ?_)
 replace Y := Y.p4 2 3 4 20 rfl
 refine ap ?_
 replace U : St No w0 [own (.slice none 0 0) 5 1 ((([] : List (UInt8 × Bool)).map enc1).map fun b => [yv b]), blk bg [.int .u64 (zz n : Int)] 118, blk w0.hz [.slice none 0 0] 71] w2 := U.nil_own
 replace U : St No w0 [blk w0.hz [.slice none 0 0] 71, own (.slice none 0 0) 5 1 ((([] : List (UInt8 × Bool)).map enc1).map fun b => [yv b]), blk bg [.int .u64 (zz n : Int)] 118] w2 := U.select [2, 0, 1] de
 replace Y : Fr 33 [(2, sv ([])), (3, iv 0), (4, pq w0.hz), (20, .func (.func 104) #[] #[pq bg])] [] a := Y.pick [2, 3, 4, 20]
 refine cT (M := No) (w0 := w0) (encs := encG) (Hi := [blk bg [.int .u64 (zz n : Int)] 118]) (Hc := [blk w0.hz [.slice none 0 0] 71, own (.slice none 0 0) 5 1 ((([] : List (UInt8 × Bool)).map enc1).map fun b => [yv b])]) (fun pre H => ∃ (v : Value), H = [blk w0.hz [v] 71, own v 5 1 ((pre.map enc1).map fun b => [yv b])]) (fun _ _ _ => False) (fun pre xs H a => Fr 33 [(2, sv ([])), (3, iv 0), (4, pq w0.hz), (20, .func (.func 104) #[] #[pq bg]), (5, yv xs.1), (6, .bool xs.2)] [] a ∧ ∃ (v : Value), H = [blk w0.hz [v] 71, own v 5 1 ((pre.map enc1).map fun b => [yv b])]) rfl call104 Y U (jZ (zz n) bg (kH hs) (nw hs)) de (fun _ => rfl) ⟨.slice none 0 0, rfl⟩ ?_ ?_ ?_ ?_
 ·clear Y U
  rintro lp pre xs _ a w3 hnx ⟨v, rfl⟩ Y U
  generalize (join [blk w0.hz [v] 71, own v 5 1 ((pre.map enc1).map fun b => [yv b])]).foot = M1 at U ⊢
  replace Y : Fr 33 [(22, .bool xs.2), (21, yv xs.1), (2, sv ([])), (3, iv 0), (4, pq w0.hz), (20, .func (.func 104) #[] #[pq bg])] [] a := Y
  refine aa fun K7 hK7 => wla Y rfl fun a Y => ab (hK7 _ _ <| ao ?_)
  refine wla Y rfl fun a Y => ab ?_
  exact ⟨_, ⟨Y.pick [2, 3, 4, 20, 5, 6], v, rfl⟩, U⟩
 ·rintro lp pre xs _ a w4 hnx ⟨Y, v, rfl⟩ hout hrec hnl U
  clear hrec hnl
  generalize (join [blk w0.hz [v] 71, own v 5 1 ((pre.map enc1).map fun b => [yv b])]).foot = M1 at U hout ⊢
  refine ap <| ac fun K8 hK8 => aa fun K9 hK9 => wlm Y rfl fun a Y => wlv Y (bn rfl) fun a Y => ab (hK9 _ _ ?_)
  refine az Y rfl (fun hc2 => ?_) (fun hc2 => ?_)
  ·rw [hc2] at Y
   try simp only [qz] at hc2
   refine ao <| wlm Y rfl fun a Y => wlv Y (v_yor (a := xs.1) (b := (128 : UInt8)) rfl rfl) fun a Y => wla Y rfl fun a Y => ab <| hK8 _ _ ?_
   replace Y := Y.p4 2 3 4 5 rfl
   refine ao <| wlv Y (ld U 0 rfl rfl (isAgg71 _) rfl) fun a Y => wlm Y rfl fun a Y => aG (E := 5) (sz := 1) rfl [[yv (xs.1 ||| (128 : UInt8))]] kr sm rfl de de Y U ?_
   clear Y U
   intro a w5 Y U
   refine bf (i := 2) (sT := 71) (inf := Tryd.t5) (z := yv (0 : UInt8)) (b := 0) (off := 0) (m := 0) (c := 0) rfl rfl rfl (U.ow 0 rfl) sm underlying71 rfl rfl rfl rfl de (by simp [Value.oneCell', yv, wv, sv]) (by have hby : Tryd.t5.bytes = 1 := rfl; have : pre.length < 9 := hnx; simp [big, hby] <;> omega) (by have hby : Tryd.t5.bytes = 1 := rfl; have : pre.length < 9 := hnx; simp [big, hby] <;> omega) de Y U fun a w6 s3 Y U _ => ?_
   rw [show ((pre.map enc1).map fun b => [yv b]) ++ ([[yv (xs.1 ||| (128 : UInt8))]]) = (((pre ++ [xs]).map enc1).map fun b => [yv b]) from by simp [enc1, hc2]] at U
   refine cf 1 Y U (U.ow 2 rfl) rfl rfl rfl (sizeOf71 _) (lb rfl) (ds := [s3]) rfl rfl ?_
   clear Y U
   intro a w7 Y U
   refine ab ?_
   exact ⟨_, ⟨s3, rfl⟩, U.select [1, 2] de⟩
  rw [hc2] at Y
  try simp only [qz] at hc2
  refine aq <| hK8 _ _ <| ao <| wlv Y (ld U 0 rfl rfl (isAgg71 _) rfl) fun a Y => wlm Y rfl fun a Y => aG (E := 5) (sz := 1) rfl [[yv xs.1]] kr sm rfl de de Y U ?_
  clear Y U
  intro a w8 Y U
  refine bf (i := 2) (sT := 71) (inf := Tryd.t5) (z := yv (0 : UInt8)) (b := 0) (off := 0) (m := 0) (c := 0) rfl rfl rfl (U.ow 0 rfl) sm underlying71 rfl rfl rfl rfl de (by simp [Value.oneCell', yv, wv, sv]) (by have hby : Tryd.t5.bytes = 1 := rfl; have : pre.length < 9 := hnx; simp [big, hby] <;> omega) (by have hby : Tryd.t5.bytes = 1 := rfl; have : pre.length < 9 := hnx; simp [big, hby] <;> omega) de Y U fun a w9 s4 Y U _ => ?_
  rw [show ((pre.map enc1).map fun b => [yv b]) ++ ([[yv xs.1]]) = (((pre ++ [xs]).map enc1).map fun b => [yv b]) from by simp [enc1, hc2]] at U
  refine cf 1 Y U (U.ow 2 rfl) rfl rfl rfl (sizeOf71 _) (lb rfl) (ds := [s4]) rfl rfl ?_
  clear Y U
  intro a w10 Y U
  refine ab ?_
  exact ⟨_, ⟨s4, rfl⟩, U.select [1, 2] de⟩
 ·rintro D pre _ _ a w11 ⟨rfl, z1, rfl⟩ ⟨v, rfl⟩ U Y
  replace Y : Fr 33 [(2, sv ([])), (3, iv 0), (4, pq w0.hz), (20, .func (.func 104) #[] #[pq bg])] [{ target := .collected D, args := #[] }] a := Y
  replace U : St No w0 [_, _, _, _] w11 := U
  refine hK5 _ _ <| aa fun K10 hK10 => wlv Y (ld U 1 rfl rfl (isAgg71 _) rfl) fun a Y => wlv Y (dh (U.ow 2 rfl) rfl underlying71 underlying5 underlying9) fun a Y => wla Y rfl fun a Y => wla Y rfl fun a Y => ab (hK10 _ _ <| au ?_)
  have hD := U.g 0 rfl
  replace U := U.unmark (i := 0) (o' := .deferred none) rfl
  replace U : St No w0 [_, _, _] _ := U
  refine bR Y hD results75 (ae rfl (ae rfl ah)) ?_
  exact ⟨by rw [oW 8 _ (kH hs)]; rfl, U.ext⟩
 ·rintro D c pre _ _ a w12 _ h
  exact h.elim
def bld (T : TypeId) (b : Nat) (ad v : Value) (bs : By) : Ent := join [blk b [ad, v] T, own v 5 1 ((bs).map fun b => [yv b])]
theorem gm {M : Nat → Prop} {w0 w : World} {T : TypeId} {b : Nat} {ad v : Value} {bs : By} {H : List Ent} (h : St M w0 (bld T b ad v bs :: H) w) : St M w0 ([blk b [ad, v] T, own v 5 1 ((bs).map fun b => [yv b])] ++ H) w := St.unjoin _ _ h
theorem jf (T : TypeId) (b : Nat) (v : Value) (w0 : World) (hlie : liesAt Tryd.prog Tryd.prog.depth T (2 / Tryd.prog.cellsOf T) 0 83 1 = true) (hb : (blk b [.pointer none, v] T).ok w0) :
  Ret Tryd.prog 76 #[pq b] w0 fun u w => u = .tuple #[] ∧ Ext (· = b) w0 w ∧ (blk b [pq b, v] T).ok w := by
 refine aI func76 rfl ntmps76 (lb rfl) fun a Y => ?_
 replace Y := Y.p1 0 rfl
 replace U : St (· = b) w0 [blk b [.pointer none, v] T] w0 := St.one hb
 refine aa fun K1 hK1 => wlm Y rfl fun a Y => wlv Y (bp rfl) fun a Y => wlv Y (al (v := pq b) rfl kr) fun a Y => wlv Y (ld U 0 rfl rfl (isAgg81 _) rfl) fun a Y => wlv Y (pk rfl rfl underlying81) fun a Y => ab (hK1 _ _ <| aD Y rfl ?_)
 refine ao <| wlm Y rfl fun a Y => wlm Y rfl fun a Y => wlv Y (kt (j := Tryd.t83) (U.g 0 rfl) rfl underlying81 underlying141 rfl rfl sm) fun a Y => wlv Y (kC func92 kr kr kr kr rfl) fun a Y => wlv Y (iW (j := Tryd.t83) (U.g 0 rfl) rfl underlying141 underlying81 rfl hlie) fun a Y => wlv Y (bp rfl) fun a Y => wlv Y (al (v := pq b) rfl kr) fun a Y => ay 0 Y U rfl rfl rfl (sizeOf81 _) rfl (lb rfl) (ds := [pq b, v]) rfl rfl ?_
 clear Y U
 intro a w2 Y U
 refine ab ?_
 refine dv Y results76 ah ?_
 exact ⟨rfl, U.ext, U.g 0 rfl⟩
theorem ke (T : TypeId) (b : Nat) (v : Value) (w0 : World) (hlie : liesAt Tryd.prog Tryd.prog.depth T (2 / Tryd.prog.cellsOf T) 0 83 1 = true) (hb : (blk b [pq b, v] T).ok w0) :
  Ret Tryd.prog 76 #[pq b] w0 fun u w => u = .tuple #[] ∧ Ext (· = b) w0 w ∧ (blk b [pq b, v] T).ok w := by
 refine aI func76 rfl ntmps76 (lb rfl) fun a Y => ?_
 replace Y := Y.p1 0 rfl
 replace U : St (· = b) w0 [blk b [pq b, v] T] w0 := St.one hb
 refine aa fun K1 hK1 => wlm Y rfl fun a Y => wlv Y (bp rfl) fun a Y => wlv Y (al (v := pq b) rfl kr) fun a Y => wlv Y (ld U 0 rfl rfl (isAgg81 _) rfl) fun a Y => wlv Y (mB rfl rfl underlying81) fun a Y => ab (hK1 _ _ <| aE Y rfl ?_)
 refine aa fun K2 hK2 => wlm Y rfl fun a Y => wlv Y (bp rfl) fun a Y => wlv Y (al (v := pq b) rfl kr) fun a Y => wlv Y (ld U 0 rfl rfl (isAgg81 _) rfl) fun a Y => wlm Y rfl fun a Y => wlv Y (n7 (j := Tryd.t83) rfl rfl underlying81 rfl) fun a Y => ab (hK2 _ _ ?_)
 replace Y := Y.p1 19 rfl
 refine aE Y rfl ?_
 refine aq ?_
 refine dv Y results76 ah ?_
 exact ⟨rfl, U.ext, U.g 0 rfl⟩
theorem kL {M : Nat → Prop} {w0 : World} (T : TypeId) (b : Nat) (v : Value) (bs : By) (s : By) (ws : World) (hlie : liesAt Tryd.prog Tryd.prog.depth T (2 / Tryd.prog.cellsOf T) 0 83 1 = true) (hne : s ≠ []) (hbn : bs.length + s.length ≤ 1000000000) (U : St M w0 [bld T b (.pointer none) v bs] ws) :
  Ret Tryd.prog 51 #[pq b, sv s] ws fun u w => u = .tuple #[iv (s.length : Int), .nilIface] ∧ ∃ v2, St M w0 [bld T b (pq b) v2 (bs ++ s)] w := by
 refine aI func51 rfl ntmps51 (lb rfl) fun a Y => ?_
 replace Y := Y.p2 0 1 rfl
 replace U : St M w0 [blk b [.pointer none, v] T, own v 5 1 ((bs).map fun b => [yv b])] ws := gm U
 refine aa fun K1 hK1 => wla Y rfl fun a Y => wla Y rfl fun a Y => ab (hK1 _ _ <| aa fun K2 hK2 => ?_)
 refine wlm Y rfl fun a Y => gA 0 Y U de call76 rfl rfl (jf T b _ _ hlie (U.g 0 rfl)) rfl ?_
 clear Y U
 intro a w1 Y U
 refine ab (hK2 _ _ <| aa fun K3 hK3 => ?_)
 refine wlm Y rfl fun a Y => wlm Y rfl fun a Y => wlv Y (bp rfl) fun a Y => wlv Y (al (v := po b 1) rfl kr) fun a Y => wlv Y (ld U 0 rfl rfl (isAgg71 _) rfl) fun a Y => wlm Y rfl fun a Y => eA (i := 1) (sT := 71) (uT := 9) (inf := Tryd.t5) (bs := bs) (s := s) rfl rfl rfl hne underlying71 underlying9 rfl rfl rfl rfl om de Y U ?_
 clear Y U
 intro a w2 s1 Y U
 refine wlv Y (bp rfl) fun a Y => wlv Y (al (v := po b 1) rfl kr) fun a Y => cf 0 Y U (U.ow 1 rfl) rfl rfl rfl (sizeOf71 _) (lb rfl) (ds := [pq b, s1]) rfl rfl ?_
 clear Y U
 intro a w3 Y U
 refine ab (hK3 _ _ ?_)
 replace Y := Y.p3 1 4 5 rfl
 refine aa fun K4 hK4 => wlm Y rfl fun a Y => wlv Y (aW rfl rfl (runUnderlying9 _)) fun a Y => wla Y rfl fun a Y => wla Y rfl fun a Y => ab (hK4 _ _ <| au ?_)
 refine ar Y results51 (ae rfl (ae rfl ah)) ?_
 replace U : St M w0 [blk b [pq b, s1] T, own s1 5 1 ((bs ++ s).map fun b => [yv b])] _ := U.select [0, 1] de
 exact ⟨rfl, s1, St.join [blk b [pq b, s1] T, own s1 5 1 ((bs ++ s).map fun b => [yv b])] [] U⟩
theorem l7 {M : Nat → Prop} {w0 : World} (T : TypeId) (b : Nat) (v : Value) (bs : By) (s : By) (ws : World) (hlie : liesAt Tryd.prog Tryd.prog.depth T (2 / Tryd.prog.cellsOf T) 0 83 1 = true) (hne : s ≠ []) (hbn : bs.length + s.length ≤ 1000000000) (U : St M w0 [bld T b (pq b) v bs] ws) :
  Ret Tryd.prog 51 #[pq b, sv s] ws fun u w => u = .tuple #[iv (s.length : Int), .nilIface] ∧ ∃ v2, St M w0 [bld T b (pq b) v2 (bs ++ s)] w := by
 refine aI func51 rfl ntmps51 (lb rfl) fun a Y => ?_
 replace Y := Y.p2 0 1 rfl
 replace U : St M w0 [blk b [pq b, v] T, own v 5 1 ((bs).map fun b => [yv b])] ws := gm U
 refine aa fun K1 hK1 => wla Y rfl fun a Y => wla Y rfl fun a Y => ab (hK1 _ _ <| aa fun K2 hK2 => ?_)
 refine wlm Y rfl fun a Y => gA 0 Y U de call76 rfl rfl (ke T b _ _ hlie (U.g 0 rfl)) rfl ?_
 clear Y U
 intro a w1 Y U
 refine ab (hK2 _ _ <| aa fun K3 hK3 => ?_)
 refine wlm Y rfl fun a Y => wlm Y rfl fun a Y => wlv Y (bp rfl) fun a Y => wlv Y (al (v := po b 1) rfl kr) fun a Y => wlv Y (ld U 0 rfl rfl (isAgg71 _) rfl) fun a Y => wlm Y rfl fun a Y => eA (i := 1) (sT := 71) (uT := 9) (inf := Tryd.t5) (bs := bs) (s := s) rfl rfl rfl hne underlying71 underlying9 rfl rfl rfl rfl om de Y U ?_
 clear Y U
 intro a w2 s1 Y U
 refine wlv Y (bp rfl) fun a Y => wlv Y (al (v := po b 1) rfl kr) fun a Y => cf 0 Y U (U.ow 1 rfl) rfl rfl rfl (sizeOf71 _) (lb rfl) (ds := [pq b, s1]) rfl rfl ?_
 clear Y U
 intro a w3 Y U
 refine ab (hK3 _ _ ?_)
 replace Y := Y.p3 1 4 5 rfl
 refine aa fun K4 hK4 => wlm Y rfl fun a Y => wlv Y (aW rfl rfl (runUnderlying9 _)) fun a Y => wla Y rfl fun a Y => wla Y rfl fun a Y => ab (hK4 _ _ <| au ?_)
 refine ar Y results51 (ae rfl (ae rfl ah)) ?_
 replace U : St M w0 [blk b [pq b, s1] T, own s1 5 1 ((bs ++ s).map fun b => [yv b])] _ := U.select [0, 1] de
 exact ⟨rfl, s1, St.join [blk b [pq b, s1] T, own s1 5 1 ((bs ++ s).map fun b => [yv b])] [] U⟩
theorem og {w : World} {E : TypeId} {v : Value} {bs : By} (h : (own v E 1 ((bs).map fun b => [yv b])).ok w) (hne : bs ≠ []) : ∃ g cap, v = .slice (some ⟨g, 0, none⟩) bs.length cap ∧ cap ≠ 0 := by
 obtain ⟨h1, h2, h3, h4⟩ := h
 have hn : bs.length ≠ 0 := by simpa using hne
 rcases h4 with ⟨_, h0⟩ | ⟨g, cap, cur, fz, hv, _, _, hnc, _⟩
 ·rw [List.length_map] at h0; exact absurd h0 hn
 ·rw [List.length_map] at hv hnc; exact ⟨g, cap, hv, by omega⟩
theorem jD {M : Nat → Prop} {w0 : World} (T : TypeId) (b g cap : Nat) (bs : By) (ws : World) (hne : bs ≠ []) (hcap : cap ≠ 0) (U : St M w0 [blk b [pq b, .slice (some ⟨g, 0, none⟩) bs.length cap] T, own (.slice (some ⟨g, 0, none⟩) bs.length cap) 5 1 ((bs).map fun b => [yv b])] ws) :
  Ret Tryd.prog 52 #[pq b] ws fun u w => u = sv bs ∧ St M w0 [blk b [pq b, .slice (some ⟨g, 0, none⟩) bs.length cap] T] w := by
 refine aI func52 rfl ntmps52 (lb rfl) fun a Y => ?_
 replace Y := Y.p1 0 rfl
 skip
 refine aa fun K1 hK1 => wla Y rfl fun a Y => ab (hK1 _ _ <| ac fun K2 hK2 => ?_)
 refine aO kr ?_
 replace Y := Y.p2 0 2 rfl
 replace U : St M w0 (own (.slice (some ⟨g, 0, none⟩) bs.length cap) 5 1 ((bs).map fun b => [yv b]) :: [blk b [pq b, .slice (some ⟨g, 0, none⟩) bs.length cap] T]) ws := U.front (i := 1) rfl
 refine gK 10 (own (.slice (some ⟨g, 0, none⟩) bs.length cap) 5 1 ((bs).map fun b => [yv b])) (fun _ => sl (.slice (some ⟨g, 0, none⟩) bs.length cap) 1 ((bs).map fun b => [yv b])) 11 [[], [0], [1], [2], [3], [], [5], [6], [7], [8], [4, 9]] (fun i => match i with | 0 => pv (pq b) | 1 => pv (pq b) | 2 => pv (po b 1) | 3 => pv (.slice (some ⟨g, 0, none⟩) bs.length cap) | 4 => pv (pq g) | 5 => pv (pq b) | 6 => pv (pq b) | 7 => pv (po b 1) | 8 => pv (.slice (some ⟨g, 0, none⟩) bs.length cap) | 9 => pv (iv (bs.length : Int)) | 10 => fun v E => v = sv bs ∧ E = [] | _ => fun _ _ => False) Y U kr kr kr de ?_ ?_ ?_ ?_
 ·intro i v E h
  match i, h with
  | 0, _ => exact by decide
  | 1, _ => exact by decide
  | 2, _ => exact by decide
  | 3, _ => exact by decide
  | 4, _ => exact by decide
  | 5, _ => exact by decide
  | 6, _ => exact by decide
  | 7, _ => exact by decide
  | 8, _ => exact by decide
  | 9, _ => exact by decide
  | 10, _ => exact by decide
  | i + 11, h => exact h.elim
 ·intro i hi hiq e
  match i, hi, hiq with
  | 0, _, _ => exact fun w U => OpV.g (ai rfl)
  | 1, _, _ =>
   rintro _ _ ⟨rfl, rfl⟩
   intro w U
   exact OpV.g (bp rfl)
  | 2, _, _ =>
   rintro _ _ ⟨rfl, rfl⟩
   intro w U
   exact OpV.g (al (v := po b 1) rfl kr)
  | 3, _, _ =>
   rintro _ _ ⟨rfl, rfl⟩
   intro w U
   exact OpV.g (ld U 1 rfl rfl (isAgg71 _) rfl)
  | 4, _, _ =>
   rintro _ _ ⟨rfl, rfl⟩
   intro w U
   exact OpV.g (jm rfl hcap)
  | 5, _, _ => exact fun w U => OpV.g (ai rfl)
  | 6, _, _ =>
   rintro _ _ ⟨rfl, rfl⟩
   intro w U
   exact OpV.g (bp rfl)
  | 7, _, _ =>
   rintro _ _ ⟨rfl, rfl⟩
   intro w U
   exact OpV.g (al (v := po b 1) rfl kr)
  | 8, _, _ =>
   rintro _ _ ⟨rfl, rfl⟩
   intro w U
   exact OpV.g (ld U 1 rfl rfl (isAgg71 _) rfl)
  | 9, _, _ =>
   rintro _ _ ⟨rfl, rfl⟩
   intro w U
   exact OpV.g ((cE (v := iv (bs.length : Int)) (vs := [.slice (some ⟨g, 0, none⟩) bs.length cap]) (by simp [evs]; rfl) (by simp [builtin, Builtin.len_, runUnderlying71]; rfl)).as rfl)
  | 10, _, h => exact absurd rfl h
 ·rintro _ _ ⟨rfl, rfl⟩ _ _ ⟨rfl, rfl⟩
  intro w U
  exact (go (U.g 0 rfl) hne rfl rfl underlying117 kr).mono fun v w' ⟨h1, h2, h3, h4⟩ => ⟨h2, h3, h4, ⟨h1, rfl⟩⟩
 clear Y U
 rintro vq _ _ ⟨⟨rfl, rfl⟩, -⟩ _ _ ⟨⟨rfl, rfl⟩, -⟩ _ _ ⟨⟨rfl, rfl⟩, -⟩ _ _ ⟨⟨rfl, rfl⟩, -⟩ _ _ ⟨⟨rfl, rfl⟩, -⟩ _ _ ⟨⟨rfl, rfl⟩, -⟩ _ _ ⟨⟨rfl, rfl⟩, -⟩ _ _ ⟨⟨rfl, rfl⟩, -⟩ _ _ ⟨⟨rfl, rfl⟩, -⟩ _ _ ⟨⟨rfl, rfl⟩, -⟩ _ _ ⟨⟨rfl, rfl⟩, -⟩ a w1 Y U
 replace Y := Y.p13 3 4 5 6 7 8 9 10 11 12 13 0 2 rfl
 replace U : St M w0 [_, _] w1 := U
 refine wla Y rfl fun a Y => ab <| hK2 _ _ ?_
 replace Y := Y.p1 2 rfl
 refine au ?_
 refine ar Y results52 (ae rfl ah) ?_
 exact ⟨rfl, U.select [1] de⟩
theorem gC {M : Nat → Prop} {w0 : World} (T : TypeId) (b : Nat) (v : Value) (bs : By) (ws : World) (hne : bs ≠ []) (U : St M w0 [bld T b (pq b) v bs] ws) :
  Ret Tryd.prog 52 #[pq b] ws fun u w => u = sv bs ∧ St M w0 [blk b [pq b, v] T] w := by
 have U : St M w0 [blk b [pq b, v] T, own v 5 1 ((bs).map fun b => [yv b])] ws := gm U
 obtain ⟨g, cap, rfl, hcap⟩ := og (U.g 1 rfl) hne
 exact jD T b g cap bs ws hne hcap U
theorem p128 (i : Nat) : (128 : Nat) ^ i = 2 ^ (7 * i) := by rw [Nat.pow_mul]
theorem v_ixz {P : Program} {w : World} {L : List (Nat × Value)} {dst : Option Tmp} {T T' ty : TypeId} {pos : String} {af : Array Edge} {gd : Option (Nat × Bool)} {x y : Operand} {z : Nat} (hz : z < 9223372036854775808)
  (hx : ev L x = some (iv ((z / 2 : Nat) : Int))) (hy : ev L y = some (iv (-((z % 2 : Nat) : Int)))) : OpV P ⟨dst, .binOp .xor T x y T', ty, pos, af, gd⟩ L w (iv (uz z)) := by
 have h := pi (P := P) (w := w) (dst := dst) (T := T) (T' := T') (ty := ty) (pos := pos) (af := af) (gd := gd) (n := ((z / 2 : Nat) : Int)) (decide (z % 2 = 1)) om om hx (hy.trans (by
  congr 2
  by_cases h : z % 2 = 1
  ·rw [decide_eq_true h, h]; rfl
  ·rw [decide_eq_false h, show z % 2 = 0 from by omega]; rfl))
 refine h.as ?_
 congr 1
 unfold uz
 by_cases h : z % 2 = 1
 ·rw [decide_eq_true h, if_pos rfl, if_neg om]
 ·rw [decide_eq_false h, if_neg de, if_pos om]
theorem o6 {f i z : Nat} : wI f i z [] = none := by cases f <;> rfl
theorem fO {s : By} {p : Nat} (h : p < s.length) : s.drop p = s.getD p 0 :: s.drop (p + 1) := by
 rw [List.drop_eq_getElem_cons h, List.getD_eq_getElem?_getD, List.getElem?_eq_getElem h]; rfl
theorem nU {s : By} {p i z : Nat} (hi : i < 9) (hp : p + i < s.length) (hb : 128 ≤ (s.getD (p + i) 0).toNat) :
  wI (9 - i) i z (s.drop (p + i)) = wI (9 - (i + 1)) (i + 1) (z + (s.getD (p + i) 0).toNat % 128 * 2 ^ (7 * i)) (s.drop (p + (i + 1))) := by
 rw [fO hp, show 9 - i = (9 - (i + 1)) + 1 from by omega, wI, if_neg om, p128]; rfl
theorem kc {s : By} {p i z : Nat} (hi : i < 9) (hp : p + i < s.length) (hb : (s.getD (p + i) 0).toNat < 128) (h : ((s.getD (p + i) 0).toNat = 0 ∧ 0 < i) ∨ uz (z + (s.getD (p + i) 0).toNat % 128 * 2 ^ (7 * i)) < -4611686018427387903) :
  wI (9 - i) i z (s.drop (p + i)) = none := by
 rw [fO hp, show 9 - i = (9 - (i + 1)) + 1 from by omega, wI, if_pos hb, p128, if_pos]
 exact h.imp_left fun ⟨h1, h2⟩ => ⟨UInt8.toNat_inj.1 (by rw [h1]; rfl), h2⟩
theorem lf {s : By} {p i z : Nat} (hi : i < 9) (hp : p + i < s.length) (hb : (s.getD (p + i) 0).toNat < 128) (h : ¬ ((s.getD (p + i) 0).toNat = 0 ∧ 0 < i)) (h2 : ¬ uz (z + (s.getD (p + i) 0).toNat % 128 * 2 ^ (7 * i)) < -4611686018427387903) :
  wI (9 - i) i z (s.drop (p + i)) = some (uz (z + (s.getD (p + i) 0).toNat % 128 * 2 ^ (7 * i)), i + 1) := by
 rw [fO hp, show 9 - i = (9 - (i + 1)) + 1 from by omega, wI, if_pos hb, p128, if_neg]
 rintro (⟨h3, h4⟩ | h3)
 ·exact h ⟨by rw [h3]; rfl, h4⟩
 ·exact h2 h3
theorem nD {z i b : Nat} (hz : z < 2 ^ (7 * i)) (hb : b < 128) : z + b * 2 ^ (7 * i) < 2 ^ (7 * (i + 1)) := by
 have e : 2 ^ (7 * (i + 1)) = 128 * 2 ^ (7 * i) := by rw [Nat.mul_add, Nat.pow_add, Nat.mul_comm]
 rw [e]
 have : (b + 1) * 2 ^ (7 * i) ≤ 128 * 2 ^ (7 * i) := Nat.mul_le_mul_right _ om
 rw [Nat.add_mul] at this
 omega
theorem z_63 {z i : Nat} (hi : i < 9) (hz : z < 2 ^ (7 * (i + 1))) : z < 9223372036854775808 := by
 have : (2 : Nat) ^ (7 * (i + 1)) ≤ 2 ^ 63 := Nat.pow_le_pow_right de om
 omega
def intV (s : By) (p : Nat) : Value := match rdI (s.drop p) with
 | some (n, r) => .tuple #[iv n, iv ((s.length - r.length : Nat) : Int), iv 0]
 | none => .tuple #[iv 0, iv 0, iv 10]
theorem dY {s : By} {p : Nat} (h : wI 9 0 0 (s.drop p) = none) : intV s p = .tuple #[iv 0, iv 0, iv 10] := by
 rw [mY] at h
 unfold intV
 cases hr : rdI (s.drop p) with
 | none => rfl
 | some x => rw [hr] at h; cases h
theorem jv {s : By} {p k : Nat} {n : Int} (hp : p ≤ s.length) (h : wI 9 0 0 (s.drop p) = some (n, k)) : intV s p = .tuple #[iv n, iv ((p + k : Nat) : Int), iv 0] := by
 rw [mY] at h
 unfold intV
 cases hr : rdI (s.drop p) with
 | none => rw [hr] at h; cases h
 | some x =>
  obtain ⟨n2, r⟩ := x
  rw [hr] at h
  simp only [Option.map_some, Option.some.injEq, Prod.mk.injEq] at h
  obtain ⟨rfl, rfl⟩ := h
  obtain ⟨_, h2⟩ := jP hr
  have h3 := congrArg List.length h2
  rw [List.length_drop, List.length_append] at h3
  have h4 := (bE n2).1
  simp only
  rw [List.length_drop, show p + (s.length - p - r.length) = s.length - r.length from by omega]
theorem jr (s : By) (p : Nat) (w0 : World) (hp : p ≤ s.length) (hsl : s.length ≤ 1000000) :
  Ret Tryd.prog 57 #[sv s, iv (p : Int)] w0 fun v w => v = intV s p ∧ Ext No w0 w := by
 refine aI func57 rfl ntmps57 (lb rfl) fun a Y => ?_
 replace Y := Y.p2 0 1 rfl
 replace U : St No w0 [] w0 := St.init w0
 refine aa fun K1 hK1 => wla Y rfl fun a Y => wla Y rfl fun a Y => wla Y rfl fun a Y => ab (hK1 _ _ <| ac fun K2 hK2 => ?_)
 refine aa fun K3 hK3 => wlm Y rfl fun a Y => wlv Y ((v_lt rfl rfl).asb (b' := false) (by exact decide_eq_false om)) fun a Y => wlm Y rfl fun a Y => wly Y (ai rfl) fun a Y => wly Y (ai rfl) fun a Y => wly Y (aW rfl rfl (runUnderlying9 _)) fun a Y => wly Y ((v_gt rfl rfl).asb (b' := false) (by exact decide_eq_false om)) fun a Y => wlv Y (aw rfl rfl) fun a Y => ab (hK3 _ _ ?_)
 replace Y := Y.p6 0 1 4 5 6 18 rfl
 refine aE Y rfl ?_
 refine aq <| hK2 _ _ <| aa fun K4 hK4 => wla Y rfl fun a Y => ab (hK4 _ _ <| ac fun K5 hK5 => ?_)
 refine aa fun K6 hK6 => wlm Y rfl fun a Y => ab (hK6 _ _ <| ap ?_)
 refine aV (fun m a w => ∃ (i : Nat) (z : Nat), m = 9 - i ∧ (i ≤ 9) ∧ (wI 9 0 0 (s.drop p) = wI (9 - i) i z (s.drop (p + i))) ∧ (z < 2 ^ (7 * i)) ∧ Fr 67 [(0, sv s), (1, iv (p : Int)), (7, .int .u64 (z : Int)), (19, iv (i : Int))] [] a ∧ St No w0 [] w) _ ⟨0, 0, rfl, de, rfl, de, Y.pick [0, 1, 7, 19], U.select [] de⟩ ?_
 rintro _ a w1 ⟨i, z, rfl, hi, hw, hz, Y, U⟩
 refine aa fun K7 hK7 => wlv Y (v_lt rfl rfl) fun a Y => ab (hK7 _ _ <| ac fun K8 hK8 => ?_)
 refine az Y rfl (fun hc1 => ?_) (fun hc1 => ?_)
 ·rw [hc1] at Y
  try simp only [qz] at hc1
  refine aq <| hK8 _ _ <| ac fun K9 hK9 => ap <| aa fun K10 hK10 => wlm Y rfl fun a Y => wla Y rfl fun a Y => ab (hK10 _ _ <| ac fun K11 hK11 => ?_)
  refine aa fun K12 hK12 => wlm Y rfl fun a Y => wlm Y rfl fun a Y => wlv Y (aM rfl rfl ⟨om, om⟩) fun a Y => wlm Y rfl fun a Y => wlv Y (aW rfl rfl (runUnderlying9 _)) fun a Y => wlv Y (v_ge rfl rfl) fun a Y => ab (hK12 _ _ ?_)
  replace Y := Y.p6 0 1 7 19 8 27 rfl
  refine az Y rfl (fun hc2 => ?_) (fun hc2 => ?_)
  ·rw [hc2] at Y
   try simp only [qz] at hc2
   have hwn : wI 9 0 0 (s.drop p) = none := by rw [hw, List.drop_eq_nil_of_le om]; exact o6
   refine aL <| hK5 _ _ <| aa fun K13 hK13 => wla Y rfl fun a Y => wla Y rfl fun a Y => wla Y rfl fun a Y => ab (hK13 _ _ ?_)
   replace Y := Y.p3 4 5 6 rfl
   refine au ?_
   refine ar Y results57 (ae rfl (ae rfl (ae rfl ah))) ?_
   exact ⟨(dY hwn).symm, U.ext⟩
  rw [hc2] at Y
  try simp only [qz] at hc2
  have hpi : p + i < s.length := by omega
  have hm8 : (s.getD (p + i) 0).toNat % 128 < 128 := Nat.mod_lt _ de
  have hzl := nD hz hm8
  have hz6 := z_63 (i := i) om hzl
  refine aq <| hK11 _ _ <| aa fun K14 hK14 => wlm Y rfl fun a Y => wlm Y rfl fun a Y => wlm Y rfl fun a Y => wlv Y (aM rfl rfl ⟨om, om⟩) fun a Y => wlv Y (ec (k := (p + i)) rfl rfl (runUnderlying9 _) om om) fun a Y => wla Y rfl fun a Y => ab (hK14 _ _ ?_)
  replace Y := Y.p6 0 1 7 19 8 9 rfl
  refine aa fun K15 hK15 => wlm Y rfl fun a Y => wlm Y rfl fun a Y => wlv Y (pg (a := s.getD (p + i) 0) (b := (127 : UInt8)) rfl rfl) fun a Y => wlv Y ((iq rfl kr underlying118).asi (m' := (((s.getD (p + i) 0).toNat % 128 : Nat) : Int)) (by rw [y127])) fun a Y => wlm Y rfl fun a Y => wlv Y ((cW rfl rfl ⟨om, om⟩).asi (m' := ((7 * i : Nat) : Int)) om) fun a Y => wlv Y ((kJ (m := (s.getD (p + i) 0).toNat % 128) (n := 7 * i) om rfl rfl).asi (m' := (((s.getD (p + i) 0).toNat % 128 * 2 ^ (7 * i) : Nat) : Int)) (by rw [Nat.mod_eq_of_lt om])) fun a Y => wlv Y (v_uor (m := z) (n := (s.getD (p + i) 0).toNat % 128) (k := 7 * i) hz om rfl rfl) fun a Y => wla Y rfl fun a Y => ab (hK15 _ _ ?_)
  replace Y := Y.p6 0 1 19 8 9 7 rfl
  refine ac fun K16 hK16 => aa fun K17 hK17 => wlm Y rfl fun a Y => wlv Y (v_ge rfl rfl) fun a Y => ab (hK17 _ _ ?_)
  refine az Y rfl (fun hc3 => ?_) (fun hc3 => ?_)
  ·rw [hc3] at Y
   try simp only [qz] at hc3
   refine aL <| hK9 _ _ <| ao <| wlv Y (aM rfl rfl ⟨om, om⟩) fun a Y => wlm Y rfl fun a Y => ab ?_
   refine ⟨_, ?_, i + 1, (z + (s.getD (p + i) 0).toNat % 128 * 2 ^ (7 * i)), rfl, om, (by rw [hw]; exact nU om hpi om), hzl, Y.pick [0, 1, 7, 19], U.select [] de⟩
   omega
  rw [hc3] at Y
  try simp only [qz] at hc3
  refine aq <| hK16 _ _ <| aa fun K18 hK18 => wlm Y rfl fun a Y => wlv Y ((nt (m := (z + (s.getD (p + i) 0).toNat % 128 * 2 ^ (7 * i))) (n := 1) de rfl rfl).asi (m' := (((z + (s.getD (p + i) 0).toNat % 128 * 2 ^ (7 * i)) / 2 : Nat) : Int)) rfl) fun a Y => wlv Y (fo (n := (z + (s.getD (p + i) 0).toNat % 128 * 2 ^ (7 * i)) / 2) om rfl kr underlying3) fun a Y => wlm Y rfl fun a Y => wlv Y ((nG (m := (z + (s.getD (p + i) 0).toNat % 128 * 2 ^ (7 * i))) (k := 1) om de rfl rfl).asi (m' := (((z + (s.getD (p + i) 0).toNat % 128 * 2 ^ (7 * i)) % 2 : Nat) : Int)) rfl) fun a Y => wlv Y (fo (n := (z + (s.getD (p + i) 0).toNat % 128 * 2 ^ (7 * i)) % 2) om rfl kr underlying3) fun a Y => wlv Y (ig rfl om om) fun a Y => wlv Y (v_ixz (z := (z + (s.getD (p + i) 0).toNat % 128 * 2 ^ (7 * i))) om rfl rfl) fun a Y => wla Y rfl fun a Y => ?_
  refine ab (hK18 _ _ ?_)
  replace Y := Y.p7 0 1 19 8 9 7 10 rfl
  refine ac fun K19 hK19 => aa fun K20 hK20 => wlm Y rfl fun a Y => wlv Y (v_eq rfl rfl) fun a Y => wlm Y rfl fun a Y => ?_
  rcases Bool.eq_false_or_eq_true (decide (((s.getD (p + i) 0).toNat : Int) = 0)) with hb4 | hb4
  ·rw [hb4] at Y
   try simp only [qz] at hb4
   refine wly Y (ai rfl) fun a Y => wly Y (v_gt rfl rfl) fun a Y => wlv Y (aB rfl rfl) fun a Y => wlm Y rfl fun a Y => ?_
   rcases Bool.eq_false_or_eq_true (decide (0 < (i : Int))) with hb5 | hb5
   ·rw [hb5] at Y
    try simp only [qz] at hb5
    have hwn : wI 9 0 0 (s.drop p) = none := by rw [hw]; exact kc om hpi om (.inl ⟨om, om⟩)
    refine wln Y fun a Y => wln Y fun a Y => wlv Y (aB rfl rfl) fun a Y => ab (hK20 _ _ ?_)
    replace Y := Y.p7 0 1 19 8 7 10 60 rfl
    refine aD Y rfl ?_
    refine aL <| hK5 _ _ <| aa fun K21 hK21 => wla Y rfl fun a Y => wla Y rfl fun a Y => wla Y rfl fun a Y => ab (hK21 _ _ ?_)
    replace Y := Y.p3 4 5 6 rfl
    refine au ?_
    refine ar Y results57 (ae rfl (ae rfl (ae rfl ah))) ?_
    exact ⟨(dY hwn).symm, U.ext⟩
   rw [hb5] at Y
   try simp only [qz] at hb5
   have hng : ¬ ((s.getD (p + i) 0).toNat = 0 ∧ 0 < i) := by omega
   refine wly Y (ai rfl) fun a Y => wly Y (v_lt rfl rfl) fun a Y => wlv Y (aw rfl rfl) fun a Y => ab (hK20 _ _ ?_)
   replace Y := Y.p7 0 1 19 8 7 10 60 rfl
   refine az Y rfl (fun hc6 => ?_) (fun hc6 => ?_)
   ·rw [hc6] at Y
    try simp only [qz] at hc6
    have hwn : wI 9 0 0 (s.drop p) = none := by rw [hw]; exact kc om hpi om (.inr hc6)
    refine aL <| hK5 _ _ <| aa fun K22 hK22 => wla Y rfl fun a Y => wla Y rfl fun a Y => wla Y rfl fun a Y => ab (hK22 _ _ ?_)
    replace Y := Y.p3 4 5 6 rfl
    refine au ?_
    refine ar Y results57 (ae rfl (ae rfl (ae rfl ah))) ?_
    exact ⟨(dY hwn).symm, U.ext⟩
   rw [hc6] at Y
   try simp only [qz] at hc6
   have hwg := hw.trans (lf om hpi om om hc6)
   refine aq <| hK19 _ _ <| aa fun K23 hK23 => wlm Y rfl fun a Y => wlm Y rfl fun a Y => wlm Y rfl fun a Y => wlv Y (aM rfl rfl ⟨om, om⟩) fun a Y => wlv Y (aM rfl rfl ⟨om, om⟩) fun a Y => wla Y rfl fun a Y => wla Y rfl fun a Y => wla Y rfl fun a Y => ab (hK23 _ _ ?_)
   replace Y := Y.p7 0 1 19 7 4 5 6 rfl
   refine au ?_
   refine ar Y results57 (ae rfl (ae rfl (ae rfl ah))) ?_
   exact ⟨((jv hp hwg).trans (by simp only [retv]; congr 3; all_goals omega)).symm, U.ext⟩
  rw [hb4] at Y
  try simp only [qz] at hb4
  refine wln Y fun a Y => wln Y fun a Y => wlv Y (aw rfl rfl) fun a Y => wlm Y rfl fun a Y => wly Y (ai rfl) fun a Y => wly Y (v_lt rfl rfl) fun a Y => wlv Y (aw rfl rfl) fun a Y => ab (hK20 _ _ ?_)
  replace Y := Y.p7 0 1 19 8 7 10 60 rfl
  refine az Y rfl (fun hc7 => ?_) (fun hc7 => ?_)
  ·rw [hc7] at Y
   try simp only [qz] at hc7
   have hwn : wI 9 0 0 (s.drop p) = none := by rw [hw]; exact kc om hpi om (.inr hc7)
   refine aL <| hK5 _ _ <| aa fun K24 hK24 => wla Y rfl fun a Y => wla Y rfl fun a Y => wla Y rfl fun a Y => ab (hK24 _ _ ?_)
   replace Y := Y.p3 4 5 6 rfl
   refine au ?_
   refine ar Y results57 (ae rfl (ae rfl (ae rfl ah))) ?_
   exact ⟨(dY hwn).symm, U.ext⟩
  rw [hc7] at Y
  try simp only [qz] at hc7
  have hwg := hw.trans (lf om hpi om om hc7)
  refine aq <| hK19 _ _ <| aa fun K25 hK25 => wlm Y rfl fun a Y => wlm Y rfl fun a Y => wlm Y rfl fun a Y => wlv Y (aM rfl rfl ⟨om, om⟩) fun a Y => wlv Y (aM rfl rfl ⟨om, om⟩) fun a Y => wla Y rfl fun a Y => wla Y rfl fun a Y => wla Y rfl fun a Y => ab (hK25 _ _ ?_)
  replace Y := Y.p7 0 1 19 7 4 5 6 rfl
  refine au ?_
  refine ar Y results57 (ae rfl (ae rfl (ae rfl ah))) ?_
  exact ⟨((jv hp hwg).trans (by simp only [retv]; congr 3; all_goals omega)).symm, U.ext⟩
 rw [hc1] at Y
 try simp only [qz] at hc1
 have hwn : wI 9 0 0 (s.drop p) = none := by rw [hw, show 9 - i = 0 from by omega]; rfl
 refine aL <| hK5 _ _ <| aa fun K26 hK26 => wla Y rfl fun a Y => wla Y rfl fun a Y => wla Y rfl fun a Y => ab (hK26 _ _ <| au ?_)
 refine ar Y results57 (ae rfl (ae rfl (ae rfl ah))) ?_
 exact ⟨(dY hwn).symm, U.ext⟩
theorem oc {s : By} {p i : Nat} (hp : p + i < s.length) : gv ((s.drop p).take (i + 1)) = gv ((s.drop p).take i) + (s.getD (p + i) 0).toNat % 128 * 2 ^ (7 * i) := by
 have e : (s.drop p).take (i + 1) = (s.drop p).take i ++ [s.getD (p + i) 0] := by
  rw [take_one (by rw [List.length_drop]; omega)]
  congr 2
  simp [List.getD_eq_getElem?_getD]
 rw [e, eW, p128, List.length_take, List.length_drop, Nat.min_eq_left om]
theorem o0 {s : By} {p i z : Nat} (hi : i < 9) (hp : p + i < s.length) (hl : ∀ c ∈ (s.drop p).take i, 128 ≤ c.toNat) (hz : z = gv ((s.drop p).take i)) (hb : (s.getD (p + i) 0).toNat < 128) {Z : Nat} (hZ : Z = z + (s.getD (p + i) 0).toNat % 128 * 2 ^ (7 * i)) :
  rdI (s.drop p) = if vb 8 Z = (s.drop p).take (i + 1) ∧ -4611686018427387903 ≤ uz Z then some (uz Z, s.drop (p + (i + 1))) else none := by
 have e0 : s.drop p = (s.drop p).take i ++ s.getD (p + i) 0 :: s.drop (p + (i + 1)) := by
  rw [show s.drop (p + (i + 1)) = (s.drop p).drop (i + 1) from by rw [List.drop_drop], ]
  have e1 : (s.drop p).drop i = s.getD (p + i) 0 :: (s.drop p).drop (i + 1) := by
   rw [fO (by rw [List.length_drop]; omega)]
   congr 1
   simp [List.getD_eq_getElem?_getD]
  rw [← e1, List.take_append_drop]
 have e2 : (s.drop p).take (i + 1) = (s.drop p).take i ++ [s.getD (p + i) 0] := by
  rw [take_one (by rw [List.length_drop]; omega)]
  congr 2
  simp [List.getD_eq_getElem?_getD]
 have hlen : ((s.drop p).take i).length = i := by rw [List.length_take, List.length_drop]; omega
 have h := pf (l := (s.drop p).take i) (r := s.drop (p + (i + 1))) (b := s.getD (p + i) 0) om hl hb
 rw [← e0, eW, ← hz, hlen, p128, ← hZ, ← e2] at h
 exact h
def putR (n : Int) : By × Int := if -4611686018427387903 ≤ n then (putI n, 0) else ([], 10)
theorem oK (Z : Nat) {t : By} {e : Int} (h : putR (uz Z) = (t, e)) : (e = 0 ∧ -4611686018427387903 ≤ uz Z ∧ t = vb 8 Z) ∨ (e ≠ 0 ∧ ¬ -4611686018427387903 ≤ uz Z) := by
 unfold putR at h
 split at h
 ·rename_i hc
  simp only [Prod.mk.injEq] at h
  left; exact ⟨h.2.symm, hc, by rw [← h.1]; unfold putI; rw [oO]⟩
 ·rename_i hc
  simp only [Prod.mk.injEq] at h
  right; exact ⟨by rw [← h.2]; decide, hc⟩
theorem jy (n : Int) (w0 : World) (hs : n < -4611686018427387903) :
  Ret Tryd.prog 53 #[iv n] w0 fun v w => v = .tuple #[sv [], iv 10] ∧ Ext No w0 w := by
 refine aI func53 rfl ntmps53 (lb rfl) fun a Y => ?_
 replace Y := Y.p1 0 rfl
 replace U : St No w0 [] w0 := St.init w0
 refine aa fun K1 hK1 => wla Y rfl fun a Y => wla Y rfl fun a Y => ab (hK1 _ _ <| ac fun K2 hK2 => ?_)
 refine aa fun K3 hK3 => wlm Y rfl fun a Y => wlv Y ((v_lt rfl rfl).asb (b' := true) (by exact decide_eq_true om)) fun a Y => wlm Y rfl fun a Y => wln Y fun a Y => wln Y fun a Y => wlv Y (aB rfl rfl) fun a Y => ab (hK3 _ _ <| aD Y rfl ?_)
 refine aa fun K4 hK4 => wla Y rfl fun a Y => wla Y rfl fun a Y => ab (hK4 _ _ ?_)
 replace Y := Y.p3 0 2 3 rfl
 refine au ?_
 refine ar Y results53 (ae rfl (ae rfl ah)) ?_
 exact ⟨by rfl, U.ext⟩
theorem fE {n e : Int} {t : By} {w0 : World} (h : putR n = (t, e)) (hn : n ≤ 4611686018427387903) : Ret Tryd.prog 53 #[iv n] w0 fun v w => v = .tuple #[sv t, iv e] ∧ Ext No w0 w := by
 unfold putR at h
 split at h
 ·cases h; exact cy n w0 ⟨by assumption, hn⟩
 ·cases h; exact jy n w0 om
theorem il (s : By) (p : Nat) (w0 : World) (hp : p ≤ s.length) (hsl : s.length ≤ 1000000) :
  Ret Tryd.prog 60 #[sv s, iv (p : Int)] w0 fun v w => v = intV s p ∧ Ext No w0 w := by
 refine aI func60 rfl ntmps60 (lb rfl) fun a Y => ?_
 replace Y := Y.p2 0 1 rfl
 replace U : St No w0 [] w0 := St.init w0
 refine aa fun K1 hK1 => wla Y rfl fun a Y => wla Y rfl fun a Y => wla Y rfl fun a Y => ab (hK1 _ _ <| ac fun K2 hK2 => ?_)
 refine aa fun K3 hK3 => wlm Y rfl fun a Y => wlv Y ((v_lt rfl rfl).asb (b' := false) (by exact decide_eq_false om)) fun a Y => wlm Y rfl fun a Y => wly Y (ai rfl) fun a Y => wly Y (ai rfl) fun a Y => wly Y (aW rfl rfl (runUnderlying9 _)) fun a Y => wly Y ((v_gt rfl rfl).asb (b' := false) (by exact decide_eq_false om)) fun a Y => wlv Y (aw rfl rfl) fun a Y => ab (hK3 _ _ ?_)
 replace Y := Y.p6 0 1 4 5 6 20 rfl
 refine aE Y rfl ?_
 refine aq <| hK2 _ _ <| aa fun K4 hK4 => wla Y rfl fun a Y => ab (hK4 _ _ <| ac fun K5 hK5 => ?_)
 refine aa fun K6 hK6 => wla Y rfl fun a Y => ab (hK6 _ _ <| ap ?_)
 refine aV (fun m a w => ∃ (i : Nat) (z : Nat), m = 9 - i ∧ (i ≤ 9) ∧ (p + i ≤ s.length) ∧ (∀ c ∈ (s.drop p).take i, 128 ≤ c.toNat) ∧ (z = gv ((s.drop p).take i)) ∧ (z < 2 ^ (7 * i)) ∧ Fr 80 [(0, sv s), (1, iv (p : Int)), (7, .int .u64 (z : Int)), (8, iv (i : Int))] [] a ∧ St No w0 [] w) _ ⟨0, 0, rfl, de, om, sm, rfl, de, Y.pick [0, 1, 7, 8], U.select [] de⟩ ?_
 rintro _ a w1 ⟨i, z, rfl, hi, hpi0, hl, hzg, hzb, Y, U⟩
 refine ac fun K7 hK7 => aa fun K8 hK8 => wlm Y rfl fun a Y => wlv Y (v_lt rfl rfl) fun a Y => wlm Y rfl fun a Y => ?_
 rcases Bool.eq_false_or_eq_true (decide ((i : Int) < 9)) with hb1 | hb1
 ·rw [hb1] at Y
  try simp only [qz] at hb1
  refine wly Y (ai rfl) fun a Y => wly Y (ai rfl) fun a Y => wly Y (aM rfl rfl ⟨om, om⟩) fun a Y => wly Y (ai rfl) fun a Y => wly Y (aW rfl rfl (runUnderlying9 _)) fun a Y => wly Y (v_lt rfl rfl) fun a Y => wlv Y (aB rfl rfl) fun a Y => ab (hK8 _ _ ?_)
  replace Y := Y.p5 0 1 7 8 30 rfl
  refine az Y rfl (fun hc2 => ?_) (fun hc2 => ?_)
  ·rw [hc2] at Y
   try simp only [qz] at hc2
   have hpi : p + i < s.length := by omega
   have hm8 : (s.getD (p + i) 0).toNat % 128 < 128 := Nat.mod_lt _ de
   have hzl := nD hzb hm8
   have hz6 := z_63 (i := i) om hzl
   refine aq <| hK7 _ _ <| ac fun K9 hK9 => ap <| aa fun K10 hK10 => wlm Y rfl fun a Y => wlm Y rfl fun a Y => wlm Y rfl fun a Y => wlv Y (aM rfl rfl ⟨om, om⟩) fun a Y => wlv Y (ec (k := (p + i)) rfl rfl (runUnderlying9 _) om om) fun a Y => wlv Y (iq rfl kr underlying118) fun a Y => wla Y rfl fun a Y => ab (hK10 _ _ ?_)
   replace Y := Y.p5 0 1 7 8 9 rfl
   refine aa fun K11 hK11 => wlm Y rfl fun a Y => wlm Y rfl fun a Y => wlv Y (kA (m := (s.getD (p + i) 0).toNat) (n := 128) de rfl rfl) fun a Y => wlm Y rfl fun a Y => wlv Y ((cW rfl rfl ⟨om, om⟩).asi (m' := ((7 * i : Nat) : Int)) om) fun a Y => wlv Y ((kJ (m := (s.getD (p + i) 0).toNat % 128) (n := 7 * i) om rfl rfl).asi (m' := (((s.getD (p + i) 0).toNat % 128 * 2 ^ (7 * i) : Nat) : Int)) (by rw [Nat.mod_eq_of_lt om])) fun a Y => wlv Y (nH (m := z) (n := (s.getD (p + i) 0).toNat % 128 * 2 ^ (7 * i)) om rfl rfl) fun a Y => wla Y rfl fun a Y => ab (hK11 _ _ ?_)
   replace Y := Y.p5 0 1 8 9 7 rfl
   refine ac fun K12 hK12 => aa fun K13 hK13 => wlm Y rfl fun a Y => wlv Y (v_ge rfl rfl) fun a Y => ab (hK13 _ _ ?_)
   refine az Y rfl (fun hc3 => ?_) (fun hc3 => ?_)
   ·rw [hc3] at Y
    try simp only [qz] at hc3
    refine aL <| hK9 _ _ <| ao <| wlm Y rfl fun a Y => wlv Y (aM rfl rfl ⟨om, om⟩) fun a Y => wla Y rfl fun a Y => ab ?_
    refine ⟨_, ?_, i + 1, (z + (s.getD (p + i) 0).toNat % 128 * 2 ^ (7 * i)), rfl, om, om, (by intro c hc; rw [take_one (by rw [List.length_drop]; omega), List.mem_append, List.mem_singleton] at hc; rcases hc with hc | rfl; exact hl c hc; simp only [List.getD_eq_getElem?_getD, List.getElem?_drop] at *; omega), (by rw [oc hpi, ← hzg]), hzl, Y.pick [0, 1, 7, 8], U.select [] de⟩
    omega
   rw [hc3] at Y
   try simp only [qz] at hc3
   obtain ⟨Z, hZ⟩ : ∃ Z, Z = (z + (s.getD (p + i) 0).toNat % 128 * 2 ^ (7 * i)) := ⟨_, rfl⟩
   have hra := o0 om hpi hl hzg om hZ
   obtain ⟨pt, pe, hpt⟩ : ∃ t e, putR (uz Z) = (t, e) := ⟨_, _, rfl⟩
   have hps := oK Z hpt
   refine aq <| hK12 _ _ <| aa fun K14 hK14 => wlm Y rfl fun a Y => wlv Y (nE (m := (z + (s.getD (p + i) 0).toNat % 128 * 2 ^ (7 * i))) (n := 2) om de rfl rfl) fun a Y => wlv Y (fo (n := (z + (s.getD (p + i) 0).toNat % 128 * 2 ^ (7 * i)) / 2) om rfl kr underlying3) fun a Y => wla Y rfl fun a Y => ab (hK14 _ _ ?_)
   replace Y := Y.p5 0 1 8 7 10 rfl
   refine ac fun K15 hK15 => aa fun K16 hK16 => wlm Y rfl fun a Y => wlv Y (kA (m := (z + (s.getD (p + i) 0).toNat % 128 * 2 ^ (7 * i))) (n := 2) de rfl rfl) fun a Y => wlv Y (v_eq rfl rfl) fun a Y => ab (hK16 _ _ ?_)
   refine az Y rfl (fun hc4 => ?_) (fun hc4 => ?_)
   ·rw [hc4] at Y
    try simp only [qz] at hc4
    have huz : -(((z + (s.getD (p + i) 0).toNat % 128 * 2 ^ (7 * i)) / 2 : Nat) : Int) - 1 = uz Z := by rw [hZ]; unfold uz; rw [if_neg om]
    refine ao <| wlm Y rfl fun a Y => wlv Y (ig rfl om om) fun a Y => wlv Y (bq rfl rfl ⟨om, om⟩) fun a Y => wla Y rfl fun a Y => ab <| hK15 _ _ ?_
    replace Y := Y.p5 0 1 8 7 10 rfl
    refine aa fun K17 hK17 => wlm Y rfl fun a Y => am Y U de call53 rfl (fE (n := (-(((z + (s.getD (p + i) 0).toNat % 128 * 2 ^ (7 * i)) / 2 : Nat) : Int)) - 1) (t := pt) (e := pe) (by rw [huz]; exact hpt) om) ?_
    clear Y U
    intro a w2 Y U
    refine wlm Y rfl fun a Y => wlv Y (ag rfl rfl) fun a Y => wlv Y (ag rfl rfl) fun a Y => wla Y rfl fun a Y => wla Y rfl fun a Y => ab (hK17 _ _ <| ac fun K18 hK18 => ?_)
    refine aa fun K19 hK19 => wlm Y rfl fun a Y => wlv Y (v_ne rfl rfl) fun a Y => wlm Y rfl fun a Y => ?_
    rcases Bool.eq_false_or_eq_true (!decide (pe = 0)) with hb5 | hb5
    ·rw [hb5] at Y
     try simp only [qz] at hb5
     refine wln Y fun a Y => wln Y fun a Y => wln Y fun a Y => wln Y fun a Y => wln Y fun a Y => wln Y fun a Y => wln Y fun a Y => wln Y fun a Y => wln Y fun a Y => wlv Y (aB rfl rfl) fun a Y => ?_
     refine ab (hK19 _ _ ?_)
     replace Y := Y.p6 0 1 8 7 10 74 rfl
     refine aD Y rfl ?_
     refine aa fun K20 hK20 => wla Y rfl fun a Y => wla Y rfl fun a Y => wla Y rfl fun a Y => ab (hK20 _ _ <| au ?_)
     refine ar Y results60 (ae rfl (ae rfl (ae rfl ah))) ?_
     refine ⟨?_, U.ext⟩
     have hrn : rdI (s.drop p) = none := by
      rw [hra]; refine if_neg fun hc => ?_
      rcases hps with ⟨h1, h2, h3⟩ | ⟨h1, h2⟩
      ·exact hb5 h1
      ·exact h2 hc.2
     unfold intV; rw [hrn]; rfl
    rw [hb5] at Y
    try simp only [qz] at hb5
    refine wly Y (ai rfl) fun a Y => wly Y (ai rfl) fun a Y => wly Y (ai rfl) fun a Y => wly Y (ai rfl) fun a Y => wly Y (ai rfl) fun a Y => wly Y (aM rfl rfl ⟨om, om⟩) fun a Y => wly Y (aM rfl rfl ⟨om, om⟩) fun a Y => wly Y ((bS (xs := s) (l := p) (h := (p + i + 1)) rfl rfl rfl underlying9 (.inr (by rw [show ((p : Int) : Int) = ((p : Nat) : Int) from by omega] <;> rfl)) (.inr (by rw [show (((p : Int) + (i : Int)) + 1 : Int) = (((p + i + 1) : Nat) : Int) from by omega] <;> rfl)) om (by first | omega | exact Nat.min_le_left _ _)).as (v' := sv ((s.drop p).take ((p + i + 1) - p))) rfl) fun a Y => wly Y (jX rfl rfl) fun a Y => wlv Y (aw rfl rfl) fun a Y => ab (hK19 _ _ ?_)
    replace Y := Y.p6 0 1 8 7 10 74 rfl
    refine az Y rfl (fun hc6 => ?_) (fun hc6 => ?_)
    ·rw [hc6] at Y
     try simp only [qz] at hc6
     rw [show (p + i + 1) - p = i + 1 from by omega] at hc6
     refine aa fun K21 hK21 => wla Y rfl fun a Y => wla Y rfl fun a Y => wla Y rfl fun a Y => ab (hK21 _ _ <| au ?_)
     refine ar Y results60 (ae rfl (ae rfl (ae rfl ah))) ?_
     refine ⟨?_, U.ext⟩
     have hrn : rdI (s.drop p) = none := by
      rw [hra]; refine if_neg fun hc => ?_
      rcases hps with ⟨h1, h2, h3⟩ | ⟨h1, h2⟩
      ·exact hc6 (h3.trans hc.1)
      ·exact h2 hc.2
     unfold intV; rw [hrn]; rfl
    rw [hc6] at Y
    try simp only [qz] at hc6
    rw [show (p + i + 1) - p = i + 1 from by omega] at hc6
    refine aq <| hK18 _ _ <| aa fun K22 hK22 => wlm Y rfl fun a Y => wlm Y rfl fun a Y => wlm Y rfl fun a Y => wlv Y (aM rfl rfl ⟨om, om⟩) fun a Y => wlv Y (aM rfl rfl ⟨om, om⟩) fun a Y => wla Y rfl fun a Y => wla Y rfl fun a Y => wla Y rfl fun a Y => ab (hK22 _ _ ?_)
    replace Y := Y.p7 0 1 8 7 4 5 6 rfl
    refine au ?_
    refine ar Y results60 (ae rfl (ae rfl (ae rfl ah))) ?_
    refine ⟨?_, U.ext⟩
    have hrs : rdI (s.drop p) = some (uz Z, s.drop (p + (i + 1))) := by
     rw [hra]; refine if_pos ?_; rcases hps with ⟨h1, h2, h3⟩ | ⟨h1, h2⟩
     ·exact ⟨h3.symm.trans hc6, h2⟩
     ·exact absurd hb5 h1
    unfold intV; rw [hrs]; simp only [retv, List.length_drop]; rw [huz, show ((s.length - (s.length - (p + (i + 1))) : Nat) : Int) = (p : Int) + (i : Int) + 1 from by omega]
   rw [hc4] at Y
   try simp only [qz] at hc4
   have huz : (((z + (s.getD (p + i) 0).toNat % 128 * 2 ^ (7 * i)) / 2 : Nat) : Int) = uz Z := by rw [hZ]; unfold uz; rw [if_pos om]
   refine aq <| hK15 _ _ <| aa fun K23 hK23 => wlm Y rfl fun a Y => am Y U de call53 rfl (fE (n := (((z + (s.getD (p + i) 0).toNat % 128 * 2 ^ (7 * i)) / 2 : Nat) : Int)) (t := pt) (e := pe) (by rw [huz]; exact hpt) om) ?_
   clear Y U
   intro a w3 Y U
   refine wlm Y rfl fun a Y => wlv Y (ag rfl rfl) fun a Y => wlv Y (ag rfl rfl) fun a Y => wla Y rfl fun a Y => wla Y rfl fun a Y => ab (hK23 _ _ ?_)
   replace Y := Y.p7 0 1 8 7 10 11 12 rfl
   refine ac fun K24 hK24 => aa fun K25 hK25 => wlm Y rfl fun a Y => wlv Y (v_ne rfl rfl) fun a Y => wlm Y rfl fun a Y => ?_
   rcases Bool.eq_false_or_eq_true (!decide (pe = 0)) with hb7 | hb7
   ·rw [hb7] at Y
    try simp only [qz] at hb7
    refine wln Y fun a Y => wln Y fun a Y => wln Y fun a Y => wln Y fun a Y => wln Y fun a Y => wln Y fun a Y => wln Y fun a Y => wln Y fun a Y => wln Y fun a Y => wlv Y (aB rfl rfl) fun a Y => ?_
    refine ab (hK25 _ _ ?_)
    replace Y := Y.p6 0 1 8 7 10 74 rfl
    refine aD Y rfl ?_
    refine aa fun K26 hK26 => wla Y rfl fun a Y => wla Y rfl fun a Y => wla Y rfl fun a Y => ab (hK26 _ _ <| au ?_)
    refine ar Y results60 (ae rfl (ae rfl (ae rfl ah))) ?_
    refine ⟨?_, U.ext⟩
    have hrn : rdI (s.drop p) = none := by
     rw [hra]; refine if_neg fun hc => ?_
     rcases hps with ⟨h1, h2, h3⟩ | ⟨h1, h2⟩
     ·exact hb7 h1
     ·exact h2 hc.2
    unfold intV; rw [hrn]; rfl
   rw [hb7] at Y
   try simp only [qz] at hb7
   refine wly Y (ai rfl) fun a Y => wly Y (ai rfl) fun a Y => wly Y (ai rfl) fun a Y => wly Y (ai rfl) fun a Y => wly Y (ai rfl) fun a Y => wly Y (aM rfl rfl ⟨om, om⟩) fun a Y => wly Y (aM rfl rfl ⟨om, om⟩) fun a Y => wly Y ((bS (xs := s) (l := p) (h := (p + i + 1)) rfl rfl rfl underlying9 (.inr (by rw [show ((p : Int) : Int) = ((p : Nat) : Int) from by omega] <;> rfl)) (.inr (by rw [show (((p : Int) + (i : Int)) + 1 : Int) = (((p + i + 1) : Nat) : Int) from by omega] <;> rfl)) om (by first | omega | exact Nat.min_le_left _ _)).as (v' := sv ((s.drop p).take ((p + i + 1) - p))) rfl) fun a Y => wly Y (jX rfl rfl) fun a Y => wlv Y (aw rfl rfl) fun a Y => ab (hK25 _ _ ?_)
   replace Y := Y.p6 0 1 8 7 10 74 rfl
   refine az Y rfl (fun hc8 => ?_) (fun hc8 => ?_)
   ·rw [hc8] at Y
    try simp only [qz] at hc8
    rw [show (p + i + 1) - p = i + 1 from by omega] at hc8
    refine aa fun K27 hK27 => wla Y rfl fun a Y => wla Y rfl fun a Y => wla Y rfl fun a Y => ab (hK27 _ _ <| au ?_)
    refine ar Y results60 (ae rfl (ae rfl (ae rfl ah))) ?_
    refine ⟨?_, U.ext⟩
    have hrn : rdI (s.drop p) = none := by
     rw [hra]; refine if_neg fun hc => ?_
     rcases hps with ⟨h1, h2, h3⟩ | ⟨h1, h2⟩
     ·exact hc8 (h3.trans hc.1)
     ·exact h2 hc.2
    unfold intV; rw [hrn]; rfl
   rw [hc8] at Y
   try simp only [qz] at hc8
   rw [show (p + i + 1) - p = i + 1 from by omega] at hc8
   refine aq <| hK24 _ _ <| aa fun K28 hK28 => wlm Y rfl fun a Y => wlm Y rfl fun a Y => wlm Y rfl fun a Y => wlv Y (aM rfl rfl ⟨om, om⟩) fun a Y => wlv Y (aM rfl rfl ⟨om, om⟩) fun a Y => wla Y rfl fun a Y => wla Y rfl fun a Y => wla Y rfl fun a Y => ab (hK28 _ _ ?_)
   replace Y := Y.p7 0 1 8 7 4 5 6 rfl
   refine au ?_
   refine ar Y results60 (ae rfl (ae rfl (ae rfl ah))) ?_
   refine ⟨?_, U.ext⟩
   have hrs : rdI (s.drop p) = some (uz Z, s.drop (p + (i + 1))) := by
    rw [hra]; refine if_pos ?_; rcases hps with ⟨h1, h2, h3⟩ | ⟨h1, h2⟩
    ·exact ⟨h3.symm.trans hc8, h2⟩
    ·exact absurd hb7 h1
   unfold intV; rw [hrs]; simp only [retv, List.length_drop]; rw [huz, show ((s.length - (s.length - (p + (i + 1))) : Nat) : Int) = (p : Int) + (i : Int) + 1 from by omega]
  rw [hc2] at Y
  try simp only [qz] at hc2
  have hrn : rdI (s.drop p) = none := by
   have := ol (l := (s.drop p).take i) hl (by rw [List.length_take]; omega)
   rwa [List.take_of_length_le (by rw [List.length_drop]; omega)] at this
  refine aL <| hK5 _ _ <| aa fun K29 hK29 => wla Y rfl fun a Y => wla Y rfl fun a Y => wla Y rfl fun a Y => ab (hK29 _ _ <| au ?_)
  refine ar Y results60 (ae rfl (ae rfl (ae rfl ah))) ?_
  refine ⟨?_, U.ext⟩
  unfold intV; rw [hrn]; rfl
 rw [hb1] at Y
 try simp only [qz] at hb1
 have hrn : rdI (s.drop p) = none := by
  have h9 : i = 9 := by omega
  subst h9
  have := m6 (l := (s.drop p).take 9) (r := (s.drop p).drop 9) hl (by rw [List.length_take, List.length_drop]; omega)
  rwa [List.take_append_drop] at this
 refine wln Y fun a Y => wln Y fun a Y => wln Y fun a Y => wln Y fun a Y => wln Y fun a Y => wln Y fun a Y => wlv Y (aw rfl rfl) fun a Y => ab (hK8 _ _ ?_)
 replace Y := Y.p5 0 1 7 8 30 rfl
 refine aE Y rfl ?_
 refine aL <| hK5 _ _ <| aa fun K30 hK30 => wla Y rfl fun a Y => wla Y rfl fun a Y => wla Y rfl fun a Y => ab (hK30 _ _ <| au ?_)
 refine ar Y results60 (ae rfl (ae rfl (ae rfl ah))) ?_
 refine ⟨?_, U.ext⟩
 unfold intV; rw [hrn]; rfl
theorem ch {r q : By} {n : Int} (h : rdI r = some (n, q)) : q <:+ r := by
 obtain ⟨_, rfl⟩ := jP h; exact List.suffix_append _ _
theorem kE {r x q : By} (h : rdS r = some (x, q)) : ∃ n r2, rdI r = some (n, r2) ∧ 0 ≤ n ∧ n ≤ 65536 ∧ n ≤ (r2.length : Int) ∧ x = r2.take n.toNat ∧ q = r2.drop n.toNat ∧ q.length = r2.length - n.toNat := by
 unfold rdS at h
 cases hq : rdI r with
 | none => rw [hq] at h; cases h
 | some p =>
  obtain ⟨n, t⟩ := p
  rw [hq] at h
  simp only at h
  split at h
  ·rename_i hc
   cases h
   exact ⟨n, t, rfl, hc.1, hc.2.1, hc.2.2, rfl, rfl, by rw [List.length_drop]⟩
  ·cases h
theorem nF {r : By} (h : rdS r = none) : rdI r = none ∨ ∃ n r2, rdI r = some (n, r2) ∧ (n < 0 ∨ 65536 < n ∨ (r2.length : Int) < n) := by
 unfold rdS at h
 cases hq : rdI r with
 | none => exact .inl rfl
 | some p =>
  obtain ⟨n, t⟩ := p
  rw [hq] at h
  simp only at h
  split at h
  ·cases h
  ·rename_i hc
   exact .inr ⟨n, t, rfl, by omega⟩
theorem k9 {r x q : By} (h : rdS r = some (x, q)) : q <:+ r := by
 obtain ⟨n, r2, hi, _, _, _, _, rfl, _⟩ := kE h
 exact (List.drop_suffix _ _).trans (ch hi)
theorem kY {s r2 q x : By} {n : Int} (hs : r2 <:+ s) (hx : x = r2.take n.toNat) (h0 : 0 ≤ n) (hn : n ≤ (r2.length : Int)) (hq : q.length = r2.length - n.toNat) : x = (s.drop (s.length - r2.length)).take (s.length - q.length - (s.length - r2.length)) := by
 have := hs.length_le
 rw [← List.suffix_iff_eq_drop.1 hs, hx]
 congr 1
 omega
theorem iI (s : By) (w0 : World) (hs : s.length ≤ 65536) :
  Ret Tryd.prog 50 #[sv s] w0 fun v w => v = .tuple #[sv (putS s), iv 0] ∧ Ext No w0 w := by
 have hpl := bE (s.length : Int)
 refine aI func50 rfl ntmps50 (lb rfl) fun a Y => ?_
 replace Y := Y.p1 0 rfl
 replace U : St No w0 [] w0 := St.init w0
 refine aa fun K1 hK1 => wla Y rfl fun a Y => wla Y rfl fun a Y => ab (hK1 _ _ <| ac fun K2 hK2 => ?_)
 refine aa fun K3 hK3 => wlm Y rfl fun a Y => wlv Y (aW rfl rfl (runUnderlying9 _)) fun a Y => wlv Y ((v_gt rfl rfl).asb (b' := false) (by exact decide_eq_false om)) fun a Y => ab (hK3 _ _ <| aE Y rfl ?_)
 refine aq <| hK2 _ _ <| aa fun K4 hK4 => wlm Y rfl fun a Y => wlv Y (aW rfl rfl (runUnderlying9 _)) fun a Y => am Y U de call75 rfl (ib (s.length : Int) _ (by unfold small; omega)) ?_
 clear Y U
 intro a w1 Y U
 refine wlm Y rfl fun a Y => wlv Y (ag rfl rfl) fun a Y => wlv Y (ag rfl rfl) fun a Y => wla Y rfl fun a Y => wla Y rfl fun a Y => ab (hK4 _ _ ?_)
 replace Y := Y.p4 0 2 3 4 rfl
 refine aa fun K5 hK5 => wlm Y rfl fun a Y => wlm Y rfl fun a Y => wlv Y (cZ rfl rfl (by (try simp only [List.length_append]); omega)) fun a Y => wla Y rfl fun a Y => wla Y rfl fun a Y => ab (hK5 _ _ <| au ?_)
 refine ar Y results50 (ae rfl (ae rfl ah)) ?_
 exact ⟨by rfl, U.ext⟩
theorem en {s r r2 : By} {n z : Int} {w0 : World} (hz : z = ((s.length - r.length : Nat) : Int)) (hsf : r <:+ s) (hsl : s.length ≤ 1000000) (hq : rdI r = some (n, r2)) :
  Ret Tryd.prog 57 #[sv s, iv z] w0 fun v w => v = .tuple #[iv n, iv ((s.length - r2.length : Nat) : Int), iv 0] ∧ Ext No w0 w := by
 subst hz
 have := jr s (s.length - r.length) w0 om hsl
 unfold intV at this
 rw [← List.suffix_iff_eq_drop.1 hsf, hq] at this
 exact this
theorem dX {s r : By} {z : Int} {w0 : World} (hz : z = ((s.length - r.length : Nat) : Int)) (hsf : r <:+ s) (hsl : s.length ≤ 1000000) (hq : rdI r = none) :
  Ret Tryd.prog 57 #[sv s, iv z] w0 fun v w => v = .tuple #[iv 0, iv 0, iv 10] ∧ Ext No w0 w := by
 subst hz
 have := jr s (s.length - r.length) w0 om hsl
 unfold intV at this
 rw [← List.suffix_iff_eq_drop.1 hsf, hq] at this
 exact this
theorem lW (s r x q : By) (z : Int) (w0 : World) (hz : z = ((s.length - r.length : Nat) : Int)) (hsf : r <:+ s) (hsl : s.length ≤ 1000000) (hq : rdS r = some (x, q)) :
  Ret Tryd.prog 59 #[sv s, iv z] w0 fun v w => v = .tuple #[sv x, iv ((s.length - q.length : Nat) : Int), iv 0] ∧ Ext No w0 w := by
 obtain ⟨n, r2, hi, h0, h6, hl, hx, -, hql⟩ := kE hq
 have hsu := hsf.length_le
 have hsf2 := (ch hi).trans hsf
 have hsu2 := hsf2.length_le
 refine aI func59 rfl ntmps59 (lb rfl) fun a Y => ?_
 replace Y := Y.p2 0 1 rfl
 replace U : St No w0 [] w0 := St.init w0
 refine aa fun K1 hK1 => wla Y rfl fun a Y => wla Y rfl fun a Y => wla Y rfl fun a Y => ab (hK1 _ _ <| aa fun K2 hK2 => ?_)
 refine wlm Y rfl fun a Y => wlm Y rfl fun a Y => am Y U de call57 rfl (en hz hsf hsl hi) ?_
 clear Y U
 intro a w1 Y U
 refine wlm Y rfl fun a Y => wlv Y (ag rfl rfl) fun a Y => wlv Y (ag rfl rfl) fun a Y => wlv Y (ag rfl rfl) fun a Y => wla Y rfl fun a Y => wla Y rfl fun a Y => wla Y rfl fun a Y => ab (hK2 _ _ ?_)
 replace Y := Y.p7 0 4 5 6 7 8 9 rfl
 refine ac fun K3 hK3 => aa fun K4 hK4 => wlm Y rfl fun a Y => wlv Y ((v_ne rfl rfl).asb (b' := false) rfl) fun a Y => ab (hK4 _ _ <| aE Y rfl ?_)
 refine aq <| hK3 _ _ <| ac fun K5 hK5 => aa fun K6 hK6 => wlm Y rfl fun a Y => wlv Y ((v_lt rfl rfl).asb (b' := false) (by exact decide_eq_false om)) fun a Y => wlm Y rfl fun a Y => wly Y (ai rfl) fun a Y => wly Y ((v_gt rfl rfl).asb (b' := false) (by exact decide_eq_false om)) fun a Y => wlv Y (aw rfl rfl) fun a Y => wlm Y rfl fun a Y => wly Y (ai rfl) fun a Y => wly Y (ai rfl) fun a Y => wly Y (aW rfl rfl (runUnderlying9 _)) fun a Y => wly Y (ai rfl) fun a Y => wly Y (bq rfl rfl ⟨om, om⟩) fun a Y => wly Y ((v_gt rfl rfl).asb (b' := false) (by exact decide_eq_false om)) fun a Y => wlv Y (aw rfl rfl) fun a Y => ab (hK6 _ _ ?_)
 replace Y := Y.p7 0 4 5 6 7 8 33 rfl
 refine aE Y rfl ?_
 refine aq <| hK5 _ _ <| aa fun K7 hK7 => wlm Y rfl fun a Y => wlm Y rfl fun a Y => wlm Y rfl fun a Y => wlm Y rfl fun a Y => wlv Y ((aM rfl rfl ⟨om, om⟩).asi (m' := ((s.length - q.length : Nat) : Int)) om) fun a Y => wlv Y ((fe (xs := s) (l := s.length - r2.length) (h := s.length - q.length) rfl rfl rfl underlying9 (.inr ⟨.i64, rfl⟩) (.inr ⟨.i64, rfl⟩) om om).as (v' := sv x) (by rw [← kY hsf2 hx h0 hl hql])) fun a Y => wlm Y rfl fun a Y => wlm Y rfl fun a Y => wlv Y ((aM rfl rfl ⟨om, om⟩).asi (m' := ((s.length - q.length : Nat) : Int)) om) fun a Y => wla Y rfl fun a Y => wla Y rfl fun a Y => wla Y rfl fun a Y => ab (hK7 _ _ ?_)
 replace Y := Y.p3 4 5 6 rfl
 refine au ?_
 refine ar Y results59 (ae rfl (ae rfl (ae rfl ah))) ?_
 exact ⟨by rfl, U.ext⟩
theorem jF (s r r2 : By) (n z : Int) (w0 : World) (hz : z = ((s.length - r.length : Nat) : Int)) (hsf : r <:+ s) (hsl : s.length ≤ 1000000) (hi : rdI r = some (n, r2)) (hb : n < 0 ∨ 65536 < n ∨ (r2.length : Int) < n) :
  Ret Tryd.prog 59 #[sv s, iv z] w0 fun v w => v = .tuple #[sv ([] : By), iv 0, iv 10] ∧ Ext No w0 w := by
 have hsu := hsf.length_le
 have hsf2 := (ch hi).trans hsf
 have hsu2 := hsf2.length_le
 refine aI func59 rfl ntmps59 (lb rfl) fun a Y => ?_
 replace Y := Y.p2 0 1 rfl
 replace U : St No w0 [] w0 := St.init w0
 refine aa fun K1 hK1 => wla Y rfl fun a Y => wla Y rfl fun a Y => wla Y rfl fun a Y => ab (hK1 _ _ <| aa fun K2 hK2 => ?_)
 refine wlm Y rfl fun a Y => wlm Y rfl fun a Y => am Y U de call57 rfl (en hz hsf hsl hi) ?_
 clear Y U
 intro a w1 Y U
 refine wlm Y rfl fun a Y => wlv Y (ag rfl rfl) fun a Y => wlv Y (ag rfl rfl) fun a Y => wlv Y (ag rfl rfl) fun a Y => wla Y rfl fun a Y => wla Y rfl fun a Y => wla Y rfl fun a Y => ab (hK2 _ _ ?_)
 replace Y := Y.p7 0 4 5 6 7 8 9 rfl
 refine ac fun K3 hK3 => aa fun K4 hK4 => wlm Y rfl fun a Y => wlv Y ((v_ne rfl rfl).asb (b' := false) rfl) fun a Y => ab (hK4 _ _ <| aE Y rfl ?_)
 refine aq <| hK3 _ _ <| ac fun K5 hK5 => aa fun K6 hK6 => wlm Y rfl fun a Y => wlv Y (v_lt rfl rfl) fun a Y => wlm Y rfl fun a Y => ?_
 rcases Bool.eq_false_or_eq_true (decide (n < 0)) with hb1 | hb1
 ·rw [hb1] at Y
  try simp only [qz] at hb1
  refine wln Y fun a Y => wln Y fun a Y => wlv Y (aB rfl rfl) fun a Y => wlm Y rfl fun a Y => wln Y fun a Y => wln Y fun a Y => wln Y fun a Y => wln Y fun a Y => wln Y fun a Y => wln Y fun a Y => wlv Y (aB rfl rfl) fun a Y => ?_
  refine ab (hK6 _ _ ?_)
  replace Y := Y.p7 0 4 5 6 7 8 33 rfl
  refine aD Y rfl ?_
  refine aa fun K7 hK7 => wla Y rfl fun a Y => wla Y rfl fun a Y => wla Y rfl fun a Y => ab (hK7 _ _ <| au ?_)
  refine ar Y results59 (ae rfl (ae rfl (ae rfl ah))) ?_
  exact ⟨by rfl, U.ext⟩
 rw [hb1] at Y
 try simp only [qz] at hb1
 refine wly Y (ai rfl) fun a Y => wly Y (v_gt rfl rfl) fun a Y => wlv Y (aw rfl rfl) fun a Y => wlm Y rfl fun a Y => ?_
 rcases Bool.eq_false_or_eq_true (decide (65536 < n)) with hb2 | hb2
 ·rw [hb2] at Y
  try simp only [qz] at hb2
  refine wln Y fun a Y => wln Y fun a Y => wln Y fun a Y => wln Y fun a Y => wln Y fun a Y => wln Y fun a Y => wlv Y (aB rfl rfl) fun a Y => ab (hK6 _ _ ?_)
  replace Y := Y.p7 0 4 5 6 7 8 33 rfl
  refine aD Y rfl ?_
  refine aa fun K8 hK8 => wla Y rfl fun a Y => wla Y rfl fun a Y => wla Y rfl fun a Y => ab (hK8 _ _ <| au ?_)
  refine ar Y results59 (ae rfl (ae rfl (ae rfl ah))) ?_
  exact ⟨by rfl, U.ext⟩
 rw [hb2] at Y
 try simp only [qz] at hb2
 refine wly Y (ai rfl) fun a Y => wly Y (ai rfl) fun a Y => wly Y (aW rfl rfl (runUnderlying9 _)) fun a Y => wly Y (ai rfl) fun a Y => wly Y (bq rfl rfl ⟨om, om⟩) fun a Y => wly Y (v_gt rfl rfl) fun a Y => wlv Y (aw rfl rfl) fun a Y => ab (hK6 _ _ ?_)
 replace Y := Y.p7 0 4 5 6 7 8 33 rfl
 refine az Y rfl (fun hc3 => ?_) (fun hc3 => ?_)
 ·rw [hc3] at Y
  try simp only [qz] at hc3
  refine aa fun K9 hK9 => wla Y rfl fun a Y => wla Y rfl fun a Y => wla Y rfl fun a Y => ab (hK9 _ _ <| au ?_)
  refine ar Y results59 (ae rfl (ae rfl (ae rfl ah))) ?_
  exact ⟨by rfl, U.ext⟩
 rw [hc3] at Y
 try simp only [qz] at hc3
 exfalso; omega
theorem jK (s r : By) (z : Int) (w0 : World) (hz : z = ((s.length - r.length : Nat) : Int)) (hsf : r <:+ s) (hsl : s.length ≤ 1000000) (hi : rdI r = none) :
  Ret Tryd.prog 59 #[sv s, iv z] w0 fun v w => v = .tuple #[sv ([] : By), iv 0, iv 10] ∧ Ext No w0 w := by
 refine aI func59 rfl ntmps59 (lb rfl) fun a Y => ?_
 replace Y := Y.p2 0 1 rfl
 replace U : St No w0 [] w0 := St.init w0
 refine aa fun K1 hK1 => wla Y rfl fun a Y => wla Y rfl fun a Y => wla Y rfl fun a Y => ab (hK1 _ _ <| aa fun K2 hK2 => ?_)
 refine wlm Y rfl fun a Y => wlm Y rfl fun a Y => am Y U de call57 rfl (dX hz hsf hsl hi) ?_
 clear Y U
 intro a w1 Y U
 refine wlm Y rfl fun a Y => wlv Y (ag rfl rfl) fun a Y => wlv Y (ag rfl rfl) fun a Y => wlv Y (ag rfl rfl) fun a Y => wla Y rfl fun a Y => wla Y rfl fun a Y => wla Y rfl fun a Y => ab (hK2 _ _ ?_)
 replace Y := Y.p7 0 4 5 6 7 8 9 rfl
 refine ac fun K3 hK3 => aa fun K4 hK4 => wlm Y rfl fun a Y => wlv Y ((v_ne rfl rfl).asb (b' := true) rfl) fun a Y => ab (hK4 _ _ <| aD Y rfl ?_)
 refine aa fun K5 hK5 => wlm Y rfl fun a Y => wla Y rfl fun a Y => wla Y rfl fun a Y => wla Y rfl fun a Y => ab (hK5 _ _ <| au ?_)
 refine ar Y results59 (ae rfl (ae rfl (ae rfl ah))) ?_
 exact ⟨by rfl, U.ext⟩
theorem kG {s r : By} {z : Int} {w0 : World} (hz : z = ((s.length - r.length : Nat) : Int)) (hsf : r <:+ s) (hsl : s.length ≤ 1000000) (hq : rdS r = none) :
  Ret Tryd.prog 59 #[sv s, iv z] w0 fun v w => v = .tuple #[sv ([] : By), iv 0, iv 10] ∧ Ext No w0 w := by
 rcases nF hq with hi | ⟨n, r2, hi, hb⟩
 ·exact jK s r z w0 hz hsf hsl hi
 ·exact jF s r r2 n z w0 hz hsf hsl hi hb
theorem gR (s : By) (w0 : World) (hs : s.length ≤ 65536) :
  Ret Tryd.prog 54 #[sv s] w0 fun v w => v = .tuple #[sv (putS s), iv 0] ∧ Ext No w0 w := by
 have hpl := bE (s.length : Int)
 refine aI func54 rfl ntmps54 (lb rfl) fun a Y => ?_
 replace Y := Y.p1 0 rfl
 replace U : St No w0 [] w0 := St.init w0
 refine aa fun K1 hK1 => wla Y rfl fun a Y => wla Y rfl fun a Y => ab (hK1 _ _ <| ac fun K2 hK2 => ?_)
 refine aa fun K3 hK3 => wlm Y rfl fun a Y => wlv Y (aW rfl rfl (runUnderlying9 _)) fun a Y => wlv Y ((v_gt rfl rfl).asb (b' := false) (by exact decide_eq_false om)) fun a Y => ab (hK3 _ _ <| aE Y rfl ?_)
 refine aq <| hK2 _ _ <| aa fun K4 hK4 => wlm Y rfl fun a Y => wlv Y (aW rfl rfl (runUnderlying9 _)) fun a Y => am Y U de call53 rfl (cy (s.length : Int) _ (by unfold small; omega)) ?_
 clear Y U
 intro a w1 Y U
 refine wlm Y rfl fun a Y => wlv Y (ag rfl rfl) fun a Y => wlv Y (ag rfl rfl) fun a Y => wla Y rfl fun a Y => wla Y rfl fun a Y => ab (hK4 _ _ ?_)
 replace Y := Y.p4 0 2 3 4 rfl
 refine aa fun K5 hK5 => wlm Y rfl fun a Y => wlm Y rfl fun a Y => wlv Y (cZ rfl rfl (by (try simp only [List.length_append]); omega)) fun a Y => wla Y rfl fun a Y => wla Y rfl fun a Y => ab (hK5 _ _ <| au ?_)
 refine ar Y results54 (ae rfl (ae rfl ah)) ?_
 exact ⟨by rfl, U.ext⟩
theorem dB {s r r2 : By} {n z : Int} {w0 : World} (hz : z = ((s.length - r.length : Nat) : Int)) (hsf : r <:+ s) (hsl : s.length ≤ 1000000) (hq : rdI r = some (n, r2)) :
  Ret Tryd.prog 60 #[sv s, iv z] w0 fun v w => v = .tuple #[iv n, iv ((s.length - r2.length : Nat) : Int), iv 0] ∧ Ext No w0 w := by
 subst hz
 have := il s (s.length - r.length) w0 om hsl
 unfold intV at this
 rw [← List.suffix_iff_eq_drop.1 hsf, hq] at this
 exact this
theorem dJ {s r : By} {z : Int} {w0 : World} (hz : z = ((s.length - r.length : Nat) : Int)) (hsf : r <:+ s) (hsl : s.length ≤ 1000000) (hq : rdI r = none) :
  Ret Tryd.prog 60 #[sv s, iv z] w0 fun v w => v = .tuple #[iv 0, iv 0, iv 10] ∧ Ext No w0 w := by
 subst hz
 have := il s (s.length - r.length) w0 om hsl
 unfold intV at this
 rw [← List.suffix_iff_eq_drop.1 hsf, hq] at this
 exact this
theorem ku (s r x q : By) (z : Int) (w0 : World) (hz : z = ((s.length - r.length : Nat) : Int)) (hsf : r <:+ s) (hsl : s.length ≤ 1000000) (hq : rdS r = some (x, q)) :
  Ret Tryd.prog 61 #[sv s, iv z] w0 fun v w => v = .tuple #[sv x, iv ((s.length - q.length : Nat) : Int), iv 0] ∧ Ext No w0 w := by
 obtain ⟨n, r2, hi, h0, h6, hl, hx, -, hql⟩ := kE hq
 have hsu := hsf.length_le
 have hsf2 := (ch hi).trans hsf
 have hsu2 := hsf2.length_le
 refine aI func61 rfl ntmps61 (lb rfl) fun a Y => ?_
 replace Y := Y.p2 0 1 rfl
 replace U : St No w0 [] w0 := St.init w0
 refine aa fun K1 hK1 => wla Y rfl fun a Y => wla Y rfl fun a Y => wla Y rfl fun a Y => ab (hK1 _ _ <| aa fun K2 hK2 => ?_)
 refine wlm Y rfl fun a Y => wlm Y rfl fun a Y => am Y U de call60 rfl (dB hz hsf hsl hi) ?_
 clear Y U
 intro a w1 Y U
 refine wlm Y rfl fun a Y => wlv Y (ag rfl rfl) fun a Y => wlv Y (ag rfl rfl) fun a Y => wlv Y (ag rfl rfl) fun a Y => wla Y rfl fun a Y => wla Y rfl fun a Y => wla Y rfl fun a Y => ab (hK2 _ _ ?_)
 replace Y := Y.p7 0 4 5 6 7 8 9 rfl
 refine ac fun K3 hK3 => aa fun K4 hK4 => wlm Y rfl fun a Y => wlv Y ((v_ne rfl rfl).asb (b' := false) rfl) fun a Y => ab (hK4 _ _ <| aE Y rfl ?_)
 refine aq <| hK3 _ _ <| ac fun K5 hK5 => aa fun K6 hK6 => wlm Y rfl fun a Y => wlv Y ((v_lt rfl rfl).asb (b' := false) (by exact decide_eq_false om)) fun a Y => wlm Y rfl fun a Y => wly Y (ai rfl) fun a Y => wly Y ((v_gt rfl rfl).asb (b' := false) (by exact decide_eq_false om)) fun a Y => wlv Y (aw rfl rfl) fun a Y => wlm Y rfl fun a Y => wly Y (ai rfl) fun a Y => wly Y (ai rfl) fun a Y => wly Y (aW rfl rfl (runUnderlying9 _)) fun a Y => wly Y (ai rfl) fun a Y => wly Y (bq rfl rfl ⟨om, om⟩) fun a Y => wly Y ((v_gt rfl rfl).asb (b' := false) (by exact decide_eq_false om)) fun a Y => wlv Y (aw rfl rfl) fun a Y => ab (hK6 _ _ ?_)
 replace Y := Y.p7 0 4 5 6 7 8 33 rfl
 refine aE Y rfl ?_
 refine aq <| hK5 _ _ <| aa fun K7 hK7 => wlm Y rfl fun a Y => wlm Y rfl fun a Y => wlm Y rfl fun a Y => wlm Y rfl fun a Y => wlv Y ((aM rfl rfl ⟨om, om⟩).asi (m' := ((s.length - q.length : Nat) : Int)) om) fun a Y => wlv Y ((fe (xs := s) (l := s.length - r2.length) (h := s.length - q.length) rfl rfl rfl underlying9 (.inr ⟨.i64, rfl⟩) (.inr ⟨.i64, rfl⟩) om om).as (v' := sv x) (by rw [← kY hsf2 hx h0 hl hql])) fun a Y => wlm Y rfl fun a Y => wlm Y rfl fun a Y => wlv Y ((aM rfl rfl ⟨om, om⟩).asi (m' := ((s.length - q.length : Nat) : Int)) om) fun a Y => wla Y rfl fun a Y => wla Y rfl fun a Y => wla Y rfl fun a Y => ab (hK7 _ _ ?_)
 replace Y := Y.p3 4 5 6 rfl
 refine au ?_
 refine ar Y results61 (ae rfl (ae rfl (ae rfl ah))) ?_
 exact ⟨by rfl, U.ext⟩
theorem iR (s r r2 : By) (n z : Int) (w0 : World) (hz : z = ((s.length - r.length : Nat) : Int)) (hsf : r <:+ s) (hsl : s.length ≤ 1000000) (hi : rdI r = some (n, r2)) (hb : n < 0 ∨ 65536 < n ∨ (r2.length : Int) < n) :
  Ret Tryd.prog 61 #[sv s, iv z] w0 fun v w => v = .tuple #[sv ([] : By), iv 0, iv 10] ∧ Ext No w0 w := by
 have hsu := hsf.length_le
 have hsf2 := (ch hi).trans hsf
 have hsu2 := hsf2.length_le
 refine aI func61 rfl ntmps61 (lb rfl) fun a Y => ?_
 replace Y := Y.p2 0 1 rfl
 replace U : St No w0 [] w0 := St.init w0
 refine aa fun K1 hK1 => wla Y rfl fun a Y => wla Y rfl fun a Y => wla Y rfl fun a Y => ab (hK1 _ _ <| aa fun K2 hK2 => ?_)
 refine wlm Y rfl fun a Y => wlm Y rfl fun a Y => am Y U de call60 rfl (dB hz hsf hsl hi) ?_
 clear Y U
 intro a w1 Y U
 refine wlm Y rfl fun a Y => wlv Y (ag rfl rfl) fun a Y => wlv Y (ag rfl rfl) fun a Y => wlv Y (ag rfl rfl) fun a Y => wla Y rfl fun a Y => wla Y rfl fun a Y => wla Y rfl fun a Y => ab (hK2 _ _ ?_)
 replace Y := Y.p7 0 4 5 6 7 8 9 rfl
 refine ac fun K3 hK3 => aa fun K4 hK4 => wlm Y rfl fun a Y => wlv Y ((v_ne rfl rfl).asb (b' := false) rfl) fun a Y => ab (hK4 _ _ <| aE Y rfl ?_)
 refine aq <| hK3 _ _ <| ac fun K5 hK5 => aa fun K6 hK6 => wlm Y rfl fun a Y => wlv Y (v_lt rfl rfl) fun a Y => wlm Y rfl fun a Y => ?_
 rcases Bool.eq_false_or_eq_true (decide (n < 0)) with hb1 | hb1
 ·rw [hb1] at Y
  try simp only [qz] at hb1
  refine wln Y fun a Y => wln Y fun a Y => wlv Y (aB rfl rfl) fun a Y => wlm Y rfl fun a Y => wln Y fun a Y => wln Y fun a Y => wln Y fun a Y => wln Y fun a Y => wln Y fun a Y => wln Y fun a Y => wlv Y (aB rfl rfl) fun a Y => ?_
  refine ab (hK6 _ _ ?_)
  replace Y := Y.p7 0 4 5 6 7 8 33 rfl
  refine aD Y rfl ?_
  refine aa fun K7 hK7 => wla Y rfl fun a Y => wla Y rfl fun a Y => wla Y rfl fun a Y => ab (hK7 _ _ <| au ?_)
  refine ar Y results61 (ae rfl (ae rfl (ae rfl ah))) ?_
  exact ⟨by rfl, U.ext⟩
 rw [hb1] at Y
 try simp only [qz] at hb1
 refine wly Y (ai rfl) fun a Y => wly Y (v_gt rfl rfl) fun a Y => wlv Y (aw rfl rfl) fun a Y => wlm Y rfl fun a Y => ?_
 rcases Bool.eq_false_or_eq_true (decide (65536 < n)) with hb2 | hb2
 ·rw [hb2] at Y
  try simp only [qz] at hb2
  refine wln Y fun a Y => wln Y fun a Y => wln Y fun a Y => wln Y fun a Y => wln Y fun a Y => wln Y fun a Y => wlv Y (aB rfl rfl) fun a Y => ab (hK6 _ _ ?_)
  replace Y := Y.p7 0 4 5 6 7 8 33 rfl
  refine aD Y rfl ?_
  refine aa fun K8 hK8 => wla Y rfl fun a Y => wla Y rfl fun a Y => wla Y rfl fun a Y => ab (hK8 _ _ <| au ?_)
  refine ar Y results61 (ae rfl (ae rfl (ae rfl ah))) ?_
  exact ⟨by rfl, U.ext⟩
 rw [hb2] at Y
 try simp only [qz] at hb2
 refine wly Y (ai rfl) fun a Y => wly Y (ai rfl) fun a Y => wly Y (aW rfl rfl (runUnderlying9 _)) fun a Y => wly Y (ai rfl) fun a Y => wly Y (bq rfl rfl ⟨om, om⟩) fun a Y => wly Y (v_gt rfl rfl) fun a Y => wlv Y (aw rfl rfl) fun a Y => ab (hK6 _ _ ?_)
 replace Y := Y.p7 0 4 5 6 7 8 33 rfl
 refine az Y rfl (fun hc3 => ?_) (fun hc3 => ?_)
 ·rw [hc3] at Y
  try simp only [qz] at hc3
  refine aa fun K9 hK9 => wla Y rfl fun a Y => wla Y rfl fun a Y => wla Y rfl fun a Y => ab (hK9 _ _ <| au ?_)
  refine ar Y results61 (ae rfl (ae rfl (ae rfl ah))) ?_
  exact ⟨by rfl, U.ext⟩
 rw [hc3] at Y
 try simp only [qz] at hc3
 exfalso; omega
theorem iu (s r : By) (z : Int) (w0 : World) (hz : z = ((s.length - r.length : Nat) : Int)) (hsf : r <:+ s) (hsl : s.length ≤ 1000000) (hi : rdI r = none) :
  Ret Tryd.prog 61 #[sv s, iv z] w0 fun v w => v = .tuple #[sv ([] : By), iv 0, iv 10] ∧ Ext No w0 w := by
 refine aI func61 rfl ntmps61 (lb rfl) fun a Y => ?_
 replace Y := Y.p2 0 1 rfl
 replace U : St No w0 [] w0 := St.init w0
 refine aa fun K1 hK1 => wla Y rfl fun a Y => wla Y rfl fun a Y => wla Y rfl fun a Y => ab (hK1 _ _ <| aa fun K2 hK2 => ?_)
 refine wlm Y rfl fun a Y => wlm Y rfl fun a Y => am Y U de call60 rfl (dJ hz hsf hsl hi) ?_
 clear Y U
 intro a w1 Y U
 refine wlm Y rfl fun a Y => wlv Y (ag rfl rfl) fun a Y => wlv Y (ag rfl rfl) fun a Y => wlv Y (ag rfl rfl) fun a Y => wla Y rfl fun a Y => wla Y rfl fun a Y => wla Y rfl fun a Y => ab (hK2 _ _ ?_)
 replace Y := Y.p7 0 4 5 6 7 8 9 rfl
 refine ac fun K3 hK3 => aa fun K4 hK4 => wlm Y rfl fun a Y => wlv Y ((v_ne rfl rfl).asb (b' := true) rfl) fun a Y => ab (hK4 _ _ <| aD Y rfl ?_)
 refine aa fun K5 hK5 => wlm Y rfl fun a Y => wla Y rfl fun a Y => wla Y rfl fun a Y => wla Y rfl fun a Y => ab (hK5 _ _ <| au ?_)
 refine ar Y results61 (ae rfl (ae rfl (ae rfl ah))) ?_
 exact ⟨by rfl, U.ext⟩
theorem je {s r : By} {z : Int} {w0 : World} (hz : z = ((s.length - r.length : Nat) : Int)) (hsf : r <:+ s) (hsl : s.length ≤ 1000000) (hq : rdS r = none) :
  Ret Tryd.prog 61 #[sv s, iv z] w0 fun v w => v = .tuple #[sv ([] : By), iv 0, iv 10] ∧ Ext No w0 w := by
 rcases nF hq with hi | ⟨n, r2, hi, hb⟩
 ·exact iu s r z w0 hz hsf hsl hi
 ·exact iR s r r2 n z w0 hz hsf hsl hi hb
end Go.Proofs.YtddfkkdanpmnaaaDoor
