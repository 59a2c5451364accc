/- Texts joined: RefB, RefC, WirA, WshA, WshB, WshC, WshD. -/
import Derived.Test.YtncbabejopafjaaGreatDoorPOB
import Derived.Test.YtncbabejopafjaaGreatDoorPOA
import Derived.Laws.StructEq
set_option linter.unusedVariables false
set_option linter.unusedSimpArgs false
set_option maxRecDepth 4000
set_option maxHeartbeats 4000000
namespace Go.Proofs.YtncbabejopafjaaGreatDoor
open Go.RowKit Go.PW _root_.Go.Proofs.Tryz
theorem dC (x : Wd) (n : Nat) (w0 : World) (hn : 0 < n) (hn2 : n < 32) : Ret Tryz.prog 114 #[wv x, iv (n : Int)] w0 fun v w => v = wv (ror x n) ∧ Ext No w0 w := by
 have := ma x n w0 hn hn2
 rw [show (x >>> n) ||| (x <<< (32 - n)) = ror x n from BitVec.or_comm _ _] at this
 exact this
theorem mix2 (x : Wd) (a b : Nat) : mix x [a, b] = ror x a ^^^ ror x b := by simp [mix]
theorem mix3 (x : Wd) (a b c : Nat) : mix x [a, b, c] = ror x a ^^^ ror x b ^^^ ror x c := by simp [mix]
theorem kl (bs : List UInt8) {j : Nat} : ∀ {i : Nat}, j < i → (d : Nat) → (sch bs (i + d)).getD j 0#32 = (sch bs i).getD j 0#32
 | i, h, 0 => rfl
 | i, h, d + 1 => by
  have e : sch bs (i + (d + 1)) = (sch bs (i + d)).set (i + d) (if i + d < 16 then be bs (i + d) else nx (sch bs (i + d)) (i + d)) := rfl
  rw [e, List.getD_eq_getElem?_getD, List.getElem?_set_ne om, ← List.getD_eq_getElem?_getD]
  exact kl bs h d
theorem pC (bs : List UInt8) {j : Nat} (h : j < 64) : (sch bs 64).getD j 0#32 = if j < 16 then be bs j else nx (sch bs j) j := by
 have := kl bs (j := j) (i := j + 1) om (63 - j)
 rw [show j + 1 + (63 - j) = 64 from by omega] at this
 rw [this, sch, List.getD_eq_getElem?_getD, List.getElem?_set_self (by rw [aJ]; omega)]; rfl
theorem kC (bs : List UInt8) {i j : Nat} (h : i < j) (hj : j ≤ 64) : (sch bs j).getD i 0#32 = (sch bs 64).getD i 0#32 := by
 have := kl bs h (64 - j)
 rw [show j + (64 - j) = 64 from by omega] at this
 exact this.symm
theorem nT (bs : List UInt8) {k : Nat} (h : k < 16) : (sch bs 64).take (k + 1) = (sch bs 64).take k ++ [be bs k] := by
 rw [da 0#32 (by rw [aJ]; omega), pC bs om, if_pos h]
theorem np (bs : List UInt8) {j : Nat} (h : 16 ≤ j) (hj : j < 64) : (sch bs 64).take (j + 1) = (sch bs 64).take j ++ [((((sch bs 64).take j).getD (j - 16) 0#32 + (ror (((sch bs 64).take j).getD (j - 15) 0#32) 7 ^^^ ror (((sch bs 64).take j).getD (j - 15) 0#32) 18 ^^^ ((sch bs 64).take j).getD (j - 15) 0#32 >>> 3)) + ((sch bs 64).take j).getD (j - 7) 0#32) + (ror (((sch bs 64).take j).getD (j - 2) 0#32) 17 ^^^ ror (((sch bs 64).take j).getD (j - 2) 0#32) 19 ^^^ ((sch bs 64).take j).getD (j - 2) 0#32 >>> 10)] := by
 rw [da 0#32 (by rw [aJ]; omega), pC bs om, if_neg om, nx, mix2, mix2]
 rw [kC bs (i := j - 16) (j := j) om om, kC bs (i := j - 15) (j := j) om om, kC bs (i := j - 7) (j := j) om om, kC bs (i := j - 2) (j := j) om om]
 rw [fp _ om, fp _ om, fp _ om, fp _ om]
theorem og (x y : W8) {q : Nat} (h : q < 8) : (x.add y).l.take (q + 1) = (x.add y).l.take q ++ [x.l.getD q 0#32 + y.l.getD q 0#32] := by
 rw [da 0#32 (by exact h)]
 congr 2
 have : q = 0 ∨ q = 1 ∨ q = 2 ∨ q = 3 ∨ q = 4 ∨ q = 5 ∨ q = 6 ∨ q = 7 := by omega
 rcases this with rfl | rfl | rfl | rfl | rfl | rfl | rfl | rfl <;> rfl
theorem nz (hvv bv : Value) (hv : W8) (bs : List UInt8) (w0 : World) (hhv : SlAt w0 hvv 1 ((hv.l).map fun x => [wv x])) (hbv : SlAt w0 bv 1 (bs.map fun b => [yv b])) (hbl : bs.length = 64) :
  Ret Tryz.prog 109 #[hvv, bv] w0 (MemR w0 (fun v : Value => v) (fun v => [own v 170 1 (((block hv bs).l).map fun x => [wv x])]) (fun _ => True)) := by
 refine aD func109 rfl ntmps109 (lb rfl) fun a Z => ?_
 replace Z := Z.p2 0 1 rfl
 replace Y : St No w0 [] w0 := St.init w0
 refine aa fun K1 hK1 => wla Z rfl fun a Z => ab (hK1 _ _ <| aa fun K2 hK2 => ?_)
 refine wla Z rfl fun a Z => ab (hK2 _ _ <| ah fun K3 hK3 => ?_)
 refine aa fun K4 hK4 => wla Z rfl fun a Z => ab (hK4 _ _ <| ay ?_)
 replace Y : St No w0 [own (.slice none 0 0) 170 1 (((sch bs 64).take 0).map fun x => [wv x])] w0 := Y.nil_own
 refine bj (fun m a w => ∃ (k : Nat) (u : Value), m = 16 - k ∧ (k ≤ 16) ∧ Fr 238 [(0, hvv), (1, bv), (4, .slice none 0 0), (5, u), (6, iv (k : Int))] [] a ∧ St No w0 [own u 170 1 (((sch bs 64).take k).map fun x => [wv x])] w) _ ⟨0, .slice none 0 0, rfl, Nat.zero_le _, Z.pick [0, 1, 4, 5, 6], Y.select [0] de⟩ ?_
 rintro _ a w1 ⟨k, u, rfl, hk, Z, Y⟩
 refine ah fun K5 hK5 => aa fun K6 hK6 => wlm Z rfl fun a Z => wlv Z (v_lt rfl rfl) fun a Z => ab (hK6 _ _ ?_)
 refine ax Z rfl (fun hc1 => ?_) (fun hc1 => ?_)
 ·rw [hc1] at Z
  try simp only [qz] at hc1
  refine az <| hK5 _ _ <| ah fun K7 hK7 => ay <| aK kr (aU kr fun w2 hxz => ?_)
  replace Y := Y.grow hxz
  refine aV (k := 0) 35 [0, 34] Z kr kr kr rfx ?_
  replace Z := Z.p7 0 1 4 5 6 19 20 rfl
  refine aR [34] (fun i => match i with | 34 => pm (fun b : Nat => .slice (some ⟨b, 0, none⟩) 1 1) (fun b => [own (.slice (some ⟨b, 0, none⟩) 1 1) 170 1 [[wv (((((BitVec.ofNat 32 (bs.getD (4 * k) 0).toNat) <<< 24) ||| ((BitVec.ofNat 32 (bs.getD (4 * k + 1) 0).toNat) <<< 16)) ||| ((BitVec.ofNat 32 (bs.getD (4 * k + 2) 0).toNat) <<< 8)) ||| (BitVec.ofNat 32 (bs.getD (4 * k + 3) 0).toNat))]]]) (fun _ => True) | _ => fun _ _ => False) 35 [[], [], [], [2], [1, 3], [4], [5], [6], [], [], [9], [10], [8, 11], [12], [13], [14], [7, 15], [], [], [18], [19], [17, 20], [21], [22], [23], [16, 24], [], [], [27], [28], [26, 29], [30], [31], [25, 32], [33]] [u, bv, iv (k : Int), iv (4 * (k : Int)), slAddr bv ((4 * k) * 1), yv (bs.getD (4 * k) 0), wv (BitVec.ofNat 32 (bs.getD (4 * k) 0).toNat), wv ((BitVec.ofNat 32 (bs.getD (4 * k) 0).toNat) <<< 24), bv, iv (k : Int), iv (4 * (k : Int)), iv ((4 * (k : Int)) + 1), slAddr bv ((4 * k + 1) * 1), yv (bs.getD (4 * k + 1) 0), wv (BitVec.ofNat 32 (bs.getD (4 * k + 1) 0).toNat), wv ((BitVec.ofNat 32 (bs.getD (4 * k + 1) 0).toNat) <<< 16), wv (((BitVec.ofNat 32 (bs.getD (4 * k) 0).toNat) <<< 24) ||| ((BitVec.ofNat 32 (bs.getD (4 * k + 1) 0).toNat) <<< 16)), bv, iv (k : Int), iv (4 * (k : Int)), iv ((4 * (k : Int)) + 2), slAddr bv ((4 * k + 2) * 1), yv (bs.getD (4 * k + 2) 0), wv (BitVec.ofNat 32 (bs.getD (4 * k + 2) 0).toNat), wv ((BitVec.ofNat 32 (bs.getD (4 * k + 2) 0).toNat) <<< 8), wv ((((BitVec.ofNat 32 (bs.getD (4 * k) 0).toNat) <<< 24) ||| ((BitVec.ofNat 32 (bs.getD (4 * k + 1) 0).toNat) <<< 16)) ||| ((BitVec.ofNat 32 (bs.getD (4 * k + 2) 0).toNat) <<< 8)), bv, iv (k : Int), iv (4 * (k : Int)), iv ((4 * (k : Int)) + 3), slAddr bv ((4 * k + 3) * 1), yv (bs.getD (4 * k + 3) 0), wv (BitVec.ofNat 32 (bs.getD (4 * k + 3) 0).toNat), wv (((((BitVec.ofNat 32 (bs.getD (4 * k) 0).toNat) <<< 24) ||| ((BitVec.ofNat 32 (bs.getD (4 * k + 1) 0).toNat) <<< 16)) ||| ((BitVec.ofNat 32 (bs.getD (4 * k + 2) 0).toNat) <<< 8)) ||| (BitVec.ofNat 32 (bs.getD (4 * k + 3) 0).toNat)), undef] Z Y kr kr kr ?_ ?_ ?_
  ·intro i hi hiq
   match i, hi, hiq with
   | 0, _, _ => exact fun w Y => OpV.g (ak rfl)
   | 1, _, _ => exact fun w Y => OpV.g (ak rfl)
   | 2, _, _ => exact fun w Y => OpV.g (ak rfl)
   | 3, _, _ => exact fun w Y => OpV.g (dR rfl rfl ⟨om, om⟩)
   | 4, _, _ => exact fun w Y => OpV.g ((ao (i := 4 * (k : Int)) (sT := 117) (Y.arg hbv) rfl rfl (runUnderlying117 _) (sizeOf5 _) om (by rw [List.length_map]; first | omega | (rw [aJ]; omega) | (rw [List.length_take, aJ]; omega) | (rw [W8.l_len]; omega) | (rw [bH]; omega))).as (v' := slAddr bv ((4 * k) * 1)) (by rw [show (4 * (k : Int)).toNat = (4 * k) from by omega]))
   | 5, _, _ => exact fun w Y => OpV.g (aE (u := yv (bs.getD (4 * k) 0)) (i := (4 * k)) (j := 0) (Y.arg hbv) (by rw [List.length_map]; first | omega | (rw [aJ]; omega) | (rw [List.length_take, aJ]; omega) | (rw [W8.l_len]; omega) | (rw [bH]; omega)) rfl (isAgg5 _) (by simp [List.getD_eq_getElem?_getD, List.getElem?_eq_getElem (show (4 * k) < bs.length by omega)]))
   | 6, _, _ => exact fun w Y => OpV.g (cW rfl kr underlying170)
   | 7, _, _ => exact fun w Y => OpV.g (eX (n := 24) rfl rfl)
   | 8, _, _ => exact fun w Y => OpV.g (ak rfl)
   | 9, _, _ => exact fun w Y => OpV.g (ak rfl)
   | 10, _, _ => exact fun w Y => OpV.g (dR rfl rfl ⟨om, om⟩)
   | 11, _, _ => exact fun w Y => OpV.g (aS rfl rfl ⟨om, om⟩)
   | 12, _, _ => exact fun w Y => OpV.g ((ao (i := (4 * (k : Int)) + 1) (sT := 117) (Y.arg hbv) rfl rfl (runUnderlying117 _) (sizeOf5 _) om (by rw [List.length_map]; first | omega | (rw [aJ]; omega) | (rw [List.length_take, aJ]; omega) | (rw [W8.l_len]; omega) | (rw [bH]; omega))).as (v' := slAddr bv ((4 * k + 1) * 1)) (by rw [show ((4 * (k : Int)) + 1).toNat = (4 * k + 1) from by omega]))
   | 13, _, _ => exact fun w Y => OpV.g (aE (u := yv (bs.getD (4 * k + 1) 0)) (i := (4 * k + 1)) (j := 0) (Y.arg hbv) (by rw [List.length_map]; first | omega | (rw [aJ]; omega) | (rw [List.length_take, aJ]; omega) | (rw [W8.l_len]; omega) | (rw [bH]; omega)) rfl (isAgg5 _) (by simp [List.getD_eq_getElem?_getD, List.getElem?_eq_getElem (show (4 * k + 1) < bs.length by omega)]))
   | 14, _, _ => exact fun w Y => OpV.g (cW rfl kr underlying170)
   | 15, _, _ => exact fun w Y => OpV.g (eX (n := 16) rfl rfl)
   | 16, _, _ => exact fun w Y => OpV.g (gB rfl rfl)
   | 17, _, _ => exact fun w Y => OpV.g (ak rfl)
   | 18, _, _ => exact fun w Y => OpV.g (ak rfl)
   | 19, _, _ => exact fun w Y => OpV.g (dR rfl rfl ⟨om, om⟩)
   | 20, _, _ => exact fun w Y => OpV.g (aS rfl rfl ⟨om, om⟩)
   | 21, _, _ => exact fun w Y => OpV.g ((ao (i := (4 * (k : Int)) + 2) (sT := 117) (Y.arg hbv) rfl rfl (runUnderlying117 _) (sizeOf5 _) om (by rw [List.length_map]; first | omega | (rw [aJ]; omega) | (rw [List.length_take, aJ]; omega) | (rw [W8.l_len]; omega) | (rw [bH]; omega))).as (v' := slAddr bv ((4 * k + 2) * 1)) (by rw [show ((4 * (k : Int)) + 2).toNat = (4 * k + 2) from by omega]))
   | 22, _, _ => exact fun w Y => OpV.g (aE (u := yv (bs.getD (4 * k + 2) 0)) (i := (4 * k + 2)) (j := 0) (Y.arg hbv) (by rw [List.length_map]; first | omega | (rw [aJ]; omega) | (rw [List.length_take, aJ]; omega) | (rw [W8.l_len]; omega) | (rw [bH]; omega)) rfl (isAgg5 _) (by simp [List.getD_eq_getElem?_getD, List.getElem?_eq_getElem (show (4 * k + 2) < bs.length by omega)]))
   | 23, _, _ => exact fun w Y => OpV.g (cW rfl kr underlying170)
   | 24, _, _ => exact fun w Y => OpV.g (eX (n := 8) rfl rfl)
   | 25, _, _ => exact fun w Y => OpV.g (gB rfl rfl)
   | 26, _, _ => exact fun w Y => OpV.g (ak rfl)
   | 27, _, _ => exact fun w Y => OpV.g (ak rfl)
   | 28, _, _ => exact fun w Y => OpV.g (dR rfl rfl ⟨om, om⟩)
   | 29, _, _ => exact fun w Y => OpV.g (aS rfl rfl ⟨om, om⟩)
   | 30, _, _ => exact fun w Y => OpV.g ((ao (i := (4 * (k : Int)) + 3) (sT := 117) (Y.arg hbv) rfl rfl (runUnderlying117 _) (sizeOf5 _) om (by rw [List.length_map]; first | omega | (rw [aJ]; omega) | (rw [List.length_take, aJ]; omega) | (rw [W8.l_len]; omega) | (rw [bH]; omega))).as (v' := slAddr bv ((4 * k + 3) * 1)) (by rw [show ((4 * (k : Int)) + 3).toNat = (4 * k + 3) from by omega]))
   | 31, _, _ => exact fun w Y => OpV.g (aE (u := yv (bs.getD (4 * k + 3) 0)) (i := (4 * k + 3)) (j := 0) (Y.arg hbv) (by rw [List.length_map]; first | omega | (rw [aJ]; omega) | (rw [List.length_take, aJ]; omega) | (rw [W8.l_len]; omega) | (rw [bH]; omega)) rfl (isAgg5 _) (by simp [List.getD_eq_getElem?_getD, List.getElem?_eq_getElem (show (4 * k + 3) < bs.length by omega)]))
   | 32, _, _ => exact fun w Y => OpV.g (cW rfl kr underlying170)
   | 33, _, _ => exact fun w Y => OpV.g (gB rfl rfl)
   | 34, _, h => exact absurd sm h
   | i + 35, h, _ => exact absurd h om
  ·intro i hi
   simp only [List.mem_cons, List.not_mem_nil, or_false] at hi
   subst hi
   ·intro w Y
    exact bW (E := 170) (sz := 1) rfl [[wv (((((BitVec.ofNat 32 (bs.getD (4 * k) 0).toNat) <<< 24) ||| ((BitVec.ofNat 32 (bs.getD (4 * k + 1) 0).toNat) <<< 16)) ||| ((BitVec.ofNat 32 (bs.getD (4 * k + 2) 0).toNat) <<< 8)) ||| (BitVec.ofNat 32 (bs.getD (4 * k + 3) 0).toNat))]] (fun _ => by kernel_rfl) sm rfl de
  clear Z Y
  rintro _ _ ⟨b2, rfl, -, rfl⟩ a w3 Z Y
  replace Z : Fr 238 [(23, u), (24, bv), (25, iv (k : Int)), (26, iv (4 * (k : Int))), (27, slAddr bv ((4 * k) * 1)), (28, yv (bs.getD (4 * k) 0)), (29, wv (BitVec.ofNat 32 (bs.getD (4 * k) 0).toNat)), (30, wv ((BitVec.ofNat 32 (bs.getD (4 * k) 0).toNat) <<< 24)), (31, bv), (32, iv (k : Int)), (33, iv (4 * (k : Int))), (34, iv ((4 * (k : Int)) + 1)), (35, slAddr bv ((4 * k + 1) * 1)), (36, yv (bs.getD (4 * k + 1) 0)), (37, wv (BitVec.ofNat 32 (bs.getD (4 * k + 1) 0).toNat)), (38, wv ((BitVec.ofNat 32 (bs.getD (4 * k + 1) 0).toNat) <<< 16)), (39, wv (((BitVec.ofNat 32 (bs.getD (4 * k) 0).toNat) <<< 24) ||| ((BitVec.ofNat 32 (bs.getD (4 * k + 1) 0).toNat) <<< 16))), (40, bv), (41, iv (k : Int)), (42, iv (4 * (k : Int))), (43, iv ((4 * (k : Int)) + 2)), (44, slAddr bv ((4 * k + 2) * 1)), (45, yv (bs.getD (4 * k + 2) 0)), (46, wv (BitVec.ofNat 32 (bs.getD (4 * k + 2) 0).toNat)), (47, wv ((BitVec.ofNat 32 (bs.getD (4 * k + 2) 0).toNat) <<< 8)), (48, wv ((((BitVec.ofNat 32 (bs.getD (4 * k) 0).toNat) <<< 24) ||| ((BitVec.ofNat 32 (bs.getD (4 * k + 1) 0).toNat) <<< 16)) ||| ((BitVec.ofNat 32 (bs.getD (4 * k + 2) 0).toNat) <<< 8))), (49, bv), (50, iv (k : Int)), (51, iv (4 * (k : Int))), (52, iv ((4 * (k : Int)) + 3)), (53, slAddr bv ((4 * k + 3) * 1)), (54, yv (bs.getD (4 * k + 3) 0)), (55, wv (BitVec.ofNat 32 (bs.getD (4 * k + 3) 0).toNat)), (56, wv (((((BitVec.ofNat 32 (bs.getD (4 * k) 0).toNat) <<< 24) ||| ((BitVec.ofNat 32 (bs.getD (4 * k + 1) 0).toNat) <<< 16)) ||| ((BitVec.ofNat 32 (bs.getD (4 * k + 2) 0).toNat) <<< 8)) ||| (BitVec.ofNat 32 (bs.getD (4 * k + 3) 0).toNat))), (57, _), (0, _), (1, _), (4, _), (5, _), (6, _), (19, _), (20, _)] [] a := Z
  replace Y : St No w0 [_, _] w3 := Y
  refine ab <| aP (k := 35) 37 [36] kr kr kr ?_
  refine bG (i := 1) (sT := 171) (inf := Tryz.t170) (z := wv (0#32)) (b := 0) (off := 0) (m := 0) (c := 0) rfl rfl rfl (Y.ow 0 rfl) sm underlying171 rfl rfl rfl rfl de (by simp [Value.oneCell', yv, wv, sv]) (by have hby : Tryz.t170.bytes = 4 := rfl; simp only [big, hby, List.length_append, List.length_map, List.length_take, aJ, W8.l_len, List.length_cons, List.length_nil]; omega) (by have hby : Tryz.t170.bytes = 4 := rfl; simp only [big, hby, List.length_append, List.length_map, List.length_take, aJ, W8.l_len, List.length_cons, List.length_nil]; omega) de Z Y fun a w4 s3 Z Y _ => wla Z rfl fun a Z => ab <| bt kr ?_
  refine hK7 _ _ ?_
  replace Z := Z.p5 0 1 4 6 5 rfl
  replace Y := Y.k1 2 rfl
  refine ar <| wlm Z rfl fun a Z => wlv Z (aS rfl rfl ⟨om, om⟩) fun a Z => wla Z rfl fun a Z => ab ?_
  rw [show (((sch bs 64).take k).map fun x => [wv x]) ++ ([[wv (((((BitVec.ofNat 32 (bs.getD (4 * k) 0).toNat) <<< 24) ||| ((BitVec.ofNat 32 (bs.getD (4 * k + 1) 0).toNat) <<< 16)) ||| ((BitVec.ofNat 32 (bs.getD (4 * k + 2) 0).toNat) <<< 8)) ||| (BitVec.ofNat 32 (bs.getD (4 * k + 3) 0).toNat))]]) = (((sch bs 64).take (k + 1)).map fun x => [wv x]) from by rw [nT bs om]; simp [be]] at Y
  refine ⟨_, ?_, k + 1, s3, rfl, om, Z.pick [0, 1, 4, 5, 6], Y.select [0] de⟩
  omega
 rw [hc1] at Z
 try simp only [qz] at hc1
 obtain rfl : k = 16 := by omega
 refine aX <| hK3 _ _ <| ah fun K8 hK8 => aa fun K9 hK9 => wla Z rfl fun a Z => ab (hK9 _ _ <| ay ?_)
 refine bj (fun m a w => ∃ (j : Nat) (u : Value), m = 64 - j ∧ (16 ≤ j) ∧ (j ≤ 64) ∧ Fr 238 [(0, hvv), (4, .slice none 0 0), (5, u), (7, iv (j : Int))] [] a ∧ St No w0 [own u 170 1 (((sch bs 64).take j).map fun x => [wv x])] w) _ ⟨16, u, rfl, om, om, Z.pick [0, 4, 5, 7], Y.select [0] de⟩ ?_
 rintro _ a w5 ⟨j, u, rfl, hj, hj2, Z, Y⟩
 refine ah fun K10 hK10 => aa fun K11 hK11 => wlm Z rfl fun a Z => wlv Z (v_lt rfl rfl) fun a Z => ab (hK11 _ _ ?_)
 refine ax Z rfl (fun hc4 => ?_) (fun hc4 => ?_)
 ·rw [hc4] at Z
  try simp only [qz] at hc4
  refine az <| hK10 _ _ <| ah fun K12 hK12 => ay <| ah fun K13 hK13 => aK kr (aU kr fun w6 hxz => ?_)
  replace Y := Y.grow hxz
  refine aV (k := 0) 19 [12, 18] Z kr kr kr rfx ?_
  replace Z := Z.p6 0 4 5 7 59 60 rfl
  refine aR [] (fun i => match i with | _ => fun _ _ => False) 19 [[], [], [1], [0, 2], [3], [4], [], [], [7], [6, 8], [9], [10], [5, 11], [], [], [14], [13, 15], [16], [17]] [u, iv (j : Int), iv ((j : Int) - 15), slAddr u ((j - 15) * 1), wv (((sch bs 64).take j).getD (j - 15) 0#32), wv (ror (((sch bs 64).take j).getD (j - 15) 0#32) 7), u, iv (j : Int), iv ((j : Int) - 15), slAddr u ((j - 15) * 1), wv (((sch bs 64).take j).getD (j - 15) 0#32), wv (ror (((sch bs 64).take j).getD (j - 15) 0#32) 18), wv ((ror (((sch bs 64).take j).getD (j - 15) 0#32) 7) ^^^ (ror (((sch bs 64).take j).getD (j - 15) 0#32) 18)), u, iv (j : Int), iv ((j : Int) - 15), slAddr u ((j - 15) * 1), wv (((sch bs 64).take j).getD (j - 15) 0#32), wv ((((sch bs 64).take j).getD (j - 15) 0#32) >>> 3)] Z Y kr kr kr ?_ ?_ ?_
  ·intro i hi hiq
   match i, hi, hiq with
   | 0, _, _ => exact fun w Y => OpV.g (ak rfl)
   | 1, _, _ => exact fun w Y => OpV.g (ak rfl)
   | 2, _, _ => exact fun w Y => OpV.g (ci rfl rfl ⟨om, om⟩)
   | 3, _, _ => exact fun w Y => OpV.g ((ao (i := (j : Int) - 15) (sT := 171) (Y.ow 0 rfl) rfl rfl (runUnderlying171 _) (sizeOf170 _) om (by rw [List.length_map]; first | omega | (rw [aJ]; omega) | (rw [List.length_take, aJ]; omega) | (rw [W8.l_len]; omega) | (rw [bH]; omega))).as (v' := slAddr u ((j - 15) * 1)) (by rw [show ((j : Int) - 15).toNat = (j - 15) from by omega]))
   | 4, _, _ => exact fun w Y => OpV.g (aE (u := wv (((sch bs 64).take j).getD (j - 15) 0#32)) (i := (j - 15)) (j := 0) (Y.ow 0 rfl) (by rw [List.length_map]; first | omega | (rw [aJ]; omega) | (rw [List.length_take, aJ]; omega) | (rw [W8.l_len]; omega) | (rw [bH]; omega)) rfl (isAgg170 _) (by rw [bU 0#32]; rfl))
   | 5, _, _ => exact fun w Y => aT call114 rfl (dC (((sch bs 64).take j).getD (j - 15) 0#32) 7 _ de de)
   | 6, _, _ => exact fun w Y => OpV.g (ak rfl)
   | 7, _, _ => exact fun w Y => OpV.g (ak rfl)
   | 8, _, _ => exact fun w Y => OpV.g (ci rfl rfl ⟨om, om⟩)
   | 9, _, _ => exact fun w Y => OpV.g ((ao (i := (j : Int) - 15) (sT := 171) (Y.ow 0 rfl) rfl rfl (runUnderlying171 _) (sizeOf170 _) om (by rw [List.length_map]; first | omega | (rw [aJ]; omega) | (rw [List.length_take, aJ]; omega) | (rw [W8.l_len]; omega) | (rw [bH]; omega))).as (v' := slAddr u ((j - 15) * 1)) (by rw [show ((j : Int) - 15).toNat = (j - 15) from by omega]))
   | 10, _, _ => exact fun w Y => OpV.g (aE (u := wv (((sch bs 64).take j).getD (j - 15) 0#32)) (i := (j - 15)) (j := 0) (Y.ow 0 rfl) (by rw [List.length_map]; first | omega | (rw [aJ]; omega) | (rw [List.length_take, aJ]; omega) | (rw [W8.l_len]; omega) | (rw [bH]; omega)) rfl (isAgg170 _) (by rw [bU 0#32]; rfl))
   | 11, _, _ => exact fun w Y => aT call114 rfl (dC (((sch bs 64).take j).getD (j - 15) 0#32) 18 _ de de)
   | 12, _, _ => exact fun w Y => OpV.g (cM rfl rfl)
   | 13, _, _ => exact fun w Y => OpV.g (ak rfl)
   | 14, _, _ => exact fun w Y => OpV.g (ak rfl)
   | 15, _, _ => exact fun w Y => OpV.g (ci rfl rfl ⟨om, om⟩)
   | 16, _, _ => exact fun w Y => OpV.g ((ao (i := (j : Int) - 15) (sT := 171) (Y.ow 0 rfl) rfl rfl (runUnderlying171 _) (sizeOf170 _) om (by rw [List.length_map]; first | omega | (rw [aJ]; omega) | (rw [List.length_take, aJ]; omega) | (rw [W8.l_len]; omega) | (rw [bH]; omega))).as (v' := slAddr u ((j - 15) * 1)) (by rw [show ((j : Int) - 15).toNat = (j - 15) from by omega]))
   | 17, _, _ => exact fun w Y => OpV.g (aE (u := wv (((sch bs 64).take j).getD (j - 15) 0#32)) (i := (j - 15)) (j := 0) (Y.ow 0 rfl) (by rw [List.length_map]; first | omega | (rw [aJ]; omega) | (rw [List.length_take, aJ]; omega) | (rw [W8.l_len]; omega) | (rw [bH]; omega)) rfl (isAgg170 _) (by rw [bU 0#32]; rfl))
   | 18, _, _ => exact fun w Y => OpV.g (ef (n := 3) rfl rfl)
   | i + 19, h, _ => exact absurd h om
  ·intro i hi
   exact absurd hi sm
  clear Z Y
  intro  a w7 Z Y
  replace Z : Fr 238 [(63, u), (64, iv (j : Int)), (65, iv ((j : Int) - 15)), (66, slAddr u ((j - 15) * 1)), (67, wv (((sch bs 64).take j).getD (j - 15) 0#32)), (68, wv (ror (((sch bs 64).take j).getD (j - 15) 0#32) 7)), (69, u), (70, iv (j : Int)), (71, iv ((j : Int) - 15)), (72, slAddr u ((j - 15) * 1)), (73, wv (((sch bs 64).take j).getD (j - 15) 0#32)), (74, wv (ror (((sch bs 64).take j).getD (j - 15) 0#32) 18)), (75, wv ((ror (((sch bs 64).take j).getD (j - 15) 0#32) 7) ^^^ (ror (((sch bs 64).take j).getD (j - 15) 0#32) 18))), (76, u), (77, iv (j : Int)), (78, iv ((j : Int) - 15)), (79, slAddr u ((j - 15) * 1)), (80, wv (((sch bs 64).take j).getD (j - 15) 0#32)), (81, wv ((((sch bs 64).take j).getD (j - 15) 0#32) >>> 3)), (0, _), (4, _), (5, _), (7, _), (59, _), (60, _)] [] a := Z
  refine ab <| aP (k := 19) 21 [20] kr kr kr ?_
  refine wlv Z (cM rfl rfl) fun a Z => wla Z rfl fun a Z => ab <| bt kr ?_
  refine hK13 _ _ ?_
  replace Z := Z.p5 0 4 5 7 8 rfl
  refine ah fun K14 hK14 => aK kr (aU kr fun w8 hxz => ?_)
  replace Y := Y.grow hxz
  refine aV (k := 0) 19 [12, 18] Z kr kr kr rfx ?_
  replace Z := Z.p5 0 4 5 7 8 rfl
  refine aR [] (fun i => match i with | _ => fun _ _ => False) 19 [[], [], [1], [0, 2], [3], [4], [], [], [7], [6, 8], [9], [10], [5, 11], [], [], [14], [13, 15], [16], [17]] [u, iv (j : Int), iv ((j : Int) - 2), slAddr u ((j - 2) * 1), wv (((sch bs 64).take j).getD (j - 2) 0#32), wv (ror (((sch bs 64).take j).getD (j - 2) 0#32) 17), u, iv (j : Int), iv ((j : Int) - 2), slAddr u ((j - 2) * 1), wv (((sch bs 64).take j).getD (j - 2) 0#32), wv (ror (((sch bs 64).take j).getD (j - 2) 0#32) 19), wv ((ror (((sch bs 64).take j).getD (j - 2) 0#32) 17) ^^^ (ror (((sch bs 64).take j).getD (j - 2) 0#32) 19)), u, iv (j : Int), iv ((j : Int) - 2), slAddr u ((j - 2) * 1), wv (((sch bs 64).take j).getD (j - 2) 0#32), wv ((((sch bs 64).take j).getD (j - 2) 0#32) >>> 10)] Z Y kr kr kr ?_ ?_ ?_
  ·intro i hi hiq
   match i, hi, hiq with
   | 0, _, _ => exact fun w Y => OpV.g (ak rfl)
   | 1, _, _ => exact fun w Y => OpV.g (ak rfl)
   | 2, _, _ => exact fun w Y => OpV.g (ci rfl rfl ⟨om, om⟩)
   | 3, _, _ => exact fun w Y => OpV.g ((ao (i := (j : Int) - 2) (sT := 171) (Y.ow 0 rfl) rfl rfl (runUnderlying171 _) (sizeOf170 _) om (by rw [List.length_map]; first | omega | (rw [aJ]; omega) | (rw [List.length_take, aJ]; omega) | (rw [W8.l_len]; omega) | (rw [bH]; omega))).as (v' := slAddr u ((j - 2) * 1)) (by rw [show ((j : Int) - 2).toNat = (j - 2) from by omega]))
   | 4, _, _ => exact fun w Y => OpV.g (aE (u := wv (((sch bs 64).take j).getD (j - 2) 0#32)) (i := (j - 2)) (j := 0) (Y.ow 0 rfl) (by rw [List.length_map]; first | omega | (rw [aJ]; omega) | (rw [List.length_take, aJ]; omega) | (rw [W8.l_len]; omega) | (rw [bH]; omega)) rfl (isAgg170 _) (by rw [bU 0#32]; rfl))
   | 5, _, _ => exact fun w Y => aT call114 rfl (dC (((sch bs 64).take j).getD (j - 2) 0#32) 17 _ de de)
   | 6, _, _ => exact fun w Y => OpV.g (ak rfl)
   | 7, _, _ => exact fun w Y => OpV.g (ak rfl)
   | 8, _, _ => exact fun w Y => OpV.g (ci rfl rfl ⟨om, om⟩)
   | 9, _, _ => exact fun w Y => OpV.g ((ao (i := (j : Int) - 2) (sT := 171) (Y.ow 0 rfl) rfl rfl (runUnderlying171 _) (sizeOf170 _) om (by rw [List.length_map]; first | omega | (rw [aJ]; omega) | (rw [List.length_take, aJ]; omega) | (rw [W8.l_len]; omega) | (rw [bH]; omega))).as (v' := slAddr u ((j - 2) * 1)) (by rw [show ((j : Int) - 2).toNat = (j - 2) from by omega]))
   | 10, _, _ => exact fun w Y => OpV.g (aE (u := wv (((sch bs 64).take j).getD (j - 2) 0#32)) (i := (j - 2)) (j := 0) (Y.ow 0 rfl) (by rw [List.length_map]; first | omega | (rw [aJ]; omega) | (rw [List.length_take, aJ]; omega) | (rw [W8.l_len]; omega) | (rw [bH]; omega)) rfl (isAgg170 _) (by rw [bU 0#32]; rfl))
   | 11, _, _ => exact fun w Y => aT call114 rfl (dC (((sch bs 64).take j).getD (j - 2) 0#32) 19 _ de de)
   | 12, _, _ => exact fun w Y => OpV.g (cM rfl rfl)
   | 13, _, _ => exact fun w Y => OpV.g (ak rfl)
   | 14, _, _ => exact fun w Y => OpV.g (ak rfl)
   | 15, _, _ => exact fun w Y => OpV.g (ci rfl rfl ⟨om, om⟩)
   | 16, _, _ => exact fun w Y => OpV.g ((ao (i := (j : Int) - 2) (sT := 171) (Y.ow 0 rfl) rfl rfl (runUnderlying171 _) (sizeOf170 _) om (by rw [List.length_map]; first | omega | (rw [aJ]; omega) | (rw [List.length_take, aJ]; omega) | (rw [W8.l_len]; omega) | (rw [bH]; omega))).as (v' := slAddr u ((j - 2) * 1)) (by rw [show ((j : Int) - 2).toNat = (j - 2) from by omega]))
   | 17, _, _ => exact fun w Y => OpV.g (aE (u := wv (((sch bs 64).take j).getD (j - 2) 0#32)) (i := (j - 2)) (j := 0) (Y.ow 0 rfl) (by rw [List.length_map]; first | omega | (rw [aJ]; omega) | (rw [List.length_take, aJ]; omega) | (rw [W8.l_len]; omega) | (rw [bH]; omega)) rfl (isAgg170 _) (by rw [bU 0#32]; rfl))
   | 18, _, _ => exact fun w Y => OpV.g (ef (n := 10) rfl rfl)
   | i + 19, h, _ => exact absurd h om
  ·intro i hi
   exact absurd hi sm
  clear Z Y
  intro  a w9 Z Y
  replace Z : Fr 238 [(83, u), (84, iv (j : Int)), (85, iv ((j : Int) - 2)), (86, slAddr u ((j - 2) * 1)), (87, wv (((sch bs 64).take j).getD (j - 2) 0#32)), (88, wv (ror (((sch bs 64).take j).getD (j - 2) 0#32) 17)), (89, u), (90, iv (j : Int)), (91, iv ((j : Int) - 2)), (92, slAddr u ((j - 2) * 1)), (93, wv (((sch bs 64).take j).getD (j - 2) 0#32)), (94, wv (ror (((sch bs 64).take j).getD (j - 2) 0#32) 19)), (95, wv ((ror (((sch bs 64).take j).getD (j - 2) 0#32) 17) ^^^ (ror (((sch bs 64).take j).getD (j - 2) 0#32) 19))), (96, u), (97, iv (j : Int)), (98, iv ((j : Int) - 2)), (99, slAddr u ((j - 2) * 1)), (100, wv (((sch bs 64).take j).getD (j - 2) 0#32)), (101, wv ((((sch bs 64).take j).getD (j - 2) 0#32) >>> 10)), (0, _), (4, _), (5, _), (7, _), (8, _)] [] a := Z
  refine ab <| aP (k := 19) 21 [20] kr kr kr ?_
  refine wlv Z (cM rfl rfl) fun a Z => wla Z rfl fun a Z => ab <| bt kr ?_
  refine hK14 _ _ ?_
  replace Z := Z.p6 0 4 5 7 8 9 rfl
  refine aK kr (aU kr fun w10 hxz => ?_)
  replace Y := Y.grow hxz
  refine aV (k := 0) 17 [0, 16] Z kr kr kr rfx ?_
  replace Z := Z.p6 0 4 5 7 8 9 rfl
  refine aR [16] (fun i => match i with | 16 => pm (fun b : Nat => .slice (some ⟨b, 0, none⟩) 1 1) (fun b => [own (.slice (some ⟨b, 0, none⟩) 1 1) 170 1 [[wv ((((((sch bs 64).take j).getD (j - 16) 0#32) + (((ror (((sch bs 64).take j).getD (j - 15) 0#32) 7) ^^^ (ror (((sch bs 64).take j).getD (j - 15) 0#32) 18)) ^^^ ((((sch bs 64).take j).getD (j - 15) 0#32) >>> 3))) + (((sch bs 64).take j).getD (j - 7) 0#32)) + (((ror (((sch bs 64).take j).getD (j - 2) 0#32) 17) ^^^ (ror (((sch bs 64).take j).getD (j - 2) 0#32) 19)) ^^^ ((((sch bs 64).take j).getD (j - 2) 0#32) >>> 10)))]]]) (fun _ => True) | _ => fun _ _ => False) 17 [[], [], [], [2], [1, 3], [4], [], [5, 6], [], [], [9], [8, 10], [11], [7, 12], [], [13, 14], [15]] [u, u, iv (j : Int), iv ((j : Int) - 16), slAddr u ((j - 16) * 1), wv (((sch bs 64).take j).getD (j - 16) 0#32), wv (((ror (((sch bs 64).take j).getD (j - 15) 0#32) 7) ^^^ (ror (((sch bs 64).take j).getD (j - 15) 0#32) 18)) ^^^ ((((sch bs 64).take j).getD (j - 15) 0#32) >>> 3)), wv ((((sch bs 64).take j).getD (j - 16) 0#32) + (((ror (((sch bs 64).take j).getD (j - 15) 0#32) 7) ^^^ (ror (((sch bs 64).take j).getD (j - 15) 0#32) 18)) ^^^ ((((sch bs 64).take j).getD (j - 15) 0#32) >>> 3))), u, iv (j : Int), iv ((j : Int) - 7), slAddr u ((j - 7) * 1), wv (((sch bs 64).take j).getD (j - 7) 0#32), wv (((((sch bs 64).take j).getD (j - 16) 0#32) + (((ror (((sch bs 64).take j).getD (j - 15) 0#32) 7) ^^^ (ror (((sch bs 64).take j).getD (j - 15) 0#32) 18)) ^^^ ((((sch bs 64).take j).getD (j - 15) 0#32) >>> 3))) + (((sch bs 64).take j).getD (j - 7) 0#32)), wv (((ror (((sch bs 64).take j).getD (j - 2) 0#32) 17) ^^^ (ror (((sch bs 64).take j).getD (j - 2) 0#32) 19)) ^^^ ((((sch bs 64).take j).getD (j - 2) 0#32) >>> 10)), wv ((((((sch bs 64).take j).getD (j - 16) 0#32) + (((ror (((sch bs 64).take j).getD (j - 15) 0#32) 7) ^^^ (ror (((sch bs 64).take j).getD (j - 15) 0#32) 18)) ^^^ ((((sch bs 64).take j).getD (j - 15) 0#32) >>> 3))) + (((sch bs 64).take j).getD (j - 7) 0#32)) + (((ror (((sch bs 64).take j).getD (j - 2) 0#32) 17) ^^^ (ror (((sch bs 64).take j).getD (j - 2) 0#32) 19)) ^^^ ((((sch bs 64).take j).getD (j - 2) 0#32) >>> 10))), undef] Z Y kr kr kr ?_ ?_ ?_
  ·intro i hi hiq
   match i, hi, hiq with
   | 0, _, _ => exact fun w Y => OpV.g (ak rfl)
   | 1, _, _ => exact fun w Y => OpV.g (ak rfl)
   | 2, _, _ => exact fun w Y => OpV.g (ak rfl)
   | 3, _, _ => exact fun w Y => OpV.g (ci rfl rfl ⟨om, om⟩)
   | 4, _, _ => exact fun w Y => OpV.g ((ao (i := (j : Int) - 16) (sT := 171) (Y.ow 0 rfl) rfl rfl (runUnderlying171 _) (sizeOf170 _) om (by rw [List.length_map]; first | omega | (rw [aJ]; omega) | (rw [List.length_take, aJ]; omega) | (rw [W8.l_len]; omega) | (rw [bH]; omega))).as (v' := slAddr u ((j - 16) * 1)) (by rw [show ((j : Int) - 16).toNat = (j - 16) from by omega]))
   | 5, _, _ => exact fun w Y => OpV.g (aE (u := wv (((sch bs 64).take j).getD (j - 16) 0#32)) (i := (j - 16)) (j := 0) (Y.ow 0 rfl) (by rw [List.length_map]; first | omega | (rw [aJ]; omega) | (rw [List.length_take, aJ]; omega) | (rw [W8.l_len]; omega) | (rw [bH]; omega)) rfl (isAgg170 _) (by rw [bU 0#32]; rfl))
   | 6, _, _ => exact fun w Y => OpV.g (ak rfl)
   | 7, _, _ => exact fun w Y => OpV.g (cp rfl rfl)
   | 8, _, _ => exact fun w Y => OpV.g (ak rfl)
   | 9, _, _ => exact fun w Y => OpV.g (ak rfl)
   | 10, _, _ => exact fun w Y => OpV.g (ci rfl rfl ⟨om, om⟩)
   | 11, _, _ => exact fun w Y => OpV.g ((ao (i := (j : Int) - 7) (sT := 171) (Y.ow 0 rfl) rfl rfl (runUnderlying171 _) (sizeOf170 _) om (by rw [List.length_map]; first | omega | (rw [aJ]; omega) | (rw [List.length_take, aJ]; omega) | (rw [W8.l_len]; omega) | (rw [bH]; omega))).as (v' := slAddr u ((j - 7) * 1)) (by rw [show ((j : Int) - 7).toNat = (j - 7) from by omega]))
   | 12, _, _ => exact fun w Y => OpV.g (aE (u := wv (((sch bs 64).take j).getD (j - 7) 0#32)) (i := (j - 7)) (j := 0) (Y.ow 0 rfl) (by rw [List.length_map]; first | omega | (rw [aJ]; omega) | (rw [List.length_take, aJ]; omega) | (rw [W8.l_len]; omega) | (rw [bH]; omega)) rfl (isAgg170 _) (by rw [bU 0#32]; rfl))
   | 13, _, _ => exact fun w Y => OpV.g (cp rfl rfl)
   | 14, _, _ => exact fun w Y => OpV.g (ak rfl)
   | 15, _, _ => exact fun w Y => OpV.g (cp rfl rfl)
   | 16, _, h => exact absurd sm h
   | i + 17, h, _ => exact absurd h om
  ·intro i hi
   simp only [List.mem_cons, List.not_mem_nil, or_false] at hi
   subst hi
   ·intro w Y
    exact bW (E := 170) (sz := 1) rfl [[wv ((((((sch bs 64).take j).getD (j - 16) 0#32) + (((ror (((sch bs 64).take j).getD (j - 15) 0#32) 7) ^^^ (ror (((sch bs 64).take j).getD (j - 15) 0#32) 18)) ^^^ ((((sch bs 64).take j).getD (j - 15) 0#32) >>> 3))) + (((sch bs 64).take j).getD (j - 7) 0#32)) + (((ror (((sch bs 64).take j).getD (j - 2) 0#32) 17) ^^^ (ror (((sch bs 64).take j).getD (j - 2) 0#32) 19)) ^^^ ((((sch bs 64).take j).getD (j - 2) 0#32) >>> 10)))]] (fun _ => by kernel_rfl) sm rfl de
  clear Z Y
  rintro _ _ ⟨b5, rfl, -, rfl⟩ a w11 Z Y
  replace Z : Fr 238 [(103, u), (104, u), (105, iv (j : Int)), (106, iv ((j : Int) - 16)), (107, slAddr u ((j - 16) * 1)), (108, wv (((sch bs 64).take j).getD (j - 16) 0#32)), (109, wv (((ror (((sch bs 64).take j).getD (j - 15) 0#32) 7) ^^^ (ror (((sch bs 64).take j).getD (j - 15) 0#32) 18)) ^^^ ((((sch bs 64).take j).getD (j - 15) 0#32) >>> 3))), (110, wv ((((sch bs 64).take j).getD (j - 16) 0#32) + (((ror (((sch bs 64).take j).getD (j - 15) 0#32) 7) ^^^ (ror (((sch bs 64).take j).getD (j - 15) 0#32) 18)) ^^^ ((((sch bs 64).take j).getD (j - 15) 0#32) >>> 3)))), (111, u), (112, iv (j : Int)), (113, iv ((j : Int) - 7)), (114, slAddr u ((j - 7) * 1)), (115, wv (((sch bs 64).take j).getD (j - 7) 0#32)), (116, wv (((((sch bs 64).take j).getD (j - 16) 0#32) + (((ror (((sch bs 64).take j).getD (j - 15) 0#32) 7) ^^^ (ror (((sch bs 64).take j).getD (j - 15) 0#32) 18)) ^^^ ((((sch bs 64).take j).getD (j - 15) 0#32) >>> 3))) + (((sch bs 64).take j).getD (j - 7) 0#32))), (117, wv (((ror (((sch bs 64).take j).getD (j - 2) 0#32) 17) ^^^ (ror (((sch bs 64).take j).getD (j - 2) 0#32) 19)) ^^^ ((((sch bs 64).take j).getD (j - 2) 0#32) >>> 10))), (118, wv ((((((sch bs 64).take j).getD (j - 16) 0#32) + (((ror (((sch bs 64).take j).getD (j - 15) 0#32) 7) ^^^ (ror (((sch bs 64).take j).getD (j - 15) 0#32) 18)) ^^^ ((((sch bs 64).take j).getD (j - 15) 0#32) >>> 3))) + (((sch bs 64).take j).getD (j - 7) 0#32)) + (((ror (((sch bs 64).take j).getD (j - 2) 0#32) 17) ^^^ (ror (((sch bs 64).take j).getD (j - 2) 0#32) 19)) ^^^ ((((sch bs 64).take j).getD (j - 2) 0#32) >>> 10)))), (119, _), (0, _), (4, _), (5, _), (7, _), (8, _), (9, _)] [] a := Z
  replace Y : St No w0 [_, _] w11 := Y
  refine ab <| aP (k := 17) 19 [18] kr kr kr ?_
  refine bG (i := 1) (sT := 171) (inf := Tryz.t170) (z := wv (0#32)) (b := 0) (off := 0) (m := 0) (c := 0) rfl rfl rfl (Y.ow 0 rfl) sm underlying171 rfl rfl rfl rfl de (by simp [Value.oneCell', yv, wv, sv]) (by have hby : Tryz.t170.bytes = 4 := rfl; simp only [big, hby, List.length_append, List.length_map, List.length_take, aJ, W8.l_len, List.length_cons, List.length_nil]; omega) (by have hby : Tryz.t170.bytes = 4 := rfl; simp only [big, hby, List.length_append, List.length_map, List.length_take, aJ, W8.l_len, List.length_cons, List.length_nil]; omega) de Z Y fun a w12 s6 Z Y _ => wla Z rfl fun a Z => ab <| bt kr ?_
  refine hK12 _ _ ?_
  replace Z := Z.p4 0 4 7 5 rfl
  replace Y := Y.k1 2 rfl
  refine ar <| wlm Z rfl fun a Z => wlv Z (aS rfl rfl ⟨om, om⟩) fun a Z => wla Z rfl fun a Z => ab ?_
  rw [show (((sch bs 64).take j).map fun x => [wv x]) ++ ([[wv ((((((sch bs 64).take j).getD (j - 16) 0#32) + (((ror (((sch bs 64).take j).getD (j - 15) 0#32) 7) ^^^ (ror (((sch bs 64).take j).getD (j - 15) 0#32) 18)) ^^^ ((((sch bs 64).take j).getD (j - 15) 0#32) >>> 3))) + (((sch bs 64).take j).getD (j - 7) 0#32)) + (((ror (((sch bs 64).take j).getD (j - 2) 0#32) 17) ^^^ (ror (((sch bs 64).take j).getD (j - 2) 0#32) 19)) ^^^ ((((sch bs 64).take j).getD (j - 2) 0#32) >>> 10)))]]) = (((sch bs 64).take (j + 1)).map fun x => [wv x]) from by rw [np bs om om]; simp] at Y
  refine ⟨_, ?_, j + 1, s6, rfl, om, om, Z.pick [0, 4, 5, 7], Y.select [0] de⟩
  omega
 rw [hc4] at Z
 try simp only [qz] at hc4
 obtain rfl : j = 64 := by omega
 rw [List.take_of_length_le (by rw [aJ]; omega)] at Y
 refine aX <| hK8 _ _ <| aa fun K15 hK15 => bI Z Y de call115 rfl (j0 _) ?_
 clear Z Y
 intro a w13 x7 hp Z Y
 revert x7 hp Z Y; rintro kz hp Z Y
 clear hp
 replace Y : St No w0 [_, _] w13 := Y
 refine wla Z rfl fun a Z => ab (hK15 _ _ <| aa fun K16 hK16 => ?_)
 refine wla Z rfl fun a Z => ab (hK16 _ _ <| aa fun K17 hK17 => ?_)
 refine wlm Z rfl fun a Z => wlm Z rfl fun a Z => ?_
 replace Y : St No w0 (own (.slice none 0 0) 170 1 [] :: [_, _]) w13 := Y.nil_own
 refine fu (i := 0) (sT := 171) (inf := Tryz.t170) (z := wv (0#32)) rfl rfl rfl (Y.arg hhv) underlying171 rfl rfl rfl rfl de (by simp [Value.oneCell', yv, wv, sv]) (by have hby : Tryz.t170.bytes = 4 := rfl; simp only [big, hby, List.length_append, List.length_map, List.length_take, aJ, W8.l_len, List.length_cons, List.length_nil]; omega) (by have hby : Tryz.t170.bytes = 4 := rfl; simp only [big, hby, List.length_append, List.length_map, List.length_take, aJ, W8.l_len, List.length_cons, List.length_nil]; omega) de Z Y ?_
 clear Z Y
 intro a w14 s8 Z Y
 refine wla Z rfl fun a Z => ab (hK17 _ _ ?_)
 replace Z := Z.p5 0 4 5 10 11 rfl
 refine ah fun K18 hK18 => aa fun K19 hK19 => wla Z rfl fun a Z => ab (hK19 _ _ <| ay ?_)
 rw [show ([]) ++ ((hv.l).map fun x => [wv x]) = ((hv.l).map fun x => [wv x]) from by simp] at Y
 refine bj (fun m a w => ∃ (ix : Nat) (v : W8) (z : Value), m = 64 - ix ∧ (ix ≤ 64) ∧ (rounds (sch bs 64) hv ix = v) ∧ Fr 238 [(0, hvv), (4, .slice none 0 0), (5, u), (10, kz), (11, z), (12, iv (ix : Int))] [] a ∧ St No w0 [own z 170 1 ((v.l).map fun x => [wv x]), own u 170 1 ((sch bs 64).map fun x => [wv x]), own kz 170 1 ((kOf).map fun x => [wv x])] w) _ ⟨0, hv, s8, rfl, Nat.zero_le _, rfl, Z.pick [0, 4, 5, 10, 11, 12], Y.select [0, 2, 1] de⟩ ?_
 rintro _ a w15 ⟨ix, v, z, rfl, hi, hrv, Z, Y⟩
 refine ah fun K20 hK20 => aa fun K21 hK21 => wlm Z rfl fun a Z => wlv Z (v_lt rfl rfl) fun a Z => ab (hK21 _ _ ?_)
 refine ax Z rfl (fun hc9 => ?_) (fun hc9 => ?_)
 ·rw [hc9] at Z
  try simp only [qz] at hc9
  refine az <| hK20 _ _ <| ah fun K22 hK22 => ay <| aa fun K23 hK23 => wlm Z rfl fun a Z => wlv Z ((ao (i := 0) (sT := 171) (Y.ow 0 rfl) rfl rfl (runUnderlying171 _) (sizeOf170 _) om (by rw [List.length_map, W8.l_len]; decide)).as (v' := slAddr z (0 * 1)) rfl) fun a Z => wlv Z (aE (u := wv v.a) (i := 0) (j := 0) (Y.ow 0 rfl) (by rw [List.length_map, W8.l_len]; decide) rfl (isAgg170 _) rfx) fun a Z => wla Z rfl fun a Z => ab (hK23 _ _ <| aa fun K24 hK24 => ?_)
  refine wlm Z rfl fun a Z => wlv Z ((ao (i := 4) (sT := 171) (Y.ow 0 rfl) rfl rfl (runUnderlying171 _) (sizeOf170 _) om (by rw [List.length_map, W8.l_len]; decide)).as (v' := slAddr z (4 * 1)) rfl) fun a Z => wlv Z (aE (u := wv v.e) (i := 4) (j := 0) (Y.ow 0 rfl) (by rw [List.length_map, W8.l_len]; decide) rfl (isAgg170 _) rfx) fun a Z => wla Z rfl fun a Z => ab (hK24 _ _ ?_)
  replace Z := Z.p8 0 4 5 10 11 12 13 14 rfl
  refine ah fun K25 hK25 => aK kr (aU kr fun w16 hxz => ?_)
  replace Y := Y.grow hxz
  refine aV (k := 0) 34 [29, 33] Z kr kr kr rfx ?_
  replace Z := Z.p8 0 4 5 10 11 12 13 14 rfl
  refine aR [] (fun i => match i with | _ => fun _ _ => False) 34 [[], [0], [1], [], [3], [], [5], [4, 6], [], [8], [7, 9], [2, 10], [], [], [13], [14], [12, 15], [], [17], [], [19], [20], [18, 21], [16, 22], [11, 23], [], [], [25, 26], [27], [24, 28], [], [], [30, 31], [32]] [z, slAddr z (7 * 1), wv v.h, wv v.e, wv (ror v.e 6), wv v.e, wv (ror v.e 11), wv ((ror v.e 6) ^^^ (ror v.e 11)), wv v.e, wv (ror v.e 25), wv (((ror v.e 6) ^^^ (ror v.e 11)) ^^^ (ror v.e 25)), wv (v.h + (((ror v.e 6) ^^^ (ror v.e 11)) ^^^ (ror v.e 25))), wv v.e, z, slAddr z (5 * 1), wv v.f, wv (v.e &&& v.f), wv v.e, wv (~~~v.e), z, slAddr z (6 * 1), wv v.g, wv ((~~~v.e) &&& v.g), wv ((v.e &&& v.f) ^^^ ((~~~v.e) &&& v.g)), wv ((v.h + (((ror v.e 6) ^^^ (ror v.e 11)) ^^^ (ror v.e 25))) + ((v.e &&& v.f) ^^^ ((~~~v.e) &&& v.g))), kz, iv (ix : Int), slAddr kz (ix * 1), wv ((kOf).getD ix 0#32), wv (((v.h + (((ror v.e 6) ^^^ (ror v.e 11)) ^^^ (ror v.e 25))) + ((v.e &&& v.f) ^^^ ((~~~v.e) &&& v.g))) + ((kOf).getD ix 0#32)), u, iv (ix : Int), slAddr u (ix * 1), wv ((sch bs 64).getD ix 0#32)] Z Y kr kr kr ?_ ?_ ?_
  ·intro i hi hiq
   match i, hi, hiq with
   | 0, _, _ => exact fun w Y => OpV.g (ak rfl)
   | 1, _, _ => exact fun w Y => OpV.g ((ao (i := 7) (sT := 171) (Y.ow 0 rfl) rfl rfl (runUnderlying171 _) (sizeOf170 _) om (by rw [List.length_map, W8.l_len]; decide)).as (v' := slAddr z (7 * 1)) rfl)
   | 2, _, _ => exact fun w Y => OpV.g (aE (u := wv v.h) (i := 7) (j := 0) (Y.ow 0 rfl) (by rw [List.length_map, W8.l_len]; decide) rfl (isAgg170 _) rfx)
   | 3, _, _ => exact fun w Y => OpV.g (ak rfl)
   | 4, _, _ => exact fun w Y => aT call114 rfl (dC v.e 6 _ de de)
   | 5, _, _ => exact fun w Y => OpV.g (ak rfl)
   | 6, _, _ => exact fun w Y => aT call114 rfl (dC v.e 11 _ de de)
   | 7, _, _ => exact fun w Y => OpV.g (cM rfl rfl)
   | 8, _, _ => exact fun w Y => OpV.g (ak rfl)
   | 9, _, _ => exact fun w Y => aT call114 rfl (dC v.e 25 _ de de)
   | 10, _, _ => exact fun w Y => OpV.g (cM rfl rfl)
   | 11, _, _ => exact fun w Y => OpV.g (cp rfl rfl)
   | 12, _, _ => exact fun w Y => OpV.g (ak rfl)
   | 13, _, _ => exact fun w Y => OpV.g (ak rfl)
   | 14, _, _ => exact fun w Y => OpV.g ((ao (i := 5) (sT := 171) (Y.ow 0 rfl) rfl rfl (runUnderlying171 _) (sizeOf170 _) om (by rw [List.length_map, W8.l_len]; decide)).as (v' := slAddr z (5 * 1)) rfl)
   | 15, _, _ => exact fun w Y => OpV.g (aE (u := wv v.f) (i := 5) (j := 0) (Y.ow 0 rfl) (by rw [List.length_map, W8.l_len]; decide) rfl (isAgg170 _) rfx)
   | 16, _, _ => exact fun w Y => OpV.g (ed rfl rfl)
   | 17, _, _ => exact fun w Y => OpV.g (ak rfl)
   | 18, _, _ => exact fun w Y => OpV.g (pE rfl)
   | 19, _, _ => exact fun w Y => OpV.g (ak rfl)
   | 20, _, _ => exact fun w Y => OpV.g ((ao (i := 6) (sT := 171) (Y.ow 0 rfl) rfl rfl (runUnderlying171 _) (sizeOf170 _) om (by rw [List.length_map, W8.l_len]; decide)).as (v' := slAddr z (6 * 1)) rfl)
   | 21, _, _ => exact fun w Y => OpV.g (aE (u := wv v.g) (i := 6) (j := 0) (Y.ow 0 rfl) (by rw [List.length_map, W8.l_len]; decide) rfl (isAgg170 _) rfx)
   | 22, _, _ => exact fun w Y => OpV.g (ed rfl rfl)
   | 23, _, _ => exact fun w Y => OpV.g (cM rfl rfl)
   | 24, _, _ => exact fun w Y => OpV.g (cp rfl rfl)
   | 25, _, _ => exact fun w Y => OpV.g (ak rfl)
   | 26, _, _ => exact fun w Y => OpV.g (ak rfl)
   | 27, _, _ => exact fun w Y => OpV.g ((ao (i := (ix : Int)) (sT := 171) (Y.ow 2 rfl) rfl rfl (runUnderlying171 _) (sizeOf170 _) om (by rw [List.length_map]; first | omega | (rw [aJ]; omega) | (rw [List.length_take, aJ]; omega) | (rw [W8.l_len]; omega) | (rw [bH]; omega))).as (v' := slAddr kz (ix * 1)) rfl)
   | 28, _, _ => exact fun w Y => OpV.g (aE (u := wv ((kOf).getD ix 0#32)) (i := ix) (j := 0) (Y.ow 2 rfl) (by rw [List.length_map]; first | omega | (rw [aJ]; omega) | (rw [List.length_take, aJ]; omega) | (rw [W8.l_len]; omega) | (rw [bH]; omega)) rfl (isAgg170 _) (by rw [bU 0#32]; rfl))
   | 29, _, _ => exact fun w Y => OpV.g (cp rfl rfl)
   | 30, _, _ => exact fun w Y => OpV.g (ak rfl)
   | 31, _, _ => exact fun w Y => OpV.g (ak rfl)
   | 32, _, _ => exact fun w Y => OpV.g ((ao (i := (ix : Int)) (sT := 171) (Y.ow 1 rfl) rfl rfl (runUnderlying171 _) (sizeOf170 _) om (by rw [List.length_map]; first | omega | (rw [aJ]; omega) | (rw [List.length_take, aJ]; omega) | (rw [W8.l_len]; omega) | (rw [bH]; omega))).as (v' := slAddr u (ix * 1)) rfl)
   | 33, _, _ => exact fun w Y => OpV.g (aE (u := wv ((sch bs 64).getD ix 0#32)) (i := ix) (j := 0) (Y.ow 1 rfl) (by rw [List.length_map]; first | omega | (rw [aJ]; omega) | (rw [List.length_take, aJ]; omega) | (rw [W8.l_len]; omega) | (rw [bH]; omega)) rfl (isAgg170 _) (by rw [bU 0#32]; rfl))
   | i + 34, h, _ => exact absurd h om
  ·intro i hi
   exact absurd hi sm
  clear Z Y
  intro  a w17 Z Y
  replace Z : Fr 238 [(135, z), (136, slAddr z (7 * 1)), (137, wv v.h), (138, wv v.e), (139, wv (ror v.e 6)), (140, wv v.e), (141, wv (ror v.e 11)), (142, wv ((ror v.e 6) ^^^ (ror v.e 11))), (143, wv v.e), (144, wv (ror v.e 25)), (145, wv (((ror v.e 6) ^^^ (ror v.e 11)) ^^^ (ror v.e 25))), (146, wv (v.h + (((ror v.e 6) ^^^ (ror v.e 11)) ^^^ (ror v.e 25)))), (147, wv v.e), (148, z), (149, slAddr z (5 * 1)), (150, wv v.f), (151, wv (v.e &&& v.f)), (152, wv v.e), (153, wv (~~~v.e)), (154, z), (155, slAddr z (6 * 1)), (156, wv v.g), (157, wv ((~~~v.e) &&& v.g)), (158, wv ((v.e &&& v.f) ^^^ ((~~~v.e) &&& v.g))), (159, wv ((v.h + (((ror v.e 6) ^^^ (ror v.e 11)) ^^^ (ror v.e 25))) + ((v.e &&& v.f) ^^^ ((~~~v.e) &&& v.g)))), (160, kz), (161, iv (ix : Int)), (162, slAddr kz (ix * 1)), (163, wv ((kOf).getD ix 0#32)), (164, wv (((v.h + (((ror v.e 6) ^^^ (ror v.e 11)) ^^^ (ror v.e 25))) + ((v.e &&& v.f) ^^^ ((~~~v.e) &&& v.g))) + ((kOf).getD ix 0#32))), (165, u), (166, iv (ix : Int)), (167, slAddr u (ix * 1)), (168, wv ((sch bs 64).getD ix 0#32)), (0, _), (4, _), (5, _), (10, _), (11, _), (12, _), (13, _), (14, _)] [] a := Z
  refine ab <| aP (k := 34) 36 [35] kr kr kr ?_
  refine wlv Z (cp rfl rfl) fun a Z => wla Z rfl fun a Z => ab <| bt kr ?_
  refine hK25 _ _ ?_
  replace Z := Z.p9 0 4 5 10 11 12 13 14 15 rfl
  refine ah fun K26 hK26 => aK kr (aU kr fun w18 hxz => ?_)
  replace Y := Y.grow hxz
  refine aV (k := 0) 27 [7, 26] Z kr kr kr rfx ?_
  replace Z := Z.p9 0 4 5 10 11 12 13 14 15 rfl
  refine aR [] (fun i => match i with | _ => fun _ _ => False) 27 [[], [0], [], [2], [1, 3], [], [5], [4, 6], [], [], [9], [10], [8, 11], [], [], [14], [15], [13, 16], [12, 17], [], [19], [20], [], [22], [23], [21, 24], [18, 25]] [wv v.a, wv (ror v.a 2), wv v.a, wv (ror v.a 13), wv ((ror v.a 2) ^^^ (ror v.a 13)), wv v.a, wv (ror v.a 22), wv (((ror v.a 2) ^^^ (ror v.a 13)) ^^^ (ror v.a 22)), wv v.a, z, slAddr z (1 * 1), wv v.b, wv (v.a &&& v.b), wv v.a, z, slAddr z (2 * 1), wv v.c, wv (v.a &&& v.c), wv ((v.a &&& v.b) ^^^ (v.a &&& v.c)), z, slAddr z (1 * 1), wv v.b, z, slAddr z (2 * 1), wv v.c, wv (v.b &&& v.c), wv (((v.a &&& v.b) ^^^ (v.a &&& v.c)) ^^^ (v.b &&& v.c))] Z Y kr kr kr ?_ ?_ ?_
  ·intro i hi hiq
   match i, hi, hiq with
   | 0, _, _ => exact fun w Y => OpV.g (ak rfl)
   | 1, _, _ => exact fun w Y => aT call114 rfl (dC v.a 2 _ de de)
   | 2, _, _ => exact fun w Y => OpV.g (ak rfl)
   | 3, _, _ => exact fun w Y => aT call114 rfl (dC v.a 13 _ de de)
   | 4, _, _ => exact fun w Y => OpV.g (cM rfl rfl)
   | 5, _, _ => exact fun w Y => OpV.g (ak rfl)
   | 6, _, _ => exact fun w Y => aT call114 rfl (dC v.a 22 _ de de)
   | 7, _, _ => exact fun w Y => OpV.g (cM rfl rfl)
   | 8, _, _ => exact fun w Y => OpV.g (ak rfl)
   | 9, _, _ => exact fun w Y => OpV.g (ak rfl)
   | 10, _, _ => exact fun w Y => OpV.g ((ao (i := 1) (sT := 171) (Y.ow 0 rfl) rfl rfl (runUnderlying171 _) (sizeOf170 _) om (by rw [List.length_map, W8.l_len]; decide)).as (v' := slAddr z (1 * 1)) rfl)
   | 11, _, _ => exact fun w Y => OpV.g (aE (u := wv v.b) (i := 1) (j := 0) (Y.ow 0 rfl) (by rw [List.length_map, W8.l_len]; decide) rfl (isAgg170 _) rfx)
   | 12, _, _ => exact fun w Y => OpV.g (ed rfl rfl)
   | 13, _, _ => exact fun w Y => OpV.g (ak rfl)
   | 14, _, _ => exact fun w Y => OpV.g (ak rfl)
   | 15, _, _ => exact fun w Y => OpV.g ((ao (i := 2) (sT := 171) (Y.ow 0 rfl) rfl rfl (runUnderlying171 _) (sizeOf170 _) om (by rw [List.length_map, W8.l_len]; decide)).as (v' := slAddr z (2 * 1)) rfl)
   | 16, _, _ => exact fun w Y => OpV.g (aE (u := wv v.c) (i := 2) (j := 0) (Y.ow 0 rfl) (by rw [List.length_map, W8.l_len]; decide) rfl (isAgg170 _) rfx)
   | 17, _, _ => exact fun w Y => OpV.g (ed rfl rfl)
   | 18, _, _ => exact fun w Y => OpV.g (cM rfl rfl)
   | 19, _, _ => exact fun w Y => OpV.g (ak rfl)
   | 20, _, _ => exact fun w Y => OpV.g ((ao (i := 1) (sT := 171) (Y.ow 0 rfl) rfl rfl (runUnderlying171 _) (sizeOf170 _) om (by rw [List.length_map, W8.l_len]; decide)).as (v' := slAddr z (1 * 1)) rfl)
   | 21, _, _ => exact fun w Y => OpV.g (aE (u := wv v.b) (i := 1) (j := 0) (Y.ow 0 rfl) (by rw [List.length_map, W8.l_len]; decide) rfl (isAgg170 _) rfx)
   | 22, _, _ => exact fun w Y => OpV.g (ak rfl)
   | 23, _, _ => exact fun w Y => OpV.g ((ao (i := 2) (sT := 171) (Y.ow 0 rfl) rfl rfl (runUnderlying171 _) (sizeOf170 _) om (by rw [List.length_map, W8.l_len]; decide)).as (v' := slAddr z (2 * 1)) rfl)
   | 24, _, _ => exact fun w Y => OpV.g (aE (u := wv v.c) (i := 2) (j := 0) (Y.ow 0 rfl) (by rw [List.length_map, W8.l_len]; decide) rfl (isAgg170 _) rfx)
   | 25, _, _ => exact fun w Y => OpV.g (ed rfl rfl)
   | 26, _, _ => exact fun w Y => OpV.g (cM rfl rfl)
   | i + 27, h, _ => exact absurd h om
  ·intro i hi
   exact absurd hi sm
  clear Z Y
  intro  a w19 Z Y
  replace Z : Fr 238 [(170, wv v.a), (171, wv (ror v.a 2)), (172, wv v.a), (173, wv (ror v.a 13)), (174, wv ((ror v.a 2) ^^^ (ror v.a 13))), (175, wv v.a), (176, wv (ror v.a 22)), (177, wv (((ror v.a 2) ^^^ (ror v.a 13)) ^^^ (ror v.a 22))), (178, wv v.a), (179, z), (180, slAddr z (1 * 1)), (181, wv v.b), (182, wv (v.a &&& v.b)), (183, wv v.a), (184, z), (185, slAddr z (2 * 1)), (186, wv v.c), (187, wv (v.a &&& v.c)), (188, wv ((v.a &&& v.b) ^^^ (v.a &&& v.c))), (189, z), (190, slAddr z (1 * 1)), (191, wv v.b), (192, z), (193, slAddr z (2 * 1)), (194, wv v.c), (195, wv (v.b &&& v.c)), (196, wv (((v.a &&& v.b) ^^^ (v.a &&& v.c)) ^^^ (v.b &&& v.c))), (0, _), (4, _), (5, _), (10, _), (11, _), (12, _), (13, _), (14, _), (15, _)] [] a := Z
  refine ab <| aP (k := 27) 29 [28] kr kr kr ?_
  refine wlv Z (cp rfl rfl) fun a Z => wla Z rfl fun a Z => ab <| bt kr ?_
  refine hK26 _ _ ?_
  replace Z := Z.p10 0 4 5 10 11 12 13 14 15 16 rfl
  rw [show (((v.h + (((ror v.e 6) ^^^ (ror v.e 11)) ^^^ (ror v.e 25))) + ((v.e &&& v.f) ^^^ ((~~~v.e) &&& v.g))) + ((kOf).getD ix 0#32)) + ((sch bs 64).getD ix 0#32) = tOf v (kOf.getD ix 0#32) ((sch bs 64).getD ix 0#32) from by rw [tOf, mix3]] at Z
  rw [show (((ror v.a 2) ^^^ (ror v.a 13)) ^^^ (ror v.a 22)) + (((v.a &&& v.b) ^^^ (v.a &&& v.c)) ^^^ (v.b &&& v.c)) = uOf v from by rw [uOf, mix3]] at Z
  refine aK kr (aU kr fun w20 hxz => ?_)
  replace Y := Y.grow hxz
  refine aV (k := 0) 22 [2, 3, 6, 9, 14, 15, 18, 21] Z kr kr kr rfx ?_
  replace Z := Z.p10 0 4 5 10 11 12 13 14 15 16 rfl
  refine aR [] (fun i => match i with | _ => fun _ _ => False) 22 [[], [], [0, 1], [], [], [4], [5], [], [7], [8], [], [10], [11], [], [12, 13], [], [], [16], [17], [], [19], [20]] [wv (tOf v (kOf.getD ix 0#32) ((sch bs 64).getD ix 0#32)), wv (uOf v), wv ((tOf v (kOf.getD ix 0#32) ((sch bs 64).getD ix 0#32)) + (uOf v)), wv v.a, z, slAddr z (1 * 1), wv v.b, z, slAddr z (2 * 1), wv v.c, z, slAddr z (3 * 1), wv v.d, wv (tOf v (kOf.getD ix 0#32) ((sch bs 64).getD ix 0#32)), wv (v.d + (tOf v (kOf.getD ix 0#32) ((sch bs 64).getD ix 0#32))), wv v.e, z, slAddr z (5 * 1), wv v.f, z, slAddr z (6 * 1), wv v.g] Z Y kr kr kr ?_ ?_ ?_
  ·intro i hi hiq
   match i, hi, hiq with
   | 0, _, _ => exact fun w Y => OpV.g (ak rfl)
   | 1, _, _ => exact fun w Y => OpV.g (ak rfl)
   | 2, _, _ => exact fun w Y => OpV.g (cp rfl rfl)
   | 3, _, _ => exact fun w Y => OpV.g (ak rfl)
   | 4, _, _ => exact fun w Y => OpV.g (ak rfl)
   | 5, _, _ => exact fun w Y => OpV.g ((ao (i := 1) (sT := 171) (Y.ow 0 rfl) rfl rfl (runUnderlying171 _) (sizeOf170 _) om (by rw [List.length_map, W8.l_len]; decide)).as (v' := slAddr z (1 * 1)) rfl)
   | 6, _, _ => exact fun w Y => OpV.g (aE (u := wv v.b) (i := 1) (j := 0) (Y.ow 0 rfl) (by rw [List.length_map, W8.l_len]; decide) rfl (isAgg170 _) rfx)
   | 7, _, _ => exact fun w Y => OpV.g (ak rfl)
   | 8, _, _ => exact fun w Y => OpV.g ((ao (i := 2) (sT := 171) (Y.ow 0 rfl) rfl rfl (runUnderlying171 _) (sizeOf170 _) om (by rw [List.length_map, W8.l_len]; decide)).as (v' := slAddr z (2 * 1)) rfl)
   | 9, _, _ => exact fun w Y => OpV.g (aE (u := wv v.c) (i := 2) (j := 0) (Y.ow 0 rfl) (by rw [List.length_map, W8.l_len]; decide) rfl (isAgg170 _) rfx)
   | 10, _, _ => exact fun w Y => OpV.g (ak rfl)
   | 11, _, _ => exact fun w Y => OpV.g ((ao (i := 3) (sT := 171) (Y.ow 0 rfl) rfl rfl (runUnderlying171 _) (sizeOf170 _) om (by rw [List.length_map, W8.l_len]; decide)).as (v' := slAddr z (3 * 1)) rfl)
   | 12, _, _ => exact fun w Y => OpV.g (aE (u := wv v.d) (i := 3) (j := 0) (Y.ow 0 rfl) (by rw [List.length_map, W8.l_len]; decide) rfl (isAgg170 _) rfx)
   | 13, _, _ => exact fun w Y => OpV.g (ak rfl)
   | 14, _, _ => exact fun w Y => OpV.g (cp rfl rfl)
   | 15, _, _ => exact fun w Y => OpV.g (ak rfl)
   | 16, _, _ => exact fun w Y => OpV.g (ak rfl)
   | 17, _, _ => exact fun w Y => OpV.g ((ao (i := 5) (sT := 171) (Y.ow 0 rfl) rfl rfl (runUnderlying171 _) (sizeOf170 _) om (by rw [List.length_map, W8.l_len]; decide)).as (v' := slAddr z (5 * 1)) rfl)
   | 18, _, _ => exact fun w Y => OpV.g (aE (u := wv v.f) (i := 5) (j := 0) (Y.ow 0 rfl) (by rw [List.length_map, W8.l_len]; decide) rfl (isAgg170 _) rfx)
   | 19, _, _ => exact fun w Y => OpV.g (ak rfl)
   | 20, _, _ => exact fun w Y => OpV.g ((ao (i := 6) (sT := 171) (Y.ow 0 rfl) rfl rfl (runUnderlying171 _) (sizeOf170 _) om (by rw [List.length_map, W8.l_len]; decide)).as (v' := slAddr z (6 * 1)) rfl)
   | 21, _, _ => exact fun w Y => OpV.g (aE (u := wv v.g) (i := 6) (j := 0) (Y.ow 0 rfl) (by rw [List.length_map, W8.l_len]; decide) rfl (isAgg170 _) rfx)
   | i + 22, h, _ => exact absurd h om
  ·intro i hi
   exact absurd hi sm
  clear Z Y
  intro  a w21 Z Y
  replace Z : Fr 238 [(198, wv (tOf v (kOf.getD ix 0#32) ((sch bs 64).getD ix 0#32))), (199, wv (uOf v)), (200, wv ((tOf v (kOf.getD ix 0#32) ((sch bs 64).getD ix 0#32)) + (uOf v))), (201, wv v.a), (202, z), (203, slAddr z (1 * 1)), (204, wv v.b), (205, z), (206, slAddr z (2 * 1)), (207, wv v.c), (208, z), (209, slAddr z (3 * 1)), (210, wv v.d), (211, wv (tOf v (kOf.getD ix 0#32) ((sch bs 64).getD ix 0#32))), (212, wv (v.d + (tOf v (kOf.getD ix 0#32) ((sch bs 64).getD ix 0#32)))), (213, wv v.e), (214, z), (215, slAddr z (5 * 1)), (216, wv v.f), (217, z), (218, slAddr z (6 * 1)), (219, wv v.g), (0, _), (4, _), (5, _), (10, _), (11, _), (12, _), (13, _), (14, _), (15, _), (16, _)] [] a := Z
  refine ab <| aP (k := 22) 24 [23] kr kr kr ?_
  refine aI (E := 170) (sz := 1) rfl [[wv ((tOf v (kOf.getD ix 0#32) ((sch bs 64).getD ix 0#32)) + (uOf v))], [wv v.a], [wv v.b], [wv v.c], [wv (v.d + (tOf v (kOf.getD ix 0#32) ((sch bs 64).getD ix 0#32)))], [wv v.e], [wv v.f], [wv v.g]] kr sm rfl de de Z Y ?_
  clear Z Y
  intro a w22 Z Y
  refine wla Z rfl fun a Z => ab <| bt kr ?_
  refine hK22 _ _ ?_
  replace Z := Z.p6 0 4 5 10 12 11 rfl
  refine ar <| wlm Z rfl fun a Z => wlv Z (aS rfl rfl ⟨om, om⟩) fun a Z => wla Z rfl fun a Z => ab ?_
  replace Y : St No w0 [_, _, _, _] w22 := Y
  refine ⟨_, ?_, ix + 1, (rnd v (kOf.getD ix 0#32) ((sch bs 64).getD ix 0#32)), (.slice (some ⟨w21.hz, 0, none⟩) 8 8), rfl, om, (by rw [rounds, hrv]), Z.pick [0, 4, 5, 10, 11, 12], Y.select [0, 2, 3] de⟩
  omega
 rw [hc9] at Z
 try simp only [qz] at hc9
 obtain rfl : ix = 64 := by omega
 refine aX <| hK18 _ _ <| aa fun K27 hK27 => wla Z rfl fun a Z => ab (hK27 _ _ <| ah fun K28 hK28 => ?_)
 refine aa fun K29 hK29 => wla Z rfl fun a Z => ab (hK29 _ _ <| ay ?_)
 replace Y : St No w0 [own (.slice none 0 0) 170 1 (((hv.add v).l.take 0).map fun x => [wv x]), own z 170 1 ((v.l).map fun x => [wv x]), own u 170 1 ((sch bs 64).map fun x => [wv x]), own kz 170 1 ((kOf).map fun x => [wv x])] w15 := Y.nil_own
 refine bj (fun m a w => ∃ (q : Nat) (y : Value), m = 8 - q ∧ (q ≤ 8) ∧ Fr 238 [(0, hvv), (4, .slice none 0 0), (11, z), (17, y), (18, iv (q : Int))] [] a ∧ St No w0 [own y 170 1 (((hv.add v).l.take q).map fun x => [wv x]), own z 170 1 ((v.l).map fun x => [wv x])] w) _ ⟨0, .slice none 0 0, rfl, Nat.zero_le _, Z.pick [0, 4, 11, 17, 18], Y.select [0, 1] de⟩ ?_
 rintro _ a w23 ⟨q, y, rfl, hq, Z, Y⟩
 refine ah fun K30 hK30 => aa fun K31 hK31 => wlm Z rfl fun a Z => wlv Z (v_lt rfl rfl) fun a Z => ab (hK31 _ _ ?_)
 refine ax Z rfl (fun hc10 => ?_) (fun hc10 => ?_)
 ·rw [hc10] at Z
  try simp only [qz] at hc10
  refine az <| hK30 _ _ <| ah fun K32 hK32 => ay <| aK kr (aU kr fun w24 hxz => ?_)
  replace Y := Y.grow hxz
  refine aV (k := 0) 11 [0, 10] Z kr kr kr rfx ?_
  replace Z := Z.p7 0 4 11 17 18 221 222 rfl
  refine aR [10] (fun i => match i with | 10 => pm (fun b : Nat => .slice (some ⟨b, 0, none⟩) 1 1) (fun b => [own (.slice (some ⟨b, 0, none⟩) 1 1) 170 1 [[wv ((hv.l.getD q 0#32) + (v.l.getD q 0#32))]]]) (fun _ => True) | _ => fun _ _ => False) 11 [[], [], [], [1, 2], [3], [], [], [5, 6], [7], [4, 8], [9]] [y, hvv, iv (q : Int), slAddr hvv (q * 1), wv (hv.l.getD q 0#32), z, iv (q : Int), slAddr z (q * 1), wv (v.l.getD q 0#32), wv ((hv.l.getD q 0#32) + (v.l.getD q 0#32)), undef] Z Y kr kr kr ?_ ?_ ?_
  ·intro i hi hiq
   match i, hi, hiq with
   | 0, _, _ => exact fun w Y => OpV.g (ak rfl)
   | 1, _, _ => exact fun w Y => OpV.g (ak rfl)
   | 2, _, _ => exact fun w Y => OpV.g (ak rfl)
   | 3, _, _ => exact fun w Y => OpV.g ((ao (i := (q : Int)) (sT := 171) (Y.arg hhv) rfl rfl (runUnderlying171 _) (sizeOf170 _) om (by rw [List.length_map]; first | omega | (rw [aJ]; omega) | (rw [List.length_take, aJ]; omega) | (rw [W8.l_len]; omega) | (rw [bH]; omega))).as (v' := slAddr hvv (q * 1)) rfl)
   | 4, _, _ => exact fun w Y => OpV.g (aE (u := wv (hv.l.getD q 0#32)) (i := q) (j := 0) (Y.arg hhv) (by rw [List.length_map]; first | omega | (rw [aJ]; omega) | (rw [List.length_take, aJ]; omega) | (rw [W8.l_len]; omega) | (rw [bH]; omega)) rfl (isAgg170 _) (by rw [bU 0#32]; rfl))
   | 5, _, _ => exact fun w Y => OpV.g (ak rfl)
   | 6, _, _ => exact fun w Y => OpV.g (ak rfl)
   | 7, _, _ => exact fun w Y => OpV.g ((ao (i := (q : Int)) (sT := 171) (Y.ow 1 rfl) rfl rfl (runUnderlying171 _) (sizeOf170 _) om (by rw [List.length_map]; first | omega | (rw [aJ]; omega) | (rw [List.length_take, aJ]; omega) | (rw [W8.l_len]; omega) | (rw [bH]; omega))).as (v' := slAddr z (q * 1)) rfl)
   | 8, _, _ => exact fun w Y => OpV.g (aE (u := wv (v.l.getD q 0#32)) (i := q) (j := 0) (Y.ow 1 rfl) (by rw [List.length_map]; first | omega | (rw [aJ]; omega) | (rw [List.length_take, aJ]; omega) | (rw [W8.l_len]; omega) | (rw [bH]; omega)) rfl (isAgg170 _) (by rw [bU 0#32]; rfl))
   | 9, _, _ => exact fun w Y => OpV.g (cp rfl rfl)
   | 10, _, h => exact absurd sm h
  ·intro i hi
   simp only [List.mem_cons, List.not_mem_nil, or_false] at hi
   subst hi
   ·intro w Y
    exact bW (E := 170) (sz := 1) rfl [[wv ((hv.l.getD q 0#32) + (v.l.getD q 0#32))]] (fun _ => by kernel_rfl) sm rfl de
  clear Z Y
  rintro _ _ ⟨b11, rfl, -, rfl⟩ a w25 Z Y
  replace Z : Fr 238 [(225, y), (226, hvv), (227, iv (q : Int)), (228, slAddr hvv (q * 1)), (229, wv (hv.l.getD q 0#32)), (230, z), (231, iv (q : Int)), (232, slAddr z (q * 1)), (233, wv (v.l.getD q 0#32)), (234, wv ((hv.l.getD q 0#32) + (v.l.getD q 0#32))), (235, _), (0, _), (4, _), (11, _), (17, _), (18, _), (221, _), (222, _)] [] a := Z
  replace Y : St No w0 [_, _, _] w25 := Y
  refine ab <| aP (k := 11) 13 [12] kr kr kr ?_
  refine bG (i := 1) (sT := 171) (inf := Tryz.t170) (z := wv (0#32)) (b := 0) (off := 0) (m := 0) (c := 0) rfl rfl rfl (Y.ow 0 rfl) sm underlying171 rfl rfl rfl rfl de (by simp [Value.oneCell', yv, wv, sv]) (by have hby : Tryz.t170.bytes = 4 := rfl; simp only [big, hby, List.length_append, List.length_map, List.length_take, aJ, W8.l_len, List.length_cons, List.length_nil]; omega) (by have hby : Tryz.t170.bytes = 4 := rfl; simp only [big, hby, List.length_append, List.length_map, List.length_take, aJ, W8.l_len, List.length_cons, List.length_nil]; omega) de Z Y fun a w26 s12 Z Y _ => wla Z rfl fun a Z => ab <| bt kr ?_
  refine hK32 _ _ ?_
  replace Z := Z.p5 0 4 11 18 17 rfl
  replace Y := Y.k2 6 rfl
  refine ar <| wlm Z rfl fun a Z => wlv Z (aS rfl rfl ⟨om, om⟩) fun a Z => wla Z rfl fun a Z => ab ?_
  rw [show (((hv.add v).l.take q).map fun x => [wv x]) ++ ([[wv ((hv.l.getD q 0#32) + (v.l.getD q 0#32))]]) = (((hv.add v).l.take (q + 1)).map fun x => [wv x]) from by rw [og hv v om]; simp] at Y
  refine ⟨_, ?_, q + 1, s12, rfl, om, Z.pick [0, 4, 11, 17, 18], Y.select [0, 1] de⟩
  omega
 rw [hc10] at Z
 try simp only [qz] at hc10
 refine aX <| hK28 _ _ <| aa fun K33 hK33 => wlm Z rfl fun a Z => wla Z rfl fun a Z => ab (hK33 _ _ ?_)
 replace Z := Z.p1 4 rfl
 refine ap ?_
 refine aj Z results109 (ae rfl ag) ?_
 obtain rfl : q = 8 := by omega
 exact ⟨y, rfl, trivial, Y.ext, St.out (E := [own y 170 1 (((block hv bs).l).map fun x => [wv x])]) (H := []) (by rw [block, hrv]; exact Y.select [0] de)⟩
theorem o9 (v : W8) {q : Nat} (h : q < 8) : v.out.take (4 * (q + 1)) = v.out.take (4 * q) ++ [UInt8.ofNat (v.l.getD q 0#32 >>> 24).toNat, UInt8.ofNat (v.l.getD q 0#32 >>> 16).toNat, UInt8.ofNat (v.l.getD q 0#32 >>> 8).toNat, UInt8.ofNat (v.l.getD q 0#32).toNat] := by
 have : q = 0 ∨ q = 1 ∨ q = 2 ∨ q = 3 ∨ q = 4 ∨ q = 5 ∨ q = 6 ∨ q = 7 := by omega
 rcases this with rfl | rfl | rfl | rfl | rfl | rfl | rfl | rfl <;> simp [W8.out, W8.l, mY]
theorem mV (s : By) (w0 : World) (hs : s.length ≤ 100000000) :
  Ret Tryz.prog 94 #[sv s] w0 fun v w => v = sv (sha s) ∧ Ext No w0 w := by
 have hpb := gh s
 refine aD func94 rfl ntmps94 (lb rfl) fun a Z => ?_
 replace Z := Z.p1 0 rfl
 replace Y : St No w0 [] w0 := St.init w0
 refine aa fun K1 hK1 => wla Z rfl fun a Z => ab (hK1 _ _ <| aa fun K2 hK2 => ?_)
 refine aI (E := 170) (sz := 1) rfl [[wv (1779033703#32)], [wv (3144134277#32)], [wv (1013904242#32)], [wv (2773480762#32)], [wv (1359893119#32)], [wv (2600822924#32)], [wv (528734635#32)], [wv (1541459225#32)]] kr sm rfl de de Z Y ?_
 clear Z Y
 intro a w1 Z Y
 refine wla Z rfl fun a Z => ab (hK2 _ _ <| aa fun K3 hK3 => ?_)
 refine wlm Z rfl fun a Z => bI Z Y de call108 rfl (lA s _ hs) ?_
 clear Z Y
 intro a w2 x1 hp Z Y
 revert x1 hp Z Y; rintro bz hp Z Y
 clear hp
 replace Y : St No w0 [_, _] w2 := Y
 refine wla Z rfl fun a Z => ab (hK3 _ _ <| ah fun K4 hK4 => ?_)
 refine aa fun K5 hK5 => wla Z rfl fun a Z => ab (hK5 _ _ <| ay ?_)
 replace Y : St No w0 [_, _] w2 := Y
 refine bj (fun m a w => ∃ (q : Nat) (hz : Value), m = (padded s).length / 64 - q ∧ (q ≤ (padded s).length / 64) ∧ Fr 56 [(2, sv ([])), (4, bz), (3, hz), (5, iv ((64 * q : Nat) : Int))] [] a ∧ St No w0 [own hz 170 1 (((blocks h0 (padded s) q).l).map fun x => [wv x]), own bz 5 1 ((padded s).map fun b => [yv b])] w) _ ⟨0, (.slice (some ⟨w0.hz, 0, none⟩) 8 8), rfl, Nat.zero_le _, Z.pick [2, 4, 3, 5], Y.select [1, 0] de⟩ ?_
 rintro _ a w3 ⟨q, hz, rfl, hq, Z, Y⟩
 refine ah fun K6 hK6 => aa fun K7 hK7 => wlm Z rfl fun a Z => wlm Z rfl fun a Z => wlv Z ((aL (sT := 117) (Y.ow 1 rfl) rfl rfl (runUnderlying117 _)).asi (m' := ((padded s).length : Int)) (by rw [List.length_map])) fun a Z => wlv Z (v_lt rfl rfl) fun a Z => ab (hK7 _ _ ?_)
 refine ax Z rfl (fun hc2 => ?_) (fun hc2 => ?_)
 ·rw [hc2] at Z
  try simp only [qz] at hc2
  have hpl := fF s
  refine az <| hK6 _ _ <| ah fun K8 hK8 => ay <| ar <| wlm Z rfl fun a Z => wlm Z rfl fun a Z => wlm Z rfl fun a Z => wlm Z rfl fun a Z => wlv Z (aS rfl rfl ⟨om, om⟩) fun a Z => wlv Z (iV (l := (64 * q)) (h := (64 * q + 64)) (Y.ow 1 rfl) rfl rfl rfl underlying117 kr (.inr (by first | rfl | (rw [show (((64 * q : Nat) : Int) : Int) = (((64 * q) : Nat) : Int) from by omega] <;> rfl))) (.inr (by first | rfl | (rw [show (((64 * q : Nat) : Int) + 64 : Int) = (((64 * q + 64) : Nat) : Int) from by omega] <;> rfl))) om (by first | (rw [List.length_map]; omega) | (simp <;> omega))) fun a Z => bI Z Y de call109 rfl (nz hz (cut bz 1 (64 * q) (64 * q + 64) (slCap bz)) (blocks h0 (padded s) q) (((padded s).drop (64 * q)).take 64) _ (Y.ow 0 rfl) (by have h := ((Y.ow 1 rfl).cutm (l := (64 * q)) (h := (64 * q + 64)) om (by first | omega | (simp; omega))); rwa [show 64 * q + 64 - 64 * q = 64 from by omega] at h) (by simp; omega)) ?_
  clear Z Y
  intro a w4 x4 hp Z Y
  revert x4 hp Z Y; rintro v3 hp Z Y
  clear hp
  replace Y : St No w0 [_, _, _] w4 := Y
  refine wla Z rfl fun a Z => ab <| hK8 _ _ ?_
  replace Z := Z.p4 2 4 5 3 rfl
  refine ar <| wlm Z rfl fun a Z => wlv Z (aS rfl rfl ⟨om, om⟩) fun a Z => wla Z rfl fun a Z => ab ?_
  replace Y : St No w0 [_, _, _] w4 := Y
  rw [show ((64 * q : Nat) : Int) + 64 = ((64 * (q + 1) : Nat) : Int) from by omega] at Z
  refine ⟨_, ?_, q + 1, v3, rfl, om, Z.pick [2, 4, 3, 5], Y.select [0, 2] de⟩
  omega
 rw [hc2] at Z
 try simp only [qz] at hc2
 have hpl := fF s
 obtain rfl : q = (padded s).length / 64 := by omega
 refine aX <| hK4 _ _ <| aa fun K9 hK9 => wla Z rfl fun a Z => ab (hK9 _ _ ?_)
 replace Z := Z.p3 2 3 6 rfl
 refine ah fun K10 hK10 => aa fun K11 hK11 => wla Z rfl fun a Z => ab (hK11 _ _ <| ay ?_)
 replace Y : St No w0 [own (.slice none 0 0) 5 1 (((blocks h0 (padded s) ((padded s).length / 64)).out.take (4 * 0)).map fun b => [yv b]), own hz 170 1 (((blocks h0 (padded s) ((padded s).length / 64)).l).map fun x => [wv x]), own bz 5 1 ((padded s).map fun b => [yv b])] w3 := Y.nil_own
 refine bj (fun m a w => ∃ (r : Nat) (oz : Value), m = 8 - r ∧ (r ≤ 8) ∧ Fr 56 [(2, sv ([])), (3, hz), (6, oz), (7, iv (r : Int))] [] a ∧ St No w0 [own oz 5 1 (((blocks h0 (padded s) ((padded s).length / 64)).out.take (4 * r)).map fun b => [yv b]), own hz 170 1 (((blocks h0 (padded s) ((padded s).length / 64)).l).map fun x => [wv x])] w) _ ⟨0, .slice none 0 0, rfl, Nat.zero_le _, Z.pick [2, 3, 6, 7], Y.select [0, 1] de⟩ ?_
 rintro _ a w5 ⟨r, oz, rfl, hr, Z, Y⟩
 refine ah fun K12 hK12 => aa fun K13 hK13 => wlm Z rfl fun a Z => wlv Z (v_lt rfl rfl) fun a Z => ab (hK13 _ _ ?_)
 refine ax Z rfl (fun hc5 => ?_) (fun hc5 => ?_)
 ·rw [hc5] at Z
  try simp only [qz] at hc5
  refine az <| hK12 _ _ <| ah fun K14 hK14 => ay <| aK kr (aU kr fun w6 hxz => ?_)
  replace Y := Y.grow hxz
  refine aV (k := 0) 25 [0, 24] Z kr kr kr rfx ?_
  replace Z := Z.p6 2 3 6 7 24 25 rfl
  refine aR [24] (fun i => match i with | 24 => pm (fun b : Nat => .slice (some ⟨b, 0, none⟩) 4 4) (fun b => [own (.slice (some ⟨b, 0, none⟩) 4 4) 5 1 [[yv (UInt8.ofNat (((blocks h0 (padded s) ((padded s).length / 64)).l.getD r 0#32) >>> 24).toNat)], [yv (UInt8.ofNat (((blocks h0 (padded s) ((padded s).length / 64)).l.getD r 0#32) >>> 16).toNat)], [yv (UInt8.ofNat (((blocks h0 (padded s) ((padded s).length / 64)).l.getD r 0#32) >>> 8).toNat)], [yv (UInt8.ofNat ((blocks h0 (padded s) ((padded s).length / 64)).l.getD r 0#32).toNat)]]]) (fun _ => True) | _ => fun _ _ => False) 25 [[], [], [], [1, 2], [3], [4], [5], [], [], [7, 8], [9], [10], [11], [], [], [13, 14], [15], [16], [17], [], [], [19, 20], [21], [22], [6, 12, 18, 23]] [oz, hz, iv (r : Int), slAddr hz (r * 1), wv ((blocks h0 (padded s) ((padded s).length / 64)).l.getD r 0#32), wv (((blocks h0 (padded s) ((padded s).length / 64)).l.getD r 0#32) >>> 24), yv (UInt8.ofNat (((blocks h0 (padded s) ((padded s).length / 64)).l.getD r 0#32) >>> 24).toNat), hz, iv (r : Int), slAddr hz (r * 1), wv ((blocks h0 (padded s) ((padded s).length / 64)).l.getD r 0#32), wv (((blocks h0 (padded s) ((padded s).length / 64)).l.getD r 0#32) >>> 16), yv (UInt8.ofNat (((blocks h0 (padded s) ((padded s).length / 64)).l.getD r 0#32) >>> 16).toNat), hz, iv (r : Int), slAddr hz (r * 1), wv ((blocks h0 (padded s) ((padded s).length / 64)).l.getD r 0#32), wv (((blocks h0 (padded s) ((padded s).length / 64)).l.getD r 0#32) >>> 8), yv (UInt8.ofNat (((blocks h0 (padded s) ((padded s).length / 64)).l.getD r 0#32) >>> 8).toNat), hz, iv (r : Int), slAddr hz (r * 1), wv ((blocks h0 (padded s) ((padded s).length / 64)).l.getD r 0#32), yv (UInt8.ofNat ((blocks h0 (padded s) ((padded s).length / 64)).l.getD r 0#32).toNat), undef] Z Y kr kr kr ?_ ?_ ?_
  ·intro i hi hiq
   match i, hi, hiq with
   | 0, _, _ => exact fun w Y => OpV.g (ak rfl)
   | 1, _, _ => exact fun w Y => OpV.g (ak rfl)
   | 2, _, _ => exact fun w Y => OpV.g (ak rfl)
   | 3, _, _ => exact fun w Y => OpV.g ((ao (i := (r : Int)) (sT := 171) (Y.ow 1 rfl) rfl rfl (runUnderlying171 _) (sizeOf170 _) om (by rw [List.length_map]; first | omega | (rw [W8.l_len]; omega))).as (v' := slAddr hz (r * 1)) rfl)
   | 4, _, _ => exact fun w Y => OpV.g (aE (u := wv ((blocks h0 (padded s) ((padded s).length / 64)).l.getD r 0#32)) (i := r) (j := 0) (Y.ow 1 rfl) (by rw [List.length_map]; first | omega | (rw [W8.l_len]; omega)) rfl (isAgg170 _) (by rw [bU 0#32]; rfl))
   | 5, _, _ => exact fun w Y => OpV.g (ef (n := 24) rfl rfl)
   | 6, _, _ => exact fun w Y => OpV.g (eq rfl kr underlying5)
   | 7, _, _ => exact fun w Y => OpV.g (ak rfl)
   | 8, _, _ => exact fun w Y => OpV.g (ak rfl)
   | 9, _, _ => exact fun w Y => OpV.g ((ao (i := (r : Int)) (sT := 171) (Y.ow 1 rfl) rfl rfl (runUnderlying171 _) (sizeOf170 _) om (by rw [List.length_map]; first | omega | (rw [W8.l_len]; omega))).as (v' := slAddr hz (r * 1)) rfl)
   | 10, _, _ => exact fun w Y => OpV.g (aE (u := wv ((blocks h0 (padded s) ((padded s).length / 64)).l.getD r 0#32)) (i := r) (j := 0) (Y.ow 1 rfl) (by rw [List.length_map]; first | omega | (rw [W8.l_len]; omega)) rfl (isAgg170 _) (by rw [bU 0#32]; rfl))
   | 11, _, _ => exact fun w Y => OpV.g (ef (n := 16) rfl rfl)
   | 12, _, _ => exact fun w Y => OpV.g (eq rfl kr underlying5)
   | 13, _, _ => exact fun w Y => OpV.g (ak rfl)
   | 14, _, _ => exact fun w Y => OpV.g (ak rfl)
   | 15, _, _ => exact fun w Y => OpV.g ((ao (i := (r : Int)) (sT := 171) (Y.ow 1 rfl) rfl rfl (runUnderlying171 _) (sizeOf170 _) om (by rw [List.length_map]; first | omega | (rw [W8.l_len]; omega))).as (v' := slAddr hz (r * 1)) rfl)
   | 16, _, _ => exact fun w Y => OpV.g (aE (u := wv ((blocks h0 (padded s) ((padded s).length / 64)).l.getD r 0#32)) (i := r) (j := 0) (Y.ow 1 rfl) (by rw [List.length_map]; first | omega | (rw [W8.l_len]; omega)) rfl (isAgg170 _) (by rw [bU 0#32]; rfl))
   | 17, _, _ => exact fun w Y => OpV.g (ef (n := 8) rfl rfl)
   | 18, _, _ => exact fun w Y => OpV.g (eq rfl kr underlying5)
   | 19, _, _ => exact fun w Y => OpV.g (ak rfl)
   | 20, _, _ => exact fun w Y => OpV.g (ak rfl)
   | 21, _, _ => exact fun w Y => OpV.g ((ao (i := (r : Int)) (sT := 171) (Y.ow 1 rfl) rfl rfl (runUnderlying171 _) (sizeOf170 _) om (by rw [List.length_map]; first | omega | (rw [W8.l_len]; omega))).as (v' := slAddr hz (r * 1)) rfl)
   | 22, _, _ => exact fun w Y => OpV.g (aE (u := wv ((blocks h0 (padded s) ((padded s).length / 64)).l.getD r 0#32)) (i := r) (j := 0) (Y.ow 1 rfl) (by rw [List.length_map]; first | omega | (rw [W8.l_len]; omega)) rfl (isAgg170 _) (by rw [bU 0#32]; rfl))
   | 23, _, _ => exact fun w Y => OpV.g (eq rfl kr underlying5)
   | 24, _, h => exact absurd sm h
   | i + 25, h, _ => exact absurd h om
  ·intro i hi
   simp only [List.mem_cons, List.not_mem_nil, or_false] at hi
   subst hi
   ·intro w Y
    exact bW (E := 5) (sz := 1) rfl [[yv (UInt8.ofNat (((blocks h0 (padded s) ((padded s).length / 64)).l.getD r 0#32) >>> 24).toNat)], [yv (UInt8.ofNat (((blocks h0 (padded s) ((padded s).length / 64)).l.getD r 0#32) >>> 16).toNat)], [yv (UInt8.ofNat (((blocks h0 (padded s) ((padded s).length / 64)).l.getD r 0#32) >>> 8).toNat)], [yv (UInt8.ofNat ((blocks h0 (padded s) ((padded s).length / 64)).l.getD r 0#32).toNat)]] (fun _ => by kernel_rfl) sm rfl de
  clear Z Y
  rintro _ _ ⟨b6, rfl, -, rfl⟩ a w7 Z Y
  replace Z : Fr 56 [(28, oz), (29, hz), (30, iv (r : Int)), (31, slAddr hz (r * 1)), (32, wv ((blocks h0 (padded s) ((padded s).length / 64)).l.getD r 0#32)), (33, wv (((blocks h0 (padded s) ((padded s).length / 64)).l.getD r 0#32) >>> 24)), (34, yv (UInt8.ofNat (((blocks h0 (padded s) ((padded s).length / 64)).l.getD r 0#32) >>> 24).toNat)), (35, hz), (36, iv (r : Int)), (37, slAddr hz (r * 1)), (38, wv ((blocks h0 (padded s) ((padded s).length / 64)).l.getD r 0#32)), (39, wv (((blocks h0 (padded s) ((padded s).length / 64)).l.getD r 0#32) >>> 16)), (40, yv (UInt8.ofNat (((blocks h0 (padded s) ((padded s).length / 64)).l.getD r 0#32) >>> 16).toNat)), (41, hz), (42, iv (r : Int)), (43, slAddr hz (r * 1)), (44, wv ((blocks h0 (padded s) ((padded s).length / 64)).l.getD r 0#32)), (45, wv (((blocks h0 (padded s) ((padded s).length / 64)).l.getD r 0#32) >>> 8)), (46, yv (UInt8.ofNat (((blocks h0 (padded s) ((padded s).length / 64)).l.getD r 0#32) >>> 8).toNat)), (47, hz), (48, iv (r : Int)), (49, slAddr hz (r * 1)), (50, wv ((blocks h0 (padded s) ((padded s).length / 64)).l.getD r 0#32)), (51, yv (UInt8.ofNat ((blocks h0 (padded s) ((padded s).length / 64)).l.getD r 0#32).toNat)), (52, _), (2, _), (3, _), (6, _), (7, _), (24, _), (25, _)] [] a := Z
  replace Y : St No w0 [_, _, _] w7 := Y
  refine ab <| aP (k := 25) 27 [26] kr kr kr ?_
  refine bG (i := 1) (sT := 117) (inf := Tryz.t5) (z := yv (0 : UInt8)) (b := 0) (off := 0) (m := 0) (c := 0) rfl rfl rfl (Y.ow 0 rfl) sm underlying117 rfl rfl rfl rfl de (by simp [Value.oneCell', yv, wv, sv]) (by have hby : Tryz.t5.bytes = 1 := rfl; simp only [big, hby, List.length_append, List.length_map, List.length_take, hU, List.length_cons, List.length_nil]; omega) (by have hby : Tryz.t5.bytes = 1 := rfl; simp only [big, hby, List.length_append, List.length_map, List.length_take, hU, List.length_cons, List.length_nil]; omega) de Z Y fun a w8 s7 Z Y _ => wla Z rfl fun a Z => ab <| bt kr ?_
  refine hK14 _ _ ?_
  replace Z := Z.p4 2 3 7 6 rfl
  replace Y := Y.k2 6 rfl
  refine ar <| wlm Z rfl fun a Z => wlv Z (aS rfl rfl ⟨om, om⟩) fun a Z => wla Z rfl fun a Z => ab ?_
  rw [show (((blocks h0 (padded s) ((padded s).length / 64)).out.take (4 * r)).map fun b => [yv b]) ++ ([[yv (UInt8.ofNat (((blocks h0 (padded s) ((padded s).length / 64)).l.getD r 0#32) >>> 24).toNat)], [yv (UInt8.ofNat (((blocks h0 (padded s) ((padded s).length / 64)).l.getD r 0#32) >>> 16).toNat)], [yv (UInt8.ofNat (((blocks h0 (padded s) ((padded s).length / 64)).l.getD r 0#32) >>> 8).toNat)], [yv (UInt8.ofNat ((blocks h0 (padded s) ((padded s).length / 64)).l.getD r 0#32).toNat)]]) = (((blocks h0 (padded s) ((padded s).length / 64)).out.take (4 * (r + 1))).map fun b => [yv b]) from by rw [o9 _ om]; simp] at Y
  refine ⟨_, ?_, r + 1, s7, rfl, om, Z.pick [2, 3, 6, 7], Y.select [0, 1] de⟩
  omega
 rw [hc5] at Z
 try simp only [qz] at hc5
 obtain rfl : r = 8 := by omega
 rw [show 4 * 8 = 32 from rfl, List.take_of_length_le (by rw [hU]; decide)] at Y
 refine aX <| hK10 _ _ <| aa fun K15 hK15 => wlm Z rfl fun a Z => wlv Z (eE (Y.ow 0 rfl) rfl underlying117 underlying5 underlying9) fun a Z => wla Z rfl fun a Z => ab (hK15 _ _ ?_)
 replace Z := Z.p1 2 rfl
 refine ap ?_
 refine aj Z results94 (ae rfl ag) ?_
 exact ⟨by rfl, Y.ext⟩
theorem oL (s : By) (w0 : World) (hs : s.length ≤ 40000000) :
  Ret Tryz.prog 74 #[sv s] w0 fun v w => v = sv (leafH sha s) ∧ Ext No w0 w := by
 refine aD func74 rfl ntmps74 (lb rfl) fun a Z => ?_
 replace Z := Z.p1 0 rfl
 replace Y : St No w0 [] w0 := St.init w0
 refine aa fun K1 hK1 => wla Z rfl fun a Z => ab (hK1 _ _ <| aa fun K2 hK2 => ?_)
 refine wlm Z rfl fun a Z => wlv Z (iW rfl rfl (by (simp only [List.length_append, List.length_cons, List.length_nil]); omega)) fun a Z => aA Z Y de call94 rfl (mV (([0]) ++ s) _ (by simp only [List.length_append, List.length_cons, List.length_nil]; omega)) ?_
 clear Z Y
 intro a w1 Z Y
 refine wla Z rfl fun a Z => ab (hK2 _ _ <| ap ?_)
 refine aj Z results74 (ae rfl ag) ?_
 exact ⟨by rfl, Y.ext⟩
theorem oJ (s t : By) (w0 : World) (hs : s.length ≤ 40000000) (ht : t.length ≤ 40000000) :
  Ret Tryz.prog 73 #[sv s, sv t] w0 fun v w => v = sv (nodeH sha s t) ∧ Ext No w0 w := by
 refine aD func73 rfl ntmps73 (lb rfl) fun a Z => ?_
 replace Z := Z.p2 0 1 rfl
 replace Y : St No w0 [] w0 := St.init w0
 refine aa fun K1 hK1 => wla Z rfl fun a Z => ab (hK1 _ _ <| aa fun K2 hK2 => ?_)
 refine wlm Z rfl fun a Z => wlv Z (iW rfl rfl (by (simp only [List.length_append, List.length_cons, List.length_nil]); omega)) fun a Z => wlm Z rfl fun a Z => wlv Z (iW rfl rfl (by (simp only [List.length_append, List.length_cons, List.length_nil]); omega)) fun a Z => aA Z Y de call94 rfl (mV ((([1]) ++ s) ++ t) _ (by simp only [List.length_append, List.length_cons, List.length_nil]; omega)) ?_
 clear Z Y
 intro a w1 Z Y
 refine wla Z rfl fun a Z => ab (hK2 _ _ ?_)
 replace Z := Z.p1 4 rfl
 refine ap ?_
 refine aj Z results73 (ae rfl ag) ?_
 exact ⟨by rfl, Y.ext⟩
theorem oQ {f z : Nat} (h : z < 128 ^ (f + 1)) (hz : 128 ≤ z) : ∃ g, f = g + 1 := by
 cases f with
 | zero => exfalso; simp at h; omega
 | succ g => exact ⟨g, rfl⟩
theorem kq {f z : Nat} (h : z < 128 ^ (f + 1 + 1)) : z / 128 < 128 ^ (f + 1) := by
 rw [Nat.pow_succ] at h
 exact Nat.div_lt_of_lt_mul (by rw [Nat.mul_comm]; exact h)
theorem qa {f z : Nat} (h : 128 ≤ z) : vb (f + 1) z = UInt8.ofNat (z % 128 + 128) :: vb f (z / 128) := by rw [vb, if_neg om]
theorem qL {f z : Nat} (h : z < 128) : vb f z = [UInt8.ofNat z] := by cases f <;> simp [vb, h]
theorem mB {n : Int} (h : small n) : zz n < 128 ^ (8 + 1) := by
 have := qN h.1 h.2
 have e : (128 : Nat) ^ (8 + 1) = 9223372036854775808 := by decide
 rw [e]; exact this
theorem oY {n : Int} (h : small n) : zz n < 18446744073709551616 := by have := qN h.1 h.2; omega
def gs : Nat → Nat → List (UInt8 × Bool)
 | 0, z => [(UInt8.ofNat (z % 128), true)]
 | f + 1, z => if z < 128 then [(UInt8.ofNat (z % 128), true)] else (UInt8.ofNat (z % 128), false) :: gs f (z / 128)
def enc1 (x : UInt8 × Bool) : UInt8 := if x.2 then x.1 else x.1 ||| 128
def encG (x : UInt8 × Bool) : List Value := [yv x.1, .bool x.2]
def NxG (pre : List (UInt8 × Bool)) (x : UInt8 × Bool) : Prop := pre.length < 9
theorem qk {f z : Nat} (h : ¬ z < 128) : gs (f + 1) z = (UInt8.ofNat (z % 128), false) :: gs f (z / 128) := by rw [gs, if_neg h]
theorem qC {f z : Nat} (h : z < 128) : gs f z = [(UInt8.ofNat (z % 128), true)] := by cases f <;> simp [gs, h]
theorem or128 : ∀ k, k < 128 → UInt8.ofNat k ||| 128 = UInt8.ofNat (k + 128) := by decide
theorem qM : ∀ (f z : Nat), z < 128 ^ (f + 1) → (gs f z).map enc1 = vb f z
 | 0, z, h => by simp [gs, vb, enc1] at h ⊢; rw [Nat.mod_eq_of_lt h]
 | f + 1, z, h => by
  unfold gs vb
  split
  ·rename_i h1
   simp [enc1, Nat.mod_eq_of_lt h1]
  ·rw [List.map_cons, qM f _ (kq h), enc1]
   simp only [Bool.false_eq_true, if_false]
   rw [or128 _ (Nat.mod_lt _ de)]
def cu (n : Int) : Nat := (n % 18446744073709551616).toNat
theorem v_zz {P : Program} {w : World} {L : List (Nat × Value)} {dst : Option Tmp} {T T' ty : TypeId} {pos : String} {af : Array Edge} {gd : Option (Nat × Bool)} {x y : Operand} {n : Int} (hs : small n)
  (hx : ev L x = some (.int .u64 ((cu n * 2 % 18446744073709551616 : Nat) : Int))) (hy : ev L y = some (.int .u64 ((cu (if n < 0 then -1 else 0) : Nat) : Int))) : OpV P ⟨dst, .binOp .xor T x y T', ty, pos, af, gd⟩ L w (.int .u64 ((zz n : Nat) : Int)) := by
 have h1 := hs.1
 have h2 := hs.2
 by_cases hn : n < 0
 ·rw [if_pos hn] at hy
  have e : zz n = 18446744073709551615 - cu n * 2 % 18446744073709551616 := by unfold zz cu; rw [if_pos hn]; omega
  rw [e]
  exact qr (Nat.mod_lt _ de) hx (by rw [hy]; rfl)
 ·rw [if_neg hn] at hy
  have e : zz n = cu n * 2 % 18446744073709551616 := by unfold zz cu; rw [if_neg hn]; omega
  rw [e]
  exact qj (Nat.mod_lt _ de) hx (by rw [hy]; rfl)
theorem nq (n : Int) (w0 : World) (hs : small n) :
  Ret Tryz.prog 110 #[iv n] w0 fun v w => v = .int .u64 ((zz n : Nat) : Int) ∧ Ext No w0 w := by
 have hs1 := hs.1
 have hs2 := hs.2
 refine aD func110 rfl ntmps110 (lb rfl) fun a Z => ?_
 replace Z := Z.p1 0 rfl
 replace Y : St No w0 [] w0 := St.init w0
 refine aa fun K1 hK1 => wla Z rfl fun a Z => ab (hK1 _ _ <| ah fun K2 hK2 => ?_)
 refine aa fun K3 hK3 => wlm Z rfl fun a Z => wlv Z (v_lt rfl rfl) fun a Z => ab (hK3 _ _ ?_)
 refine ax Z rfl (fun hc1 => ?_) (fun hc1 => ?_)
 ·rw [hc1] at Z
  try simp only [qz] at hc1
  refine aa fun K4 hK4 => wlm Z rfl fun a Z => wlv Z (lj rfl om om) fun a Z => wlv Z ((ei rfl kr underlying175).asi (m' := (((-n).toNat : Nat) : Int)) om) fun a Z => wlv Z (pd (m := (-n).toNat) (n := 2) om rfl rfl) fun a Z => wlv Z (pN (m := ((-n).toNat * 2)) (n := 1) om om rfl rfl) fun a Z => wla Z rfl fun a Z => ab (hK4 _ _ ?_)
  replace Z := Z.p2 0 2 rfl
  refine ap ?_
  refine aj Z results110 (ae rfl ag) ?_
  refine ⟨congrArg (Value.int .u64) ?_, Y.ext⟩
  unfold zz
  split <;> omega
 rw [hc1] at Z
 try simp only [qz] at hc1
 refine az <| hK2 _ _ <| aa fun K5 hK5 => wlm Z rfl fun a Z => wlv Z ((ei rfl kr underlying175).asi (m' := (((n).toNat : Nat) : Int)) om) fun a Z => wlv Z (pd (m := (n).toNat) (n := 2) om rfl rfl) fun a Z => wla Z rfl fun a Z => ab (hK5 _ _ ?_)
 replace Z := Z.p1 2 rfl
 refine ap ?_
 refine aj Z results110 (ae rfl ag) ?_
 refine ⟨congrArg (Value.int .u64) ?_, Y.ext⟩
 unfold zz
 split <;> omega
theorem lY (n : Int) (w0 : World) (hs : small n) :
  Ret Tryz.prog 95 #[iv n] w0 fun v w => v = .tuple #[sv (putI n), iv 0] ∧ Ext No w0 w := by
 refine aD func95 rfl ntmps95 (lb rfl) fun a Z => ?_
 replace Z := Z.p1 0 rfl
 replace Y : St No w0 [] w0 := St.init w0
 refine aa fun K1 hK1 => wla Z rfl fun a Z => wla Z rfl fun a Z => ab (hK1 _ _ <| ah fun K2 hK2 => ?_)
 refine aa fun K3 hK3 => wlm Z rfl fun a Z => wlv Z ((v_lt rfl rfl).asb (b' := false) (by rw [decide_eq_false_iff_not]; have := hs.1; omega)) fun a Z => wlm Z rfl fun a Z => wly Z (ak rfl) fun a Z => wly Z ((v_gt rfl rfl).asb (b' := false) (by rw [decide_eq_false_iff_not]; have := hs.2; omega)) fun a Z => wlv Z (aq rfl rfl) fun a Z => ab (hK3 _ _ <| bC Z rfl ?_)
 refine az <| hK2 _ _ <| aa fun K4 hK4 => wlm Z rfl fun a Z => aA Z Y de call110 rfl (nq n _ hs) ?_
 clear Z Y
 intro a w1 Z Y
 refine wla Z rfl fun a Z => ab (hK4 _ _ ?_)
 replace Z := Z.p3 2 3 4 rfl
 refine aa fun K5 hK5 => wla Z rfl fun a Z => ab (hK5 _ _ <| ah fun K6 hK6 => ?_)
 refine ay ?_
 replace Y : St No w0 [own (.slice none 0 0) 5 1 ((([] : By)).map fun b => [yv b])] w1 := Y.nil_own
 refine bj (fun m a w => ∃ (f : Nat) (z : Nat) (bs : By) (v : Value), m = f ∧ (bs ++ vb f z = putI n) ∧ (z < 128 ^ (f + 1)) ∧ (bs.length + f = 8) ∧ (z < 18446744073709551616) ∧ Fr 31 [(2, sv ([])), (3, iv 0), (4, .int .u64 (z : Int)), (5, v)] [] a ∧ St No w0 [own v 5 1 ((bs).map fun b => [yv b])] w) _ ⟨8, zz n, [], .slice none 0 0, rfl, rfl, mB hs, rfl, oY hs, Z.pick [2, 3, 4, 5], Y⟩ ?_
 rintro _ a w2 ⟨f, z, bs, v, rfl, hb, hz, hl, hz6, Z, Y⟩
 refine ah fun K7 hK7 => aa fun K8 hK8 => wlm Z rfl fun a Z => wlv Z (v_ge rfl rfl) fun a Z => ab (hK8 _ _ ?_)
 refine ax Z rfl (fun hc1 => ?_) (fun hc1 => ?_)
 ·rw [hc1] at Z
  try simp only [qz] at hc1
  obtain ⟨g, rfl⟩ := oQ hz om
  rw [qa om] at hb
  refine az <| hK7 _ _ <| ay <| aa fun K9 hK9 => wlm Z rfl fun a Z => wlm Z rfl fun a Z => wlv Z (qO (m := z) (n := 128) om rfl rfl) fun a Z => wlv Z (rg (m := (z % 128)) (n := 128) om rfl rfl) fun a Z => wlv Z (go (n := ((z % 128) + 128)) rfl kr underlying5) fun a Z => aI (E := 5) (sz := 1) rfl [[yv (UInt8.ofNat ((z % 128) + 128))]] kr sm rfl de de Z Y ?_
  clear Z Y
  intro a w3 Z Y
  refine bG (i := 1) (sT := 117) (inf := Tryz.t5) (z := yv (0 : UInt8)) (b := 0) (off := 0) (m := 0) (c := 0) rfl rfl rfl (Y.ow 0 rfl) sm underlying117 rfl rfl rfl rfl de (by simp [Value.oneCell', yv, wv, sv]) (by have hby : Tryz.t5.bytes = 1 := rfl; simp [big, hby] <;> omega) (by have hby : Tryz.t5.bytes = 1 := rfl; simp [big, hby] <;> omega) de Z Y fun a w4 s2 Z Y _ => ?_
  rw [show ((bs).map fun b => [yv b]) ++ ([[yv (UInt8.ofNat ((z % 128) + 128))]]) = ((bs ++ [(UInt8.ofNat ((z % 128) + 128))]).map fun b => [yv b]) from by simp] at Y
  refine wla Z rfl fun a Z => ab (hK9 _ _ ?_)
  replace Z := Z.p4 2 3 4 5 rfl
  replace Y := Y.k1 2 rfl
  refine ar <| wlm Z rfl fun a Z => wlv Z (rj (m := z) (n := 128) om om rfl rfl) fun a Z => wla Z rfl fun a Z => ab ?_
  refine ⟨_, ?_, g, z / 128, bs ++ [UInt8.ofNat (z % 128 + 128)], s2, rfl, (by rw [List.append_assoc]; exact hb), (kq hz), (by rw [List.length_append]; simp; omega), om, Z.pick [2, 3, 4, 5], Y⟩
  omega
 rw [hc1] at Z
 try simp only [qz] at hc1
 rw [qL om] at hb
 refine aX <| hK6 _ _ <| aa fun K10 hK10 => wlm Z rfl fun a Z => wlm Z rfl fun a Z => wlv Z (go (n := z) rfl kr underlying5) fun a Z => aI (E := 5) (sz := 1) rfl [[yv (UInt8.ofNat z)]] kr sm rfl de de Z Y ?_
 clear Z Y
 intro a w5 Z Y
 refine bG (i := 1) (sT := 117) (inf := Tryz.t5) (z := yv (0 : UInt8)) (b := 0) (off := 0) (m := 0) (c := 0) rfl rfl rfl (Y.ow 0 rfl) sm underlying117 rfl rfl rfl rfl de (by simp [Value.oneCell', yv, wv, sv]) (by have hby : Tryz.t5.bytes = 1 := rfl; simp [big, hby] <;> omega) (by have hby : Tryz.t5.bytes = 1 := rfl; simp [big, hby] <;> omega) de Z Y fun a w6 s3 Z Y _ => ?_
 rw [show ((bs).map fun b => [yv b]) ++ ([[yv (UInt8.ofNat z)]]) = ((bs ++ [(UInt8.ofNat z)]).map fun b => [yv b]) from by simp] at Y
 refine wlv Z (eE (Y.ow 1 rfl) rfl underlying117 underlying5 underlying9) fun a Z => wla Z rfl fun a Z => wla Z rfl fun a Z => ab (hK10 _ _ ?_)
 replace Z := Z.p2 2 3 rfl
 replace Y : St No w0 [] w6 := Y.mask [false, false]
 refine ap ?_
 refine aj Z results95 (ae rfl (ae rfl ag)) ?_
 exact ⟨by rw [← hb]; rfl, Y.ext⟩
theorem nk (z : Nat) (w0 : World) :
  Ret Tryz.prog 119 #[.int .u64 (z : Int)] w0 (MemR w0 (fun b : Nat => .func (.func 125) #[] #[pt b]) (fun b => [blk b [.int .u64 (z : Int)] 175]) (fun _ => True)) := by
 refine aD func119 rfl ntmps119 (lb rfl) fun a Z => ?_
 replace Z := Z.p1 0 rfl
 replace Y : St No w0 [] w0 := St.init w0
 refine aa fun K1 hK1 => aG Z Y de rfl (cs := [.int .u64 (z : Int)]) rfl ?_
 clear Z Y
 intro a w1 Z Y
 refine wla Z rfl fun a Z => ab (hK1 _ _ <| aa fun K2 hK2 => ?_)
 refine wlv Z (cG rfl rfl) fun a Z => wla Z rfl fun a Z => ab (hK2 _ _ <| ap ?_)
 refine aj Z results119 (ae rfl ag) ?_
 exact ⟨w0.hz, rfl, trivial, Y.ext, St.out (H := []) Y⟩
theorem lZ {M : Nat → Prop} {w0 : World} (z0 lp bg : Nat) (J Jx : List (UInt8 × Bool) → Ent → Prop) (hY : Rounds Tryz.prog M w0 lp encG NxG J Jx) (e0 : Ent) (ws : World) (hz0 : z0 < 128 ^ (8 + 1)) (hz06 : z0 < 18446744073709551616) (hJ : J [] e0) (Y : St M w0 [e0, blk bg [.int .u64 (z0 : Int)] 175] ws) :
  Ret Tryz.prog 125 #[.func (.yield lp) #[] #[], pt bg] ws fun _ w => ∃ e1 Hi1, St M w0 (e1 :: Hi1) w ∧ ((∃ xs, (xs = gs 8 z0 ∧ ∃ z1 : Nat, Hi1 = [blk bg [.int .u64 (z1 : Int)] 175]) ∧ J xs e1) ∨ (∃ pre, (∃ z1 : Nat, Hi1 = [blk bg [.int .u64 (z1 : Int)] 175]) ∧ Jx pre e1)) := by
 refine aD func125 rfl ntmps125 (lb rfl) fun a Z => ?_
 replace Z := Z.p2 0 1 rfl
 skip
 refine ay <| bj (fun m a w => ∃ (f : Nat) (z : Nat) (e : Ent) (dn : List (UInt8 × Bool)), m = f ∧ (dn ++ gs f z = gs 8 z0) ∧ (z < 128 ^ (f + 1)) ∧ (dn.length + f = 8) ∧ (z < 18446744073709551616) ∧ (J dn e) ∧ Fr 18 [(0, .func (.yield lp) #[] #[]), (1, pt bg)] [] a ∧ St M w0 [e, blk bg [.int .u64 (z : Int)] 175] w) _ ⟨8, z0, e0, [], rfl, rfl, hz0, rfl, hz06, hJ, Z.pick [0, 1], Y⟩ ?_
 rintro _ a w1 ⟨f, z, e, dn, rfl, hg, hz, hl, hz6, hJ, Z, Y⟩
 refine ay <| aa fun K1 hK1 => wlv Z (ld Y 1 rfl rfl (isAgg175 _) rfl) fun a Z => wlv Z (v_lt rfl rfl) fun a Z => wla Z rfl fun a Z => ab (hK1 _ _ <| ah fun K2 hK2 => ?_)
 refine aa fun K3 hK3 => wlm Z rfl fun a Z => wlv Z (ld Y 1 rfl rfl (isAgg175 _) rfl) fun a Z => wlv Z ((qY (m := z) (k := 7) om om rfl rfl).asi (m' := ((z % 128 : Nat) : Int)) rfl) fun a Z => wlv Z (go (n := (z % 128)) rfl kr underlying5) fun a Z => wlm Z rfl fun a Z => wl_r (eB rfl rfl (hY.yield (pre := dn) (x := (UInt8.ofNat (z % 128), decide ((z : Int) < 128))) (by show dn.length < 9; omega) hJ (Y.only (i := 0) rfl))) rfl rfl Z ?_
 clear Z
 intro a v w2 hR Z
 obtain ⟨y1, e2, rfl, hx, hok, hft, hJt, hJf⟩ := hR
 replace Y := Y.exchange (k := 0) rfl hx hok hft
 replace Y : St M w0 [_, _] w2 := Y
 clear hx hok hft
 refine wlv Z (bu rfl) fun a Z => wlm Z rfl fun a Z => ?_
 rcases Bool.eq_false_or_eq_true (!y1) with hb3 | hb3
 ·rw [hb3] at Z
  try simp only [qz] at hb3
  have hJ := hJf hb3
  refine wln Z fun a Z => wlv Z (au rfl rfl) fun a Z => ab (hK3 _ _ ?_)
  replace Z := Z.p3 0 1 15 rfl
  refine aN Z rfl ?_
  refine ap ?_
  refine aj Z results125 ag ?_
  first | exact ⟨_, _, Y, .inl ⟨_, ⟨rfl, _, rfl⟩, hJ⟩⟩ | exact ⟨_, _, Y, .inr ⟨_, ⟨_, rfl⟩, hJ⟩⟩
 rw [hb3] at Z
 try simp only [qz] at hb3
 have hJ := hJt hb3
 refine wly Z (ak rfl) fun a Z => wlv Z (aq rfl rfl) fun a Z => ab (hK3 _ _ ?_)
 replace Z := Z.p3 0 1 15 rfl
 refine ax Z rfl (fun hc4 => ?_) (fun hc4 => ?_)
 ·rw [hc4] at Z
  try simp only [qz] at hc4
  rw [decide_eq_true hc4] at hJ
  rw [qC om] at hg
  rw [hg] at hJ
  refine ap ?_
  refine aj Z results125 ag ?_
  first | exact ⟨_, _, Y, .inl ⟨_, ⟨rfl, _, rfl⟩, hJ⟩⟩ | exact ⟨_, _, Y, .inr ⟨_, ⟨_, rfl⟩, hJ⟩⟩
 rw [hc4] at Z
 try simp only [qz] at hc4
 rw [decide_eq_false hc4] at hJ
 obtain ⟨g, rfl⟩ := oQ hz om
 rw [qk om] at hg
 refine az <| hK2 _ _ <| ar <| wlv Z (ld Y 1 rfl rfl (isAgg175 _) rfl) fun a Z => wlv Z ((qR (m := z) (n := 7) om rfl rfl).asi (m' := ((z / 128 : Nat) : Int)) rfl) fun a Z => am 1 Z Y rfl rfl rfl (sizeOf175 _) rfl (lb rfl) (ds := [.int .u64 ((z / 128 : Nat) : Int)]) rfl rfl ?_
 clear Z Y
 intro a w3 Z Y
 refine ab ?_
 refine ⟨_, ?_, g, z / 128, e2, dn ++ [(UInt8.ofNat (z % 128), false)], rfl, (by rw [List.append_assoc]; exact hg), (kq hz), (by rw [List.length_append]; simp; omega), om, hJ, Z.pick [0, 1], Y⟩
 omega
theorem ln {M : Nat → Prop} {w0 : World} (z0 bg : Nat) (hz0 : z0 < 128 ^ (8 + 1)) (hz06 : z0 < 18446744073709551616) :
  Iter Tryz.prog 125 [pt bg] encG NxG (fun xs Hi1 => xs = gs 8 z0 ∧ ∃ z1 : Nat, Hi1 = [blk bg [.int .u64 (z1 : Int)] 175]) (fun pre Hi1 => ∃ z1 : Nat, Hi1 = [blk bg [.int .u64 (z1 : Int)] 175]) M w0 [blk bg [.int .u64 (z0 : Int)] 175] :=
 fun lp J Jx w e hY hJ Y => lZ z0 lp bg J Jx hY e w hz0 hz06 hJ Y
theorem nu (n : Int) (w0 : World) (hs : small n) :
  Ret Tryz.prog 112 #[iv n] w0 fun v w => v = .tuple #[sv (putI n), iv 0] ∧ Ext No w0 w := by
 have hs1 := hs.1
 have hs2 := hs.2
 refine aD func112 rfl ntmps112 (lb rfl) fun a Z => ?_
 replace Z := Z.p1 0 rfl
 replace Y : St No w0 [] w0 := St.init w0
 refine aa fun K1 hK1 => wla Z rfl fun a Z => wla Z rfl fun a Z => ab (hK1 _ _ <| ah fun K2 hK2 => ?_)
 refine aa fun K3 hK3 => wlm Z rfl fun a Z => wlv Z ((v_lt rfl rfl).asb (b' := false) (by rw [decide_eq_false_iff_not]; have := hs.1; omega)) fun a Z => wlm Z rfl fun a Z => wly Z (ak rfl) fun a Z => wly Z ((v_gt rfl rfl).asb (b' := false) (by rw [decide_eq_false_iff_not]; have := hs.2; omega)) fun a Z => wlv Z (aq rfl rfl) fun a Z => ab (hK3 _ _ <| bC Z rfl ?_)
 refine az <| hK2 _ _ <| aa fun K4 hK4 => aH Z Y de (zeroValue117 _) (cs := [.slice none 0 0]) rfl ?_
 clear Z Y
 intro a w1 Z Y
 refine ab (hK4 _ _ ?_)
 replace Z := Z.p4 0 2 3 4 rfl
 refine ah fun K5 hK5 => aa fun K6 hK6 => wlm Z rfl fun a Z => wlv Z ((ei rfl kr underlying175).asi (m' := ((cu (n) : Nat) : Int)) rfl) fun a Z => wlv Z (qW (m := cu n) (n := 1) om rfl rfl) fun a Z => wlm Z rfl fun a Z => wlv Z (pU om om rfl rfl) fun a Z => wlv Z ((ei rfl kr underlying175).asi (m' := ((cu (if n < 0 then -1 else 0) : Nat) : Int)) rfl) fun a Z => wlv Z (v_zz hs rfl rfl) fun a Z => bI Z Y de call119 rfl (nk (zz n) _) ?_
 clear Z Y
 intro a w2 x1 hp Z Y
 revert x1 hp Z Y; rintro bg hp Z Y
 clear hp
 replace Y : St No w0 [_, _] w2 := Y
 refine ab (hK6 _ _ ?_)
 replace Z := Z.p4 2 3 4 20 rfl
 refine ay ?_
 replace Y : St No w0 [own (.slice none 0 0) 5 1 ((([] : List (UInt8 × Bool)).map enc1).map fun b => [yv b]), blk bg [.int .u64 (zz n : Int)] 175, blk w0.hz [.slice none 0 0] 117] w2 := Y.nil_own
 replace Y : St No w0 [blk w0.hz [.slice none 0 0] 117, own (.slice none 0 0) 5 1 ((([] : List (UInt8 × Bool)).map enc1).map fun b => [yv b]), blk bg [.int .u64 (zz n : Int)] 175] w2 := Y.select [2, 0, 1] de
 replace Z : Fr 33 [(2, sv ([])), (3, iv 0), (4, pt w0.hz), (20, .func (.func 125) #[] #[pt bg])] [] a := Z.pick [2, 3, 4, 20]
 refine eo (M := No) (w0 := w0) (encs := encG) (Hi := [blk bg [.int .u64 (zz n : Int)] 175]) (Hc := [blk w0.hz [.slice none 0 0] 117, own (.slice none 0 0) 5 1 ((([] : List (UInt8 × Bool)).map enc1).map fun b => [yv b])]) (fun pre H => ∃ (v : Value), H = [blk w0.hz [v] 117, own v 5 1 ((pre.map enc1).map fun b => [yv b])]) (fun _ _ _ => False) (fun pre xs H a => Fr 33 [(2, sv ([])), (3, iv 0), (4, pt w0.hz), (20, .func (.func 125) #[] #[pt bg]), (5, yv xs.1), (6, .bool xs.2)] [] a ∧ ∃ (v : Value), H = [blk w0.hz [v] 117, own v 5 1 ((pre.map enc1).map fun b => [yv b])]) rfl call125 Z Y (ln (zz n) bg (mB hs) (oY hs)) de (fun _ => rfl) ⟨.slice none 0 0, rfl⟩ ?_ ?_ ?_ ?_
 ·clear Z Y
  rintro lp pre xs _ a w3 hnx ⟨v, rfl⟩ Z Y
  generalize (join [blk w0.hz [v] 117, own v 5 1 ((pre.map enc1).map fun b => [yv b])]).foot = M1 at Y ⊢
  replace Z : Fr 33 [(22, .bool xs.2), (21, yv xs.1), (2, sv ([])), (3, iv 0), (4, pt w0.hz), (20, .func (.func 125) #[] #[pt bg])] [] a := Z
  refine aa fun K7 hK7 => wla Z rfl fun a Z => ab (hK7 _ _ <| ar ?_)
  refine wla Z rfl fun a Z => ab ?_
  exact ⟨_, ⟨Z.pick [2, 3, 4, 20, 5, 6], v, rfl⟩, Y⟩
 ·rintro lp pre xs _ a w4 hnx ⟨Z, v, rfl⟩ hout hrec hnl Y
  clear hrec hnl
  generalize (join [blk w0.hz [v] 117, own v 5 1 ((pre.map enc1).map fun b => [yv b])]).foot = M1 at Y hout ⊢
  refine ay <| ah fun K8 hK8 => aa fun K9 hK9 => wlm Z rfl fun a Z => wlv Z (bu rfl) fun a Z => ab (hK9 _ _ ?_)
  refine ax Z rfl (fun hc2 => ?_) (fun hc2 => ?_)
  ·rw [hc2] at Z
   try simp only [qz] at hc2
   refine ar <| wlm Z rfl fun a Z => wlv Z (v_yor (a := xs.1) (b := (128 : UInt8)) rfl rfl) fun a Z => wla Z rfl fun a Z => ab <| hK8 _ _ ?_
   replace Z := Z.p4 2 3 4 5 rfl
   refine ar <| wlv Z (ld Y 0 rfl rfl (isAgg117 _) rfl) fun a Z => wlm Z rfl fun a Z => aI (E := 5) (sz := 1) rfl [[yv (xs.1 ||| (128 : UInt8))]] kr sm rfl de de Z Y ?_
   clear Z Y
   intro a w5 Z Y
   refine bG (i := 2) (sT := 117) (inf := Tryz.t5) (z := yv (0 : UInt8)) (b := 0) (off := 0) (m := 0) (c := 0) rfl rfl rfl (Y.ow 0 rfl) sm underlying117 rfl rfl rfl rfl de (by simp [Value.oneCell', yv, wv, sv]) (by have hby : Tryz.t5.bytes = 1 := rfl; have : pre.length < 9 := hnx; simp [big, hby] <;> omega) (by have hby : Tryz.t5.bytes = 1 := rfl; have : pre.length < 9 := hnx; simp [big, hby] <;> omega) de Z Y fun a w6 s3 Z Y _ => ?_
   rw [show ((pre.map enc1).map fun b => [yv b]) ++ ([[yv (xs.1 ||| (128 : UInt8))]]) = (((pre ++ [xs]).map enc1).map fun b => [yv b]) from by simp [enc1, hc2]] at Y
   refine cY 1 Z Y (Y.ow 2 rfl) rfl rfl rfl (sizeOf117 _) (lb rfl) (ds := [s3]) rfl rfl ?_
   clear Z Y
   intro a w7 Z Y
   refine ab ?_
   exact ⟨_, ⟨s3, rfl⟩, Y.select [1, 2] de⟩
  rw [hc2] at Z
  try simp only [qz] at hc2
  refine az <| hK8 _ _ <| ar <| wlv Z (ld Y 0 rfl rfl (isAgg117 _) rfl) fun a Z => wlm Z rfl fun a Z => aI (E := 5) (sz := 1) rfl [[yv xs.1]] kr sm rfl de de Z Y ?_
  clear Z Y
  intro a w8 Z Y
  refine bG (i := 2) (sT := 117) (inf := Tryz.t5) (z := yv (0 : UInt8)) (b := 0) (off := 0) (m := 0) (c := 0) rfl rfl rfl (Y.ow 0 rfl) sm underlying117 rfl rfl rfl rfl de (by simp [Value.oneCell', yv, wv, sv]) (by have hby : Tryz.t5.bytes = 1 := rfl; have : pre.length < 9 := hnx; simp [big, hby] <;> omega) (by have hby : Tryz.t5.bytes = 1 := rfl; have : pre.length < 9 := hnx; simp [big, hby] <;> omega) de Z Y fun a w9 s4 Z Y _ => ?_
  rw [show ((pre.map enc1).map fun b => [yv b]) ++ ([[yv xs.1]]) = (((pre ++ [xs]).map enc1).map fun b => [yv b]) from by simp [enc1, hc2]] at Y
  refine cY 1 Z Y (Y.ow 2 rfl) rfl rfl rfl (sizeOf117 _) (lb rfl) (ds := [s4]) rfl rfl ?_
  clear Z Y
  intro a w10 Z Y
  refine ab ?_
  exact ⟨_, ⟨s4, rfl⟩, Y.select [1, 2] de⟩
 ·rintro D pre _ _ a w11 ⟨rfl, z1, rfl⟩ ⟨v, rfl⟩ Y Z
  replace Z : Fr 33 [(2, sv ([])), (3, iv 0), (4, pt w0.hz), (20, .func (.func 125) #[] #[pt bg])] [{ target := .collected D, args := #[] }] a := Z
  replace Y : St No w0 [_, _, _, _] w11 := Y
  refine hK5 _ _ <| aa fun K10 hK10 => wlv Z (ld Y 1 rfl rfl (isAgg117 _) rfl) fun a Z => wlv Z (eE (Y.ow 2 rfl) rfl underlying117 underlying5 underlying9) fun a Z => wla Z rfl fun a Z => wla Z rfl fun a Z => ab (hK10 _ _ <| ap ?_)
  have hD := Y.g 0 rfl
  replace Y := Y.unmark (i := 0) (o' := .deferred none) rfl
  replace Y : St No w0 [_, _, _] _ := Y
  refine cy Z hD results112 (ae rfl (ae rfl ag)) ?_
  exact ⟨by rw [qM 8 _ (mB hs)]; rfl, Y.ext⟩
 ·rintro D c pre _ _ a w12 _ h
  exact h.elim
def Wsh.nums (x : Wsh) : List Int := [1, x.signer, x.holder, x.rf, x.rt, x.carrier, x.serial, x.sf, x.st]
def Pxy.nums (x : Pxy) : List Int := [2, x.frm, x.to, x.rf, x.rt, x.sf, x.st]
def smalls (l : List Int) : Prop := ∀ n ∈ l, small n
theorem Wsh.smalls_of {x : Wsh} (h : x.ok = true) : smalls x.nums := by
 simp only [Wsh.ok, inB, cj, cL, Bool.and_eq_true, decide_eq_true_eq] at h
 intro n hn
 simp only [Wsh.nums, List.mem_cons, List.not_mem_nil, or_false] at hn
 unfold small
 rcases hn with rfl | rfl | rfl | rfl | rfl | rfl | rfl | rfl | rfl <;> omega
theorem Pxy.smalls_of {x : Pxy} (h : x.ok = true) : smalls x.nums := by
 simp only [Pxy.ok, inB, cj, cL, Bool.and_eq_true, decide_eq_true_eq] at h
 intro n hn
 simp only [Pxy.nums, List.mem_cons, List.not_mem_nil, or_false] at hn
 unfold small
 rcases hn with rfl | rfl | rfl | rfl | rfl | rfl | rfl <;> omega
theorem Wsh.content_len (x : Wsh) : x.content.length ≤ 81 := Nat.le_trans (eu _) (Nat.le_refl _)
theorem Pxy.content_len (x : Pxy) : x.content.length ≤ 63 := Nat.le_trans (eu _) (Nat.le_refl _)
theorem jx (n lo hi : Int) (w0 : World) :
  Ret Tryz.prog 70 #[iv n, iv lo, iv hi] w0 fun v w => v = .bool (inB n lo hi) ∧ Ext No w0 w := by
 refine aD func70 rfl ntmps70 (lb rfl) fun a Z => ?_
 replace Z := Z.p3 0 1 2 rfl
 replace Y : St No w0 [] w0 := St.init w0
 refine aa fun K1 hK1 => wla Z rfl fun a Z => ab (hK1 _ _ <| aa fun K2 hK2 => ?_)
 refine wlm Z rfl fun a Z => wlm Z rfl fun a Z => wlv Z (v_ge rfl rfl) fun a Z => wlm Z rfl fun a Z => ?_
 refine bO (N := 15) (df := []) 4 [(14, .bool ((decide (lo ≤ n)) && (decide (n ≤ hi)))), (0, iv n), (1, iv lo), (2, iv hi), (6, .bool false)] ?_ (fun hj => ?_)
 rotate_left
 ·rcases Bool.eq_false_or_eq_true (decide (lo ≤ n)) with hb1 | hb1
  ·rw [hb1] at Z
   have hb1b := hb1
   try simp only [qz, Bool.and_eq_true, Bool.or_eq_true, Bool.and_eq_false_iff, Bool.or_eq_false_iff] at hb1
   refine wly Z (ak rfl) fun a Z => wly Z (ak rfl) fun a Z => wly Z (v_le rfl rfl) fun a Z => wlv Z (au rfl rfl) fun a Z => ?_
   refine hj _ ?_
   try rw [hb1b]
   exact Z.pick [14, 0, 1, 2, 6]
  rw [hb1] at Z
  have hb1b := hb1
  try simp only [qz, Bool.and_eq_true, Bool.or_eq_true, Bool.and_eq_false_iff, Bool.or_eq_false_iff] at hb1
  refine wln Z fun a Z => wln Z fun a Z => wln Z fun a Z => wlv Z (aq rfl rfl) fun a Z => ?_
  refine hj _ ?_
  try rw [hb1b]
  exact Z.pick [14, 0, 1, 2, 6]
 intro a Z
 refine wla Z rfl fun a Z => ab (hK2 _ _ <| ap ?_)
 refine aj Z results70 (ae rfl ag) ?_
 exact ⟨by rfl, Y.ext⟩
theorem jF (b d : Int) (w0 : World) :
  Ret Tryz.prog 71 #[.agg #[iv b, iv d]] w0 fun v w => v = .bool (cj b d) ∧ Ext No w0 w := by
 refine aD func71 rfl ntmps71 (lb rfl) fun a Z => ?_
 replace Z := Z.p1 0 rfl
 replace Y : St No w0 [] w0 := St.init w0
 refine aa fun K1 hK1 => aG Z Y de rfl (cs := [iv b, iv d]) rfl ?_
 clear Z Y
 intro a w1 Z Y
 refine wla Z rfl fun a Z => ab (hK1 _ _ <| aa fun K2 hK2 => ?_)
 refine wlv Z (ac (v := pt w0.hz) rfl kr) fun a Z => wlv Z (ld Y 0 rfl rfl (isAgg3 _) rfl) fun a Z => wlv Z (v_ge rfl rfl) fun a Z => wlm Z rfl fun a Z => ?_
 refine bO (N := 18) (df := []) 6 [(12, .bool ((decide (0 ≤ b)) && (decide (b < d)))), (0, .agg #[iv b, iv d]), (1, pt w0.hz), (2, .bool false)] ?_ (fun hj => ?_)
 rotate_left
 ·rcases Bool.eq_false_or_eq_true (decide (0 ≤ b)) with hb1 | hb1
  ·rw [hb1] at Z
   have hb1b := hb1
   try simp only [qz, Bool.and_eq_true, Bool.or_eq_true, Bool.and_eq_false_iff, Bool.or_eq_false_iff] at hb1
   refine wly Z (ac (v := pt w0.hz) rfl kr) fun a Z => wly Z (ld Y 0 rfl rfl (isAgg3 _) rfl) fun a Z => wly Z (ac (v := po w0.hz 1) rfl kr) fun a Z => wly Z (ld Y 0 rfl rfl (isAgg3 _) rfl) fun a Z => wly Z (v_lt rfl rfl) fun a Z => wlv Z (au rfl rfl) fun a Z => ?_
   refine hj _ ?_
   try rw [hb1b]
   exact Z.pick [12, 0, 1, 2]
  rw [hb1] at Z
  have hb1b := hb1
  try simp only [qz, Bool.and_eq_true, Bool.or_eq_true, Bool.and_eq_false_iff, Bool.or_eq_false_iff] at hb1
  refine wln Z fun a Z => wln Z fun a Z => wln Z fun a Z => wln Z fun a Z => wln Z fun a Z => wlv Z (aq rfl rfl) fun a Z => ?_
  refine hj _ ?_
  try rw [hb1b]
  exact Z.pick [12, 0, 1, 2]
 intro a Z
 refine wlm Z rfl fun a Z => ?_
 refine bO (N := 18) (df := []) 4 [(17, .bool (((decide (0 ≤ b)) && (decide (b < d))) && (decide (d ≤ 100000000)))), (0, .agg #[iv b, iv d]), (1, pt w0.hz), (2, .bool false)] ?_ (fun hj => ?_)
 rotate_left
 ·rcases Bool.eq_false_or_eq_true ((decide (0 ≤ b)) && (decide (b < d))) with hb2 | hb2
  ·rw [hb2] at Z
   have hb2b := hb2
   try simp only [qz, Bool.and_eq_true, Bool.or_eq_true, Bool.and_eq_false_iff, Bool.or_eq_false_iff] at hb2
   refine wly Z (ac (v := po w0.hz 1) rfl kr) fun a Z => wly Z (ld Y 0 rfl rfl (isAgg3 _) rfl) fun a Z => wly Z (v_le rfl rfl) fun a Z => wlv Z (au rfl rfl) fun a Z => ?_
   refine hj _ ?_
   try rw [hb2b]
   exact Z.pick [17, 0, 1, 2]
  rw [hb2] at Z
  have hb2b := hb2
  try simp only [qz, Bool.and_eq_true, Bool.or_eq_true, Bool.and_eq_false_iff, Bool.or_eq_false_iff] at hb2
  refine wln Z fun a Z => wln Z fun a Z => wln Z fun a Z => wlv Z (aq rfl rfl) fun a Z => ?_
  refine hj _ ?_
  try rw [hb2b]
  exact Z.pick [17, 0, 1, 2]
 intro a Z
 refine wla Z rfl fun a Z => ab (hK2 _ _ <| ap ?_)
 refine aj Z results71 (ae rfl ag) ?_
 exact ⟨by rfl, Y.ext⟩
theorem jH (b d : Int) (w0 : World) :
  Ret Tryz.prog 72 #[.agg #[iv b, iv d]] w0 fun v w => v = .bool (cL b d) ∧ Ext No w0 w := by
 refine aD func72 rfl ntmps72 (lb rfl) fun a Z => ?_
 replace Z := Z.p1 0 rfl
 replace Y : St No w0 [] w0 := St.init w0
 refine aa fun K1 hK1 => aG Z Y de rfl (cs := [iv b, iv d]) rfl ?_
 clear Z Y
 intro a w1 Z Y
 refine wla Z rfl fun a Z => ab (hK1 _ _ <| aa fun K2 hK2 => ?_)
 refine wlv Z (ac (v := pt w0.hz) rfl kr) fun a Z => wlv Z (ld Y 0 rfl rfl (isAgg3 _) rfl) fun a Z => wlv Z (v_ge rfl rfl) fun a Z => wlm Z rfl fun a Z => ?_
 refine bO (N := 18) (df := []) 6 [(12, .bool ((decide (0 ≤ b)) && (decide (b < d)))), (0, .agg #[iv b, iv d]), (1, pt w0.hz), (2, .bool false)] ?_ (fun hj => ?_)
 rotate_left
 ·rcases Bool.eq_false_or_eq_true (decide (0 ≤ b)) with hb1 | hb1
  ·rw [hb1] at Z
   have hb1b := hb1
   try simp only [qz, Bool.and_eq_true, Bool.or_eq_true, Bool.and_eq_false_iff, Bool.or_eq_false_iff] at hb1
   refine wly Z (ac (v := pt w0.hz) rfl kr) fun a Z => wly Z (ld Y 0 rfl rfl (isAgg3 _) rfl) fun a Z => wly Z (ac (v := po w0.hz 1) rfl kr) fun a Z => wly Z (ld Y 0 rfl rfl (isAgg3 _) rfl) fun a Z => wly Z (v_lt rfl rfl) fun a Z => wlv Z (au rfl rfl) fun a Z => ?_
   refine hj _ ?_
   try rw [hb1b]
   exact Z.pick [12, 0, 1, 2]
  rw [hb1] at Z
  have hb1b := hb1
  try simp only [qz, Bool.and_eq_true, Bool.or_eq_true, Bool.and_eq_false_iff, Bool.or_eq_false_iff] at hb1
  refine wln Z fun a Z => wln Z fun a Z => wln Z fun a Z => wln Z fun a Z => wln Z fun a Z => wlv Z (aq rfl rfl) fun a Z => ?_
  refine hj _ ?_
  try rw [hb1b]
  exact Z.pick [12, 0, 1, 2]
 intro a Z
 refine wlm Z rfl fun a Z => ?_
 refine bO (N := 18) (df := []) 4 [(17, .bool (((decide (0 ≤ b)) && (decide (b < d))) && (decide (d ≤ 10000001)))), (0, .agg #[iv b, iv d]), (1, pt w0.hz), (2, .bool false)] ?_ (fun hj => ?_)
 rotate_left
 ·rcases Bool.eq_false_or_eq_true ((decide (0 ≤ b)) && (decide (b < d))) with hb2 | hb2
  ·rw [hb2] at Z
   have hb2b := hb2
   try simp only [qz, Bool.and_eq_true, Bool.or_eq_true, Bool.and_eq_false_iff, Bool.or_eq_false_iff] at hb2
   refine wly Z (ac (v := po w0.hz 1) rfl kr) fun a Z => wly Z (ld Y 0 rfl rfl (isAgg3 _) rfl) fun a Z => wly Z (v_le rfl rfl) fun a Z => wlv Z (au rfl rfl) fun a Z => ?_
   refine hj _ ?_
   try rw [hb2b]
   exact Z.pick [17, 0, 1, 2]
  rw [hb2] at Z
  have hb2b := hb2
  try simp only [qz, Bool.and_eq_true, Bool.or_eq_true, Bool.and_eq_false_iff, Bool.or_eq_false_iff] at hb2
  refine wln Z fun a Z => wln Z fun a Z => wln Z fun a Z => wlv Z (aq rfl rfl) fun a Z => ?_
  refine hj _ ?_
  try rw [hb2b]
  exact Z.pick [17, 0, 1, 2]
 intro a Z
 refine wla Z rfl fun a Z => ab (hK2 _ _ <| ap ?_)
 refine aj Z results72 (ae rfl ag) ?_
 exact ⟨by rfl, Y.ext⟩
theorem kU (x : Wsh) (w0 : World) :
  Ret Tryz.prog 55 #[.agg #[iv x.signer, iv x.holder, iv x.rf, iv x.rt, iv x.carrier, iv x.serial, iv x.sf, iv x.st, sv x.sig]] w0 fun v w => v = .bool x.ok ∧ Ext No w0 w := by
 refine aD func55 rfl ntmps55 (lb rfl) fun a Z => ?_
 replace Z := Z.p1 0 rfl
 replace Y : St No w0 [] w0 := St.init w0
 refine aa fun K1 hK1 => aG Z Y de rfl (cs := [iv x.signer, iv x.holder, iv x.rf, iv x.rt, iv x.carrier, iv x.serial, iv x.sf, iv x.st, sv x.sig]) rfl ?_
 clear Z Y
 intro a w1 Z Y
 refine wla Z rfl fun a Z => ab (hK1 _ _ <| aa fun K2 hK2 => ?_)
 refine wlv Z (ac (v := pt w0.hz) rfl kr) fun a Z => wlv Z (ld Y 0 rfl rfl (isAgg3 _) rfl) fun a Z => aA Z Y de call70 rfl (jx x.signer 0 63 _) ?_
 clear Z Y
 intro a w2 Z Y
 refine wlm Z rfl fun a Z => ?_
 rcases Bool.eq_false_or_eq_true (inB x.signer 0 63) with hb1 | hb1
 ·rw [hb1] at Z
  try simp only [qz] at hb1
  refine wly Z (ac (v := po w0.hz 1) rfl kr) fun a Z => wly Z (ld Y 0 rfl rfl (isAgg3 _) rfl) fun a Z => aF Z Y de rfl de rfl call70 rfl (jx x.holder 0 63 _) ?_
  clear Z Y
  intro a w3 Z Y
  refine wlv Z (au rfl rfl) fun a Z => wlm Z rfl fun a Z => ?_
  rcases Bool.eq_false_or_eq_true (inB x.holder 0 63) with hb2 | hb2
  ·rw [hb2] at Z
   try simp only [qz] at hb2
   refine wly Z (ac (v := po w0.hz 2) rfl kr) fun a Z => wly Z (bJ (ds := [iv x.rf, iv x.rt]) (Y.g 0 rfl) rfl (isAgg38 _) (sizeOf38 _) rfl) fun a Z => aF Z Y de rfl de rfl call71 rfl (jF x.rf x.rt _) ?_
   clear Z Y
   intro a w4 Z Y
   refine wlv Z (au rfl rfl) fun a Z => wlm Z rfl fun a Z => ?_
   rcases Bool.eq_false_or_eq_true (cj x.rf x.rt) with hb3 | hb3
   ·rw [hb3] at Z
    try simp only [qz] at hb3
    refine wly Z (ac (v := po w0.hz 4) rfl kr) fun a Z => wly Z (ld Y 0 rfl rfl (isAgg3 _) rfl) fun a Z => aF Z Y de rfl de rfl call70 rfl (jx x.carrier 0 7 _) ?_
    clear Z Y
    intro a w5 Z Y
    refine wlv Z (au rfl rfl) fun a Z => wlm Z rfl fun a Z => ?_
    rcases Bool.eq_false_or_eq_true (inB x.carrier 0 7) with hb4 | hb4
    ·rw [hb4] at Z
     try simp only [qz] at hb4
     refine wly Z (ac (v := po w0.hz 5) rfl kr) fun a Z => wly Z (ld Y 0 rfl rfl (isAgg3 _) rfl) fun a Z => aF Z Y de rfl de rfl call70 rfl (jx x.serial 0 1000000 _) ?_
     clear Z Y
     intro a w6 Z Y
     refine wlv Z (au rfl rfl) fun a Z => wlm Z rfl fun a Z => ?_
     rcases Bool.eq_false_or_eq_true (inB x.serial 0 1000000) with hb5 | hb5
     ·rw [hb5] at Z
      try simp only [qz] at hb5
      refine wly Z (ac (v := po w0.hz 6) rfl kr) fun a Z => wly Z (bJ (ds := [iv x.sf, iv x.st]) (Y.g 0 rfl) rfl (isAgg39 _) (sizeOf39 _) rfl) fun a Z => aF Z Y de rfl de rfl call72 rfl (jH x.sf x.st _) ?_
      clear Z Y
      intro a w7 Z Y
      refine wlv Z (au rfl rfl) fun a Z => wla Z rfl fun a Z => ab (hK2 _ _ ?_)
      replace Z := Z.p1 2 rfl
      replace Y : St No w0 [] w7 := Y.mask [false]
      refine ap ?_
      refine aj Z results55 (ae rfl ag) ?_
      exact ⟨by simp only [retv]; unfold Wsh.ok; simp [hb1, hb2, hb3, hb4, hb5], Y.ext⟩
     rw [hb5] at Z
     try simp only [qz] at hb5
     refine wln Z fun a Z => wln Z fun a Z => wln Z fun a Z => wlv Z (aq rfl rfl) fun a Z => wla Z rfl fun a Z => ab (hK2 _ _ ?_)
     replace Z := Z.p1 2 rfl
     replace Y : St No w0 [] w6 := Y.mask [false]
     refine ap ?_
     refine aj Z results55 (ae rfl ag) ?_
     exact ⟨by simp only [retv]; unfold Wsh.ok; simp [hb1, hb2, hb3, hb4, hb5], Y.ext⟩
    rw [hb4] at Z
    try simp only [qz] at hb4
    refine wln Z fun a Z => wln Z fun a Z => wln Z fun a Z => wlv Z (aq rfl rfl) fun a Z => wlm Z rfl fun a Z => wln Z fun a Z => wln Z fun a Z => wln Z fun a Z => wlv Z (aq rfl rfl) fun a Z => wla Z rfl fun a Z => ab (hK2 _ _ ?_)
    replace Z := Z.p1 2 rfl
    replace Y : St No w0 [] w5 := Y.mask [false]
    refine ap ?_
    refine aj Z results55 (ae rfl ag) ?_
    exact ⟨by simp only [retv]; unfold Wsh.ok; simp [hb1, hb2, hb3, hb4], Y.ext⟩
   rw [hb3] at Z
   try simp only [qz] at hb3
   refine wln Z fun a Z => wln Z fun a Z => wln Z fun a Z => wlv Z (aq rfl rfl) fun a Z => wlm Z rfl fun a Z => wln Z fun a Z => wln Z fun a Z => wln Z fun a Z => wlv Z (aq rfl rfl) fun a Z => wlm Z rfl fun a Z => wln Z fun a Z => wln Z fun a Z => ?_
   refine wln Z fun a Z => wlv Z (aq rfl rfl) fun a Z => wla Z rfl fun a Z => ab (hK2 _ _ ?_)
   replace Z := Z.p1 2 rfl
   replace Y : St No w0 [] w4 := Y.mask [false]
   refine ap ?_
   refine aj Z results55 (ae rfl ag) ?_
   exact ⟨by simp only [retv]; unfold Wsh.ok; simp [hb1, hb2, hb3], Y.ext⟩
  rw [hb2] at Z
  try simp only [qz] at hb2
  refine wln Z fun a Z => wln Z fun a Z => wln Z fun a Z => wlv Z (aq rfl rfl) fun a Z => wlm Z rfl fun a Z => wln Z fun a Z => wln Z fun a Z => wln Z fun a Z => wlv Z (aq rfl rfl) fun a Z => wlm Z rfl fun a Z => wln Z fun a Z => wln Z fun a Z => ?_
  refine wln Z fun a Z => wlv Z (aq rfl rfl) fun a Z => wlm Z rfl fun a Z => wln Z fun a Z => wln Z fun a Z => wln Z fun a Z => wlv Z (aq rfl rfl) fun a Z => wla Z rfl fun a Z => ab (hK2 _ _ ?_)
  replace Z := Z.p1 2 rfl
  replace Y : St No w0 [] w3 := Y.mask [false]
  refine ap ?_
  refine aj Z results55 (ae rfl ag) ?_
  exact ⟨by simp only [retv]; unfold Wsh.ok; simp [hb1, hb2], Y.ext⟩
 rw [hb1] at Z
 try simp only [qz] at hb1
 refine wln Z fun a Z => wln Z fun a Z => wln Z fun a Z => wlv Z (aq rfl rfl) fun a Z => wlm Z rfl fun a Z => wln Z fun a Z => wln Z fun a Z => wln Z fun a Z => wlv Z (aq rfl rfl) fun a Z => wlm Z rfl fun a Z => wln Z fun a Z => wln Z fun a Z => ?_
 refine wln Z fun a Z => wlv Z (aq rfl rfl) fun a Z => wlm Z rfl fun a Z => wln Z fun a Z => wln Z fun a Z => wln Z fun a Z => wlv Z (aq rfl rfl) fun a Z => wlm Z rfl fun a Z => wln Z fun a Z => wln Z fun a Z => wln Z fun a Z => wlv Z (aq rfl rfl) fun a Z => wla Z rfl fun a Z => ?_
 refine ab (hK2 _ _ ?_)
 replace Z := Z.p1 2 rfl
 replace Y : St No w0 [] w2 := Y.mask [false]
 refine ap ?_
 refine aj Z results55 (ae rfl ag) ?_
 exact ⟨by simp only [retv]; unfold Wsh.ok; simp [hb1], Y.ext⟩
theorem jv (x : Pxy) (w0 : World) :
  Ret Tryz.prog 52 #[.agg #[iv x.frm, iv x.to, iv x.rf, iv x.rt, iv x.sf, iv x.st, sv x.sig]] w0 fun v w => v = .bool x.ok ∧ Ext No w0 w := by
 refine aD func52 rfl ntmps52 (lb rfl) fun a Z => ?_
 replace Z := Z.p1 0 rfl
 replace Y : St No w0 [] w0 := St.init w0
 refine aa fun K1 hK1 => aG Z Y de rfl (cs := [iv x.frm, iv x.to, iv x.rf, iv x.rt, iv x.sf, iv x.st, sv x.sig]) rfl ?_
 clear Z Y
 intro a w1 Z Y
 refine wla Z rfl fun a Z => ab (hK1 _ _ <| aa fun K2 hK2 => ?_)
 refine wlv Z (ac (v := pt w0.hz) rfl kr) fun a Z => wlv Z (ld Y 0 rfl rfl (isAgg3 _) rfl) fun a Z => aA Z Y de call70 rfl (jx x.frm 0 63 _) ?_
 clear Z Y
 intro a w2 Z Y
 refine wlm Z rfl fun a Z => ?_
 rcases Bool.eq_false_or_eq_true (inB x.frm 0 63) with hb1 | hb1
 ·rw [hb1] at Z
  try simp only [qz] at hb1
  refine wly Z (ac (v := po w0.hz 1) rfl kr) fun a Z => wly Z (ld Y 0 rfl rfl (isAgg3 _) rfl) fun a Z => aF Z Y de rfl de rfl call70 rfl (jx x.to 0 63 _) ?_
  clear Z Y
  intro a w3 Z Y
  refine wlv Z (au rfl rfl) fun a Z => wlm Z rfl fun a Z => ?_
  rcases Bool.eq_false_or_eq_true (inB x.to 0 63) with hb2 | hb2
  ·rw [hb2] at Z
   try simp only [qz] at hb2
   refine wly Z (ac (v := pt w0.hz) rfl kr) fun a Z => wly Z (ld Y 0 rfl rfl (isAgg3 _) rfl) fun a Z => wly Z (ac (v := po w0.hz 1) rfl kr) fun a Z => wly Z (ld Y 0 rfl rfl (isAgg3 _) rfl) fun a Z => wly Z (v_ne rfl rfl) fun a Z => wlv Z (au rfl rfl) fun a Z => wlm Z rfl fun a Z => ?_
   rcases Bool.eq_false_or_eq_true (!decide (x.frm = x.to)) with hb3 | hb3
   ·rw [hb3] at Z
    try simp only [qz] at hb3
    refine wly Z (ac (v := po w0.hz 2) rfl kr) fun a Z => wly Z (bJ (ds := [iv x.rf, iv x.rt]) (Y.g 0 rfl) rfl (isAgg38 _) (sizeOf38 _) rfl) fun a Z => aF Z Y de rfl de rfl call71 rfl (jF x.rf x.rt _) ?_
    clear Z Y
    intro a w4 Z Y
    refine wlv Z (au rfl rfl) fun a Z => wlm Z rfl fun a Z => ?_
    rcases Bool.eq_false_or_eq_true (cj x.rf x.rt) with hb4 | hb4
    ·rw [hb4] at Z
     try simp only [qz] at hb4
     refine wly Z (ac (v := po w0.hz 4) rfl kr) fun a Z => wly Z (bJ (ds := [iv x.sf, iv x.st]) (Y.g 0 rfl) rfl (isAgg39 _) (sizeOf39 _) rfl) fun a Z => aF Z Y de rfl de rfl call72 rfl (jH x.sf x.st _) ?_
     clear Z Y
     intro a w5 Z Y
     refine wlv Z (au rfl rfl) fun a Z => wla Z rfl fun a Z => ab (hK2 _ _ ?_)
     replace Z := Z.p1 2 rfl
     replace Y : St No w0 [] w5 := Y.mask [false]
     refine ap ?_
     refine aj Z results52 (ae rfl ag) ?_
     exact ⟨by simp only [retv]; unfold Pxy.ok; simp [hb1, hb2, hb3, hb4], Y.ext⟩
    rw [hb4] at Z
    try simp only [qz] at hb4
    refine wln Z fun a Z => wln Z fun a Z => wln Z fun a Z => wlv Z (aq rfl rfl) fun a Z => wla Z rfl fun a Z => ab (hK2 _ _ ?_)
    replace Z := Z.p1 2 rfl
    replace Y : St No w0 [] w4 := Y.mask [false]
    refine ap ?_
    refine aj Z results52 (ae rfl ag) ?_
    exact ⟨by simp only [retv]; unfold Pxy.ok; simp [hb1, hb2, hb3, hb4], Y.ext⟩
   rw [hb3] at Z
   try simp only [qz] at hb3
   refine wln Z fun a Z => wln Z fun a Z => wln Z fun a Z => wlv Z (aq rfl rfl) fun a Z => wlm Z rfl fun a Z => wln Z fun a Z => wln Z fun a Z => wln Z fun a Z => wlv Z (aq rfl rfl) fun a Z => wla Z rfl fun a Z => ab (hK2 _ _ ?_)
   replace Z := Z.p1 2 rfl
   replace Y : St No w0 [] w3 := Y.mask [false]
   refine ap ?_
   refine aj Z results52 (ae rfl ag) ?_
   exact ⟨by simp only [retv]; unfold Pxy.ok; simp [hb1, hb2, hb3], Y.ext⟩
  rw [hb2] at Z
  try simp only [qz] at hb2
  refine wln Z fun a Z => wln Z fun a Z => wln Z fun a Z => wln Z fun a Z => wln Z fun a Z => wlv Z (aq rfl rfl) fun a Z => wlm Z rfl fun a Z => wln Z fun a Z => wln Z fun a Z => wln Z fun a Z => wlv Z (aq rfl rfl) fun a Z => wlm Z rfl fun a Z => ?_
  refine wln Z fun a Z => wln Z fun a Z => wln Z fun a Z => wlv Z (aq rfl rfl) fun a Z => wla Z rfl fun a Z => ab (hK2 _ _ ?_)
  replace Z := Z.p1 2 rfl
  replace Y : St No w0 [] w3 := Y.mask [false]
  refine ap ?_
  refine aj Z results52 (ae rfl ag) ?_
  exact ⟨by simp only [retv]; unfold Pxy.ok; simp [hb1, hb2], Y.ext⟩
 rw [hb1] at Z
 try simp only [qz] at hb1
 refine wln Z fun a Z => wln Z fun a Z => wln Z fun a Z => wlv Z (aq rfl rfl) fun a Z => wlm Z rfl fun a Z => wln Z fun a Z => wln Z fun a Z => wln Z fun a Z => wln Z fun a Z => wln Z fun a Z => wlv Z (aq rfl rfl) fun a Z => wlm Z rfl fun a Z => ?_
 refine wln Z fun a Z => wln Z fun a Z => wln Z fun a Z => wlv Z (aq rfl rfl) fun a Z => wlm Z rfl fun a Z => wln Z fun a Z => wln Z fun a Z => wln Z fun a Z => wlv Z (aq rfl rfl) fun a Z => wla Z rfl fun a Z => ab (hK2 _ _ ?_)
 replace Z := Z.p1 2 rfl
 replace Y : St No w0 [] w2 := Y.mask [false]
 refine ap ?_
 refine aj Z results52 (ae rfl ag) ?_
 exact ⟨by simp only [retv]; unfold Pxy.ok; simp [hb1], Y.ext⟩
theorem kN (ns : List Int) (lv : Value) (w0 : World) (hlv : SlAt w0 lv 1 ((ns).map fun n => [iv n])) (hns : smalls ns) (hnl : ns.length ≤ 1000) :
  Ret Tryz.prog 75 #[lv] w0 fun v w => v = sv (puts ns) ∧ Ext No w0 w := by
 refine aD func75 rfl ntmps75 (lb rfl) fun a Z => ?_
 replace Z := Z.p1 0 rfl
 replace Y : St No w0 [] w0 := St.init w0
 refine aa fun K1 hK1 => wla Z rfl fun a Z => ab (hK1 _ _ <| aa fun K2 hK2 => ?_)
 refine wla Z rfl fun a Z => ab (hK2 _ _ <| ah fun K3 hK3 => ?_)
 refine aa fun K4 hK4 => wla Z rfl fun a Z => ab (hK4 _ _ <| ay ?_)
 have hp0 : ([] : By) = puts (ns.take 0) := rfl
 rw [hp0] at Z
 refine bj (fun m a w => ∃ (k : Nat), m = ns.length - k ∧ (k ≤ ns.length) ∧ Fr 25 [(0, lv), (2, sv (puts (ns.take 0))), (4, iv (k : Int)), (3, sv (puts (ns.take k)))] [] a ∧ St No w0 [] w) _ ⟨0, rfl, Nat.zero_le _, Z.pick [0, 2, 4, 3], Y.select [] de⟩ ?_
 rintro _ a w1 ⟨k, rfl, hk, Z, Y⟩
 refine ah fun K5 hK5 => aa fun K6 hK6 => wlm Z rfl fun a Z => wlm Z rfl fun a Z => wlv Z ((aL (sT := 47) (Y.arg hlv) rfl rfl (runUnderlying47 _)).asi (m' := (ns.length : Int)) (by rw [List.length_map])) fun a Z => wlv Z (v_lt rfl rfl) fun a Z => ab (hK6 _ _ ?_)
 refine ax Z rfl (fun hc1 => ?_) (fun hc1 => ?_)
 ·rw [hc1] at Z
  try simp only [qz] at hc1
  refine az <| hK5 _ _ <| ah fun K7 hK7 => ay <| aa fun K8 hK8 => wlm Z rfl fun a Z => wlm Z rfl fun a Z => wlv Z ((ao (i := (k : Int)) (sT := 47) (Y.arg hlv) rfl rfl (runUnderlying47 _) (sizeOf3 _) om (by rw [List.length_map]; omega)).as (v' := slAddr lv (k * 1)) rfl) fun a Z => wlv Z (aE (u := iv (ns.getD k 0)) (i := k) (j := 0) (Y.arg hlv) (by rw [List.length_map]; omega) rfl (isAgg3 _) (by rw [bU (0 : Int)]; rfl)) fun a Z => aA Z Y de call95 rfl (lY (ns.getD k 0) _ (hns _ (cn om))) ?_
  clear Z Y
  intro a w2 Z Y
  refine wlm Z rfl fun a Z => wlv Z (aw rfl rfl) fun a Z => wlv Z (aw rfl rfl) fun a Z => wla Z rfl fun a Z => wla Z rfl fun a Z => ab (hK8 _ _ ?_)
  replace Z := Z.p5 0 2 4 3 5 rfl
  refine ar <| wlm Z rfl fun a Z => wlm Z rfl fun a Z => wlv Z (iW rfl rfl (by have h1 := eu (ns.take k); have h2 := (eP (ns.getD k 0)).2; rw [List.length_take] at h1; omega)) fun a Z => wla Z rfl fun a Z => ?_
  refine ab <| hK7 _ _ <| ar <| wlm Z rfl fun a Z => wlv Z (aS rfl rfl ⟨om, om⟩) fun a Z => wla Z rfl fun a Z => ab ?_
  rw [show puts (ns.take k) ++ putI (ns.getD k 0) = puts (ns.take (k + 1)) from by rw [da 0 om, jy]] at Z
  refine ⟨_, ?_, k + 1, rfl, om, Z.pick [0, 2, 4, 3], Y.select [] de⟩
  omega
 rw [hc1] at Z
 try simp only [qz] at hc1
 obtain rfl : k = ns.length := by omega
 rw [List.take_length] at Z
 refine aX <| hK3 _ _ <| aa fun K9 hK9 => wlm Z rfl fun a Z => wla Z rfl fun a Z => ab (hK9 _ _ ?_)
 replace Z := Z.p1 2 rfl
 refine ap ?_
 refine aj Z results75 (ae rfl ag) ?_
 exact ⟨rfl, Y.ext⟩
theorem fX (x : Wsh) (w0 : World) (hx : smalls x.nums) :
  Ret Tryz.prog 56 #[.agg #[iv x.signer, iv x.holder, iv x.rf, iv x.rt, iv x.carrier, iv x.serial, iv x.sf, iv x.st, sv x.sig]] w0 fun v w => v = sv x.content ∧ Ext No w0 w := by
 refine aD func56 rfl ntmps56 (lb rfl) fun a Z => ?_
 replace Z := Z.p1 0 rfl
 replace Y : St No w0 [] w0 := St.init w0
 refine aa fun K1 hK1 => aG Z Y de rfl (cs := [iv x.signer, iv x.holder, iv x.rf, iv x.rt, iv x.carrier, iv x.serial, iv x.sf, iv x.st, sv x.sig]) rfl ?_
 clear Z Y
 intro a w1 Z Y
 refine wla Z rfl fun a Z => ab (hK1 _ _ <| aa fun K2 hK2 => ?_)
 refine wlv Z (ac (v := pt w0.hz) rfl kr) fun a Z => wlv Z (ld Y 0 rfl rfl (isAgg3 _) rfl) fun a Z => wlv Z (ac (v := po w0.hz 1) rfl kr) fun a Z => wlv Z (ld Y 0 rfl rfl (isAgg3 _) rfl) fun a Z => wlv Z (ac (v := po w0.hz 2) rfl kr) fun a Z => wlv Z (ac (v := po w0.hz 2) rfl kr) fun a Z => wlv Z (ld Y 0 rfl rfl (isAgg3 _) rfl) fun a Z => wlv Z (ac (v := po w0.hz 2) rfl kr) fun a Z => wlv Z (ac (v := po w0.hz 3) rfl kr) fun a Z => wlv Z (ld Y 0 rfl rfl (isAgg3 _) rfl) fun a Z => ?_
 refine wlv Z (ac (v := po w0.hz 4) rfl kr) fun a Z => wlv Z (ld Y 0 rfl rfl (isAgg3 _) rfl) fun a Z => wlv Z (ac (v := po w0.hz 5) rfl kr) fun a Z => wlv Z (ld Y 0 rfl rfl (isAgg3 _) rfl) fun a Z => wlv Z (ac (v := po w0.hz 6) rfl kr) fun a Z => wlv Z (ac (v := po w0.hz 6) rfl kr) fun a Z => wlv Z (ld Y 0 rfl rfl (isAgg3 _) rfl) fun a Z => wlv Z (ac (v := po w0.hz 6) rfl kr) fun a Z => wlv Z (ac (v := po w0.hz 7) rfl kr) fun a Z => wlv Z (ld Y 0 rfl rfl (isAgg3 _) rfl) fun a Z => ?_
 refine aI (E := 3) (sz := 1) rfl [[iv 1], [iv x.signer], [iv x.holder], [iv x.rf], [iv x.rt], [iv x.carrier], [iv x.serial], [iv x.sf], [iv x.st]] kr sm rfl de de Z Y ?_
 clear Z Y
 intro a w2 Z Y
 refine aA Z Y de call75 rfl (kN [1, x.signer, x.holder, x.rf, x.rt, x.carrier, x.serial, x.sf, x.st] (.slice (some ⟨w1.hz, 0, none⟩) 9 9) _ (Y.ow 0 rfl) (hx) sm) ?_
 clear Z Y
 intro a w3 Z Y
 refine wla Z rfl fun a Z => ab (hK2 _ _ ?_)
 replace Z := Z.p1 2 rfl
 replace Y : St No w0 [] w3 := Y.mask [false, false]
 refine ap ?_
 refine aj Z results56 (ae rfl ag) ?_
 exact ⟨by rfl, Y.ext⟩
theorem gi (x : Pxy) (w0 : World) (hx : smalls x.nums) :
  Ret Tryz.prog 54 #[.agg #[iv x.frm, iv x.to, iv x.rf, iv x.rt, iv x.sf, iv x.st, sv x.sig]] w0 fun v w => v = sv x.content ∧ Ext No w0 w := by
 refine aD func54 rfl ntmps54 (lb rfl) fun a Z => ?_
 replace Z := Z.p1 0 rfl
 replace Y : St No w0 [] w0 := St.init w0
 refine aa fun K1 hK1 => aG Z Y de rfl (cs := [iv x.frm, iv x.to, iv x.rf, iv x.rt, iv x.sf, iv x.st, sv x.sig]) rfl ?_
 clear Z Y
 intro a w1 Z Y
 refine wla Z rfl fun a Z => ab (hK1 _ _ <| aa fun K2 hK2 => ?_)
 refine wlv Z (ac (v := pt w0.hz) rfl kr) fun a Z => wlv Z (ld Y 0 rfl rfl (isAgg3 _) rfl) fun a Z => wlv Z (ac (v := po w0.hz 1) rfl kr) fun a Z => wlv Z (ld Y 0 rfl rfl (isAgg3 _) rfl) fun a Z => wlv Z (ac (v := po w0.hz 2) rfl kr) fun a Z => wlv Z (ac (v := po w0.hz 2) rfl kr) fun a Z => wlv Z (ld Y 0 rfl rfl (isAgg3 _) rfl) fun a Z => wlv Z (ac (v := po w0.hz 2) rfl kr) fun a Z => wlv Z (ac (v := po w0.hz 3) rfl kr) fun a Z => wlv Z (ld Y 0 rfl rfl (isAgg3 _) rfl) fun a Z => ?_
 refine wlv Z (ac (v := po w0.hz 4) rfl kr) fun a Z => wlv Z (ac (v := po w0.hz 4) rfl kr) fun a Z => wlv Z (ld Y 0 rfl rfl (isAgg3 _) rfl) fun a Z => wlv Z (ac (v := po w0.hz 4) rfl kr) fun a Z => wlv Z (ac (v := po w0.hz 5) rfl kr) fun a Z => wlv Z (ld Y 0 rfl rfl (isAgg3 _) rfl) fun a Z => aI (E := 3) (sz := 1) rfl [[iv 2], [iv x.frm], [iv x.to], [iv x.rf], [iv x.rt], [iv x.sf], [iv x.st]] kr sm rfl de de Z Y ?_
 clear Z Y
 intro a w2 Z Y
 refine aA Z Y de call75 rfl (kN [2, x.frm, x.to, x.rf, x.rt, x.sf, x.st] (.slice (some ⟨w1.hz, 0, none⟩) 7 7) _ (Y.ow 0 rfl) (hx) sm) ?_
 clear Z Y
 intro a w3 Z Y
 refine wla Z rfl fun a Z => ab (hK2 _ _ ?_)
 replace Z := Z.p1 2 rfl
 replace Y : St No w0 [] w3 := Y.mask [false, false]
 refine ap ?_
 refine aj Z results54 (ae rfl ag) ?_
 exact ⟨by rfl, Y.ext⟩
theorem fZ (key s : By) (w0 : World) (hk : key.length ≤ 40000000) (hs : s.length ≤ 40000000) :
  Ret Tryz.prog 53 #[sv key, sv s] w0 fun v w => v = sv (sealH key s) ∧ Ext No w0 w := by
 refine aD func53 rfl ntmps53 (lb rfl) fun a Z => ?_
 replace Z := Z.p2 0 1 rfl
 replace Y : St No w0 [] w0 := St.init w0
 refine aa fun K1 hK1 => wla Z rfl fun a Z => ab (hK1 _ _ <| aa fun K2 hK2 => ?_)
 refine wlm Z rfl fun a Z => wlm Z rfl fun a Z => aA Z Y de call74 rfl (oL s _ om) ?_
 clear Z Y
 intro a w1 Z Y
 refine aA Z Y de call73 rfl (oJ key (leafH sha s) _ om (by rw [kI kg]; decide)) ?_
 clear Z Y
 intro a w2 Z Y
 refine wla Z rfl fun a Z => ab (hK2 _ _ ?_)
 replace Z := Z.p1 4 rfl
 refine ap ?_
 refine aj Z results53 (ae rfl ag) ?_
 exact ⟨by rfl, Y.ext⟩
theorem lV {P : Program} {w : World} {L : List (Nat × Value)} {dst : Option Tmp} {T T' ty : TypeId} {pos : String} {af : Array Edge} {gd : Option (Nat × Bool)} {x : Operand} {n : Int} (hx : ev L x = some (iv n)) (hs : (P.underlying T).isSome = true) (hd : P.underlying T' = some (.int .u8)) : OpV P ⟨dst, .convert T T' x, ty, pos, af, gd⟩ L w (yv (UInt8.ofNat (n % 256).toNat)) :=
 (fo hx hs hd).as (by
  have h1 : 0 ≤ n % 256 := Int.emod_nonneg _ de
  have h2 : n % 256 < 256 := Int.emod_lt_of_pos _ de
  have e : ((UInt8.ofNat (n % 256).toNat).toNat : Int) = n % 256 := by rw [oM om]; omega
  unfold yv
  rw [e]
  simp [IntKind.wrap, IntKind.signed, IntKind.bits])
def kfill (b : UInt8) (k : Nat) : By := List.replicate k b ++ List.replicate (32 - k) 0
theorem nj {b : UInt8} {k : Nat} (h : k < 32) : (kfill b k).set k b = kfill b (k + 1) := by
 unfold kfill
 rw [List.set_append_right _ _ sm, List.length_replicate, Nat.sub_self, show 32 - k = (32 - (k + 1)) + 1 from by omega, List.replicate_succ, List.set_cons_zero, List.replicate_succ']
 simp
theorem gx {b : UInt8} {k : Nat} (h : k ≤ 32) : (kfill b k).length = 32 := by simp [kfill]; omega
theorem nr (b : UInt8) : kfill b 32 = List.replicate 32 b := by simp [kfill]
theorem cw (n m : Int) (w0 : World) (hn : -9223372036854775808 ≤ n ∧ n ≤ 9223372036854775807) (hm : 0 < m ∧ m ≤ 9223372036854775807) :
  Ret Tryz.prog 33 #[iv n, iv m] w0 fun v w => v = iv (pickI n m) ∧ Ext No w0 w := by
 refine aD func33 rfl ntmps33 (lb rfl) fun a Z => ?_
 replace Z := Z.p2 0 1 rfl
 replace Y : St No w0 [] w0 := St.init w0
 refine aa fun K1 hK1 => wla Z rfl fun a Z => ab (hK1 _ _ <| ah fun K2 hK2 => ?_)
 refine aa fun K3 hK3 => wlm Z rfl fun a Z => wlv Z (v_lt rfl rfl) fun a Z => ab (hK3 _ _ ?_)
 refine ax Z rfl (fun hc1 => ?_) (fun hc1 => ?_)
 ·rw [hc1] at Z
  try simp only [qz] at hc1
  refine ar <| wlm Z rfl fun a Z => wlv Z (aS rfl rfl ⟨om, om⟩) fun a Z => wlv Z (lj rfl om om) fun a Z => wla Z rfl fun a Z => ab <| hK2 _ _ <| aa fun K4 hK4 => wlm Z rfl fun a Z => wlm Z rfl fun a Z => wlv Z (eY rfl rfl om om) fun a Z => wla Z rfl fun a Z => ab (hK4 _ _ ?_)
  replace Z := Z.p1 4 rfl
  refine ap ?_
  refine aj Z results33 (ae rfl ag) ?_
  exact ⟨by simp only [retv, pickI]; simp [hc1], Y.ext⟩
 rw [hc1] at Z
 try simp only [qz] at hc1
 refine az <| hK2 _ _ <| aa fun K5 hK5 => wlm Z rfl fun a Z => wlm Z rfl fun a Z => wlv Z (eY rfl rfl om om) fun a Z => wla Z rfl fun a Z => ab (hK5 _ _ ?_)
 replace Z := Z.p1 4 rfl
 refine ap ?_
 refine aj Z results33 (ae rfl ag) ?_
 exact ⟨by simp only [retv, pickI]; simp [hc1], Y.ext⟩
theorem ki (h : Int) (w0 : World) :
  Ret Tryz.prog 35 #[iv h] w0 fun v w => v = sv (keyH h) ∧ Ext No w0 w := by
 refine aD func35 rfl ntmps35 (lb rfl) fun a Z => ?_
 replace Z := Z.p1 0 rfl
 replace Y : St No w0 [] w0 := St.init w0
 refine aa fun K1 hK1 => wla Z rfl fun a Z => ab (hK1 _ _ <| aa fun K2 hK2 => ?_)
 refine kn (n := 32) (E := 5) (sz := 1) rfl rfl ((kfill (UInt8.ofNat (h % 256).toNat) 0).map fun b => [yv b]) kr (by intro e he; first | (simp at he; simp [he]; done) | (obtain ⟨_, _, rfl⟩ := List.mem_map.1 he; rfl)) (by simp [kfill]) de de Z Y ?_
 clear Z Y
 intro a w1 Z Y
 refine wla Z rfl fun a Z => ab (hK2 _ _ <| ah fun K3 hK3 => ?_)
 refine aa fun K4 hK4 => wla Z rfl fun a Z => ab (hK4 _ _ <| ay ?_)
 refine bj (fun m a w => ∃ (k : Nat), m = 32 - k ∧ (k ≤ 32) ∧ Fr 19 [(0, iv h), (2, sv ([])), (3, (.slice (some ⟨w0.hz, 0, none⟩) 32 32)), (4, iv (k : Int))] [] a ∧ St No w0 [own (.slice (some ⟨w0.hz, 0, none⟩) 32 32) 5 1 ((kfill (UInt8.ofNat (h % 256).toNat) k).map fun b => [yv b])] w) _ ⟨0, rfl, Nat.zero_le _, Z.pick [0, 2, 3, 4], Y⟩ ?_
 rintro _ a w2 ⟨k, rfl, hk, Z, Y⟩
 refine ah fun K5 hK5 => aa fun K6 hK6 => wlm Z rfl fun a Z => wlm Z rfl fun a Z => wlv Z ((aL (sT := 117) (Y.ow 0 rfl) rfl rfl (runUnderlying117 _)).asi (m' := 32) (by rw [List.length_map, gx om]; rfl)) fun a Z => wlv Z (v_lt rfl rfl) fun a Z => ab (hK6 _ _ ?_)
 refine ax Z rfl (fun hc1 => ?_) (fun hc1 => ?_)
 ·rw [hc1] at Z
  try simp only [qz] at hc1
  have hk2 : k < 32 := by omega
  refine az <| hK5 _ _ <| ah fun K7 hK7 => ay <| ar <| wlm Z rfl fun a Z => wlm Z rfl fun a Z => wlm Z rfl fun a Z => wlv Z (lV (n := h) rfl kr underlying5) fun a Z => wlv Z ((ao (i := (k : Int)) (sT := 117) (Y.ow 0 rfl) rfl rfl (runUnderlying117 _) (sizeOf5 _) om (by rw [List.length_map, gx om]; omega)).as (v' := slAddr (.slice (some ⟨w0.hz, 0, none⟩) 32 32) (k * 1)) rfl) fun a Z => lz (k := k) (us := [yv (UInt8.ofNat (h % 256).toNat)]) 0 Z Y rfl rfl rfl (by rw [List.length_map, gx om]; omega) om (sizeOf5 _) rfl (by first | rfl | simp [Value.oneCell', yv, wv, sv]) rfl rfl ?_
  clear Z Y
  intro a w3 Z Y
  refine ab <| hK7 _ _ ?_
  replace Z := Z.p4 0 2 3 4 rfl
  refine ar <| wlm Z rfl fun a Z => wlv Z (aS rfl rfl ⟨om, om⟩) fun a Z => wla Z rfl fun a Z => ab ?_
  rw [show ((kfill (UInt8.ofNat (h % 256).toNat) k).map fun b => [yv b]).set k [yv (UInt8.ofNat (h % 256).toNat)] = ((kfill (UInt8.ofNat (h % 256).toNat) (k + 1)).map fun b => [yv b]) from by rw [← nj hk2, List.map_set]] at Y
  refine ⟨_, ?_, k + 1, rfl, om, Z.pick [0, 2, 3, 4], Y⟩
  omega
 rw [hc1] at Z
 try simp only [qz] at hc1
 obtain rfl : k = 32 := by omega
 refine aX <| hK3 _ _ <| aa fun K8 hK8 => wlm Z rfl fun a Z => wlv Z (eE (Y.ow 0 rfl) rfl underlying117 underlying5 underlying9) fun a Z => wla Z rfl fun a Z => ab (hK8 _ _ ?_)
 replace Z := Z.p1 2 rfl
 replace Y : St No w0 [] w2 := Y.mask [false]
 refine ap ?_
 refine aj Z results35 (ae rfl ag) ?_
 exact ⟨by rw [nr]; rfl, Y.ext⟩
def keysTo (k : Nat) : List By := (List.range k).map fun h : Nat => keyH (h : Int)
theorem ly (k : Nat) : keysTo (k + 1) = keysTo k ++ [keyH (k : Int)] := by simp [keysTo, List.range_succ]
theorem ii (k : Nat) : (keysTo k).length = k := by simp [keysTo]
theorem mW (w0 : World) :
  Ret Tryz.prog 12 #[] w0 (MemR w0 (fun v : Value => v) (fun v => [own v 9 1 (keysH.map fun s => [sv s])]) (fun _ => True)) := by
 refine aD func12 rfl ntmps12 (lb rfl) fun a Z => ?_
 replace Z : Fr 13 [] [] a := Z
 replace Y : St No w0 [] w0 := St.init w0
 refine aa fun K1 hK1 => wla Z rfl fun a Z => ab (hK1 _ _ <| aa fun K2 hK2 => ?_)
 refine wla Z rfl fun a Z => ab (hK2 _ _ <| ah fun K3 hK3 => ?_)
 refine aa fun K4 hK4 => wla Z rfl fun a Z => ab (hK4 _ _ <| ay ?_)
 replace Y : St No w0 [own (.slice none 0 0) 9 1 ((keysTo 0).map fun s => [sv s])] w0 := Y.nil_own
 refine bj (fun m a w => ∃ (k : Nat) (v : Value), m = 10 - k ∧ (k ≤ 10) ∧ Fr 13 [(0, .slice none 0 0), (1, v), (2, iv (k : Int))] [] a ∧ St No w0 [own v 9 1 ((keysTo k).map fun s => [sv s])] w) _ ⟨0, .slice none 0 0, rfl, Nat.zero_le _, Z.pick [0, 1, 2], Y⟩ ?_
 rintro _ a w1 ⟨k, v, rfl, hk, Z, Y⟩
 refine ah fun K5 hK5 => aa fun K6 hK6 => wlm Z rfl fun a Z => wlv Z (v_lt rfl rfl) fun a Z => ab (hK6 _ _ ?_)
 refine ax Z rfl (fun hc1 => ?_) (fun hc1 => ?_)
 ·rw [hc1] at Z
  try simp only [qz] at hc1
  refine az <| hK5 _ _ <| ah fun K7 hK7 => ay <| ar <| wlm Z rfl fun a Z => wlm Z rfl fun a Z => aA Z Y de call35 rfl (ki (k : Int) _) ?_
  clear Z Y
  intro a w2 Z Y
  refine aI (E := 9) (sz := 1) rfl [[sv (keyH (k : Int))]] kr sm rfl de de Z Y ?_
  clear Z Y
  intro a w3 Z Y
  refine bG (i := 1) (sT := 59) (inf := Tryz.t9) (z := .string (⟨#[]⟩)) (b := 0) (off := 0) (m := 0) (c := 0) rfl rfl rfl (Y.ow 0 rfl) sm underlying59 rfl rfl rfl rfl de (by simp [Value.oneCell', yv, wv, sv]) (by have hby : Tryz.t9.bytes = 16 := rfl; simp [big, hby, ii] <;> omega) (by have hby : Tryz.t9.bytes = 16 := rfl; simp [big, hby, ii] <;> omega) de Z Y fun a w4 s2 Z Y _ => ?_
  rw [show ((keysTo k).map fun s => [sv s]) ++ ([[sv (keyH (k : Int))]]) = ((keysTo (k + 1)).map fun s => [sv s]) from by rw [ly]; simp] at Y
  refine wla Z rfl fun a Z => ab <| hK7 _ _ ?_
  replace Z := Z.p3 0 2 1 rfl
  replace Y := Y.k1 2 rfl
  refine ar <| wlm Z rfl fun a Z => wlv Z (aS rfl rfl ⟨om, om⟩) fun a Z => wla Z rfl fun a Z => ab ?_
  refine ⟨_, ?_, k + 1, s2, rfl, om, Z.pick [0, 1, 2], Y⟩
  omega
 rw [hc1] at Z
 try simp only [qz] at hc1
 obtain rfl : k = 10 := by omega
 refine aX <| hK3 _ _ <| aa fun K8 hK8 => wlm Z rfl fun a Z => wla Z rfl fun a Z => ab (hK8 _ _ <| ap ?_)
 refine aj Z results12 (ae rfl ag) ?_
 exact ⟨v, rfl, trivial, Y.ext, St.out (E := [own v 9 1 (keysH.map fun s => [sv s])]) (H := []) Y⟩
theorem gF (b d l r : Int) (w0 : World) (hb : 0 ≤ b) (hbd : b < d) (hd : d ≤ 1000000000) (hl : (-9223372036854775808 ≤ l ∧ l ≤ 9223372036854775807)) (hr : (-9223372036854775808 ≤ r ∧ r ≤ 9223372036854775807)) :
  Ret Tryz.prog 36 #[iv b, iv d, iv l, iv r] w0 fun v w => v = .tuple #[iv (b + pickI l (d - b)), iv (d - pickI r (d - (b + pickI l (d - b))))] ∧ Ext No w0 w := by
 refine aD func36 rfl ntmps36 (lb rfl) fun a Z => ?_
 replace Z := Z.p4 0 1 2 3 rfl
 replace Y : St No w0 [] w0 := St.init w0
 have hp1 := bL l (n := d - b) om
 refine aa fun K1 hK1 => wla Z rfl fun a Z => wla Z rfl fun a Z => ab (hK1 _ _ <| aa fun K2 hK2 => ?_)
 refine wlm Z rfl fun a Z => wlm Z rfl fun a Z => wlm Z rfl fun a Z => wlm Z rfl fun a Z => wlv Z (ci rfl rfl ⟨om, om⟩) fun a Z => aA Z Y de call33 rfl (cw l (d - b) _ om om) ?_
 clear Z Y
 intro a w1 Z Y
 refine wlv Z (aS rfl rfl ⟨om, om⟩) fun a Z => wla Z rfl fun a Z => ab (hK2 _ _ ?_)
 replace Z := Z.p5 1 3 8 9 10 rfl
 have hp2 := bL r (n := d - (b + pickI l (d - b))) om
 refine aa fun K3 hK3 => wlm Z rfl fun a Z => wlm Z rfl fun a Z => wlm Z rfl fun a Z => wlm Z rfl fun a Z => wlm Z rfl fun a Z => wlv Z (ci rfl rfl ⟨om, om⟩) fun a Z => aA Z Y de call33 rfl (cw r (d - (b + (pickI l (d - b)))) _ om om) ?_
 clear Z Y
 intro a w2 Z Y
 refine wlv Z (ci rfl rfl ⟨om, om⟩) fun a Z => wla Z rfl fun a Z => wla Z rfl fun a Z => ab (hK3 _ _ ?_)
 replace Z := Z.p2 8 9 rfl
 refine ap ?_
 refine aj Z results36 (ae rfl (ae rfl ag)) ?_
 exact ⟨by rfl, Y.ext⟩
theorem fR (key : By) (x : Wsh) (w0 : World) (hk : key.length = 32) (hok : x.ok = true) :
  Ret Tryz.prog 37 #[sv key, .agg #[iv x.signer, iv x.holder, iv x.rf, iv x.rt, iv x.carrier, iv x.serial, iv x.sf, iv x.st, sv x.sig]] w0 fun v w => v = .tuple #[.agg #[iv x.signer, iv x.holder, iv x.rf, iv x.rt, iv x.carrier, iv x.serial, iv x.sf, iv x.st, sv (sealH key x.content)], iv 0] ∧ Ext No w0 w := by
 refine aD func37 rfl ntmps37 (lb rfl) fun a Z => ?_
 replace Z := Z.p2 0 1 rfl
 replace Y : St No w0 [] w0 := St.init w0
 refine aa fun K1 hK1 => aG Z Y de rfl (cs := [iv x.signer, iv x.holder, iv x.rf, iv x.rt, iv x.carrier, iv x.serial, iv x.sf, iv x.st, sv x.sig]) rfl ?_
 clear Z Y
 intro a w1 Z Y
 refine aH Z Y de (zeroValue41 _) (cs := [iv 0, iv 0, iv 0, iv 0, iv 0, iv 0, iv 0, iv 0, .string (⟨#[]⟩)]) rfl ?_
 clear Z Y
 intro a w2 Z Y
 refine wla Z rfl fun a Z => ab (hK1 _ _ <| ah fun K2 hK2 => ?_)
 refine aa fun K3 hK3 => wlm Z rfl fun a Z => wlv Z (cR rfl rfl (runUnderlying9 _)) fun a Z => wlv Z ((v_ne rfl rfl).asb (b' := false) (by simp [hk])) fun a Z => wlm Z rfl fun a Z => wly Z (ai (Y.g 1 rfl) rfl (isAgg41 _) (sizeOf41 _)) fun a Z => aF Z Y de rfl de rfl call55 rfl (kU x _) ?_
 clear Z Y
 intro a w3 Z Y
 refine wly Z (bu rfl) fun a Z => wlv Z (aq rfl rfl) fun a Z => ab (hK3 _ _ ?_)
 replace Z := Z.p5 0 3 4 5 13 rfl
 refine ax Z rfl (fun hc1 => ?_) (fun hc1 => ?_)
 ·rw [hc1] at Z
  try simp only [qz] at hc1
  simp [hok] at hc1
 rw [hc1] at Z
 try simp only [qz] at hc1
 refine az <| hK2 _ _ <| aa fun K4 hK4 => wlm Z rfl fun a Z => wlv Z (ai (Y.g 1 rfl) rfl (isAgg41 _) (sizeOf41 _)) fun a Z => aA Z Y de call56 rfl (fX x _ (Wsh.smalls_of hok)) ?_
 clear Z Y
 intro a w4 Z Y
 refine aA Z Y de call53 rfl (fZ key x.content _ om (Nat.le_trans x.content_len de)) ?_
 clear Z Y
 intro a w5 Z Y
 refine wlv Z (ac (v := po w0.hz 8) rfl kr) fun a Z => am 1 Z Y rfl rfl rfl (sizeOf9 _) rfl (lb rfl) (ds := [iv x.signer, iv x.holder, iv x.rf, iv x.rt, iv x.carrier, iv x.serial, iv x.sf, iv x.st, sv (sealH key x.content)]) rfl rfl ?_
 clear Z Y
 intro a w6 Z Y
 refine ab (hK4 _ _ ?_)
 replace Z := Z.p3 3 4 5 rfl
 refine aa fun K5 hK5 => wlv Z (ai (Y.g 1 rfl) rfl (isAgg41 _) (sizeOf41 _)) fun a Z => am 0 Z Y rfl rfl rfl (sizeOf41 _) rfl (lb rfl) (ds := [iv x.signer, iv x.holder, iv x.rf, iv x.rt, iv x.carrier, iv x.serial, iv x.sf, iv x.st, sv (sealH key x.content)]) rfl rfl ?_
 clear Z Y
 intro a w7 Z Y
 refine wla Z rfl fun a Z => ab (hK5 _ _ <| ap ?_)
 refine aj Z results37 (aB rfl (bB (Y.g 0 rfl) (isAgg41 _) (sizeOf41 _)) (ae rfl ag)) ?_
 exact ⟨by rfl, Y.ext⟩
theorem je (key : By) (x : Pxy) (w0 : World) (hk : key.length = 32) (hok : x.ok = true) :
  Ret Tryz.prog 34 #[sv key, .agg #[iv x.frm, iv x.to, iv x.rf, iv x.rt, iv x.sf, iv x.st, sv x.sig]] w0 fun v w => v = .tuple #[.agg #[iv x.frm, iv x.to, iv x.rf, iv x.rt, iv x.sf, iv x.st, sv (sealH key x.content)], iv 0] ∧ Ext No w0 w := by
 refine aD func34 rfl ntmps34 (lb rfl) fun a Z => ?_
 replace Z := Z.p2 0 1 rfl
 replace Y : St No w0 [] w0 := St.init w0
 refine aa fun K1 hK1 => aG Z Y de rfl (cs := [iv x.frm, iv x.to, iv x.rf, iv x.rt, iv x.sf, iv x.st, sv x.sig]) rfl ?_
 clear Z Y
 intro a w1 Z Y
 refine aH Z Y de (zeroValue86 _) (cs := [iv 0, iv 0, iv 0, iv 0, iv 0, iv 0, .string (⟨#[]⟩)]) rfl ?_
 clear Z Y
 intro a w2 Z Y
 refine wla Z rfl fun a Z => ab (hK1 _ _ <| ah fun K2 hK2 => ?_)
 refine aa fun K3 hK3 => wlm Z rfl fun a Z => wlv Z (cR rfl rfl (runUnderlying9 _)) fun a Z => wlv Z ((v_ne rfl rfl).asb (b' := false) (by simp [hk])) fun a Z => wlm Z rfl fun a Z => wly Z (ai (Y.g 1 rfl) rfl (isAgg86 _) (sizeOf86 _)) fun a Z => aF Z Y de rfl de rfl call52 rfl (jv x _) ?_
 clear Z Y
 intro a w3 Z Y
 refine wly Z (bu rfl) fun a Z => wlv Z (aq rfl rfl) fun a Z => ab (hK3 _ _ ?_)
 replace Z := Z.p5 0 3 4 5 13 rfl
 refine ax Z rfl (fun hc1 => ?_) (fun hc1 => ?_)
 ·rw [hc1] at Z
  try simp only [qz] at hc1
  simp [hok] at hc1
 rw [hc1] at Z
 try simp only [qz] at hc1
 refine az <| hK2 _ _ <| aa fun K4 hK4 => wlm Z rfl fun a Z => wlv Z (ai (Y.g 1 rfl) rfl (isAgg86 _) (sizeOf86 _)) fun a Z => aA Z Y de call54 rfl (gi x _ (Pxy.smalls_of hok)) ?_
 clear Z Y
 intro a w4 Z Y
 refine aA Z Y de call53 rfl (fZ key x.content _ om (Nat.le_trans x.content_len de)) ?_
 clear Z Y
 intro a w5 Z Y
 refine wlv Z (ac (v := po w0.hz 6) rfl kr) fun a Z => am 1 Z Y rfl rfl rfl (sizeOf9 _) rfl (lb rfl) (ds := [iv x.frm, iv x.to, iv x.rf, iv x.rt, iv x.sf, iv x.st, sv (sealH key x.content)]) rfl rfl ?_
 clear Z Y
 intro a w6 Z Y
 refine ab (hK4 _ _ ?_)
 replace Z := Z.p3 3 4 5 rfl
 refine aa fun K5 hK5 => wlv Z (ai (Y.g 1 rfl) rfl (isAgg86 _) (sizeOf86 _)) fun a Z => am 0 Z Y rfl rfl rfl (sizeOf86 _) rfl (lb rfl) (ds := [iv x.frm, iv x.to, iv x.rf, iv x.rt, iv x.sf, iv x.st, sv (sealH key x.content)]) rfl rfl ?_
 clear Z Y
 intro a w7 Z Y
 refine wla Z rfl fun a Z => ab (hK5 _ _ <| ap ?_)
 refine aj Z results34 (aB rfl (bB (Y.g 0 rfl) (isAgg86 _) (sizeOf86 _)) (ae rfl ag)) ?_
 exact ⟨by rfl, Y.ext⟩
def Pxy.cells (x : Pxy) : List Value := [iv x.frm, iv x.to, iv x.rf, iv x.rt, iv x.sf, iv x.st, sv x.sig]
def Pxy.z : Pxy := ⟨0, 0, 0, 0, 0, 0, []⟩
def Wsh.cells (x : Wsh) : List Value := [iv x.signer, iv x.holder, iv x.rf, iv x.rt, iv x.carrier, iv x.serial, iv x.sf, iv x.st, sv x.sig]
def Cin.cells (y : Cin) : List Value := [iv y.y0, iv y.y1, iv y.y2, iv y.y3, iv y.y4]
def Cin.z : Cin := ⟨0, 0, 0, 0, 0⟩
def i64 (n : Int) : Prop := -9223372036854775808 ≤ n ∧ n ≤ 9223372036854775807
def Cin.wt (y : Cin) : Prop := i64 y.y0 ∧ i64 y.y1 ∧ i64 y.y2 ∧ i64 y.y3 ∧ i64 y.y4
theorem gL : ∀ (l : List Cin) (o : Left) (y : Cin), leftOf o (l ++ [y]) = (leftOf o l).next y
 | [], o, y => rfl
 | x :: l, o, y => gL l (o.next x) y
theorem gH : ∀ (l : List Cin) (o : Left) (y : Cin), pxysOf o (l ++ [y]) = pxysOf o l ++ [(leftOf o l).pxy y]
 | [], o, y => rfl
 | x :: l, o, y => by rw [List.cons_append, pxysOf, gH l (o.next x) y]; rfl
theorem lI {o : Left} (h : o.ok) (holder carrier serial : Int) : (bareW o holder carrier serial).ok = true := by
 obtain ⟨a1, a2, a3, a4, a5, a6, a7, a8⟩ := h
 have h1 := bL holder (n := 10) om
 have h2 := bL carrier (n := 8) om
 have h3 := bL serial (n := 1000) om
 show (Wsh.mk o.who (pickI holder 10) o.rf o.rt (pickI carrier 8) (pickI serial 1000) o.sf o.st []).ok = true
 simp only [Wsh.ok, inB, cj, cL, Bool.and_eq_true, decide_eq_true_eq]
 omega
theorem jr {α : Type} (l : List α) : l.take (min 4 l.length) = l.take 4 := by
 rw [Nat.min_def]
 split
 ·rfl
 ·rw [List.take_of_length_le (Nat.le_refl _), List.take_of_length_le om]
theorem kt (holder r0 r1 s0 s1 carrier serial : Int) (cv : Value) (ys : List Cin) (w0 : World) (hcv : SlAt w0 cv 5 (ys.map Cin.cells)) (hys : ∀ y ∈ ys, y.wt) (h0 : i64 holder) (h1 : i64 r0) (h2 : i64 r1) (h3 : i64 s0) (h4 : i64 s1) (h5 : i64 carrier) (h6 : i64 serial) :
  Ret Tryz.prog 9 #[.agg #[iv holder, iv r0, iv r1, iv s0, iv s1, iv carrier, iv serial, cv]] w0 (MemR w0 (fun v : Value => .tuple #[.agg (madeW holder r0 r1 s0 s1 carrier serial ys).cells.toArray, v]) (fun v => [own v 86 7 ((madeL holder r0 r1 s0 s1 ys).map Pxy.cells)]) (fun _ => True)) := by
 have hp0 := bL holder (n := 10) om
 have hp1 := bL r0 (n := 10000) om
 have hp2 := bL r1 (n := 1000) om
 have hp3 := bL s0 (n := 10000) om
 have hp4 := bL s1 (n := 1000) om
 have hp5 := bL carrier (n := 8) om
 have hp6 := bL serial (n := 1000) om
 refine aD func9 rfl ntmps9 (lb rfl) fun a Z => ?_
 replace Z := Z.p1 0 rfl
 replace Y : St No w0 [] w0 := St.init w0
 refine aa fun K1 hK1 => aG Z Y de rfl (cs := [iv holder, iv r0, iv r1, iv s0, iv s1, iv carrier, iv serial, cv]) rfl ?_
 clear Z Y
 intro a w1 Z Y
 refine aH Z Y de (zeroValue41 _) (cs := [iv 0, iv 0, iv 0, iv 0, iv 0, iv 0, iv 0, iv 0, .string (⟨#[]⟩)]) rfl ?_
 clear Z Y
 intro a w2 Z Y
 refine wla Z rfl fun a Z => ab (hK1 _ _ <| aa fun K2 hK2 => ?_)
 refine wlv Z (ac (v := po w0.hz 1) rfl kr) fun a Z => wlv Z (aC (v := po w0.hz 1) rfl rfl kr) fun a Z => wlv Z (ld Y 1 rfl rfl (isAgg3 _) rfl) fun a Z => aA Z Y de call33 rfl (cw r0 10000 _ (by first | assumption | omega) om) ?_
 clear Z Y
 intro a w3 Z Y
 refine wla Z rfl fun a Z => ab (hK2 _ _ <| aa fun K3 hK3 => ?_)
 refine wlm Z rfl fun a Z => wlm Z rfl fun a Z => wlv Z (aS rfl rfl ⟨om, om⟩) fun a Z => wlv Z (ac (v := po w0.hz 1) rfl kr) fun a Z => wlv Z (aC (v := po w0.hz 2) rfl rfl kr) fun a Z => wlv Z (ld Y 1 rfl rfl (isAgg3 _) rfl) fun a Z => aA Z Y de call33 rfl (cw r1 1000 _ (by first | assumption | omega) om) ?_
 clear Z Y
 intro a w4 Z Y
 refine wlv Z (aS rfl rfl ⟨om, om⟩) fun a Z => wlv Z (aY (v := .agg #[iv (pickI r0 10000), iv (((pickI r0 10000) + 1) + (pickI r1 1000))]) rfl kr) fun a Z => aH Z Y de (zeroValue38 _) (cs := [iv 0, iv 0]) rfl ?_
 clear Z Y
 intro a w5 Z Y
 refine am 0 Z Y rfl rfl rfl (sizeOf38 _) rfl (lb rfl) (ds := [iv (pickI r0 10000), iv (((pickI r0 10000) + 1) + (pickI r1 1000))]) rfl rfl ?_
 clear Z Y
 intro a w6 Z Y
 refine ab (hK3 _ _ ?_)
 replace Z := Z.p4 1 2 3 5 rfl
 refine aa fun K4 hK4 => wlv Z (ac (v := po w0.hz 3) rfl kr) fun a Z => wlv Z (aC (v := po w0.hz 3) rfl rfl kr) fun a Z => wlv Z (ld Y 2 rfl rfl (isAgg3 _) rfl) fun a Z => aA Z Y de call33 rfl (cw s0 10000 _ (by first | assumption | omega) om) ?_
 clear Z Y
 intro a w7 Z Y
 refine wla Z rfl fun a Z => ab (hK4 _ _ <| aa fun K5 hK5 => ?_)
 refine wlm Z rfl fun a Z => wlm Z rfl fun a Z => wlv Z (aS rfl rfl ⟨om, om⟩) fun a Z => wlv Z (ac (v := po w0.hz 3) rfl kr) fun a Z => wlv Z (aC (v := po w0.hz 4) rfl rfl kr) fun a Z => wlv Z (ld Y 2 rfl rfl (isAgg3 _) rfl) fun a Z => aA Z Y de call33 rfl (cw s1 1000 _ (by first | assumption | omega) om) ?_
 clear Z Y
 intro a w8 Z Y
 refine wlv Z (aS rfl rfl ⟨om, om⟩) fun a Z => wlv Z (aY (v := .agg #[iv (pickI s0 10000), iv (((pickI s0 10000) + 1) + (pickI s1 1000))]) rfl kr) fun a Z => aH Z Y de (zeroValue39 _) (cs := [iv 0, iv 0]) rfl ?_
 clear Z Y
 intro a w9 Z Y
 refine am 0 Z Y rfl rfl rfl (sizeOf39 _) rfl (lb rfl) (ds := [iv (pickI s0 10000), iv (((pickI s0 10000) + 1) + (pickI s1 1000))]) rfl rfl ?_
 clear Z Y
 intro a w10 Z Y
 refine ab (hK5 _ _ ?_)
 replace Z := Z.p5 1 2 3 5 7 rfl
 refine aa fun K6 hK6 => wlv Z (ac (v := pt w0.hz) rfl kr) fun a Z => wlv Z (ld Y 3 rfl rfl (isAgg3 _) rfl) fun a Z => aA Z Y de call33 rfl (cw holder 10 _ (by first | assumption | omega) om) ?_
 clear Z Y
 intro a w11 Z Y
 refine wla Z rfl fun a Z => ab (hK6 _ _ <| ah fun K7 hK7 => ?_)
 refine aK kr (aU kr fun w12 hxz => ?_)
 replace Y := Y.grow hxz
 refine aV (k := 0) 9 [7, 8] Z kr kr kr rfx ?_
 replace Z := Z.p9 1 2 3 5 7 44 45 46 8 rfl
 refine aR [8] (fun i => match i with | 8 => pm (fun b : Nat => pt b) (fun b => [blk b [iv 0, iv 0, iv 0, iv 0, iv 0, iv 0, iv 0, iv 0, .string (⟨#[]⟩)] 41]) (fun _ => True) | _ => fun _ _ => False) 9 [[], [], [1], [2], [], [4], [5], [0, 3, 6], []] [iv (pickI holder 10), po w0.hz 5, iv carrier, iv (pickI carrier 8), po w0.hz 6, iv serial, iv (pickI serial 1000), .agg #[iv 0, iv (pickI holder 10), iv 0, iv 0, iv (pickI carrier 8), iv (pickI serial 1000), iv 0, iv 0, .string (⟨#[]⟩)], undef] Z Y kr kr kr ?_ ?_ ?_
 ·intro i hi hiq
  match i, hi, hiq with
  | 0, _, _ => exact fun w Y => OpV.g (ak rfl)
  | 1, _, _ => exact fun w Y => OpV.g (ac (v := po w0.hz 5) rfl kr)
  | 2, _, _ => exact fun w Y => OpV.g (ld Y 3 rfl rfl (isAgg3 _) rfl)
  | 3, _, _ => exact fun w Y => aT call33 rfl (cw carrier 8 _ (by first | assumption | omega) om)
  | 4, _, _ => exact fun w Y => OpV.g (ac (v := po w0.hz 6) rfl kr)
  | 5, _, _ => exact fun w Y => OpV.g (ld Y 3 rfl rfl (isAgg3 _) rfl)
  | 6, _, _ => exact fun w Y => aT call33 rfl (cw serial 1000 _ (by first | assumption | omega) om)
  | 7, _, _ => exact fun w Y => OpV.g (aY (v := .agg #[iv 0, iv (pickI holder 10), iv 0, iv 0, iv (pickI carrier 8), iv (pickI serial 1000), iv 0, iv 0, .string (⟨#[]⟩)]) rfl kr)
  | 8, _, h => exact absurd sm h
 ·intro i hi
  simp only [List.mem_cons, List.not_mem_nil, or_false] at hi
  subst hi
  ·intro w Y
   exact f7 (zeroValue41 _) (cs := [iv 0, iv 0, iv 0, iv 0, iv 0, iv 0, iv 0, iv 0, .string (⟨#[]⟩)]) rfl
 clear Z Y
 rintro _ _ ⟨b1, rfl, -, rfl⟩ a w13 Z Y
 replace Z : Fr 138 [(47, iv (pickI holder 10)), (48, po w0.hz 5), (49, iv carrier), (50, iv (pickI carrier 8)), (51, po w0.hz 6), (52, iv serial), (53, iv (pickI serial 1000)), (54, .agg #[iv 0, iv (pickI holder 10), iv 0, iv 0, iv (pickI carrier 8), iv (pickI serial 1000), iv 0, iv 0, .string (⟨#[]⟩)]), (9, _), (1, _), (2, _), (3, _), (5, _), (7, _), (44, _), (45, _), (46, _), (8, _)] [] a := Z
 replace Y : St No w0 [_, _, _, _, _] w13 := Y
 refine ab <| aP (k := 9) 10 [9] kr kr kr ?_
 refine am 0 Z Y rfl rfl rfl (sizeOf41 _) rfl (lb rfl) (ds := [iv 0, iv (pickI holder 10), iv 0, iv 0, iv (pickI carrier 8), iv (pickI serial 1000), iv 0, iv 0, .string (⟨#[]⟩)]) rfl rfl ?_
 clear Z Y
 intro a w14 Z Y
 refine ab <| bt kr ?_
 refine hK7 _ _ ?_
 replace Z := Z.p7 1 2 3 5 7 8 9 rfl
 refine aa fun K8 hK8 => wla Z rfl fun a Z => ab (hK8 _ _ <| ah fun K9 hK9 => ?_)
 refine aa fun K10 hK10 => wla Z rfl fun a Z => ab (hK10 _ _ <| ay ?_)
 replace Y : St No w0 [own (.slice none 0 0) 86 7 ((pxysOf (bZ holder r0 r1 s0 s1) (ys.take 0)).map Pxy.cells), blk b1 [iv 0, iv (pickI holder 10), iv 0, iv 0, iv (pickI carrier 8), iv (pickI serial 1000), iv 0, iv 0, .string (⟨#[]⟩)] 41, blk w8.hz [iv (pickI s0 10000), iv (((pickI s0 10000) + 1) + (pickI s1 1000))] 39, blk w4.hz [iv (pickI r0 10000), iv (((pickI r0 10000) + 1) + (pickI r1 1000))] 38, blk w1.hz [iv 0, iv 0, iv 0, iv 0, iv 0, iv 0, iv 0, iv 0, .string (⟨#[]⟩)] 41, blk w0.hz [iv holder, iv r0, iv r1, iv s0, iv s1, iv carrier, iv serial, cv] 36] w14 := Y.nil_own
 refine bj (fun m a w => ∃ (k : Nat) (o : Left) (v : Value), m = 4 - k ∧ (k ≤ min 4 ys.length) ∧ (leftOf (bZ holder r0 r1 s0 s1) (ys.take k) = o) ∧ (o.ok) ∧ Fr 138 [(1, pt w0.hz), (2, pt w1.hz), (3, .slice none 0 0), (5, pt w4.hz), (7, pt w8.hz), (9, pt b1), (8, iv o.who), (10, v), (11, iv (k : Int))] [] a ∧ St No w0 [blk w0.hz [iv holder, iv r0, iv r1, iv s0, iv s1, iv carrier, iv serial, cv] 36, blk w1.hz [iv 0, iv 0, iv 0, iv 0, iv 0, iv 0, iv 0, iv 0, .string (⟨#[]⟩)] 41, blk w4.hz [iv o.rf, iv o.rt] 38, blk w8.hz [iv o.sf, iv o.st] 39, blk b1 [iv 0, iv (pickI holder 10), iv 0, iv 0, iv (pickI carrier 8), iv (pickI serial 1000), iv 0, iv 0, .string (⟨#[]⟩)] 41, own v 86 7 ((pxysOf (bZ holder r0 r1 s0 s1) (ys.take k)).map Pxy.cells)] w) _ ⟨0, (bZ holder r0 r1 s0 s1), .slice none 0 0, rfl, (Nat.zero_le _), rfl, ex _ _ _ _ _, Z.pick [1, 2, 3, 5, 7, 9, 8, 10, 11], Y.select [5, 4, 3, 2, 1, 0] de⟩ ?_
 rintro _ a w15 ⟨k, o, v, rfl, hk, ho, hok, Z, Y⟩
 refine ah fun K11 hK11 => aa fun K12 hK12 => wlm Z rfl fun a Z => wlv Z (ac (v := po w0.hz 7) rfl kr) fun a Z => wlv Z (ld Y 0 rfl rfl (isAgg34 _) rfl) fun a Z => wlv Z ((aL (sT := 34) (Y.arg hcv) rfl rfl (runUnderlying34 _)).asi (m' := (ys.length : Int)) (by rw [List.length_map])) fun a Z => wlv Z (v_lt rfl rfl) fun a Z => wlm Z rfl fun a Z => ?_
 rcases Bool.eq_false_or_eq_true (decide ((k : Int) < (ys.length : Int))) with hb2 | hb2
 ·rw [hb2] at Z
  try simp only [qz] at hb2
  have hky : k < ys.length := by omega
  obtain ⟨y, hy⟩ : ∃ y, ys.getD k Cin.z = y := ⟨_, rfl⟩
  obtain ⟨hy0, hy1, hy2, hy3, hy4⟩ : y.wt := by rw [← hy]; exact hys _ (cn hky)
  obtain ⟨ho1, ho2, ho3, ho4, ho5, ho6, ho7, ho8⟩ := id hok
  have hp9 := bL y.y0 (n := 9) om
  refine wly Z (ak rfl) fun a Z => wly Z (v_lt rfl rfl) fun a Z => wlv Z (au rfl rfl) fun a Z => ab (hK12 _ _ ?_)
  replace Z := Z.p10 1 2 3 5 7 9 8 10 11 63 rfl
  refine ax Z rfl (fun hc3 => ?_) (fun hc3 => ?_)
  ·rw [hc3] at Z
   try simp only [qz] at hc3
   refine az <| hK11 _ _ <| ah fun K13 hK13 => ay <| aa fun K14 hK14 => wlv Z (ac (v := po w0.hz 7) rfl kr) fun a Z => wlv Z (ld Y 0 rfl rfl (isAgg34 _) rfl) fun a Z => wlm Z rfl fun a Z => wlv Z ((ao (i := (k : Int)) (sT := 34) (Y.arg hcv) rfl rfl (runUnderlying34 _) (sizeOf84 _) om (by rw [List.length_map]; exact hky)).as (v' := slAddr cv (k * 5)) rfl) fun a Z => wlv Z ((bN (Y.arg hcv) (i := k) (by rw [List.length_map]; exact hky) rfl (isAgg84 _) (sizeOf84 _)).as (v' := .agg #[iv y.y0, iv y.y1, iv y.y2, iv y.y3, iv y.y4]) (by rw [bU Cin.z, hy]; rfl)) fun a Z => aH Z Y de (zeroValue84 _) (cs := [iv 0, iv 0, iv 0, iv 0, iv 0]) rfl ?_
   clear Z Y
   intro a w16 Z Y
   refine am 0 Z Y rfl rfl rfl (sizeOf84 _) rfl (lb rfl) (ds := [iv y.y0, iv y.y1, iv y.y2, iv y.y3, iv y.y4]) rfl rfl ?_
   clear Z Y
   intro a w17 Z Y
   refine ab (hK14 _ _ ?_)
   replace Z := Z.p10 1 2 3 5 7 9 8 10 11 12 rfl
   refine ah fun K15 hK15 => aK kr (aU kr fun w18 hxz => ?_)
   replace Y := Y.grow hxz
   refine aV (k := 0) 12 [10, 11] Z kr kr kr rfx ?_
   replace Z := Z.p10 1 2 3 5 7 9 8 10 11 12 rfl
   refine aR [11] (fun i => match i with | 11 => pm (fun b : Nat => pt b) (fun b => [blk b [iv 0, iv 0, iv 0, iv 0, iv 0, iv 0, .string (⟨#[]⟩)] 86]) (fun _ => True) | _ => fun _ _ => False) 12 [[], [], [1], [], [3], [4], [2, 5], [6], [], [], [0, 7, 8, 9], []] [iv o.who, iv o.who, iv (o.who + 1), pt w15.hz, iv y.y0, iv (pickI y.y0 9), iv ((o.who + 1) + (pickI y.y0 9)), iv (((o.who + 1) + (pickI y.y0 9)) % 10), .agg #[iv o.rf, iv o.rt], .agg #[iv o.sf, iv o.st], .agg #[iv o.who, iv (((o.who + 1) + (pickI y.y0 9)) % 10), iv o.rf, iv o.rt, iv o.sf, iv o.st, .string (⟨#[]⟩)], undef] Z Y kr kr kr ?_ ?_ ?_
   ·intro i hi hiq
    match i, hi, hiq with
    | 0, _, _ => exact fun w Y => OpV.g (ak rfl)
    | 1, _, _ => exact fun w Y => OpV.g (ak rfl)
    | 2, _, _ => exact fun w Y => OpV.g (aS rfl rfl ⟨om, om⟩)
    | 3, _, _ => exact fun w Y => OpV.g (aC (v := pt w15.hz) rfl rfl kr)
    | 4, _, _ => exact fun w Y => OpV.g (ld Y 0 rfl rfl (isAgg3 _) rfl)
    | 5, _, _ => exact fun w Y => aT call33 rfl (cw y.y0 9 _ (by first | assumption | omega) om)
    | 6, _, _ => exact fun w Y => OpV.g (aS rfl rfl ⟨om, om⟩)
    | 7, _, _ => exact fun w Y => OpV.g (eY rfl rfl om om)
    | 8, _, _ => exact fun w Y => OpV.g (ai (Y.g 3 rfl) rfl (isAgg38 _) (sizeOf38 _))
    | 9, _, _ => exact fun w Y => OpV.g (ai (Y.g 4 rfl) rfl (isAgg39 _) (sizeOf39 _))
    | 10, _, _ => exact fun w Y => OpV.g (aY (v := .agg #[iv o.who, iv (((o.who + 1) + (pickI y.y0 9)) % 10), iv o.rf, iv o.rt, iv o.sf, iv o.st, .string (⟨#[]⟩)]) rfl kr)
    | 11, _, h => exact absurd sm h
    | i + 12, h, _ => exact absurd h om
   ·intro i hi
    simp only [List.mem_cons, List.not_mem_nil, or_false] at hi
    subst hi
    ·intro w Y
     exact f7 (zeroValue86 _) (cs := [iv 0, iv 0, iv 0, iv 0, iv 0, iv 0, .string (⟨#[]⟩)]) rfl
   clear Z Y
   rintro _ _ ⟨b4, rfl, -, rfl⟩ a w19 Z Y
   replace Z : Fr 138 [(71, iv o.who), (72, iv o.who), (73, iv (o.who + 1)), (74, pt w15.hz), (75, iv y.y0), (76, iv (pickI y.y0 9)), (77, iv ((o.who + 1) + (pickI y.y0 9))), (78, iv (((o.who + 1) + (pickI y.y0 9)) % 10)), (79, .agg #[iv o.rf, iv o.rt]), (80, .agg #[iv o.sf, iv o.st]), (81, .agg #[iv o.who, iv (((o.who + 1) + (pickI y.y0 9)) % 10), iv o.rf, iv o.rt, iv o.sf, iv o.st, .string (⟨#[]⟩)]), (13, _), (1, _), (2, _), (3, _), (5, _), (7, _), (9, _), (8, _), (10, _), (11, _), (12, _)] [] a := Z
   replace Y : St No w0 [_, _, _, _, _, _, _, _] w19 := Y
   refine ab <| aP (k := 12) 13 [12] kr kr kr ?_
   refine am 0 Z Y rfl rfl rfl (sizeOf86 _) rfl (lb rfl) (ds := [iv o.who, iv (((o.who + 1) + (pickI y.y0 9)) % 10), iv o.rf, iv o.rt, iv o.sf, iv o.st, .string (⟨#[]⟩)]) rfl rfl ?_
   clear Z Y
   intro a w20 Z Y
   refine ab <| bt kr ?_
   refine hK15 _ _ ?_
   replace Z := Z.p11 1 2 3 5 7 9 8 10 11 12 13 rfl
   refine ah fun K16 hK16 => aK kr (aU kr fun w21 hxz => ?_)
   replace Y := Y.grow hxz
   refine aV (k := 0) 9 [6, 8] Z kr kr kr rfx ?_
   replace Z := Z.p11 1 2 3 5 7 9 8 10 11 12 13 rfl
   refine cJ 7 8 86 [iv 0, iv 0, iv 0, iv 0, iv 0, iv 0, .string (⟨#[]⟩)] [iv o.who, iv ((o.who + 1 + pickI y.y0 9) % 10), iv o.rf, iv o.rt, iv o.sf, iv o.st, sv (sealH (keyH o.who) (o.bare y).content)] 9 [[], [0], [], [1, 2], [3], [4], [4], [], [5, 7]] (fun i => match i with | 0 => pv (iv o.who) | 1 => pv (sv (keyH o.who)) | 2 => pv (.agg #[iv o.who, iv (((o.who + 1) + (pickI y.y0 9)) % 10), iv o.rf, iv o.rt, iv o.sf, iv o.st, .string (⟨#[]⟩)]) | 3 => pv (.tuple #[.agg #[iv o.who, iv ((o.who + 1 + pickI y.y0 9) % 10), iv o.rf, iv o.rt, iv o.sf, iv o.st, sv (sealH (keyH o.who) (o.bare y).content)], iv 0]) | 4 => pv (.tuple #[.agg #[iv o.who, iv ((o.who + 1 + pickI y.y0 9) % 10), iv o.rf, iv o.rt, iv o.sf, iv o.st, sv (sealH (keyH o.who) (o.bare y).content)], iv 0]) | 5 => pv (.agg #[iv o.who, iv ((o.who + 1 + pickI y.y0 9) % 10), iv o.rf, iv o.rt, iv o.sf, iv o.st, sv (sealH (keyH o.who) (o.bare y).content)]) | 6 => pv (iv 0) | 7 => fun v E => ∃ b, v = ptr b ∧ E = [] | 8 => fun v E => v = undef ∧ E = [] | _ => fun _ _ => False) Z (H := [blk b4 [iv o.who, iv (((o.who + 1) + (pickI y.y0 9)) % 10), iv o.rf, iv o.rt, iv o.sf, iv o.st, .string (⟨#[]⟩)] 86, blk w15.hz [iv y.y0, iv y.y1, iv y.y2, iv y.y3, iv y.y4] 84, blk w0.hz [iv holder, iv r0, iv r1, iv s0, iv s1, iv carrier, iv serial, cv] 36, blk w1.hz [iv 0, iv 0, iv 0, iv 0, iv 0, iv 0, iv 0, iv 0, .string (⟨#[]⟩)] 41, blk w4.hz [iv o.rf, iv o.rt] 38, blk w8.hz [iv o.sf, iv o.st] 39, blk b1 [iv 0, iv (pickI holder 10), iv 0, iv 0, iv (pickI carrier 8), iv (pickI serial 1000), iv 0, iv 0, .string (⟨#[]⟩)] 41, own v 86 7 ((pxysOf (bZ holder r0 r1 s0 s1) (ys.take k)).map Pxy.cells)]) Y kr kr kr kr de de de de de ?_ (fun v E h => h) ⟨rfl, rfl⟩ (fun v E => Iff.rfl) ?_ ?_ ?_ ?_
   ·intro i v E h
    match i, h with
    | 0, _ => exact by decide
    | 1, _ => exact by decide
    | 2, _ => exact by decide
    | 3, _ => exact by decide
    | 4, _ => exact by decide
    | 5, _ => exact by decide
    | 6, _ => exact by decide
    | 7, _ => exact by decide
    | 8, _ => exact by decide
    | i + 9, h => exact h.elim
   ·intro i hi hia hij e
    match i, hi, hia, hij with
    | 0, _, _, _ => exact fun w Y => OpV.g (ak rfl)
    | 1, _, _, _ =>
     rintro _ _ ⟨rfl, rfl⟩
     intro w Y
     exact aT call35 rfl (ki o.who _)
    | 2, _, _, _ => exact fun w Y => OpV.g (ai (Y.g 1 rfl) rfl (isAgg86 _) (sizeOf86 _))
    | 3, _, _, _ =>
     rintro _ _ ⟨rfl, rfl⟩ _ _ ⟨rfl, rfl⟩
     intro w Y
     exact aT call34 rfl (je (keyH o.who) (o.bare y) _ (iF _) (Left.pxy_ok hok y))
    | 4, _, _, _ =>
     rintro _ _ ⟨rfl, rfl⟩
     intro w Y
     exact OpV.g (ak rfl)
    | 5, _, _, _ =>
     rintro _ _ ⟨rfl, rfl⟩
     intro w Y
     exact OpV.g (aw rfl rfl)
    | 6, _, _, _ =>
     rintro _ _ ⟨rfl, rfl⟩
     intro w Y
     exact OpV.g (aw rfl rfl)
    | 7, _, h, _ => exact absurd rfl h
    | 8, _, _, h => exact absurd rfl h
   ·exact fun Lv w => dS (zeroValue86 _)
   ·rintro _ _ ⟨rfl, rfl⟩ _ _ ⟨b5, rfl, rfl⟩
    intro b hb w h
    have hb : some (ptr b5) = some (ptr b) := hb
    cases hb
    exact cA rfl rfl h (sizeOf86 _) rfl (lb rfl) rfl
   clear Z Y
   rintro bq _ _ ⟨⟨rfl, rfl⟩, -⟩ _ _ ⟨⟨rfl, rfl⟩, -⟩ _ _ ⟨⟨rfl, rfl⟩, -⟩ _ _ ⟨⟨rfl, rfl⟩, -⟩ _ _ ⟨⟨rfl, rfl⟩, -⟩ _ _ ⟨⟨rfl, rfl⟩, -⟩ _ _ ⟨⟨rfl, rfl⟩, -⟩ _ _ ⟨⟨b5, rfl, rfl⟩, hva⟩ a w22 Z Y
   obtain rfl : b5 = bq := fq (hva rfl)
   replace Z : Fr 138 [(83, _), (84, _), (85, _), (86, _), (82, _), (87, _), (88, _), (14, _), (1, _), (2, _), (3, _), (5, _), (7, _), (9, _), (8, _), (10, _), (11, _), (12, _), (13, _)] [] a := Z
   replace Y : St No w0 [_, _, _, _, _, _, _, _, _] w22 := Y
   refine ab <| aP (k := 9) 10 [9] kr kr kr ?_
   refine wla Z rfl fun a Z => ab <| bt kr ?_
   refine hK16 _ _ ?_
   replace Z := Z.p11 1 2 3 5 7 9 10 11 12 13 14 rfl
   refine aa fun K17 hK17 => wlm Z rfl fun a Z => wlv Z (ai (Y.g 0 rfl) rfl (isAgg86 _) (sizeOf86 _)) fun a Z => aI (E := 86) (sz := 7) rfl [[iv o.who, iv ((o.who + 1 + pickI y.y0 9) % 10), iv o.rf, iv o.rt, iv o.sf, iv o.st, sv (sealH (keyH o.who) (o.bare y).content)]] kr sm rfl de de Z Y ?_
   clear Z Y
   intro a w23 Z Y
   refine bG (i := 9) (sT := 49) (inf := Tryz.t86) (z := .agg #[iv 0, iv 0, iv 0, iv 0, iv 0, iv 0, .string (⟨#[]⟩)]) (b := 0) (off := 0) (m := 0) (c := 0) rfl rfl rfl (Y.ow 0 rfl) sm underlying49 rfl rfl rfl rfl de (by simp [Value.oneCell', yv, wv, sv]) (by have hby : Tryz.t86.bytes = 64 := rfl; simp [big, hby, fQ] <;> omega) (by have hby : Tryz.t86.bytes = 64 := rfl; simp [big, hby, fQ] <;> omega) de Z Y fun a w24 s6 Z Y _ => ?_
   rw [show ((pxysOf (bZ holder r0 r1 s0 s1) (ys.take k)).map Pxy.cells) ++ ([[iv o.who, iv ((o.who + 1 + pickI y.y0 9) % 10), iv o.rf, iv o.rt, iv o.sf, iv o.st, sv (sealH (keyH o.who) (o.bare y).content)]]) = ((pxysOf (bZ holder r0 r1 s0 s1) (ys.take (k + 1))).map Pxy.cells) from by rw [da Cin.z hky, gH, ho, hy, List.map_append]; rfl] at Y
   refine wla Z rfl fun a Z => ab (hK17 _ _ <| aa fun K18 hK18 => ?_)
   refine wlv Z (ac (v := po b4 1) rfl kr) fun a Z => wlv Z (ld Y 2 rfl rfl (isAgg3 _) rfl) fun a Z => wla Z rfl fun a Z => ab (hK18 _ _ ?_)
   replace Z := Z.p10 1 2 3 5 7 9 11 12 10 8 rfl
   replace Y := Y.k7 1016 rfl
   refine aa fun K19 hK19 => wlv Z (ac (v := pt w4.hz) rfl kr) fun a Z => wlv Z (ld Y 3 rfl rfl (isAgg3 _) rfl) fun a Z => wlv Z (ac (v := po w4.hz 1) rfl kr) fun a Z => wlv Z (ld Y 3 rfl rfl (isAgg3 _) rfl) fun a Z => wlv Z (aC (v := po w15.hz 1) rfl rfl kr) fun a Z => wlv Z (ld Y 0 rfl rfl (isAgg3 _) rfl) fun a Z => wlv Z (aC (v := po w15.hz 2) rfl rfl kr) fun a Z => wlv Z (ld Y 0 rfl rfl (isAgg3 _) rfl) fun a Z => aA Z Y de call36 rfl (gF o.rf o.rt y.y1 y.y2 _ om om om (by assumption) (by assumption)) ?_
   clear Z Y
   intro a w25 Z Y
   refine wlm Z rfl fun a Z => wlv Z (aw rfl rfl) fun a Z => wlv Z (aw rfl rfl) fun a Z => wlv Z (ac (v := pt w4.hz) rfl kr) fun a Z => am 3 Z Y rfl rfl rfl (sizeOf3 _) rfl (lb rfl) (ds := [iv (o.rf + pickI y.y1 (o.rt - o.rf)), iv o.rt]) rfl rfl ?_
   clear Z Y
   intro a w26 Z Y
   refine wlv Z (ac (v := po w4.hz 1) rfl kr) fun a Z => am 3 Z Y rfl rfl rfl (sizeOf3 _) rfl (lb rfl) (ds := [iv (o.rf + pickI y.y1 (o.rt - o.rf)), iv (o.rt - pickI y.y2 (o.rt - (o.rf + pickI y.y1 (o.rt - o.rf))))]) rfl rfl ?_
   clear Z Y
   intro a w27 Z Y
   refine ab (hK19 _ _ ?_)
   replace Z := Z.p10 1 2 3 5 7 9 11 12 10 8 rfl
   refine ar <| wlv Z (ac (v := pt w8.hz) rfl kr) fun a Z => wlv Z (ld Y 4 rfl rfl (isAgg3 _) rfl) fun a Z => wlv Z (ac (v := po w8.hz 1) rfl kr) fun a Z => wlv Z (ld Y 4 rfl rfl (isAgg3 _) rfl) fun a Z => wlv Z (aC (v := po w15.hz 3) rfl rfl kr) fun a Z => wlv Z (ld Y 0 rfl rfl (isAgg3 _) rfl) fun a Z => wlv Z (aC (v := po w15.hz 4) rfl rfl kr) fun a Z => wlv Z (ld Y 0 rfl rfl (isAgg3 _) rfl) fun a Z => aA Z Y de call36 rfl (gF o.sf o.st y.y3 y.y4 _ om om om (by assumption) (by assumption)) ?_
   clear Z Y
   intro a w28 Z Y
   refine wlm Z rfl fun a Z => wlv Z (aw rfl rfl) fun a Z => wlv Z (aw rfl rfl) fun a Z => wlv Z (ac (v := pt w8.hz) rfl kr) fun a Z => am 4 Z Y rfl rfl rfl (sizeOf3 _) rfl (lb rfl) (ds := [iv (o.sf + pickI y.y3 (o.st - o.sf)), iv o.st]) rfl rfl ?_
   clear Z Y
   intro a w29 Z Y
   refine wlv Z (ac (v := po w8.hz 1) rfl kr) fun a Z => am 4 Z Y rfl rfl rfl (sizeOf3 _) rfl (lb rfl) (ds := [iv (o.sf + pickI y.y3 (o.st - o.sf)), iv (o.st - pickI y.y4 (o.st - (o.sf + pickI y.y3 (o.st - o.sf))))]) rfl rfl ?_
   clear Z Y
   intro a w30 Z Y
   refine ab <| hK13 _ _ ?_
   replace Z := Z.p9 1 2 3 5 7 9 11 10 8 rfl
   replace Y := Y.k6 126 rfl
   refine ar <| wlm Z rfl fun a Z => wlv Z (aS rfl rfl ⟨om, om⟩) fun a Z => wla Z rfl fun a Z => ab ?_
   refine ⟨_, ?_, k + 1, o.next y, s6, rfl, om, (by rw [da Cin.z hky, gL, ho, hy]), (Left.next_ok hok y).1, Z.pick [1, 2, 3, 5, 7, 9, 8, 10, 11], Y.select [0, 1, 2, 3, 4, 5] de⟩
   omega
  rw [hc3] at Z
  try simp only [qz] at hc3
  refine aX <| hK9 _ _ ?_
  obtain ⟨ho1, ho2, ho3, ho4, ho5, ho6, ho7, ho8⟩ := id hok
  have hwok := lI hok holder carrier serial
  have hkm : k = min 4 ys.length := by omega
  have hk4 : ys.take k = ys.take 4 := by rw [hkm]; exact jr ys
  refine aa fun K20 hK20 => wlm Z rfl fun a Z => wlv Z (ac (v := pt b1) rfl kr) fun a Z => am 4 Z Y rfl rfl rfl (sizeOf3 _) rfl (lb rfl) (ds := [iv o.who, iv (pickI holder 10), iv 0, iv 0, iv (pickI carrier 8), iv (pickI serial 1000), iv 0, iv 0, .string (⟨#[]⟩)]) rfl rfl ?_
  clear Z Y
  intro a w31 Z Y
  refine ab (hK20 _ _ <| aa fun K21 hK21 => ?_)
  refine wlv Z (ai (Y.g 2 rfl) rfl (isAgg38 _) (sizeOf38 _)) fun a Z => wlv Z (ac (v := po b1 2) rfl kr) fun a Z => am 4 Z Y rfl rfl rfl (sizeOf38 _) rfl (lb rfl) (ds := [iv o.who, iv (pickI holder 10), iv o.rf, iv o.rt, iv (pickI carrier 8), iv (pickI serial 1000), iv 0, iv 0, .string (⟨#[]⟩)]) rfl rfl ?_
  clear Z Y
  intro a w32 Z Y
  refine ab (hK21 _ _ ?_)
  replace Z := Z.p6 2 3 7 9 8 10 rfl
  replace Y := Y.k4 58 rfl
  refine aa fun K22 hK22 => wlv Z (ai (Y.g 1 rfl) rfl (isAgg39 _) (sizeOf39 _)) fun a Z => wlv Z (ac (v := po b1 6) rfl kr) fun a Z => am 2 Z Y rfl rfl rfl (sizeOf39 _) rfl (lb rfl) (ds := [iv o.who, iv (pickI holder 10), iv o.rf, iv o.rt, iv (pickI carrier 8), iv (pickI serial 1000), iv o.sf, iv o.st, .string (⟨#[]⟩)]) rfl rfl ?_
  clear Z Y
  intro a w33 Z Y
  refine ab (hK22 _ _ <| ah fun K23 hK23 => ?_)
  refine aK kr (aU kr fun w34 hxz => ?_)
  replace Y := Y.grow hxz
  refine aV (k := 0) 9 [6, 8] Z kr kr kr rfx ?_
  replace Z := Z.p8 2 3 7 9 8 10 127 128 rfl
  refine cJ 7 8 41 [iv 0, iv 0, iv 0, iv 0, iv 0, iv 0, iv 0, iv 0, .string (⟨#[]⟩)] [iv o.who, iv (pickI holder 10), iv o.rf, iv o.rt, iv (pickI carrier 8), iv (pickI serial 1000), iv o.sf, iv o.st, sv (sealH (keyH o.who) (bareW o holder carrier serial).content)] 9 [[], [0], [], [1, 2], [3], [4], [4], [], [5, 7]] (fun i => match i with | 0 => pv (iv o.who) | 1 => pv (sv (keyH o.who)) | 2 => pv (.agg #[iv o.who, iv (pickI holder 10), iv o.rf, iv o.rt, iv (pickI carrier 8), iv (pickI serial 1000), iv o.sf, iv o.st, .string (⟨#[]⟩)]) | 3 => pv (.tuple #[.agg #[iv o.who, iv (pickI holder 10), iv o.rf, iv o.rt, iv (pickI carrier 8), iv (pickI serial 1000), iv o.sf, iv o.st, sv (sealH (keyH o.who) (bareW o holder carrier serial).content)], iv 0]) | 4 => pv (.tuple #[.agg #[iv o.who, iv (pickI holder 10), iv o.rf, iv o.rt, iv (pickI carrier 8), iv (pickI serial 1000), iv o.sf, iv o.st, sv (sealH (keyH o.who) (bareW o holder carrier serial).content)], iv 0]) | 5 => pv (.agg #[iv o.who, iv (pickI holder 10), iv o.rf, iv o.rt, iv (pickI carrier 8), iv (pickI serial 1000), iv o.sf, iv o.st, sv (sealH (keyH o.who) (bareW o holder carrier serial).content)]) | 6 => pv (iv 0) | 7 => fun v E => ∃ b, v = ptr b ∧ E = [] | 8 => fun v E => v = undef ∧ E = [] | _ => fun _ _ => False) Z (H := [blk w1.hz [iv 0, iv 0, iv 0, iv 0, iv 0, iv 0, iv 0, iv 0, .string (⟨#[]⟩)] 41, blk w8.hz [iv o.sf, iv o.st] 39, blk b1 [iv o.who, iv (pickI holder 10), iv o.rf, iv o.rt, iv (pickI carrier 8), iv (pickI serial 1000), iv o.sf, iv o.st, .string (⟨#[]⟩)] 41, own v 86 7 ((pxysOf (bZ holder r0 r1 s0 s1) (ys.take k)).map Pxy.cells)]) Y kr kr kr kr de de de de de ?_ (fun v E h => h) ⟨rfl, rfl⟩ (fun v E => Iff.rfl) ?_ ?_ ?_ ?_
  ·intro i v E h
   match i, h with
   | 0, _ => exact by decide
   | 1, _ => exact by decide
   | 2, _ => exact by decide
   | 3, _ => exact by decide
   | 4, _ => exact by decide
   | 5, _ => exact by decide
   | 6, _ => exact by decide
   | 7, _ => exact by decide
   | 8, _ => exact by decide
   | i + 9, h => exact h.elim
  ·intro i hi hia hij e
   match i, hi, hia, hij with
   | 0, _, _, _ => exact fun w Y => OpV.g (ak rfl)
   | 1, _, _, _ =>
    rintro _ _ ⟨rfl, rfl⟩
    intro w Y
    exact aT call35 rfl (ki o.who _)
   | 2, _, _, _ => exact fun w Y => OpV.g (ai (Y.g 3 rfl) rfl (isAgg41 _) (sizeOf41 _))
   | 3, _, _, _ =>
    rintro _ _ ⟨rfl, rfl⟩ _ _ ⟨rfl, rfl⟩
    intro w Y
    exact aT call37 rfl (fR (keyH o.who) (bareW o holder carrier serial) _ (iF _) hwok)
   | 4, _, _, _ =>
    rintro _ _ ⟨rfl, rfl⟩
    intro w Y
    exact OpV.g (ak rfl)
   | 5, _, _, _ =>
    rintro _ _ ⟨rfl, rfl⟩
    intro w Y
    exact OpV.g (aw rfl rfl)
   | 6, _, _, _ =>
    rintro _ _ ⟨rfl, rfl⟩
    intro w Y
    exact OpV.g (aw rfl rfl)
   | 7, _, h, _ => exact absurd rfl h
   | 8, _, _, h => exact absurd rfl h
  ·exact fun Lv w => dS (zeroValue41 _)
  ·rintro _ _ ⟨rfl, rfl⟩ _ _ ⟨b7, rfl, rfl⟩
   intro b hb w h
   have hb : some (ptr b7) = some (ptr b) := hb
   cases hb
   exact cA rfl rfl h (sizeOf41 _) rfl (lb rfl) rfl
  clear Z Y
  rintro bq _ _ ⟨⟨rfl, rfl⟩, -⟩ _ _ ⟨⟨rfl, rfl⟩, -⟩ _ _ ⟨⟨rfl, rfl⟩, -⟩ _ _ ⟨⟨rfl, rfl⟩, -⟩ _ _ ⟨⟨rfl, rfl⟩, -⟩ _ _ ⟨⟨rfl, rfl⟩, -⟩ _ _ ⟨⟨rfl, rfl⟩, -⟩ _ _ ⟨⟨b7, rfl, rfl⟩, hva⟩ a w35 Z Y
  obtain rfl : b7 = bq := fq (hva rfl)
  replace Z := Z.p16 130 131 132 133 129 134 135 16 2 3 7 9 8 10 127 128 rfl
  replace Y : St No w0 [_, _, _, _, _] w35 := Y
  refine ab <| aP (k := 9) 10 [9] kr kr kr ?_
  refine wla Z rfl fun a Z => ab <| bt kr ?_
  refine hK23 _ _ ?_
  replace Z := Z.p4 2 3 10 16 rfl
  replace Y := Y.k3 19 rfl
  refine aa fun K24 hK24 => wlv Z (ai (Y.g 0 rfl) rfl (isAgg41 _) (sizeOf41 _)) fun a Z => wlm Z rfl fun a Z => am 1 Z Y rfl rfl rfl (sizeOf41 _) rfl (lb rfl) (ds := [iv o.who, iv (pickI holder 10), iv o.rf, iv o.rt, iv (pickI carrier 8), iv (pickI serial 1000), iv o.sf, iv o.st, sv (sealH (keyH o.who) (bareW o holder carrier serial).content)]) rfl rfl ?_
  clear Z Y
  intro a w36 Z Y
  refine wla Z rfl fun a Z => ab (hK24 _ _ <| ap ?_)
  refine aj Z results9 (aB rfl (bB (Y.g 1 rfl) (isAgg41 _) (sizeOf41 _)) (ae rfl ag)) ?_
  rw [hk4] at Y ho
  subst ho
  exact ⟨v, rfl, trivial, Y.ext, St.out (E := [own v 86 7 ((madeL holder r0 r1 s0 s1 ys).map Pxy.cells)]) (H := []) (Y.select [2] de)⟩
 rw [hb2] at Z
 try simp only [qz] at hb2
 refine wln Z fun a Z => wln Z fun a Z => wlv Z (aq rfl rfl) fun a Z => ab (hK12 _ _ ?_)
 replace Z := Z.p10 1 2 3 5 7 9 8 10 11 63 rfl
 refine bC Z rfl ?_
 refine aX <| hK9 _ _ ?_
 obtain ⟨ho1, ho2, ho3, ho4, ho5, ho6, ho7, ho8⟩ := id hok
 have hwok := lI hok holder carrier serial
 have hkm : k = min 4 ys.length := by omega
 have hk4 : ys.take k = ys.take 4 := by rw [hkm]; exact jr ys
 refine aa fun K25 hK25 => wlm Z rfl fun a Z => wlv Z (ac (v := pt b1) rfl kr) fun a Z => am 4 Z Y rfl rfl rfl (sizeOf3 _) rfl (lb rfl) (ds := [iv o.who, iv (pickI holder 10), iv 0, iv 0, iv (pickI carrier 8), iv (pickI serial 1000), iv 0, iv 0, .string (⟨#[]⟩)]) rfl rfl ?_
 clear Z Y
 intro a w37 Z Y
 refine ab (hK25 _ _ <| aa fun K26 hK26 => ?_)
 refine wlv Z (ai (Y.g 2 rfl) rfl (isAgg38 _) (sizeOf38 _)) fun a Z => wlv Z (ac (v := po b1 2) rfl kr) fun a Z => am 4 Z Y rfl rfl rfl (sizeOf38 _) rfl (lb rfl) (ds := [iv o.who, iv (pickI holder 10), iv o.rf, iv o.rt, iv (pickI carrier 8), iv (pickI serial 1000), iv 0, iv 0, .string (⟨#[]⟩)]) rfl rfl ?_
 clear Z Y
 intro a w38 Z Y
 refine ab (hK26 _ _ ?_)
 replace Z := Z.p6 2 3 7 9 8 10 rfl
 replace Y := Y.k4 58 rfl
 refine aa fun K27 hK27 => wlv Z (ai (Y.g 1 rfl) rfl (isAgg39 _) (sizeOf39 _)) fun a Z => wlv Z (ac (v := po b1 6) rfl kr) fun a Z => am 2 Z Y rfl rfl rfl (sizeOf39 _) rfl (lb rfl) (ds := [iv o.who, iv (pickI holder 10), iv o.rf, iv o.rt, iv (pickI carrier 8), iv (pickI serial 1000), iv o.sf, iv o.st, .string (⟨#[]⟩)]) rfl rfl ?_
 clear Z Y
 intro a w39 Z Y
 refine ab (hK27 _ _ <| ah fun K28 hK28 => ?_)
 refine aK kr (aU kr fun w40 hxz => ?_)
 replace Y := Y.grow hxz
 refine aV (k := 0) 9 [6, 8] Z kr kr kr rfx ?_
 replace Z := Z.p8 2 3 7 9 8 10 127 128 rfl
 refine cJ 7 8 41 [iv 0, iv 0, iv 0, iv 0, iv 0, iv 0, iv 0, iv 0, .string (⟨#[]⟩)] [iv o.who, iv (pickI holder 10), iv o.rf, iv o.rt, iv (pickI carrier 8), iv (pickI serial 1000), iv o.sf, iv o.st, sv (sealH (keyH o.who) (bareW o holder carrier serial).content)] 9 [[], [0], [], [1, 2], [3], [4], [4], [], [5, 7]] (fun i => match i with | 0 => pv (iv o.who) | 1 => pv (sv (keyH o.who)) | 2 => pv (.agg #[iv o.who, iv (pickI holder 10), iv o.rf, iv o.rt, iv (pickI carrier 8), iv (pickI serial 1000), iv o.sf, iv o.st, .string (⟨#[]⟩)]) | 3 => pv (.tuple #[.agg #[iv o.who, iv (pickI holder 10), iv o.rf, iv o.rt, iv (pickI carrier 8), iv (pickI serial 1000), iv o.sf, iv o.st, sv (sealH (keyH o.who) (bareW o holder carrier serial).content)], iv 0]) | 4 => pv (.tuple #[.agg #[iv o.who, iv (pickI holder 10), iv o.rf, iv o.rt, iv (pickI carrier 8), iv (pickI serial 1000), iv o.sf, iv o.st, sv (sealH (keyH o.who) (bareW o holder carrier serial).content)], iv 0]) | 5 => pv (.agg #[iv o.who, iv (pickI holder 10), iv o.rf, iv o.rt, iv (pickI carrier 8), iv (pickI serial 1000), iv o.sf, iv o.st, sv (sealH (keyH o.who) (bareW o holder carrier serial).content)]) | 6 => pv (iv 0) | 7 => fun v E => ∃ b, v = ptr b ∧ E = [] | 8 => fun v E => v = undef ∧ E = [] | _ => fun _ _ => False) Z (H := [blk w1.hz [iv 0, iv 0, iv 0, iv 0, iv 0, iv 0, iv 0, iv 0, .string (⟨#[]⟩)] 41, blk w8.hz [iv o.sf, iv o.st] 39, blk b1 [iv o.who, iv (pickI holder 10), iv o.rf, iv o.rt, iv (pickI carrier 8), iv (pickI serial 1000), iv o.sf, iv o.st, .string (⟨#[]⟩)] 41, own v 86 7 ((pxysOf (bZ holder r0 r1 s0 s1) (ys.take k)).map Pxy.cells)]) Y kr kr kr kr de de de de de ?_ (fun v E h => h) ⟨rfl, rfl⟩ (fun v E => Iff.rfl) ?_ ?_ ?_ ?_
 ·intro i v E h
  match i, h with
  | 0, _ => exact by decide
  | 1, _ => exact by decide
  | 2, _ => exact by decide
  | 3, _ => exact by decide
  | 4, _ => exact by decide
  | 5, _ => exact by decide
  | 6, _ => exact by decide
  | 7, _ => exact by decide
  | 8, _ => exact by decide
  | i + 9, h => exact h.elim
 ·intro i hi hia hij e
  match i, hi, hia, hij with
  | 0, _, _, _ => exact fun w Y => OpV.g (ak rfl)
  | 1, _, _, _ =>
   rintro _ _ ⟨rfl, rfl⟩
   intro w Y
   exact aT call35 rfl (ki o.who _)
  | 2, _, _, _ => exact fun w Y => OpV.g (ai (Y.g 3 rfl) rfl (isAgg41 _) (sizeOf41 _))
  | 3, _, _, _ =>
   rintro _ _ ⟨rfl, rfl⟩ _ _ ⟨rfl, rfl⟩
   intro w Y
   exact aT call37 rfl (fR (keyH o.who) (bareW o holder carrier serial) _ (iF _) hwok)
  | 4, _, _, _ =>
   rintro _ _ ⟨rfl, rfl⟩
   intro w Y
   exact OpV.g (ak rfl)
  | 5, _, _, _ =>
   rintro _ _ ⟨rfl, rfl⟩
   intro w Y
   exact OpV.g (aw rfl rfl)
  | 6, _, _, _ =>
   rintro _ _ ⟨rfl, rfl⟩
   intro w Y
   exact OpV.g (aw rfl rfl)
  | 7, _, h, _ => exact absurd rfl h
  | 8, _, _, h => exact absurd rfl h
 ·exact fun Lv w => dS (zeroValue41 _)
 ·rintro _ _ ⟨rfl, rfl⟩ _ _ ⟨b8, rfl, rfl⟩
  intro b hb w h
  have hb : some (ptr b8) = some (ptr b) := hb
  cases hb
  exact cA rfl rfl h (sizeOf41 _) rfl (lb rfl) rfl
 clear Z Y
 rintro bq _ _ ⟨⟨rfl, rfl⟩, -⟩ _ _ ⟨⟨rfl, rfl⟩, -⟩ _ _ ⟨⟨rfl, rfl⟩, -⟩ _ _ ⟨⟨rfl, rfl⟩, -⟩ _ _ ⟨⟨rfl, rfl⟩, -⟩ _ _ ⟨⟨rfl, rfl⟩, -⟩ _ _ ⟨⟨rfl, rfl⟩, -⟩ _ _ ⟨⟨b8, rfl, rfl⟩, hva⟩ a w41 Z Y
 obtain rfl : b8 = bq := fq (hva rfl)
 replace Z := Z.p16 130 131 132 133 129 134 135 16 2 3 7 9 8 10 127 128 rfl
 replace Y : St No w0 [_, _, _, _, _] w41 := Y
 refine ab <| aP (k := 9) 10 [9] kr kr kr ?_
 refine wla Z rfl fun a Z => ab <| bt kr ?_
 refine hK28 _ _ ?_
 replace Z := Z.p4 2 3 10 16 rfl
 replace Y := Y.k3 19 rfl
 refine aa fun K29 hK29 => wlv Z (ai (Y.g 0 rfl) rfl (isAgg41 _) (sizeOf41 _)) fun a Z => wlm Z rfl fun a Z => am 1 Z Y rfl rfl rfl (sizeOf41 _) rfl (lb rfl) (ds := [iv o.who, iv (pickI holder 10), iv o.rf, iv o.rt, iv (pickI carrier 8), iv (pickI serial 1000), iv o.sf, iv o.st, sv (sealH (keyH o.who) (bareW o holder carrier serial).content)]) rfl rfl ?_
 clear Z Y
 intro a w42 Z Y
 refine wla Z rfl fun a Z => ab (hK29 _ _ <| ap ?_)
 refine aj Z results9 (aB rfl (bB (Y.g 1 rfl) (isAgg41 _) (sizeOf41 _)) (ae rfl ag)) ?_
 rw [hk4] at Y ho
 subst ho
 exact ⟨v, rfl, trivial, Y.ext, St.out (E := [own v 86 7 ((madeL holder r0 r1 s0 s1 ys).map Pxy.cells)]) (H := []) (Y.select [2] de)⟩
theorem cN {P : Program} {w : World} {d : Nat} {xs ys : Array Value} {f : Field} {fs : List Field} {a b : Value} {r r' : Bool} (hn : f.name ≠ "_") (h1 : (part f.type xs f.offset).run P w = .ok a w) (h2 : (part f.type ys f.offset).run P w = .ok b w)
  (h3 : (Op.equalIn d f.type a b).run P w = .ok r w) (h4 : (Op.eqFields d xs ys fs).run P w = .ok r' w) : (Op.eqFields d xs ys (f :: fs)).run P w = .ok (r && r') w := by
 simp only [Op.eqFields, hn, ne_eq, not_false_eq_true, if_true, Sem.run_bind, h1, h2, h3, Result.andThen_ok]
 cases r
 ·simp
 ·simpa using h4
theorem ku {P : Program} {w : World} {d : Nat} {xs ys : Array Value} : (Op.eqFields d xs ys []).run P w = .ok true w := by simp [Op.eqFields]
theorem eqI {w : World} (d : Nat) (a b : Int) : (Op.equalIn (d + 1) 3 (iv a) (iv b)).run Tryz.prog w = .ok (decide (a = b)) w := by
 rw [run_equalIn_int w d 3 .i64 .i64 a b underlying3]; congr 1
theorem eqS {w : World} (d : Nat) (a b : By) : (Op.equalIn (d + 1) 9 (sv a) (sv b)).run Tryz.prog w = .ok (decide (a = b)) w := by
 unfold sv
 rw [run_equalIn_string w d 9 _ _ underlying9, ByteArray.toList_mk, ByteArray.toList_mk]; congr 1
 rw [Bool.eq_iff_iff]; simp
theorem ql {w : World} (d : Nat) (a0 a1 c0 c1 : Int) : (Op.equalIn (d + 1 + 1) 38 (.agg #[iv a0, iv a1]) (.agg #[iv c0, iv c1])).run Tryz.prog w = .ok (decide (a0 = c0) && (decide (a1 = c1) && true)) w := by
 rw [run_equalIn_struct w (d + 1) 38 _ _ kr kr]
 simp only [Program.fieldsOf, underlying38]
 refine cN (a := iv a0) (b := iv c0) (r := decide (a0 = c0)) de (by simp [part, isAgg3, sv]) (by simp [part, isAgg3, sv]) (eqI _ _ _) ?_
 refine cN (a := iv a1) (b := iv c1) (r := decide (a1 = c1)) de (by simp [part, isAgg3, sv]) (by simp [part, isAgg3, sv]) (eqI _ _ _) ?_
 exact ku
theorem qg {w : World} (d : Nat) (a0 a1 c0 c1 : Int) : (Op.equalIn (d + 1 + 1) 39 (.agg #[iv a0, iv a1]) (.agg #[iv c0, iv c1])).run Tryz.prog w = .ok (decide (a0 = c0) && (decide (a1 = c1) && true)) w := by
 rw [run_equalIn_struct w (d + 1) 39 _ _ kr kr]
 simp only [Program.fieldsOf, underlying39]
 refine cN (a := iv a0) (b := iv c0) (r := decide (a0 = c0)) de (by simp [part, isAgg3, sv]) (by simp [part, isAgg3, sv]) (eqI _ _ _) ?_
 refine cN (a := iv a1) (b := iv c1) (r := decide (a1 = c1)) de (by simp [part, isAgg3, sv]) (by simp [part, isAgg3, sv]) (eqI _ _ _) ?_
 exact ku
theorem eqWsh (a0 a1 a2 a3 a4 a5 a6 a7 : Int) (a8 : By) (c0 c1 c2 c3 c4 c5 c6 c7 : Int) (c8 : By) (w : World) : (Op.equal 41 (.agg #[iv a0, iv a1, iv a2, iv a3, iv a4, iv a5, iv a6, iv a7, sv a8]) (.agg #[iv c0, iv c1, iv c2, iv c3, iv c4, iv c5, iv c6, iv c7, sv c8])).run Tryz.prog w = .ok (decide (Wsh.mk a0 a1 a2 a3 a4 a5 a6 a7 a8 = Wsh.mk c0 c1 c2 c3 c4 c5 c6 c7 c8)) w := by
 have e : decide (Wsh.mk a0 a1 a2 a3 a4 a5 a6 a7 a8 = Wsh.mk c0 c1 c2 c3 c4 c5 c6 c7 c8) = (decide (a0 = c0) && (decide (a1 = c1) && ((decide (a2 = c2) && (decide (a3 = c3) && true)) && (decide (a4 = c4) && (decide (a5 = c5) && ((decide (a6 = c6) && (decide (a7 = c7) && true)) && (decide (a8 = c8) && true))))))) := by
  rw [Bool.eq_iff_iff]; simp [and_assoc]
 rw [e]
 unfold Op.equal Op.maxDepth
 obtain ⟨dd, hd⟩ : ∃ dd, 10000 = dd + 1 + 1 + 1 := ⟨9997, rfl⟩
 rw [hd, run_equalIn_struct w (dd + 1 + 1) 41 _ _ kr kr]
 simp only [Program.fieldsOf, underlying41]
 refine cN (a := iv a0) (b := iv c0) (r := decide (a0 = c0)) de (by simp [part, isAgg3, sv]) (by simp [part, isAgg3, sv]) (eqI _ _ _) ?_
 refine cN (a := iv a1) (b := iv c1) (r := decide (a1 = c1)) de (by simp [part, isAgg3, sv]) (by simp [part, isAgg3, sv]) (eqI _ _ _) ?_
 refine cN (a := .agg #[iv a2, iv a3]) (b := .agg #[iv c2, iv c3]) (r := (decide (a2 = c2) && (decide (a3 = c3) && true))) de (by simp [part, isAgg38, sizeOf38]) (by simp [part, isAgg38, sizeOf38]) (ql _ _ _ _ _) ?_
 refine cN (a := iv a4) (b := iv c4) (r := decide (a4 = c4)) de (by simp [part, isAgg3, sv]) (by simp [part, isAgg3, sv]) (eqI _ _ _) ?_
 refine cN (a := iv a5) (b := iv c5) (r := decide (a5 = c5)) de (by simp [part, isAgg3, sv]) (by simp [part, isAgg3, sv]) (eqI _ _ _) ?_
 refine cN (a := .agg #[iv a6, iv a7]) (b := .agg #[iv c6, iv c7]) (r := (decide (a6 = c6) && (decide (a7 = c7) && true))) de (by simp [part, isAgg39, sizeOf39]) (by simp [part, isAgg39, sizeOf39]) (qg _ _ _ _ _) ?_
 refine cN (a := sv a8) (b := sv c8) (r := decide (a8 = c8)) de (by simp [part, isAgg9, sv]) (by simp [part, isAgg9, sv]) (eqS _ _ _) ?_
 exact ku
def bentW (x : Wsh) (how n : Int) : Wsh :=
 if pickI how 9 = 0 then { x with signer := n } else if pickI how 9 = 1 then { x with holder := n } else if pickI how 9 = 2 then { x with rf := n } else if pickI how 9 = 3 then { x with rt := n } else
 if pickI how 9 = 4 then { x with carrier := n } else if pickI how 9 = 5 then { x with serial := n } else if pickI how 9 = 6 then { x with sf := n } else if pickI how 9 = 7 then { x with st := n } else { x with rt := x.rt + 1 }
theorem qw (x : Wsh) (how n : Int) (w0 : World) (hh : -9223372036854775808 ≤ how ∧ how ≤ 9223372036854775807) (hx : x.rt < 9223372036854775807) (hx2 : -9223372036854775808 ≤ x.rt) :
  Ret Tryz.prog 10 #[.agg #[iv x.signer, iv x.holder, iv x.rf, iv x.rt, iv x.carrier, iv x.serial, iv x.sf, iv x.st, sv x.sig], iv how, iv n] w0 fun v w => v = .tuple #[.agg (bentW x how n).cells.toArray, .bool (!(decide (bentW x how n = x)))] ∧ Ext No w0 w := by
 refine aD func10 rfl ntmps10 (lb rfl) fun a Z => ?_
 replace Z := Z.p3 0 1 2 rfl
 replace Y : St No w0 [] w0 := St.init w0
 refine aa fun K1 hK1 => aG Z Y de rfl (cs := [iv x.signer, iv x.holder, iv x.rf, iv x.rt, iv x.carrier, iv x.serial, iv x.sf, iv x.st, sv x.sig]) rfl ?_
 clear Z Y
 intro a w1 Z Y
 refine aH Z Y de (zeroValue41 _) (cs := [iv 0, iv 0, iv 0, iv 0, iv 0, iv 0, iv 0, iv 0, .string (⟨#[]⟩)]) rfl ?_
 clear Z Y
 intro a w2 Z Y
 refine wla Z rfl fun a Z => ab (hK1 _ _ <| aa fun K2 hK2 => ?_)
 refine wlv Z (ai (Y.g 1 rfl) rfl (isAgg41 _) (sizeOf41 _)) fun a Z => aH Z Y de (zeroValue41 _) (cs := [iv 0, iv 0, iv 0, iv 0, iv 0, iv 0, iv 0, iv 0, .string (⟨#[]⟩)]) rfl ?_
 clear Z Y
 intro a w3 Z Y
 refine am 0 Z Y rfl rfl rfl (sizeOf41 _) rfl (lb rfl) (ds := [iv x.signer, iv x.holder, iv x.rf, iv x.rt, iv x.carrier, iv x.serial, iv x.sf, iv x.st, sv x.sig]) rfl rfl ?_
 clear Z Y
 intro a w4 Z Y
 refine ab (hK2 _ _ <| ah fun K3 hK3 => ?_)
 refine aa fun K4 hK4 => wlm Z rfl fun a Z => aA Z Y de call33 rfl (cw how 9 _ (by first | assumption | omega) om) ?_
 clear Z Y
 intro a w5 Z Y
 refine ab (hK4 _ _ ?_)
 refine cO (fun a w => ∃ (o : Wsh), (bentW x how n = o) ∧ Fr 58 [(3, pt w0.hz), (6, pt w1.hz), (7, .bool false), (8, pt w2.hz)] [] a ∧ St No w0 [blk w2.hz [iv o.signer, iv o.holder, iv o.rf, iv o.rt, iv o.carrier, iv o.serial, iv o.sf, iv o.st, sv o.sig] 41, blk w1.hz [iv 0, iv 0, iv 0, iv 0, iv 0, iv 0, iv 0, iv 0, .string (⟨#[]⟩)] 41, blk w0.hz [iv x.signer, iv x.holder, iv x.rf, iv x.rt, iv x.carrier, iv x.serial, iv x.sf, iv x.st, sv x.sig] 41] w) ?_ ?_
 ·refine ay <| aa fun K5 hK5 => wlv Z (v_eq rfl rfl) fun a Z => wla Z rfl fun a Z => ab (hK5 _ _ ?_)
  refine ax Z rfl (fun hc1 => ?_) (fun hc1 => ?_)
  ·rw [hc1] at Z
   try simp only [qz] at hc1
   refine ar <| wlm Z rfl fun a Z => wlv Z (ac (v := pt w2.hz) rfl kr) fun a Z => am 0 Z Y rfl rfl rfl (sizeOf3 _) rfl (lb rfl) (ds := [iv n, iv x.holder, iv x.rf, iv x.rt, iv x.carrier, iv x.serial, iv x.sf, iv x.st, sv x.sig]) rfl rfl ?_
   clear Z Y
   intro a w6 Z Y
   refine ab ?_
   exact ⟨⟨n, x.holder, x.rf, x.rt, x.carrier, x.serial, x.sf, x.st, x.sig⟩, (by unfold bentW; simp [hc1]), Z.pick [3, 6, 7, 8], Y.select [0, 1, 2] de⟩
  rw [hc1] at Z
  try simp only [qz] at hc1
  refine aa fun K6 hK6 => wlv Z (v_eq rfl rfl) fun a Z => wla Z rfl fun a Z => ab (hK6 _ _ ?_)
  replace Z := Z.p7 2 3 6 7 8 11 22 rfl
  refine ax Z rfl (fun hc2 => ?_) (fun hc2 => ?_)
  ·rw [hc2] at Z
   try simp only [qz] at hc2
   refine ar <| wlm Z rfl fun a Z => wlv Z (ac (v := po w2.hz 1) rfl kr) fun a Z => am 0 Z Y rfl rfl rfl (sizeOf3 _) rfl (lb rfl) (ds := [iv x.signer, iv n, iv x.rf, iv x.rt, iv x.carrier, iv x.serial, iv x.sf, iv x.st, sv x.sig]) rfl rfl ?_
   clear Z Y
   intro a w7 Z Y
   refine ab ?_
   exact ⟨⟨x.signer, n, x.rf, x.rt, x.carrier, x.serial, x.sf, x.st, x.sig⟩, (by unfold bentW; simp [hc1, hc2]), Z.pick [3, 6, 7, 8], Y.select [0, 1, 2] de⟩
  rw [hc2] at Z
  try simp only [qz] at hc2
  refine aa fun K7 hK7 => wlv Z (v_eq rfl rfl) fun a Z => wla Z rfl fun a Z => ab (hK7 _ _ ?_)
  refine ax Z rfl (fun hc3 => ?_) (fun hc3 => ?_)
  ·rw [hc3] at Z
   try simp only [qz] at hc3
   refine ar <| wlm Z rfl fun a Z => wlv Z (ac (v := po w2.hz 2) rfl kr) fun a Z => wlv Z (ac (v := po w2.hz 2) rfl kr) fun a Z => am 0 Z Y rfl rfl rfl (sizeOf3 _) rfl (lb rfl) (ds := [iv x.signer, iv x.holder, iv n, iv x.rt, iv x.carrier, iv x.serial, iv x.sf, iv x.st, sv x.sig]) rfl rfl ?_
   clear Z Y
   intro a w8 Z Y
   refine ab ?_
   exact ⟨⟨x.signer, x.holder, n, x.rt, x.carrier, x.serial, x.sf, x.st, x.sig⟩, (by unfold bentW; simp [hc1, hc2, hc3]), Z.pick [3, 6, 7, 8], Y.select [0, 1, 2] de⟩
  rw [hc3] at Z
  try simp only [qz] at hc3
  refine aa fun K8 hK8 => wlv Z (v_eq rfl rfl) fun a Z => wla Z rfl fun a Z => ab (hK8 _ _ ?_)
  refine ax Z rfl (fun hc4 => ?_) (fun hc4 => ?_)
  ·rw [hc4] at Z
   try simp only [qz] at hc4
   refine ar <| wlm Z rfl fun a Z => wlv Z (ac (v := po w2.hz 2) rfl kr) fun a Z => wlv Z (ac (v := po w2.hz 3) rfl kr) fun a Z => am 0 Z Y rfl rfl rfl (sizeOf3 _) rfl (lb rfl) (ds := [iv x.signer, iv x.holder, iv x.rf, iv n, iv x.carrier, iv x.serial, iv x.sf, iv x.st, sv x.sig]) rfl rfl ?_
   clear Z Y
   intro a w9 Z Y
   refine ab ?_
   exact ⟨⟨x.signer, x.holder, x.rf, n, x.carrier, x.serial, x.sf, x.st, x.sig⟩, (by unfold bentW; simp [hc1, hc2, hc3, hc4]), Z.pick [3, 6, 7, 8], Y.select [0, 1, 2] de⟩
  rw [hc4] at Z
  try simp only [qz] at hc4
  refine aa fun K9 hK9 => wlv Z (v_eq rfl rfl) fun a Z => wla Z rfl fun a Z => ab (hK9 _ _ ?_)
  replace Z := Z.p7 2 3 6 7 8 11 36 rfl
  refine ax Z rfl (fun hc5 => ?_) (fun hc5 => ?_)
  ·rw [hc5] at Z
   try simp only [qz] at hc5
   refine ar <| wlm Z rfl fun a Z => wlv Z (ac (v := po w2.hz 4) rfl kr) fun a Z => am 0 Z Y rfl rfl rfl (sizeOf3 _) rfl (lb rfl) (ds := [iv x.signer, iv x.holder, iv x.rf, iv x.rt, iv n, iv x.serial, iv x.sf, iv x.st, sv x.sig]) rfl rfl ?_
   clear Z Y
   intro a w10 Z Y
   refine ab ?_
   exact ⟨⟨x.signer, x.holder, x.rf, x.rt, n, x.serial, x.sf, x.st, x.sig⟩, (by unfold bentW; simp [hc1, hc2, hc3, hc4, hc5]), Z.pick [3, 6, 7, 8], Y.select [0, 1, 2] de⟩
  rw [hc5] at Z
  try simp only [qz] at hc5
  refine aa fun K10 hK10 => wlv Z (v_eq rfl rfl) fun a Z => wla Z rfl fun a Z => ab (hK10 _ _ ?_)
  refine ax Z rfl (fun hc6 => ?_) (fun hc6 => ?_)
  ·rw [hc6] at Z
   try simp only [qz] at hc6
   refine ar <| wlm Z rfl fun a Z => wlv Z (ac (v := po w2.hz 5) rfl kr) fun a Z => am 0 Z Y rfl rfl rfl (sizeOf3 _) rfl (lb rfl) (ds := [iv x.signer, iv x.holder, iv x.rf, iv x.rt, iv x.carrier, iv n, iv x.sf, iv x.st, sv x.sig]) rfl rfl ?_
   clear Z Y
   intro a w11 Z Y
   refine ab ?_
   exact ⟨⟨x.signer, x.holder, x.rf, x.rt, x.carrier, n, x.sf, x.st, x.sig⟩, (by unfold bentW; simp [hc1, hc2, hc3, hc4, hc5, hc6]), Z.pick [3, 6, 7, 8], Y.select [0, 1, 2] de⟩
  rw [hc6] at Z
  try simp only [qz] at hc6
  refine aa fun K11 hK11 => wlv Z (v_eq rfl rfl) fun a Z => wla Z rfl fun a Z => ab (hK11 _ _ ?_)
  refine ax Z rfl (fun hc7 => ?_) (fun hc7 => ?_)
  ·rw [hc7] at Z
   try simp only [qz] at hc7
   refine ar <| wlm Z rfl fun a Z => wlv Z (ac (v := po w2.hz 6) rfl kr) fun a Z => wlv Z (ac (v := po w2.hz 6) rfl kr) fun a Z => am 0 Z Y rfl rfl rfl (sizeOf3 _) rfl (lb rfl) (ds := [iv x.signer, iv x.holder, iv x.rf, iv x.rt, iv x.carrier, iv x.serial, iv n, iv x.st, sv x.sig]) rfl rfl ?_
   clear Z Y
   intro a w12 Z Y
   refine ab ?_
   exact ⟨⟨x.signer, x.holder, x.rf, x.rt, x.carrier, x.serial, n, x.st, x.sig⟩, (by unfold bentW; simp [hc1, hc2, hc3, hc4, hc5, hc6, hc7]), Z.pick [3, 6, 7, 8], Y.select [0, 1, 2] de⟩
  rw [hc7] at Z
  try simp only [qz] at hc7
  refine aa fun K12 hK12 => wlv Z (v_eq rfl rfl) fun a Z => wla Z rfl fun a Z => ab (hK12 _ _ ?_)
  replace Z := Z.p6 2 3 6 7 8 49 rfl
  refine ax Z rfl (fun hc8 => ?_) (fun hc8 => ?_)
  ·rw [hc8] at Z
   try simp only [qz] at hc8
   refine ar <| wlm Z rfl fun a Z => wlv Z (ac (v := po w2.hz 6) rfl kr) fun a Z => wlv Z (ac (v := po w2.hz 7) rfl kr) fun a Z => am 0 Z Y rfl rfl rfl (sizeOf3 _) rfl (lb rfl) (ds := [iv x.signer, iv x.holder, iv x.rf, iv x.rt, iv x.carrier, iv x.serial, iv x.sf, iv n, sv x.sig]) rfl rfl ?_
   clear Z Y
   intro a w13 Z Y
   refine ab ?_
   exact ⟨⟨x.signer, x.holder, x.rf, x.rt, x.carrier, x.serial, x.sf, n, x.sig⟩, (by unfold bentW; simp [hc1, hc2, hc3, hc4, hc5, hc6, hc7, hc8]), Z.pick [3, 6, 7, 8], Y.select [0, 1, 2] de⟩
  rw [hc8] at Z
  try simp only [qz] at hc8
  refine ar <| wlv Z (ac (v := po w2.hz 2) rfl kr) fun a Z => wlv Z (ac (v := po w2.hz 3) rfl kr) fun a Z => wlv Z (ld Y 0 rfl rfl (isAgg3 _) rfl) fun a Z => wlv Z (aS rfl rfl ⟨om, om⟩) fun a Z => wlv Z (ac (v := po w2.hz 2) rfl kr) fun a Z => wlv Z (ac (v := po w2.hz 3) rfl kr) fun a Z => am 0 Z Y rfl rfl rfl (sizeOf3 _) rfl (lb rfl) (ds := [iv x.signer, iv x.holder, iv x.rf, iv (x.rt + 1), iv x.carrier, iv x.serial, iv x.sf, iv x.st, sv x.sig]) rfl rfl ?_
  clear Z Y
  intro a w14 Z Y
  refine ab ?_
  exact ⟨⟨x.signer, x.holder, x.rf, x.rt + 1, x.carrier, x.serial, x.sf, x.st, x.sig⟩, (by unfold bentW; simp [hc1, hc2, hc3, hc4, hc5, hc6, hc7, hc8]), Z.pick [3, 6, 7, 8], Y.select [0, 1, 2] de⟩
 rintro a w15 ⟨o, ho, Z, Y⟩
 refine hK3 _ _ <| ah fun K13 hK13 => aK kr (aU kr fun w16 hxz => ?_)
 replace Y := Y.grow hxz
 refine aV (k := 0) 5 [3, 4] Z kr kr kr rfx ?_
 replace Z := Z.p4 3 6 7 8 rfl
 replace Y : St No w0 [blk w1.hz [iv 0, iv 0, iv 0, iv 0, iv 0, iv 0, iv 0, iv 0, .string (⟨#[]⟩)] 41, blk w2.hz [iv o.signer, iv o.holder, iv o.rf, iv o.rt, iv o.carrier, iv o.serial, iv o.sf, iv o.st, sv o.sig] 41, blk w0.hz [iv x.signer, iv x.holder, iv x.rf, iv x.rt, iv x.carrier, iv x.serial, iv x.sf, iv x.st, sv x.sig] 41] w16 := Y.select [1, 0, 2] de
 refine dA [4] (fun q => if q = 4 then blk w1.hz [iv 0, iv 0, iv 0, iv 0, iv 0, iv 0, iv 0, iv 0, .string (⟨#[]⟩)] 41 else join []) (fun q => if q = 4 then blk w1.hz [iv o.signer, iv o.holder, iv o.rf, iv o.rt, iv o.carrier, iv o.serial, iv o.sf, iv o.st, sv o.sig] 41 else join []) 5 [[], [], [], [1, 2], [0]] (fun i => match i with | 0 => pv (.agg #[iv o.signer, iv o.holder, iv o.rf, iv o.rt, iv o.carrier, iv o.serial, iv o.sf, iv o.st, sv o.sig]) | 1 => pv (.agg #[iv o.signer, iv o.holder, iv o.rf, iv o.rt, iv o.carrier, iv o.serial, iv o.sf, iv o.st, sv o.sig]) | 2 => pv (.agg #[iv x.signer, iv x.holder, iv x.rf, iv x.rt, iv x.carrier, iv x.serial, iv x.sf, iv x.st, sv x.sig]) | 3 => pv (.bool (!(decide (o = x)))) | 4 => fun v E => v = undef ∧ E = [] | _ => fun _ _ => False) (by intro q; by_cases h4 : q = 4; (subst h4; rfl); simp only [h4, if_false]) Z (H := [blk w2.hz [iv o.signer, iv o.holder, iv o.rf, iv o.rt, iv o.carrier, iv o.serial, iv o.sf, iv o.st, sv o.sig] 41, blk w0.hz [iv x.signer, iv x.holder, iv x.rf, iv x.rt, iv x.carrier, iv x.serial, iv x.sf, iv x.st, sv x.sig] 41]) Y kr kr kr kr de de ?_ ?_ ?_ ?_ ?_ ?_
 ·intro i v E h
  match i, h with
  | 0, _ => exact by decide
  | 1, _ => exact by decide
  | 2, _ => exact by decide
  | 3, _ => exact by decide
  | 4, _ => exact by decide
  | i + 5, h => exact h.elim
 ·intro q v E hq h
  simp only [List.mem_cons, List.not_mem_nil, or_false] at hq
  rcases hq with rfl <;> exact h
 ·intro q hq
  simp only [List.mem_cons, List.not_mem_nil, or_false] at hq
  rcases hq with rfl <;> exact ⟨rfl, rfl⟩
 ·intro i hi hiq e
  match i, hi, hiq with
  | 0, _, _ => exact fun w Y => OpV.g (ai (Y.g 1 rfl) rfl (isAgg41 _) (sizeOf41 _))
  | 1, _, _ => exact fun w Y => OpV.g (ai (Y.g 1 rfl) rfl (isAgg41 _) (sizeOf41 _))
  | 2, _, _ => exact fun w Y => OpV.g (ai (Y.g 2 rfl) rfl (isAgg41 _) (sizeOf41 _))
  | 3, _, _ =>
   rintro _ _ ⟨rfl, rfl⟩ _ _ ⟨rfl, rfl⟩
   intro w Y
   exact OpV.g ((io rfl rfl kr (eqWsh o.signer o.holder o.rf o.rt o.carrier o.serial o.sf o.st o.sig x.signer x.holder x.rf x.rt x.carrier x.serial x.sf x.st x.sig _)).asb (b' := !(decide (o = x))) rfx)
  | 4, _, h => exact absurd de h
 ·intro q hq
  simp only [List.mem_cons, List.not_mem_nil, or_false] at hq
  rcases hq with rfl
  ·rintro _ _ ⟨rfl, rfl⟩
   intro w h
   exact cA (cs := [iv 0, iv 0, iv 0, iv 0, iv 0, iv 0, iv 0, iv 0, .string (⟨#[]⟩)]) (ds := [iv o.signer, iv o.holder, iv o.rf, iv o.rt, iv o.carrier, iv o.serial, iv o.sf, iv o.st, sv o.sig]) rfl rfl h (sizeOf41 _) rfl (lb rfl) rfl
 clear Z Y
 rintro _ _ ⟨rfl, rfl⟩ _ _ ⟨rfl, rfl⟩ _ _ ⟨rfl, rfl⟩ _ _ ⟨rfl, rfl⟩ a w17 Z Y
 replace Z := Z.p8 54 55 56 57 3 6 7 8 rfl
 replace Y : St No w0 [_, _, _] w17 := Y
 refine ab <| aP (k := 5) 6 [5] kr kr kr ?_
 refine wla Z rfl fun a Z => ab <| bt kr ?_
 refine hK13 _ _ ?_
 replace Z := Z.p2 6 7 rfl
 replace Y := Y.k1 1 rfl
 refine ap ?_
 refine aj Z results10 (aB rfl (bB (Y.g 0 rfl) (isAgg41 _) (sizeOf41 _)) (ae rfl ag)) ?_
 rw [ho]
 exact ⟨rfl, Y.ext⟩
end Go.Proofs.YtncbabejopafjaaGreatDoor
