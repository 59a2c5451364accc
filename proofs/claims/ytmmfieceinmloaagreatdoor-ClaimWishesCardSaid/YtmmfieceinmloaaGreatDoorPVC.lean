/- Texts joined: RefB, RefC, WirA, WshA, WshB, WshC. -/
import Derived.Test.YtmmfieceinmloaaGreatDoorPVB
import Derived.Test.YtmmfieceinmloaaGreatDoorPVA
namespace Go.Proofs.YtmmfieceinmloaaGreatDoor
open Go.RowKit Go.PW
set_option linter.unusedVariables false
set_option linter.unusedSimpArgs false
set_option maxRecDepth 4000
theorem cZ (x : Wd) (n : Nat) (w0 : World) (hn : 0 < n) (hn2 : n < 32) : Ret Tryz.prog 149 #[wv x, iv (n : Int)] w0 fun v w => v = wv (ror x n) ∧ Ext No w0 w := by
 have := kI x n w0 hn hn2
 rw [show (x >>> n) ||| (x <<< (32 - n)) = ror x n from BitVec.or_comm _ _] at this
 exact this
theorem mix2 (x : Wd) (a b : Nat) : mix x [a, b] = ror x a ^^^ ror x b := by simp [mix]
theorem mix3 (x : Wd) (a b c : Nat) : mix x [a, b, c] = ror x a ^^^ ror x b ^^^ ror x c := by simp [mix]
theorem iW (bs : List UInt8) {j : Nat} : ∀ {i : Nat}, j < i → (d : Nat) → (sch bs (i + d)).getD j 0#32 = (sch bs i).getD j 0#32
 | i, h, 0 => rfl
 | i, h, d + 1 => by
  have e : sch bs (i + (d + 1)) = (sch bs (i + d)).set (i + d) (if i + d < 16 then be bs (i + d) else nx (sch bs (i + d)) (i + d)) := rfl
  rw [e, List.getD_eq_getElem?_getD, List.getElem?_set_ne (by omega), ← List.getD_eq_getElem?_getD]
  exact iW bs h d
theorem mf (bs : List UInt8) {j : Nat} (h : j < 64) : (sch bs 64).getD j 0#32 = if j < 16 then be bs j else nx (sch bs j) j := by
 have := iW bs (j := j) (i := j + 1) (by omega) (63 - j)
 rw [show j + 1 + (63 - j) = 64 from by omega] at this
 rw [this, sch, List.getD_eq_getElem?_getD, List.getElem?_set_self (by rw [aG]; omega)]; rfl
theorem iI (bs : List UInt8) {i j : Nat} (h : i < j) (hj : j ≤ 64) : (sch bs j).getD i 0#32 = (sch bs 64).getD i 0#32 := by
 have := iW bs h (64 - j)
 rw [show j + (64 - j) = 64 from by omega] at this
 exact this.symm
theorem lT (bs : List UInt8) {k : Nat} (h : k < 16) : (sch bs 64).take (k + 1) = (sch bs 64).take k ++ [be bs k] := by
 rw [cE 0#32 (by rw [aG]; omega), mf bs (by omega), if_pos h]
theorem lD (bs : List UInt8) {j : Nat} (h : 16 ≤ j) (hj : j < 64) : (sch bs 64).take (j + 1) = (sch bs 64).take j ++ [((((sch bs 64).take j).getD (j - 16) 0#32 + (ror (((sch bs 64).take j).getD (j - 15) 0#32) 7 ^^^ ror (((sch bs 64).take j).getD (j - 15) 0#32) 18 ^^^ ((sch bs 64).take j).getD (j - 15) 0#32 >>> 3)) + ((sch bs 64).take j).getD (j - 7) 0#32) + (ror (((sch bs 64).take j).getD (j - 2) 0#32) 17 ^^^ ror (((sch bs 64).take j).getD (j - 2) 0#32) 19 ^^^ ((sch bs 64).take j).getD (j - 2) 0#32 >>> 10)] := by
 rw [cE 0#32 (by rw [aG]; omega), mf bs (by omega), if_neg (by omega), nx, mix2, mix2]
 rw [iI bs (i := j - 16) (j := j) (by omega) (by omega), iI bs (i := j - 15) (j := j) (by omega) (by omega), iI bs (i := j - 7) (j := j) (by omega) (by omega), iI bs (i := j - 2) (j := j) (by omega) (by omega)]
 rw [eI _ (by omega), eI _ (by omega), eI _ (by omega), eI _ (by omega)]
theorem mT (x y : W8) {q : Nat} (h : q < 8) : (x.add y).l.take (q + 1) = (x.add y).l.take q ++ [x.l.getD q 0#32 + y.l.getD q 0#32] := by
 rw [cE 0#32 (by exact h)]
 congr 2
 have : q = 0 ∨ q = 1 ∨ q = 2 ∨ q = 3 ∨ q = 4 ∨ q = 5 ∨ q = 6 ∨ q = 7 := by omega
 rcases this with rfl | rfl | rfl | rfl | rfl | rfl | rfl | rfl <;> rfl
set_option maxHeartbeats 4000000 in
theorem lH (hvv bv : Value) (hv : W8) (bs : List UInt8) (w0 : World) (hhv : SlAt w0 hvv 1 ((hv.l).map fun x => [wv x])) (hbv : SlAt w0 bv 1 (bs.map fun b => [yv b])) (hbl : bs.length = 64) :
  Ret Tryz.prog 131 #[hvv, bv] w0 (MemR w0 (fun v : Value => v) (fun v => [own v 191 1 (((block hv bs).l).map fun x => [wv x])]) (fun _ => True)) := by
 refine aD Tryz.func131 rfl Tryz.ntmps131 (lb rfl) fun a Z => ?_
 replace Z : Fr 238 [(0, _), (1, _)] [] a := Z
 replace Y : St No w0 [] w0 := St.init w0
 refine aa fun K1 hK1 => wla Z rfl fun a Z => ab (hK1 _ _ <| aa fun K2 hK2 => ?_)
 refine wla Z rfl fun a Z => ab (hK2 _ _ <| ai fun K3 hK3 => ?_)
 refine aa fun K4 hK4 => wla Z rfl fun a Z => ab (hK4 _ _ <| ax ?_)
 replace Y : St No w0 [own (.slice none 0 0) 191 1 (((sch bs 64).take 0).map fun x => [wv x])] w0 := Y.nil_own
 refine bf (fun m a w => ∃ (k : Nat) (u : Value), m = 16 - k ∧ (k ≤ 16) ∧ Fr 238 [(0, hvv), (1, bv), (4, .slice none 0 0), (5, u), (6, iv (k : Int))] [] a ∧ St No w0 [own u 191 1 (((sch bs 64).take k).map fun x => [wv x])] w) _ ⟨0, .slice none 0 0, rfl, Nat.zero_le _, Z.pick [0, 1, 4, 5, 6], Y.select [0] (by decide)⟩ ?_
 rintro _ a w1 ⟨k, u, rfl, hk, Z, Y⟩
 refine ai fun K5 hK5 => aa fun K6 hK6 => wlm Z rfl fun a Z => wlv Z (v_lt rfl rfl) fun a Z => ab (hK6 _ _ ?_)
 refine aB Z rfl (fun hc1 => ?_) (fun hc1 => ?_)
 ·rw [hc1] at Z
  try simp only [qz] at hc1
  refine ay <| hK5 _ _ <| ai fun K7 hK7 => ax <| aK (by kernel_rfl) (aO (by kernel_rfl) fun w2 hxz => ?_)
  replace Y := Y.grow hxz
  refine aV (k := 0) 35 [0, 34] Z (by kernel_rfl) (by kernel_rfl) (by kernel_rfl) (by rfl) ?_
  replace Z : Fr 238 [(0, _), (1, _), (4, _), (5, _), (6, _), (19, _), (20, _)] [] a := Z.pick [0, 1, 4, 5, 6, 19, 20]
  refine aL [34] (fun i => match i with | 34 => pm (fun b : Nat => .slice (some ⟨b, 0, none⟩) 1 1) (fun b => [own (.slice (some ⟨b, 0, none⟩) 1 1) 191 1 [[wv (((((BitVec.ofNat 32 (bs.getD (4 * k) 0).toNat) <<< 24) ||| ((BitVec.ofNat 32 (bs.getD (4 * k + 1) 0).toNat) <<< 16)) ||| ((BitVec.ofNat 32 (bs.getD (4 * k + 2) 0).toNat) <<< 8)) ||| (BitVec.ofNat 32 (bs.getD (4 * k + 3) 0).toNat))]]]) (fun _ => True) | _ => fun _ _ => False) 35 [[], [], [], [2], [1, 3], [4], [5], [6], [], [], [9], [10], [8, 11], [12], [13], [14], [7, 15], [], [], [18], [19], [17, 20], [21], [22], [23], [16, 24], [], [], [27], [28], [26, 29], [30], [31], [25, 32], [33]] [u, bv, iv (k : Int), iv (4 * (k : Int)), slAddr bv ((4 * k) * 1), yv (bs.getD (4 * k) 0), wv (BitVec.ofNat 32 (bs.getD (4 * k) 0).toNat), wv ((BitVec.ofNat 32 (bs.getD (4 * k) 0).toNat) <<< 24), bv, iv (k : Int), iv (4 * (k : Int)), iv ((4 * (k : Int)) + 1), slAddr bv ((4 * k + 1) * 1), yv (bs.getD (4 * k + 1) 0), wv (BitVec.ofNat 32 (bs.getD (4 * k + 1) 0).toNat), wv ((BitVec.ofNat 32 (bs.getD (4 * k + 1) 0).toNat) <<< 16), wv (((BitVec.ofNat 32 (bs.getD (4 * k) 0).toNat) <<< 24) ||| ((BitVec.ofNat 32 (bs.getD (4 * k + 1) 0).toNat) <<< 16)), bv, iv (k : Int), iv (4 * (k : Int)), iv ((4 * (k : Int)) + 2), slAddr bv ((4 * k + 2) * 1), yv (bs.getD (4 * k + 2) 0), wv (BitVec.ofNat 32 (bs.getD (4 * k + 2) 0).toNat), wv ((BitVec.ofNat 32 (bs.getD (4 * k + 2) 0).toNat) <<< 8), wv ((((BitVec.ofNat 32 (bs.getD (4 * k) 0).toNat) <<< 24) ||| ((BitVec.ofNat 32 (bs.getD (4 * k + 1) 0).toNat) <<< 16)) ||| ((BitVec.ofNat 32 (bs.getD (4 * k + 2) 0).toNat) <<< 8)), bv, iv (k : Int), iv (4 * (k : Int)), iv ((4 * (k : Int)) + 3), slAddr bv ((4 * k + 3) * 1), yv (bs.getD (4 * k + 3) 0), wv (BitVec.ofNat 32 (bs.getD (4 * k + 3) 0).toNat), wv (((((BitVec.ofNat 32 (bs.getD (4 * k) 0).toNat) <<< 24) ||| ((BitVec.ofNat 32 (bs.getD (4 * k + 1) 0).toNat) <<< 16)) ||| ((BitVec.ofNat 32 (bs.getD (4 * k + 2) 0).toNat) <<< 8)) ||| (BitVec.ofNat 32 (bs.getD (4 * k + 3) 0).toNat)), undef] Z Y (by kernel_rfl) (by kernel_rfl) (by kernel_rfl) ?_ ?_ ?_
  ·intro i hi hiq
   match i, hi, hiq with
   | 0, _, _ =>
    intro w Y
    exact OpV.g (aj rfl)
   | 1, _, _ =>
    intro w Y
    exact OpV.g (aj rfl)
   | 2, _, _ =>
    intro w Y
    exact OpV.g (aj rfl)
   | 3, _, _ =>
    intro w Y
    exact OpV.g (dB rfl rfl ⟨by omega, by omega⟩)
   | 4, _, _ =>
    intro w Y
    exact OpV.g ((am (i := 4 * (k : Int)) (sT := 62) (Y.arg hbv) rfl rfl (Tryz.runUnderlying62 _) (Tryz.sizeOf5 _) (by omega) (by rw [List.length_map]; first | omega | (rw [aG]; omega) | (rw [List.length_take, aG]; omega) | (rw [W8.l_len]; omega) | (rw [bu]; omega))).as (v' := slAddr bv ((4 * k) * 1)) (by rw [show (4 * (k : Int)).toNat = (4 * k) from by omega]))
   | 5, _, _ =>
    intro w Y
    exact OpV.g (aC (u := yv (bs.getD (4 * k) 0)) (i := (4 * k)) (j := 0) (Y.arg hbv) (by rw [List.length_map]; first | omega | (rw [aG]; omega) | (rw [List.length_take, aG]; omega) | (rw [W8.l_len]; omega) | (rw [bu]; omega)) rfl (Tryz.isAgg5 _) (by simp [List.getD_eq_getElem?_getD, List.getElem?_eq_getElem (show (4 * k) < bs.length by omega)]))
   | 6, _, _ =>
    intro w Y
    exact OpV.g (cL rfl (by kernel_rfl) Tryz.underlying191)
   | 7, _, _ =>
    intro w Y
    exact OpV.g (et (n := 24) rfl rfl)
   | 8, _, _ =>
    intro w Y
    exact OpV.g (aj rfl)
   | 9, _, _ =>
    intro w Y
    exact OpV.g (aj rfl)
   | 10, _, _ =>
    intro w Y
    exact OpV.g (dB rfl rfl ⟨by omega, by omega⟩)
   | 11, _, _ =>
    intro w Y
    exact OpV.g (aM rfl rfl ⟨by omega, by omega⟩)
   | 12, _, _ =>
    intro w Y
    exact OpV.g ((am (i := (4 * (k : Int)) + 1) (sT := 62) (Y.arg hbv) rfl rfl (Tryz.runUnderlying62 _) (Tryz.sizeOf5 _) (by omega) (by rw [List.length_map]; first | omega | (rw [aG]; omega) | (rw [List.length_take, aG]; omega) | (rw [W8.l_len]; omega) | (rw [bu]; omega))).as (v' := slAddr bv ((4 * k + 1) * 1)) (by rw [show ((4 * (k : Int)) + 1).toNat = (4 * k + 1) from by omega]))
   | 13, _, _ =>
    intro w Y
    exact OpV.g (aC (u := yv (bs.getD (4 * k + 1) 0)) (i := (4 * k + 1)) (j := 0) (Y.arg hbv) (by rw [List.length_map]; first | omega | (rw [aG]; omega) | (rw [List.length_take, aG]; omega) | (rw [W8.l_len]; omega) | (rw [bu]; omega)) rfl (Tryz.isAgg5 _) (by simp [List.getD_eq_getElem?_getD, List.getElem?_eq_getElem (show (4 * k + 1) < bs.length by omega)]))
   | 14, _, _ =>
    intro w Y
    exact OpV.g (cL rfl (by kernel_rfl) Tryz.underlying191)
   | 15, _, _ =>
    intro w Y
    exact OpV.g (et (n := 16) rfl rfl)
   | 16, _, _ =>
    intro w Y
    exact OpV.g (fR rfl rfl)
   | 17, _, _ =>
    intro w Y
    exact OpV.g (aj rfl)
   | 18, _, _ =>
    intro w Y
    exact OpV.g (aj rfl)
   | 19, _, _ =>
    intro w Y
    exact OpV.g (dB rfl rfl ⟨by omega, by omega⟩)
   | 20, _, _ =>
    intro w Y
    exact OpV.g (aM rfl rfl ⟨by omega, by omega⟩)
   | 21, _, _ =>
    intro w Y
    exact OpV.g ((am (i := (4 * (k : Int)) + 2) (sT := 62) (Y.arg hbv) rfl rfl (Tryz.runUnderlying62 _) (Tryz.sizeOf5 _) (by omega) (by rw [List.length_map]; first | omega | (rw [aG]; omega) | (rw [List.length_take, aG]; omega) | (rw [W8.l_len]; omega) | (rw [bu]; omega))).as (v' := slAddr bv ((4 * k + 2) * 1)) (by rw [show ((4 * (k : Int)) + 2).toNat = (4 * k + 2) from by omega]))
   | 22, _, _ =>
    intro w Y
    exact OpV.g (aC (u := yv (bs.getD (4 * k + 2) 0)) (i := (4 * k + 2)) (j := 0) (Y.arg hbv) (by rw [List.length_map]; first | omega | (rw [aG]; omega) | (rw [List.length_take, aG]; omega) | (rw [W8.l_len]; omega) | (rw [bu]; omega)) rfl (Tryz.isAgg5 _) (by simp [List.getD_eq_getElem?_getD, List.getElem?_eq_getElem (show (4 * k + 2) < bs.length by omega)]))
   | 23, _, _ =>
    intro w Y
    exact OpV.g (cL rfl (by kernel_rfl) Tryz.underlying191)
   | 24, _, _ =>
    intro w Y
    exact OpV.g (et (n := 8) rfl rfl)
   | 25, _, _ =>
    intro w Y
    exact OpV.g (fR rfl rfl)
   | 26, _, _ =>
    intro w Y
    exact OpV.g (aj rfl)
   | 27, _, _ =>
    intro w Y
    exact OpV.g (aj rfl)
   | 28, _, _ =>
    intro w Y
    exact OpV.g (dB rfl rfl ⟨by omega, by omega⟩)
   | 29, _, _ =>
    intro w Y
    exact OpV.g (aM rfl rfl ⟨by omega, by omega⟩)
   | 30, _, _ =>
    intro w Y
    exact OpV.g ((am (i := (4 * (k : Int)) + 3) (sT := 62) (Y.arg hbv) rfl rfl (Tryz.runUnderlying62 _) (Tryz.sizeOf5 _) (by omega) (by rw [List.length_map]; first | omega | (rw [aG]; omega) | (rw [List.length_take, aG]; omega) | (rw [W8.l_len]; omega) | (rw [bu]; omega))).as (v' := slAddr bv ((4 * k + 3) * 1)) (by rw [show ((4 * (k : Int)) + 3).toNat = (4 * k + 3) from by omega]))
   | 31, _, _ =>
    intro w Y
    exact OpV.g (aC (u := yv (bs.getD (4 * k + 3) 0)) (i := (4 * k + 3)) (j := 0) (Y.arg hbv) (by rw [List.length_map]; first | omega | (rw [aG]; omega) | (rw [List.length_take, aG]; omega) | (rw [W8.l_len]; omega) | (rw [bu]; omega)) rfl (Tryz.isAgg5 _) (by simp [List.getD_eq_getElem?_getD, List.getElem?_eq_getElem (show (4 * k + 3) < bs.length by omega)]))
   | 32, _, _ =>
    intro w Y
    exact OpV.g (cL rfl (by kernel_rfl) Tryz.underlying191)
   | 33, _, _ =>
    intro w Y
    exact OpV.g (fR rfl rfl)
   | 34, _, h => exact absurd (by simp) h
   | i + 35, h, _ => exact absurd h (by omega)
  ·intro i hi
   simp only [List.mem_cons, List.not_mem_nil, or_false] at hi
   subst hi
   ·intro w Y
    exact bV (E := 191) (sz := 1) rfl [[wv (((((BitVec.ofNat 32 (bs.getD (4 * k) 0).toNat) <<< 24) ||| ((BitVec.ofNat 32 (bs.getD (4 * k + 1) 0).toNat) <<< 16)) ||| ((BitVec.ofNat 32 (bs.getD (4 * k + 2) 0).toNat) <<< 8)) ||| (BitVec.ofNat 32 (bs.getD (4 * k + 3) 0).toNat))]] (fun _ => by kernel_rfl) (by simp) rfl (by decide)
  clear Z Y
  rintro _ _ ⟨b2, rfl, -, rfl⟩ a w3 Z Y
  replace Z : Fr 238 [(23, u), (24, bv), (25, iv (k : Int)), (26, iv (4 * (k : Int))), (27, slAddr bv ((4 * k) * 1)), (28, yv (bs.getD (4 * k) 0)), (29, wv (BitVec.ofNat 32 (bs.getD (4 * k) 0).toNat)), (30, wv ((BitVec.ofNat 32 (bs.getD (4 * k) 0).toNat) <<< 24)), (31, bv), (32, iv (k : Int)), (33, iv (4 * (k : Int))), (34, iv ((4 * (k : Int)) + 1)), (35, slAddr bv ((4 * k + 1) * 1)), (36, yv (bs.getD (4 * k + 1) 0)), (37, wv (BitVec.ofNat 32 (bs.getD (4 * k + 1) 0).toNat)), (38, wv ((BitVec.ofNat 32 (bs.getD (4 * k + 1) 0).toNat) <<< 16)), (39, wv (((BitVec.ofNat 32 (bs.getD (4 * k) 0).toNat) <<< 24) ||| ((BitVec.ofNat 32 (bs.getD (4 * k + 1) 0).toNat) <<< 16))), (40, bv), (41, iv (k : Int)), (42, iv (4 * (k : Int))), (43, iv ((4 * (k : Int)) + 2)), (44, slAddr bv ((4 * k + 2) * 1)), (45, yv (bs.getD (4 * k + 2) 0)), (46, wv (BitVec.ofNat 32 (bs.getD (4 * k + 2) 0).toNat)), (47, wv ((BitVec.ofNat 32 (bs.getD (4 * k + 2) 0).toNat) <<< 8)), (48, wv ((((BitVec.ofNat 32 (bs.getD (4 * k) 0).toNat) <<< 24) ||| ((BitVec.ofNat 32 (bs.getD (4 * k + 1) 0).toNat) <<< 16)) ||| ((BitVec.ofNat 32 (bs.getD (4 * k + 2) 0).toNat) <<< 8))), (49, bv), (50, iv (k : Int)), (51, iv (4 * (k : Int))), (52, iv ((4 * (k : Int)) + 3)), (53, slAddr bv ((4 * k + 3) * 1)), (54, yv (bs.getD (4 * k + 3) 0)), (55, wv (BitVec.ofNat 32 (bs.getD (4 * k + 3) 0).toNat)), (56, wv (((((BitVec.ofNat 32 (bs.getD (4 * k) 0).toNat) <<< 24) ||| ((BitVec.ofNat 32 (bs.getD (4 * k + 1) 0).toNat) <<< 16)) ||| ((BitVec.ofNat 32 (bs.getD (4 * k + 2) 0).toNat) <<< 8)) ||| (BitVec.ofNat 32 (bs.getD (4 * k + 3) 0).toNat))), (57, _), (0, _), (1, _), (4, _), (5, _), (6, _), (19, _), (20, _)] [] a := Z
  replace Y : St No w0 [_, _] w3 := Y
  refine ab <| aP (k := 35) 37 [36] (by kernel_rfl) (by kernel_rfl) (by kernel_rfl) ?_
  refine bL (i := 1) (sT := 192) (inf := Tryz.t191) (z := wv (0#32)) (b := 0) (off := 0) (m := 0) (c := 0) rfl rfl rfl (Y.ownAt (i := 0) rfl) (by simp) Tryz.underlying192 rfl rfl rfl rfl (by decide) (by simp [Value.oneCell', yv, wv, sv]) (by have hby : Tryz.t191.bytes = 4 := rfl; simp only [big, hby, List.length_append, List.length_map, List.length_take, aG, W8.l_len, List.length_cons, List.length_nil]; omega) (by have hby : Tryz.t191.bytes = 4 := rfl; simp only [big, hby, List.length_append, List.length_map, List.length_take, aG, W8.l_len, List.length_cons, List.length_nil]; omega) (by decide) Z Y fun a w4 s3 Z Y _ => wla Z rfl fun a Z => ab <| bd (by kernel_rfl) ?_
  refine hK7 _ _ ?_
  replace Z : Fr 238 [(0, _), (1, _), (4, _), (6, _), (5, _)] [] a := Z.pick [0, 1, 4, 6, 5]
  replace Y : St No w0 [_] w4 := Y.mask [false, true]
  refine ar <| wlm Z rfl fun a Z => wlv Z (aM rfl rfl ⟨by omega, by omega⟩) fun a Z => wla Z rfl fun a Z => ab ?_
  rw [show (((sch bs 64).take k).map fun x => [wv x]) ++ ([[wv (((((BitVec.ofNat 32 (bs.getD (4 * k) 0).toNat) <<< 24) ||| ((BitVec.ofNat 32 (bs.getD (4 * k + 1) 0).toNat) <<< 16)) ||| ((BitVec.ofNat 32 (bs.getD (4 * k + 2) 0).toNat) <<< 8)) ||| (BitVec.ofNat 32 (bs.getD (4 * k + 3) 0).toNat))]]) = (((sch bs 64).take (k + 1)).map fun x => [wv x]) from by rw [lT bs (by omega)]; simp [be]] at Y
  refine ⟨_, ?_, k + 1, s3, rfl, (by omega), Z.pick [0, 1, 4, 5, 6], Y.select [0] (by decide)⟩
  omega
 rw [hc1] at Z
 try simp only [qz] at hc1
 obtain rfl : k = 16 := by omega
 refine aS <| hK3 _ _ <| ai fun K8 hK8 => aa fun K9 hK9 => wla Z rfl fun a Z => ab (hK9 _ _ <| ax ?_)
 refine bf (fun m a w => ∃ (j : Nat) (u : Value), m = 64 - j ∧ (16 ≤ j) ∧ (j ≤ 64) ∧ Fr 238 [(0, hvv), (4, .slice none 0 0), (5, u), (7, iv (j : Int))] [] a ∧ St No w0 [own u 191 1 (((sch bs 64).take j).map fun x => [wv x])] w) _ ⟨16, u, rfl, (by omega), (by omega), Z.pick [0, 4, 5, 7], Y.select [0] (by decide)⟩ ?_
 rintro _ a w5 ⟨j, u, rfl, hj, hj2, Z, Y⟩
 refine ai fun K10 hK10 => aa fun K11 hK11 => wlm Z rfl fun a Z => wlv Z (v_lt rfl rfl) fun a Z => ab (hK11 _ _ ?_)
 refine aB Z rfl (fun hc4 => ?_) (fun hc4 => ?_)
 ·rw [hc4] at Z
  try simp only [qz] at hc4
  refine ay <| hK10 _ _ <| ai fun K12 hK12 => ax <| ai fun K13 hK13 => aK (by kernel_rfl) (aO (by kernel_rfl) fun w6 hxz => ?_)
  replace Y := Y.grow hxz
  refine aV (k := 0) 19 [12, 18] Z (by kernel_rfl) (by kernel_rfl) (by kernel_rfl) (by rfl) ?_
  replace Z : Fr 238 [(0, _), (4, _), (5, _), (7, _), (59, _), (60, _)] [] a := Z.pick [0, 4, 5, 7, 59, 60]
  refine aL [] (fun i => match i with | _ => fun _ _ => False) 19 [[], [], [1], [0, 2], [3], [4], [], [], [7], [6, 8], [9], [10], [5, 11], [], [], [14], [13, 15], [16], [17]] [u, iv (j : Int), iv ((j : Int) - 15), slAddr u ((j - 15) * 1), wv (((sch bs 64).take j).getD (j - 15) 0#32), wv (ror (((sch bs 64).take j).getD (j - 15) 0#32) 7), u, iv (j : Int), iv ((j : Int) - 15), slAddr u ((j - 15) * 1), wv (((sch bs 64).take j).getD (j - 15) 0#32), wv (ror (((sch bs 64).take j).getD (j - 15) 0#32) 18), wv ((ror (((sch bs 64).take j).getD (j - 15) 0#32) 7) ^^^ (ror (((sch bs 64).take j).getD (j - 15) 0#32) 18)), u, iv (j : Int), iv ((j : Int) - 15), slAddr u ((j - 15) * 1), wv (((sch bs 64).take j).getD (j - 15) 0#32), wv ((((sch bs 64).take j).getD (j - 15) 0#32) >>> 3)] Z Y (by kernel_rfl) (by kernel_rfl) (by kernel_rfl) ?_ ?_ ?_
  ·intro i hi hiq
   match i, hi, hiq with
   | 0, _, _ =>
    intro w Y
    exact OpV.g (aj rfl)
   | 1, _, _ =>
    intro w Y
    exact OpV.g (aj rfl)
   | 2, _, _ =>
    intro w Y
    exact OpV.g (cm rfl rfl ⟨by omega, by omega⟩)
   | 3, _, _ =>
    intro w Y
    exact OpV.g ((am (i := (j : Int) - 15) (sT := 192) (Y.ownAt (i := 0) rfl) rfl rfl (Tryz.runUnderlying192 _) (Tryz.sizeOf191 _) (by omega) (by rw [List.length_map]; first | omega | (rw [aG]; omega) | (rw [List.length_take, aG]; omega) | (rw [W8.l_len]; omega) | (rw [bu]; omega))).as (v' := slAddr u ((j - 15) * 1)) (by rw [show ((j : Int) - 15).toNat = (j - 15) from by omega]))
   | 4, _, _ =>
    intro w Y
    exact OpV.g (aC (u := wv (((sch bs 64).take j).getD (j - 15) 0#32)) (i := (j - 15)) (j := 0) (Y.ownAt (i := 0) rfl) (by rw [List.length_map]; first | omega | (rw [aG]; omega) | (rw [List.length_take, aG]; omega) | (rw [W8.l_len]; omega) | (rw [bu]; omega)) rfl (Tryz.isAgg191 _) (by rw [ca 0#32]; rfl))
   | 5, _, _ =>
    intro w Y
    exact aU Tryz.call149 rfl (cZ (((sch bs 64).take j).getD (j - 15) 0#32) 7 _ (by decide) (by decide))
   | 6, _, _ =>
    intro w Y
    exact OpV.g (aj rfl)
   | 7, _, _ =>
    intro w Y
    exact OpV.g (aj rfl)
   | 8, _, _ =>
    intro w Y
    exact OpV.g (cm rfl rfl ⟨by omega, by omega⟩)
   | 9, _, _ =>
    intro w Y
    exact OpV.g ((am (i := (j : Int) - 15) (sT := 192) (Y.ownAt (i := 0) rfl) rfl rfl (Tryz.runUnderlying192 _) (Tryz.sizeOf191 _) (by omega) (by rw [List.length_map]; first | omega | (rw [aG]; omega) | (rw [List.length_take, aG]; omega) | (rw [W8.l_len]; omega) | (rw [bu]; omega))).as (v' := slAddr u ((j - 15) * 1)) (by rw [show ((j : Int) - 15).toNat = (j - 15) from by omega]))
   | 10, _, _ =>
    intro w Y
    exact OpV.g (aC (u := wv (((sch bs 64).take j).getD (j - 15) 0#32)) (i := (j - 15)) (j := 0) (Y.ownAt (i := 0) rfl) (by rw [List.length_map]; first | omega | (rw [aG]; omega) | (rw [List.length_take, aG]; omega) | (rw [W8.l_len]; omega) | (rw [bu]; omega)) rfl (Tryz.isAgg191 _) (by rw [ca 0#32]; rfl))
   | 11, _, _ =>
    intro w Y
    exact aU Tryz.call149 rfl (cZ (((sch bs 64).take j).getD (j - 15) 0#32) 18 _ (by decide) (by decide))
   | 12, _, _ =>
    intro w Y
    exact OpV.g (cA rfl rfl)
   | 13, _, _ =>
    intro w Y
    exact OpV.g (aj rfl)
   | 14, _, _ =>
    intro w Y
    exact OpV.g (aj rfl)
   | 15, _, _ =>
    intro w Y
    exact OpV.g (cm rfl rfl ⟨by omega, by omega⟩)
   | 16, _, _ =>
    intro w Y
    exact OpV.g ((am (i := (j : Int) - 15) (sT := 192) (Y.ownAt (i := 0) rfl) rfl rfl (Tryz.runUnderlying192 _) (Tryz.sizeOf191 _) (by omega) (by rw [List.length_map]; first | omega | (rw [aG]; omega) | (rw [List.length_take, aG]; omega) | (rw [W8.l_len]; omega) | (rw [bu]; omega))).as (v' := slAddr u ((j - 15) * 1)) (by rw [show ((j : Int) - 15).toNat = (j - 15) from by omega]))
   | 17, _, _ =>
    intro w Y
    exact OpV.g (aC (u := wv (((sch bs 64).take j).getD (j - 15) 0#32)) (i := (j - 15)) (j := 0) (Y.ownAt (i := 0) rfl) (by rw [List.length_map]; first | omega | (rw [aG]; omega) | (rw [List.length_take, aG]; omega) | (rw [W8.l_len]; omega) | (rw [bu]; omega)) rfl (Tryz.isAgg191 _) (by rw [ca 0#32]; rfl))
   | 18, _, _ =>
    intro w Y
    exact OpV.g (dF (n := 3) rfl rfl)
   | i + 19, h, _ => exact absurd h (by omega)
  ·intro i hi
   exact absurd hi (by simp)
  clear Z Y
  intro  a w7 Z Y
  replace Z : Fr 238 [(63, u), (64, iv (j : Int)), (65, iv ((j : Int) - 15)), (66, slAddr u ((j - 15) * 1)), (67, wv (((sch bs 64).take j).getD (j - 15) 0#32)), (68, wv (ror (((sch bs 64).take j).getD (j - 15) 0#32) 7)), (69, u), (70, iv (j : Int)), (71, iv ((j : Int) - 15)), (72, slAddr u ((j - 15) * 1)), (73, wv (((sch bs 64).take j).getD (j - 15) 0#32)), (74, wv (ror (((sch bs 64).take j).getD (j - 15) 0#32) 18)), (75, wv ((ror (((sch bs 64).take j).getD (j - 15) 0#32) 7) ^^^ (ror (((sch bs 64).take j).getD (j - 15) 0#32) 18))), (76, u), (77, iv (j : Int)), (78, iv ((j : Int) - 15)), (79, slAddr u ((j - 15) * 1)), (80, wv (((sch bs 64).take j).getD (j - 15) 0#32)), (81, wv ((((sch bs 64).take j).getD (j - 15) 0#32) >>> 3)), (0, _), (4, _), (5, _), (7, _), (59, _), (60, _)] [] a := Z
  refine ab <| aP (k := 19) 21 [20] (by kernel_rfl) (by kernel_rfl) (by kernel_rfl) ?_
  refine wlv Z (cA rfl rfl) fun a Z => wla Z rfl fun a Z => ab <| bd (by kernel_rfl) ?_
  refine hK13 _ _ ?_
  replace Z : Fr 238 [(0, _), (4, _), (5, _), (7, _), (8, _)] [] a := Z.pick [0, 4, 5, 7, 8]
  refine ai fun K14 hK14 => aK (by kernel_rfl) (aO (by kernel_rfl) fun w8 hxz => ?_)
  replace Y := Y.grow hxz
  refine aV (k := 0) 19 [12, 18] Z (by kernel_rfl) (by kernel_rfl) (by kernel_rfl) (by rfl) ?_
  replace Z : Fr 238 [(0, _), (4, _), (5, _), (7, _), (8, _)] [] a := Z.pick [0, 4, 5, 7, 8]
  refine aL [] (fun i => match i with | _ => fun _ _ => False) 19 [[], [], [1], [0, 2], [3], [4], [], [], [7], [6, 8], [9], [10], [5, 11], [], [], [14], [13, 15], [16], [17]] [u, iv (j : Int), iv ((j : Int) - 2), slAddr u ((j - 2) * 1), wv (((sch bs 64).take j).getD (j - 2) 0#32), wv (ror (((sch bs 64).take j).getD (j - 2) 0#32) 17), u, iv (j : Int), iv ((j : Int) - 2), slAddr u ((j - 2) * 1), wv (((sch bs 64).take j).getD (j - 2) 0#32), wv (ror (((sch bs 64).take j).getD (j - 2) 0#32) 19), wv ((ror (((sch bs 64).take j).getD (j - 2) 0#32) 17) ^^^ (ror (((sch bs 64).take j).getD (j - 2) 0#32) 19)), u, iv (j : Int), iv ((j : Int) - 2), slAddr u ((j - 2) * 1), wv (((sch bs 64).take j).getD (j - 2) 0#32), wv ((((sch bs 64).take j).getD (j - 2) 0#32) >>> 10)] Z Y (by kernel_rfl) (by kernel_rfl) (by kernel_rfl) ?_ ?_ ?_
  ·intro i hi hiq
   match i, hi, hiq with
   | 0, _, _ =>
    intro w Y
    exact OpV.g (aj rfl)
   | 1, _, _ =>
    intro w Y
    exact OpV.g (aj rfl)
   | 2, _, _ =>
    intro w Y
    exact OpV.g (cm rfl rfl ⟨by omega, by omega⟩)
   | 3, _, _ =>
    intro w Y
    exact OpV.g ((am (i := (j : Int) - 2) (sT := 192) (Y.ownAt (i := 0) rfl) rfl rfl (Tryz.runUnderlying192 _) (Tryz.sizeOf191 _) (by omega) (by rw [List.length_map]; first | omega | (rw [aG]; omega) | (rw [List.length_take, aG]; omega) | (rw [W8.l_len]; omega) | (rw [bu]; omega))).as (v' := slAddr u ((j - 2) * 1)) (by rw [show ((j : Int) - 2).toNat = (j - 2) from by omega]))
   | 4, _, _ =>
    intro w Y
    exact OpV.g (aC (u := wv (((sch bs 64).take j).getD (j - 2) 0#32)) (i := (j - 2)) (j := 0) (Y.ownAt (i := 0) rfl) (by rw [List.length_map]; first | omega | (rw [aG]; omega) | (rw [List.length_take, aG]; omega) | (rw [W8.l_len]; omega) | (rw [bu]; omega)) rfl (Tryz.isAgg191 _) (by rw [ca 0#32]; rfl))
   | 5, _, _ =>
    intro w Y
    exact aU Tryz.call149 rfl (cZ (((sch bs 64).take j).getD (j - 2) 0#32) 17 _ (by decide) (by decide))
   | 6, _, _ =>
    intro w Y
    exact OpV.g (aj rfl)
   | 7, _, _ =>
    intro w Y
    exact OpV.g (aj rfl)
   | 8, _, _ =>
    intro w Y
    exact OpV.g (cm rfl rfl ⟨by omega, by omega⟩)
   | 9, _, _ =>
    intro w Y
    exact OpV.g ((am (i := (j : Int) - 2) (sT := 192) (Y.ownAt (i := 0) rfl) rfl rfl (Tryz.runUnderlying192 _) (Tryz.sizeOf191 _) (by omega) (by rw [List.length_map]; first | omega | (rw [aG]; omega) | (rw [List.length_take, aG]; omega) | (rw [W8.l_len]; omega) | (rw [bu]; omega))).as (v' := slAddr u ((j - 2) * 1)) (by rw [show ((j : Int) - 2).toNat = (j - 2) from by omega]))
   | 10, _, _ =>
    intro w Y
    exact OpV.g (aC (u := wv (((sch bs 64).take j).getD (j - 2) 0#32)) (i := (j - 2)) (j := 0) (Y.ownAt (i := 0) rfl) (by rw [List.length_map]; first | omega | (rw [aG]; omega) | (rw [List.length_take, aG]; omega) | (rw [W8.l_len]; omega) | (rw [bu]; omega)) rfl (Tryz.isAgg191 _) (by rw [ca 0#32]; rfl))
   | 11, _, _ =>
    intro w Y
    exact aU Tryz.call149 rfl (cZ (((sch bs 64).take j).getD (j - 2) 0#32) 19 _ (by decide) (by decide))
   | 12, _, _ =>
    intro w Y
    exact OpV.g (cA rfl rfl)
   | 13, _, _ =>
    intro w Y
    exact OpV.g (aj rfl)
   | 14, _, _ =>
    intro w Y
    exact OpV.g (aj rfl)
   | 15, _, _ =>
    intro w Y
    exact OpV.g (cm rfl rfl ⟨by omega, by omega⟩)
   | 16, _, _ =>
    intro w Y
    exact OpV.g ((am (i := (j : Int) - 2) (sT := 192) (Y.ownAt (i := 0) rfl) rfl rfl (Tryz.runUnderlying192 _) (Tryz.sizeOf191 _) (by omega) (by rw [List.length_map]; first | omega | (rw [aG]; omega) | (rw [List.length_take, aG]; omega) | (rw [W8.l_len]; omega) | (rw [bu]; omega))).as (v' := slAddr u ((j - 2) * 1)) (by rw [show ((j : Int) - 2).toNat = (j - 2) from by omega]))
   | 17, _, _ =>
    intro w Y
    exact OpV.g (aC (u := wv (((sch bs 64).take j).getD (j - 2) 0#32)) (i := (j - 2)) (j := 0) (Y.ownAt (i := 0) rfl) (by rw [List.length_map]; first | omega | (rw [aG]; omega) | (rw [List.length_take, aG]; omega) | (rw [W8.l_len]; omega) | (rw [bu]; omega)) rfl (Tryz.isAgg191 _) (by rw [ca 0#32]; rfl))
   | 18, _, _ =>
    intro w Y
    exact OpV.g (dF (n := 10) rfl rfl)
   | i + 19, h, _ => exact absurd h (by omega)
  ·intro i hi
   exact absurd hi (by simp)
  clear Z Y
  intro  a w9 Z Y
  replace Z : Fr 238 [(83, u), (84, iv (j : Int)), (85, iv ((j : Int) - 2)), (86, slAddr u ((j - 2) * 1)), (87, wv (((sch bs 64).take j).getD (j - 2) 0#32)), (88, wv (ror (((sch bs 64).take j).getD (j - 2) 0#32) 17)), (89, u), (90, iv (j : Int)), (91, iv ((j : Int) - 2)), (92, slAddr u ((j - 2) * 1)), (93, wv (((sch bs 64).take j).getD (j - 2) 0#32)), (94, wv (ror (((sch bs 64).take j).getD (j - 2) 0#32) 19)), (95, wv ((ror (((sch bs 64).take j).getD (j - 2) 0#32) 17) ^^^ (ror (((sch bs 64).take j).getD (j - 2) 0#32) 19))), (96, u), (97, iv (j : Int)), (98, iv ((j : Int) - 2)), (99, slAddr u ((j - 2) * 1)), (100, wv (((sch bs 64).take j).getD (j - 2) 0#32)), (101, wv ((((sch bs 64).take j).getD (j - 2) 0#32) >>> 10)), (0, _), (4, _), (5, _), (7, _), (8, _)] [] a := Z
  refine ab <| aP (k := 19) 21 [20] (by kernel_rfl) (by kernel_rfl) (by kernel_rfl) ?_
  refine wlv Z (cA rfl rfl) fun a Z => wla Z rfl fun a Z => ab <| bd (by kernel_rfl) ?_
  refine hK14 _ _ ?_
  replace Z : Fr 238 [(0, _), (4, _), (5, _), (7, _), (8, _), (9, _)] [] a := Z.pick [0, 4, 5, 7, 8, 9]
  refine aK (by kernel_rfl) (aO (by kernel_rfl) fun w10 hxz => ?_)
  replace Y := Y.grow hxz
  refine aV (k := 0) 17 [0, 16] Z (by kernel_rfl) (by kernel_rfl) (by kernel_rfl) (by rfl) ?_
  replace Z : Fr 238 [(0, _), (4, _), (5, _), (7, _), (8, _), (9, _)] [] a := Z.pick [0, 4, 5, 7, 8, 9]
  refine aL [16] (fun i => match i with | 16 => pm (fun b : Nat => .slice (some ⟨b, 0, none⟩) 1 1) (fun b => [own (.slice (some ⟨b, 0, none⟩) 1 1) 191 1 [[wv ((((((sch bs 64).take j).getD (j - 16) 0#32) + (((ror (((sch bs 64).take j).getD (j - 15) 0#32) 7) ^^^ (ror (((sch bs 64).take j).getD (j - 15) 0#32) 18)) ^^^ ((((sch bs 64).take j).getD (j - 15) 0#32) >>> 3))) + (((sch bs 64).take j).getD (j - 7) 0#32)) + (((ror (((sch bs 64).take j).getD (j - 2) 0#32) 17) ^^^ (ror (((sch bs 64).take j).getD (j - 2) 0#32) 19)) ^^^ ((((sch bs 64).take j).getD (j - 2) 0#32) >>> 10)))]]]) (fun _ => True) | _ => fun _ _ => False) 17 [[], [], [], [2], [1, 3], [4], [], [5, 6], [], [], [9], [8, 10], [11], [7, 12], [], [13, 14], [15]] [u, u, iv (j : Int), iv ((j : Int) - 16), slAddr u ((j - 16) * 1), wv (((sch bs 64).take j).getD (j - 16) 0#32), wv (((ror (((sch bs 64).take j).getD (j - 15) 0#32) 7) ^^^ (ror (((sch bs 64).take j).getD (j - 15) 0#32) 18)) ^^^ ((((sch bs 64).take j).getD (j - 15) 0#32) >>> 3)), wv ((((sch bs 64).take j).getD (j - 16) 0#32) + (((ror (((sch bs 64).take j).getD (j - 15) 0#32) 7) ^^^ (ror (((sch bs 64).take j).getD (j - 15) 0#32) 18)) ^^^ ((((sch bs 64).take j).getD (j - 15) 0#32) >>> 3))), u, iv (j : Int), iv ((j : Int) - 7), slAddr u ((j - 7) * 1), wv (((sch bs 64).take j).getD (j - 7) 0#32), wv (((((sch bs 64).take j).getD (j - 16) 0#32) + (((ror (((sch bs 64).take j).getD (j - 15) 0#32) 7) ^^^ (ror (((sch bs 64).take j).getD (j - 15) 0#32) 18)) ^^^ ((((sch bs 64).take j).getD (j - 15) 0#32) >>> 3))) + (((sch bs 64).take j).getD (j - 7) 0#32)), wv (((ror (((sch bs 64).take j).getD (j - 2) 0#32) 17) ^^^ (ror (((sch bs 64).take j).getD (j - 2) 0#32) 19)) ^^^ ((((sch bs 64).take j).getD (j - 2) 0#32) >>> 10)), wv ((((((sch bs 64).take j).getD (j - 16) 0#32) + (((ror (((sch bs 64).take j).getD (j - 15) 0#32) 7) ^^^ (ror (((sch bs 64).take j).getD (j - 15) 0#32) 18)) ^^^ ((((sch bs 64).take j).getD (j - 15) 0#32) >>> 3))) + (((sch bs 64).take j).getD (j - 7) 0#32)) + (((ror (((sch bs 64).take j).getD (j - 2) 0#32) 17) ^^^ (ror (((sch bs 64).take j).getD (j - 2) 0#32) 19)) ^^^ ((((sch bs 64).take j).getD (j - 2) 0#32) >>> 10))), undef] Z Y (by kernel_rfl) (by kernel_rfl) (by kernel_rfl) ?_ ?_ ?_
  ·intro i hi hiq
   match i, hi, hiq with
   | 0, _, _ =>
    intro w Y
    exact OpV.g (aj rfl)
   | 1, _, _ =>
    intro w Y
    exact OpV.g (aj rfl)
   | 2, _, _ =>
    intro w Y
    exact OpV.g (aj rfl)
   | 3, _, _ =>
    intro w Y
    exact OpV.g (cm rfl rfl ⟨by omega, by omega⟩)
   | 4, _, _ =>
    intro w Y
    exact OpV.g ((am (i := (j : Int) - 16) (sT := 192) (Y.ownAt (i := 0) rfl) rfl rfl (Tryz.runUnderlying192 _) (Tryz.sizeOf191 _) (by omega) (by rw [List.length_map]; first | omega | (rw [aG]; omega) | (rw [List.length_take, aG]; omega) | (rw [W8.l_len]; omega) | (rw [bu]; omega))).as (v' := slAddr u ((j - 16) * 1)) (by rw [show ((j : Int) - 16).toNat = (j - 16) from by omega]))
   | 5, _, _ =>
    intro w Y
    exact OpV.g (aC (u := wv (((sch bs 64).take j).getD (j - 16) 0#32)) (i := (j - 16)) (j := 0) (Y.ownAt (i := 0) rfl) (by rw [List.length_map]; first | omega | (rw [aG]; omega) | (rw [List.length_take, aG]; omega) | (rw [W8.l_len]; omega) | (rw [bu]; omega)) rfl (Tryz.isAgg191 _) (by rw [ca 0#32]; rfl))
   | 6, _, _ =>
    intro w Y
    exact OpV.g (aj rfl)
   | 7, _, _ =>
    intro w Y
    exact OpV.g (ce rfl rfl)
   | 8, _, _ =>
    intro w Y
    exact OpV.g (aj rfl)
   | 9, _, _ =>
    intro w Y
    exact OpV.g (aj rfl)
   | 10, _, _ =>
    intro w Y
    exact OpV.g (cm rfl rfl ⟨by omega, by omega⟩)
   | 11, _, _ =>
    intro w Y
    exact OpV.g ((am (i := (j : Int) - 7) (sT := 192) (Y.ownAt (i := 0) rfl) rfl rfl (Tryz.runUnderlying192 _) (Tryz.sizeOf191 _) (by omega) (by rw [List.length_map]; first | omega | (rw [aG]; omega) | (rw [List.length_take, aG]; omega) | (rw [W8.l_len]; omega) | (rw [bu]; omega))).as (v' := slAddr u ((j - 7) * 1)) (by rw [show ((j : Int) - 7).toNat = (j - 7) from by omega]))
   | 12, _, _ =>
    intro w Y
    exact OpV.g (aC (u := wv (((sch bs 64).take j).getD (j - 7) 0#32)) (i := (j - 7)) (j := 0) (Y.ownAt (i := 0) rfl) (by rw [List.length_map]; first | omega | (rw [aG]; omega) | (rw [List.length_take, aG]; omega) | (rw [W8.l_len]; omega) | (rw [bu]; omega)) rfl (Tryz.isAgg191 _) (by rw [ca 0#32]; rfl))
   | 13, _, _ =>
    intro w Y
    exact OpV.g (ce rfl rfl)
   | 14, _, _ =>
    intro w Y
    exact OpV.g (aj rfl)
   | 15, _, _ =>
    intro w Y
    exact OpV.g (ce rfl rfl)
   | 16, _, h => exact absurd (by simp) h
   | i + 17, h, _ => exact absurd h (by omega)
  ·intro i hi
   simp only [List.mem_cons, List.not_mem_nil, or_false] at hi
   subst hi
   ·intro w Y
    exact bV (E := 191) (sz := 1) rfl [[wv ((((((sch bs 64).take j).getD (j - 16) 0#32) + (((ror (((sch bs 64).take j).getD (j - 15) 0#32) 7) ^^^ (ror (((sch bs 64).take j).getD (j - 15) 0#32) 18)) ^^^ ((((sch bs 64).take j).getD (j - 15) 0#32) >>> 3))) + (((sch bs 64).take j).getD (j - 7) 0#32)) + (((ror (((sch bs 64).take j).getD (j - 2) 0#32) 17) ^^^ (ror (((sch bs 64).take j).getD (j - 2) 0#32) 19)) ^^^ ((((sch bs 64).take j).getD (j - 2) 0#32) >>> 10)))]] (fun _ => by kernel_rfl) (by simp) rfl (by decide)
  clear Z Y
  rintro _ _ ⟨b5, rfl, -, rfl⟩ a w11 Z Y
  replace Z : Fr 238 [(103, u), (104, u), (105, iv (j : Int)), (106, iv ((j : Int) - 16)), (107, slAddr u ((j - 16) * 1)), (108, wv (((sch bs 64).take j).getD (j - 16) 0#32)), (109, wv (((ror (((sch bs 64).take j).getD (j - 15) 0#32) 7) ^^^ (ror (((sch bs 64).take j).getD (j - 15) 0#32) 18)) ^^^ ((((sch bs 64).take j).getD (j - 15) 0#32) >>> 3))), (110, wv ((((sch bs 64).take j).getD (j - 16) 0#32) + (((ror (((sch bs 64).take j).getD (j - 15) 0#32) 7) ^^^ (ror (((sch bs 64).take j).getD (j - 15) 0#32) 18)) ^^^ ((((sch bs 64).take j).getD (j - 15) 0#32) >>> 3)))), (111, u), (112, iv (j : Int)), (113, iv ((j : Int) - 7)), (114, slAddr u ((j - 7) * 1)), (115, wv (((sch bs 64).take j).getD (j - 7) 0#32)), (116, wv (((((sch bs 64).take j).getD (j - 16) 0#32) + (((ror (((sch bs 64).take j).getD (j - 15) 0#32) 7) ^^^ (ror (((sch bs 64).take j).getD (j - 15) 0#32) 18)) ^^^ ((((sch bs 64).take j).getD (j - 15) 0#32) >>> 3))) + (((sch bs 64).take j).getD (j - 7) 0#32))), (117, wv (((ror (((sch bs 64).take j).getD (j - 2) 0#32) 17) ^^^ (ror (((sch bs 64).take j).getD (j - 2) 0#32) 19)) ^^^ ((((sch bs 64).take j).getD (j - 2) 0#32) >>> 10))), (118, wv ((((((sch bs 64).take j).getD (j - 16) 0#32) + (((ror (((sch bs 64).take j).getD (j - 15) 0#32) 7) ^^^ (ror (((sch bs 64).take j).getD (j - 15) 0#32) 18)) ^^^ ((((sch bs 64).take j).getD (j - 15) 0#32) >>> 3))) + (((sch bs 64).take j).getD (j - 7) 0#32)) + (((ror (((sch bs 64).take j).getD (j - 2) 0#32) 17) ^^^ (ror (((sch bs 64).take j).getD (j - 2) 0#32) 19)) ^^^ ((((sch bs 64).take j).getD (j - 2) 0#32) >>> 10)))), (119, _), (0, _), (4, _), (5, _), (7, _), (8, _), (9, _)] [] a := Z
  replace Y : St No w0 [_, _] w11 := Y
  refine ab <| aP (k := 17) 19 [18] (by kernel_rfl) (by kernel_rfl) (by kernel_rfl) ?_
  refine bL (i := 1) (sT := 192) (inf := Tryz.t191) (z := wv (0#32)) (b := 0) (off := 0) (m := 0) (c := 0) rfl rfl rfl (Y.ownAt (i := 0) rfl) (by simp) Tryz.underlying192 rfl rfl rfl rfl (by decide) (by simp [Value.oneCell', yv, wv, sv]) (by have hby : Tryz.t191.bytes = 4 := rfl; simp only [big, hby, List.length_append, List.length_map, List.length_take, aG, W8.l_len, List.length_cons, List.length_nil]; omega) (by have hby : Tryz.t191.bytes = 4 := rfl; simp only [big, hby, List.length_append, List.length_map, List.length_take, aG, W8.l_len, List.length_cons, List.length_nil]; omega) (by decide) Z Y fun a w12 s6 Z Y _ => wla Z rfl fun a Z => ab <| bd (by kernel_rfl) ?_
  refine hK12 _ _ ?_
  replace Z : Fr 238 [(0, _), (4, _), (7, _), (5, _)] [] a := Z.pick [0, 4, 7, 5]
  replace Y : St No w0 [_] w12 := Y.mask [false, true]
  refine ar <| wlm Z rfl fun a Z => wlv Z (aM rfl rfl ⟨by omega, by omega⟩) fun a Z => wla Z rfl fun a Z => ab ?_
  rw [show (((sch bs 64).take j).map fun x => [wv x]) ++ ([[wv ((((((sch bs 64).take j).getD (j - 16) 0#32) + (((ror (((sch bs 64).take j).getD (j - 15) 0#32) 7) ^^^ (ror (((sch bs 64).take j).getD (j - 15) 0#32) 18)) ^^^ ((((sch bs 64).take j).getD (j - 15) 0#32) >>> 3))) + (((sch bs 64).take j).getD (j - 7) 0#32)) + (((ror (((sch bs 64).take j).getD (j - 2) 0#32) 17) ^^^ (ror (((sch bs 64).take j).getD (j - 2) 0#32) 19)) ^^^ ((((sch bs 64).take j).getD (j - 2) 0#32) >>> 10)))]]) = (((sch bs 64).take (j + 1)).map fun x => [wv x]) from by rw [lD bs (by omega) (by omega)]; simp] at Y
  refine ⟨_, ?_, j + 1, s6, rfl, (by omega), (by omega), Z.pick [0, 4, 5, 7], Y.select [0] (by decide)⟩
  omega
 rw [hc4] at Z
 try simp only [qz] at hc4
 obtain rfl : j = 64 := by omega
 rw [List.take_of_length_le (by rw [aG]; omega)] at Y
 refine aS <| hK8 _ _ <| aa fun K15 hK15 => bJ Z Y (by decide) Tryz.call150 rfl (i6 _) ?_
 clear Z Y
 intro a w13 x7 hp Z Y
 revert x7 hp Z Y; rintro kz hp Z Y
 clear hp
 replace Y : St No w0 [own kz 191 1 ((kOf).map fun x => [wv x]), own u 191 1 ((sch bs 64).map fun x => [wv x])] w13 := Y
 refine wla Z rfl fun a Z => ab (hK15 _ _ <| aa fun K16 hK16 => ?_)
 refine wla Z rfl fun a Z => ab (hK16 _ _ <| aa fun K17 hK17 => ?_)
 refine wlm Z rfl fun a Z => wlm Z rfl fun a Z => ?_
 replace Y : St No w0 (own (.slice none 0 0) 191 1 [] :: [_, _]) w13 := Y.nil_own
 refine gX (i := 0) (sT := 192) (inf := Tryz.t191) (z := wv (0#32)) rfl rfl rfl (Y.arg hhv) Tryz.underlying192 rfl rfl rfl rfl (by decide) (by simp [Value.oneCell', yv, wv, sv]) (by have hby : Tryz.t191.bytes = 4 := rfl; simp only [big, hby, List.length_append, List.length_map, List.length_take, aG, W8.l_len, List.length_cons, List.length_nil]; omega) (by have hby : Tryz.t191.bytes = 4 := rfl; simp only [big, hby, List.length_append, List.length_map, List.length_take, aG, W8.l_len, List.length_cons, List.length_nil]; omega) (by decide) Z Y ?_
 clear Z Y
 intro a w14 s8 Z Y
 refine wla Z rfl fun a Z => ab (hK17 _ _ ?_)
 replace Z : Fr 238 [(0, _), (4, _), (5, _), (10, _), (11, _)] [] a := Z.pick [0, 4, 5, 10, 11]
 refine ai fun K18 hK18 => aa fun K19 hK19 => wla Z rfl fun a Z => ab (hK19 _ _ <| ax ?_)
 rw [show ([]) ++ ((hv.l).map fun x => [wv x]) = ((hv.l).map fun x => [wv x]) from by simp] at Y
 refine bf (fun m a w => ∃ (ix : Nat) (v : W8) (z : Value), m = 64 - ix ∧ (ix ≤ 64) ∧ (rounds (sch bs 64) hv ix = v) ∧ Fr 238 [(0, hvv), (4, .slice none 0 0), (5, u), (10, kz), (11, z), (12, iv (ix : Int))] [] a ∧ St No w0 [own z 191 1 ((v.l).map fun x => [wv x]), own u 191 1 ((sch bs 64).map fun x => [wv x]), own kz 191 1 ((kOf).map fun x => [wv x])] w) _ ⟨0, hv, s8, rfl, Nat.zero_le _, rfl, Z.pick [0, 4, 5, 10, 11, 12], Y.select [0, 2, 1] (by decide)⟩ ?_
 rintro _ a w15 ⟨ix, v, z, rfl, hi, hrv, Z, Y⟩
 refine ai fun K20 hK20 => aa fun K21 hK21 => wlm Z rfl fun a Z => wlv Z (v_lt rfl rfl) fun a Z => ab (hK21 _ _ ?_)
 refine aB Z rfl (fun hc9 => ?_) (fun hc9 => ?_)
 ·rw [hc9] at Z
  try simp only [qz] at hc9
  refine ay <| hK20 _ _ <| ai fun K22 hK22 => ax <| aa fun K23 hK23 => wlm Z rfl fun a Z => wlv Z ((am (i := 0) (sT := 192) (Y.ownAt (i := 0) rfl) rfl rfl (Tryz.runUnderlying192 _) (Tryz.sizeOf191 _) (by omega) (by rw [List.length_map, W8.l_len]; decide)).as (v' := slAddr z (0 * 1)) rfl) fun a Z => ?_
  refine wlv Z (aC (u := wv v.a) (i := 0) (j := 0) (Y.ownAt (i := 0) rfl) (by rw [List.length_map, W8.l_len]; decide) rfl (Tryz.isAgg191 _) (by rfl)) fun a Z => wla Z rfl fun a Z => ab (hK23 _ _ <| aa fun K24 hK24 => ?_)
  refine wlm Z rfl fun a Z => wlv Z ((am (i := 4) (sT := 192) (Y.ownAt (i := 0) rfl) rfl rfl (Tryz.runUnderlying192 _) (Tryz.sizeOf191 _) (by omega) (by rw [List.length_map, W8.l_len]; decide)).as (v' := slAddr z (4 * 1)) rfl) fun a Z => wlv Z (aC (u := wv v.e) (i := 4) (j := 0) (Y.ownAt (i := 0) rfl) (by rw [List.length_map, W8.l_len]; decide) rfl (Tryz.isAgg191 _) (by rfl)) fun a Z => wla Z rfl fun a Z => ab (hK24 _ _ ?_)
  replace Z : Fr 238 [(0, _), (4, _), (5, _), (10, _), (11, _), (12, _), (13, _), (14, _)] [] a := Z.pick [0, 4, 5, 10, 11, 12, 13, 14]
  refine ai fun K25 hK25 => aK (by kernel_rfl) (aO (by kernel_rfl) fun w16 hxz => ?_)
  replace Y := Y.grow hxz
  refine aV (k := 0) 34 [29, 33] Z (by kernel_rfl) (by kernel_rfl) (by kernel_rfl) (by rfl) ?_
  replace Z : Fr 238 [(0, _), (4, _), (5, _), (10, _), (11, _), (12, _), (13, _), (14, _)] [] a := Z.pick [0, 4, 5, 10, 11, 12, 13, 14]
  refine aL [] (fun i => match i with | _ => fun _ _ => False) 34 [[], [0], [1], [], [3], [], [5], [4, 6], [], [8], [7, 9], [2, 10], [], [], [13], [14], [12, 15], [], [17], [], [19], [20], [18, 21], [16, 22], [11, 23], [], [], [25, 26], [27], [24, 28], [], [], [30, 31], [32]] [z, slAddr z (7 * 1), wv v.h, wv v.e, wv (ror v.e 6), wv v.e, wv (ror v.e 11), wv ((ror v.e 6) ^^^ (ror v.e 11)), wv v.e, wv (ror v.e 25), wv (((ror v.e 6) ^^^ (ror v.e 11)) ^^^ (ror v.e 25)), wv (v.h + (((ror v.e 6) ^^^ (ror v.e 11)) ^^^ (ror v.e 25))), wv v.e, z, slAddr z (5 * 1), wv v.f, wv (v.e &&& v.f), wv v.e, wv (~~~v.e), z, slAddr z (6 * 1), wv v.g, wv ((~~~v.e) &&& v.g), wv ((v.e &&& v.f) ^^^ ((~~~v.e) &&& v.g)), wv ((v.h + (((ror v.e 6) ^^^ (ror v.e 11)) ^^^ (ror v.e 25))) + ((v.e &&& v.f) ^^^ ((~~~v.e) &&& v.g))), kz, iv (ix : Int), slAddr kz (ix * 1), wv ((kOf).getD ix 0#32), wv (((v.h + (((ror v.e 6) ^^^ (ror v.e 11)) ^^^ (ror v.e 25))) + ((v.e &&& v.f) ^^^ ((~~~v.e) &&& v.g))) + ((kOf).getD ix 0#32)), u, iv (ix : Int), slAddr u (ix * 1), wv ((sch bs 64).getD ix 0#32)] Z Y (by kernel_rfl) (by kernel_rfl) (by kernel_rfl) ?_ ?_ ?_
  ·intro i hi hiq
   match i, hi, hiq with
   | 0, _, _ =>
    intro w Y
    exact OpV.g (aj rfl)
   | 1, _, _ =>
    intro w Y
    exact OpV.g ((am (i := 7) (sT := 192) (Y.ownAt (i := 0) rfl) rfl rfl (Tryz.runUnderlying192 _) (Tryz.sizeOf191 _) (by omega) (by rw [List.length_map, W8.l_len]; decide)).as (v' := slAddr z (7 * 1)) rfl)
   | 2, _, _ =>
    intro w Y
    exact OpV.g (aC (u := wv v.h) (i := 7) (j := 0) (Y.ownAt (i := 0) rfl) (by rw [List.length_map, W8.l_len]; decide) rfl (Tryz.isAgg191 _) (by rfl))
   | 3, _, _ =>
    intro w Y
    exact OpV.g (aj rfl)
   | 4, _, _ =>
    intro w Y
    exact aU Tryz.call149 rfl (cZ v.e 6 _ (by decide) (by decide))
   | 5, _, _ =>
    intro w Y
    exact OpV.g (aj rfl)
   | 6, _, _ =>
    intro w Y
    exact aU Tryz.call149 rfl (cZ v.e 11 _ (by decide) (by decide))
   | 7, _, _ =>
    intro w Y
    exact OpV.g (cA rfl rfl)
   | 8, _, _ =>
    intro w Y
    exact OpV.g (aj rfl)
   | 9, _, _ =>
    intro w Y
    exact aU Tryz.call149 rfl (cZ v.e 25 _ (by decide) (by decide))
   | 10, _, _ =>
    intro w Y
    exact OpV.g (cA rfl rfl)
   | 11, _, _ =>
    intro w Y
    exact OpV.g (ce rfl rfl)
   | 12, _, _ =>
    intro w Y
    exact OpV.g (aj rfl)
   | 13, _, _ =>
    intro w Y
    exact OpV.g (aj rfl)
   | 14, _, _ =>
    intro w Y
    exact OpV.g ((am (i := 5) (sT := 192) (Y.ownAt (i := 0) rfl) rfl rfl (Tryz.runUnderlying192 _) (Tryz.sizeOf191 _) (by omega) (by rw [List.length_map, W8.l_len]; decide)).as (v' := slAddr z (5 * 1)) rfl)
   | 15, _, _ =>
    intro w Y
    exact OpV.g (aC (u := wv v.f) (i := 5) (j := 0) (Y.ownAt (i := 0) rfl) (by rw [List.length_map, W8.l_len]; decide) rfl (Tryz.isAgg191 _) (by rfl))
   | 16, _, _ =>
    intro w Y
    exact OpV.g (dG rfl rfl)
   | 17, _, _ =>
    intro w Y
    exact OpV.g (aj rfl)
   | 18, _, _ =>
    intro w Y
    exact OpV.g (md rfl)
   | 19, _, _ =>
    intro w Y
    exact OpV.g (aj rfl)
   | 20, _, _ =>
    intro w Y
    exact OpV.g ((am (i := 6) (sT := 192) (Y.ownAt (i := 0) rfl) rfl rfl (Tryz.runUnderlying192 _) (Tryz.sizeOf191 _) (by omega) (by rw [List.length_map, W8.l_len]; decide)).as (v' := slAddr z (6 * 1)) rfl)
   | 21, _, _ =>
    intro w Y
    exact OpV.g (aC (u := wv v.g) (i := 6) (j := 0) (Y.ownAt (i := 0) rfl) (by rw [List.length_map, W8.l_len]; decide) rfl (Tryz.isAgg191 _) (by rfl))
   | 22, _, _ =>
    intro w Y
    exact OpV.g (dG rfl rfl)
   | 23, _, _ =>
    intro w Y
    exact OpV.g (cA rfl rfl)
   | 24, _, _ =>
    intro w Y
    exact OpV.g (ce rfl rfl)
   | 25, _, _ =>
    intro w Y
    exact OpV.g (aj rfl)
   | 26, _, _ =>
    intro w Y
    exact OpV.g (aj rfl)
   | 27, _, _ =>
    intro w Y
    exact OpV.g ((am (i := (ix : Int)) (sT := 192) (Y.ownAt (i := 2) rfl) rfl rfl (Tryz.runUnderlying192 _) (Tryz.sizeOf191 _) (by omega) (by rw [List.length_map]; first | omega | (rw [aG]; omega) | (rw [List.length_take, aG]; omega) | (rw [W8.l_len]; omega) | (rw [bu]; omega))).as (v' := slAddr kz (ix * 1)) rfl)
   | 28, _, _ =>
    intro w Y
    exact OpV.g (aC (u := wv ((kOf).getD ix 0#32)) (i := ix) (j := 0) (Y.ownAt (i := 2) rfl) (by rw [List.length_map]; first | omega | (rw [aG]; omega) | (rw [List.length_take, aG]; omega) | (rw [W8.l_len]; omega) | (rw [bu]; omega)) rfl (Tryz.isAgg191 _) (by rw [ca 0#32]; rfl))
   | 29, _, _ =>
    intro w Y
    exact OpV.g (ce rfl rfl)
   | 30, _, _ =>
    intro w Y
    exact OpV.g (aj rfl)
   | 31, _, _ =>
    intro w Y
    exact OpV.g (aj rfl)
   | 32, _, _ =>
    intro w Y
    exact OpV.g ((am (i := (ix : Int)) (sT := 192) (Y.ownAt (i := 1) rfl) rfl rfl (Tryz.runUnderlying192 _) (Tryz.sizeOf191 _) (by omega) (by rw [List.length_map]; first | omega | (rw [aG]; omega) | (rw [List.length_take, aG]; omega) | (rw [W8.l_len]; omega) | (rw [bu]; omega))).as (v' := slAddr u (ix * 1)) rfl)
   | 33, _, _ =>
    intro w Y
    exact OpV.g (aC (u := wv ((sch bs 64).getD ix 0#32)) (i := ix) (j := 0) (Y.ownAt (i := 1) rfl) (by rw [List.length_map]; first | omega | (rw [aG]; omega) | (rw [List.length_take, aG]; omega) | (rw [W8.l_len]; omega) | (rw [bu]; omega)) rfl (Tryz.isAgg191 _) (by rw [ca 0#32]; rfl))
   | i + 34, h, _ => exact absurd h (by omega)
  ·intro i hi
   exact absurd hi (by simp)
  clear Z Y
  intro  a w17 Z Y
  replace Z : Fr 238 [(135, z), (136, slAddr z (7 * 1)), (137, wv v.h), (138, wv v.e), (139, wv (ror v.e 6)), (140, wv v.e), (141, wv (ror v.e 11)), (142, wv ((ror v.e 6) ^^^ (ror v.e 11))), (143, wv v.e), (144, wv (ror v.e 25)), (145, wv (((ror v.e 6) ^^^ (ror v.e 11)) ^^^ (ror v.e 25))), (146, wv (v.h + (((ror v.e 6) ^^^ (ror v.e 11)) ^^^ (ror v.e 25)))), (147, wv v.e), (148, z), (149, slAddr z (5 * 1)), (150, wv v.f), (151, wv (v.e &&& v.f)), (152, wv v.e), (153, wv (~~~v.e)), (154, z), (155, slAddr z (6 * 1)), (156, wv v.g), (157, wv ((~~~v.e) &&& v.g)), (158, wv ((v.e &&& v.f) ^^^ ((~~~v.e) &&& v.g))), (159, wv ((v.h + (((ror v.e 6) ^^^ (ror v.e 11)) ^^^ (ror v.e 25))) + ((v.e &&& v.f) ^^^ ((~~~v.e) &&& v.g)))), (160, kz), (161, iv (ix : Int)), (162, slAddr kz (ix * 1)), (163, wv ((kOf).getD ix 0#32)), (164, wv (((v.h + (((ror v.e 6) ^^^ (ror v.e 11)) ^^^ (ror v.e 25))) + ((v.e &&& v.f) ^^^ ((~~~v.e) &&& v.g))) + ((kOf).getD ix 0#32))), (165, u), (166, iv (ix : Int)), (167, slAddr u (ix * 1)), (168, wv ((sch bs 64).getD ix 0#32)), (0, _), (4, _), (5, _), (10, _), (11, _), (12, _), (13, _), (14, _)] [] a := Z
  refine ab <| aP (k := 34) 36 [35] (by kernel_rfl) (by kernel_rfl) (by kernel_rfl) ?_
  refine wlv Z (ce rfl rfl) fun a Z => wla Z rfl fun a Z => ab <| bd (by kernel_rfl) ?_
  refine hK25 _ _ ?_
  replace Z : Fr 238 [(0, _), (4, _), (5, _), (10, _), (11, _), (12, _), (13, _), (14, _), (15, _)] [] a := Z.pick [0, 4, 5, 10, 11, 12, 13, 14, 15]
  refine ai fun K26 hK26 => aK (by kernel_rfl) (aO (by kernel_rfl) fun w18 hxz => ?_)
  replace Y := Y.grow hxz
  refine aV (k := 0) 27 [7, 26] Z (by kernel_rfl) (by kernel_rfl) (by kernel_rfl) (by rfl) ?_
  replace Z : Fr 238 [(0, _), (4, _), (5, _), (10, _), (11, _), (12, _), (13, _), (14, _), (15, _)] [] a := Z.pick [0, 4, 5, 10, 11, 12, 13, 14, 15]
  refine aL [] (fun i => match i with | _ => fun _ _ => False) 27 [[], [0], [], [2], [1, 3], [], [5], [4, 6], [], [], [9], [10], [8, 11], [], [], [14], [15], [13, 16], [12, 17], [], [19], [20], [], [22], [23], [21, 24], [18, 25]] [wv v.a, wv (ror v.a 2), wv v.a, wv (ror v.a 13), wv ((ror v.a 2) ^^^ (ror v.a 13)), wv v.a, wv (ror v.a 22), wv (((ror v.a 2) ^^^ (ror v.a 13)) ^^^ (ror v.a 22)), wv v.a, z, slAddr z (1 * 1), wv v.b, wv (v.a &&& v.b), wv v.a, z, slAddr z (2 * 1), wv v.c, wv (v.a &&& v.c), wv ((v.a &&& v.b) ^^^ (v.a &&& v.c)), z, slAddr z (1 * 1), wv v.b, z, slAddr z (2 * 1), wv v.c, wv (v.b &&& v.c), wv (((v.a &&& v.b) ^^^ (v.a &&& v.c)) ^^^ (v.b &&& v.c))] Z Y (by kernel_rfl) (by kernel_rfl) (by kernel_rfl) ?_ ?_ ?_
  ·intro i hi hiq
   match i, hi, hiq with
   | 0, _, _ =>
    intro w Y
    exact OpV.g (aj rfl)
   | 1, _, _ =>
    intro w Y
    exact aU Tryz.call149 rfl (cZ v.a 2 _ (by decide) (by decide))
   | 2, _, _ =>
    intro w Y
    exact OpV.g (aj rfl)
   | 3, _, _ =>
    intro w Y
    exact aU Tryz.call149 rfl (cZ v.a 13 _ (by decide) (by decide))
   | 4, _, _ =>
    intro w Y
    exact OpV.g (cA rfl rfl)
   | 5, _, _ =>
    intro w Y
    exact OpV.g (aj rfl)
   | 6, _, _ =>
    intro w Y
    exact aU Tryz.call149 rfl (cZ v.a 22 _ (by decide) (by decide))
   | 7, _, _ =>
    intro w Y
    exact OpV.g (cA rfl rfl)
   | 8, _, _ =>
    intro w Y
    exact OpV.g (aj rfl)
   | 9, _, _ =>
    intro w Y
    exact OpV.g (aj rfl)
   | 10, _, _ =>
    intro w Y
    exact OpV.g ((am (i := 1) (sT := 192) (Y.ownAt (i := 0) rfl) rfl rfl (Tryz.runUnderlying192 _) (Tryz.sizeOf191 _) (by omega) (by rw [List.length_map, W8.l_len]; decide)).as (v' := slAddr z (1 * 1)) rfl)
   | 11, _, _ =>
    intro w Y
    exact OpV.g (aC (u := wv v.b) (i := 1) (j := 0) (Y.ownAt (i := 0) rfl) (by rw [List.length_map, W8.l_len]; decide) rfl (Tryz.isAgg191 _) (by rfl))
   | 12, _, _ =>
    intro w Y
    exact OpV.g (dG rfl rfl)
   | 13, _, _ =>
    intro w Y
    exact OpV.g (aj rfl)
   | 14, _, _ =>
    intro w Y
    exact OpV.g (aj rfl)
   | 15, _, _ =>
    intro w Y
    exact OpV.g ((am (i := 2) (sT := 192) (Y.ownAt (i := 0) rfl) rfl rfl (Tryz.runUnderlying192 _) (Tryz.sizeOf191 _) (by omega) (by rw [List.length_map, W8.l_len]; decide)).as (v' := slAddr z (2 * 1)) rfl)
   | 16, _, _ =>
    intro w Y
    exact OpV.g (aC (u := wv v.c) (i := 2) (j := 0) (Y.ownAt (i := 0) rfl) (by rw [List.length_map, W8.l_len]; decide) rfl (Tryz.isAgg191 _) (by rfl))
   | 17, _, _ =>
    intro w Y
    exact OpV.g (dG rfl rfl)
   | 18, _, _ =>
    intro w Y
    exact OpV.g (cA rfl rfl)
   | 19, _, _ =>
    intro w Y
    exact OpV.g (aj rfl)
   | 20, _, _ =>
    intro w Y
    exact OpV.g ((am (i := 1) (sT := 192) (Y.ownAt (i := 0) rfl) rfl rfl (Tryz.runUnderlying192 _) (Tryz.sizeOf191 _) (by omega) (by rw [List.length_map, W8.l_len]; decide)).as (v' := slAddr z (1 * 1)) rfl)
   | 21, _, _ =>
    intro w Y
    exact OpV.g (aC (u := wv v.b) (i := 1) (j := 0) (Y.ownAt (i := 0) rfl) (by rw [List.length_map, W8.l_len]; decide) rfl (Tryz.isAgg191 _) (by rfl))
   | 22, _, _ =>
    intro w Y
    exact OpV.g (aj rfl)
   | 23, _, _ =>
    intro w Y
    exact OpV.g ((am (i := 2) (sT := 192) (Y.ownAt (i := 0) rfl) rfl rfl (Tryz.runUnderlying192 _) (Tryz.sizeOf191 _) (by omega) (by rw [List.length_map, W8.l_len]; decide)).as (v' := slAddr z (2 * 1)) rfl)
   | 24, _, _ =>
    intro w Y
    exact OpV.g (aC (u := wv v.c) (i := 2) (j := 0) (Y.ownAt (i := 0) rfl) (by rw [List.length_map, W8.l_len]; decide) rfl (Tryz.isAgg191 _) (by rfl))
   | 25, _, _ =>
    intro w Y
    exact OpV.g (dG rfl rfl)
   | 26, _, _ =>
    intro w Y
    exact OpV.g (cA rfl rfl)
   | i + 27, h, _ => exact absurd h (by omega)
  ·intro i hi
   exact absurd hi (by simp)
  clear Z Y
  intro  a w19 Z Y
  replace Z : Fr 238 [(170, wv v.a), (171, wv (ror v.a 2)), (172, wv v.a), (173, wv (ror v.a 13)), (174, wv ((ror v.a 2) ^^^ (ror v.a 13))), (175, wv v.a), (176, wv (ror v.a 22)), (177, wv (((ror v.a 2) ^^^ (ror v.a 13)) ^^^ (ror v.a 22))), (178, wv v.a), (179, z), (180, slAddr z (1 * 1)), (181, wv v.b), (182, wv (v.a &&& v.b)), (183, wv v.a), (184, z), (185, slAddr z (2 * 1)), (186, wv v.c), (187, wv (v.a &&& v.c)), (188, wv ((v.a &&& v.b) ^^^ (v.a &&& v.c))), (189, z), (190, slAddr z (1 * 1)), (191, wv v.b), (192, z), (193, slAddr z (2 * 1)), (194, wv v.c), (195, wv (v.b &&& v.c)), (196, wv (((v.a &&& v.b) ^^^ (v.a &&& v.c)) ^^^ (v.b &&& v.c))), (0, _), (4, _), (5, _), (10, _), (11, _), (12, _), (13, _), (14, _), (15, _)] [] a := Z
  refine ab <| aP (k := 27) 29 [28] (by kernel_rfl) (by kernel_rfl) (by kernel_rfl) ?_
  refine wlv Z (ce rfl rfl) fun a Z => wla Z rfl fun a Z => ab <| bd (by kernel_rfl) ?_
  refine hK26 _ _ ?_
  replace Z : Fr 238 [(0, _), (4, _), (5, _), (10, _), (11, _), (12, _), (13, _), (14, _), (15, _), (16, _)] [] a := Z.pick [0, 4, 5, 10, 11, 12, 13, 14, 15, 16]
  rw [show (((v.h + (((ror v.e 6) ^^^ (ror v.e 11)) ^^^ (ror v.e 25))) + ((v.e &&& v.f) ^^^ ((~~~v.e) &&& v.g))) + ((kOf).getD ix 0#32)) + ((sch bs 64).getD ix 0#32) = tOf v (kOf.getD ix 0#32) ((sch bs 64).getD ix 0#32) from by rw [tOf, mix3]] at Z
  rw [show (((ror v.a 2) ^^^ (ror v.a 13)) ^^^ (ror v.a 22)) + (((v.a &&& v.b) ^^^ (v.a &&& v.c)) ^^^ (v.b &&& v.c)) = uOf v from by rw [uOf, mix3]] at Z
  refine aK (by kernel_rfl) (aO (by kernel_rfl) fun w20 hxz => ?_)
  replace Y := Y.grow hxz
  refine aV (k := 0) 22 [2, 3, 6, 9, 14, 15, 18, 21] Z (by kernel_rfl) (by kernel_rfl) (by kernel_rfl) (by rfl) ?_
  replace Z : Fr 238 [(0, _), (4, _), (5, _), (10, _), (11, _), (12, _), (13, _), (14, _), (15, _), (16, _)] [] a := Z.pick [0, 4, 5, 10, 11, 12, 13, 14, 15, 16]
  refine aL [] (fun i => match i with | _ => fun _ _ => False) 22 [[], [], [0, 1], [], [], [4], [5], [], [7], [8], [], [10], [11], [], [12, 13], [], [], [16], [17], [], [19], [20]] [wv (tOf v (kOf.getD ix 0#32) ((sch bs 64).getD ix 0#32)), wv (uOf v), wv ((tOf v (kOf.getD ix 0#32) ((sch bs 64).getD ix 0#32)) + (uOf v)), wv v.a, z, slAddr z (1 * 1), wv v.b, z, slAddr z (2 * 1), wv v.c, z, slAddr z (3 * 1), wv v.d, wv (tOf v (kOf.getD ix 0#32) ((sch bs 64).getD ix 0#32)), wv (v.d + (tOf v (kOf.getD ix 0#32) ((sch bs 64).getD ix 0#32))), wv v.e, z, slAddr z (5 * 1), wv v.f, z, slAddr z (6 * 1), wv v.g] Z Y (by kernel_rfl) (by kernel_rfl) (by kernel_rfl) ?_ ?_ ?_
  ·intro i hi hiq
   match i, hi, hiq with
   | 0, _, _ =>
    intro w Y
    exact OpV.g (aj rfl)
   | 1, _, _ =>
    intro w Y
    exact OpV.g (aj rfl)
   | 2, _, _ =>
    intro w Y
    exact OpV.g (ce rfl rfl)
   | 3, _, _ =>
    intro w Y
    exact OpV.g (aj rfl)
   | 4, _, _ =>
    intro w Y
    exact OpV.g (aj rfl)
   | 5, _, _ =>
    intro w Y
    exact OpV.g ((am (i := 1) (sT := 192) (Y.ownAt (i := 0) rfl) rfl rfl (Tryz.runUnderlying192 _) (Tryz.sizeOf191 _) (by omega) (by rw [List.length_map, W8.l_len]; decide)).as (v' := slAddr z (1 * 1)) rfl)
   | 6, _, _ =>
    intro w Y
    exact OpV.g (aC (u := wv v.b) (i := 1) (j := 0) (Y.ownAt (i := 0) rfl) (by rw [List.length_map, W8.l_len]; decide) rfl (Tryz.isAgg191 _) (by rfl))
   | 7, _, _ =>
    intro w Y
    exact OpV.g (aj rfl)
   | 8, _, _ =>
    intro w Y
    exact OpV.g ((am (i := 2) (sT := 192) (Y.ownAt (i := 0) rfl) rfl rfl (Tryz.runUnderlying192 _) (Tryz.sizeOf191 _) (by omega) (by rw [List.length_map, W8.l_len]; decide)).as (v' := slAddr z (2 * 1)) rfl)
   | 9, _, _ =>
    intro w Y
    exact OpV.g (aC (u := wv v.c) (i := 2) (j := 0) (Y.ownAt (i := 0) rfl) (by rw [List.length_map, W8.l_len]; decide) rfl (Tryz.isAgg191 _) (by rfl))
   | 10, _, _ =>
    intro w Y
    exact OpV.g (aj rfl)
   | 11, _, _ =>
    intro w Y
    exact OpV.g ((am (i := 3) (sT := 192) (Y.ownAt (i := 0) rfl) rfl rfl (Tryz.runUnderlying192 _) (Tryz.sizeOf191 _) (by omega) (by rw [List.length_map, W8.l_len]; decide)).as (v' := slAddr z (3 * 1)) rfl)
   | 12, _, _ =>
    intro w Y
    exact OpV.g (aC (u := wv v.d) (i := 3) (j := 0) (Y.ownAt (i := 0) rfl) (by rw [List.length_map, W8.l_len]; decide) rfl (Tryz.isAgg191 _) (by rfl))
   | 13, _, _ =>
    intro w Y
    exact OpV.g (aj rfl)
   | 14, _, _ =>
    intro w Y
    exact OpV.g (ce rfl rfl)
   | 15, _, _ =>
    intro w Y
    exact OpV.g (aj rfl)
   | 16, _, _ =>
    intro w Y
    exact OpV.g (aj rfl)
   | 17, _, _ =>
    intro w Y
    exact OpV.g ((am (i := 5) (sT := 192) (Y.ownAt (i := 0) rfl) rfl rfl (Tryz.runUnderlying192 _) (Tryz.sizeOf191 _) (by omega) (by rw [List.length_map, W8.l_len]; decide)).as (v' := slAddr z (5 * 1)) rfl)
   | 18, _, _ =>
    intro w Y
    exact OpV.g (aC (u := wv v.f) (i := 5) (j := 0) (Y.ownAt (i := 0) rfl) (by rw [List.length_map, W8.l_len]; decide) rfl (Tryz.isAgg191 _) (by rfl))
   | 19, _, _ =>
    intro w Y
    exact OpV.g (aj rfl)
   | 20, _, _ =>
    intro w Y
    exact OpV.g ((am (i := 6) (sT := 192) (Y.ownAt (i := 0) rfl) rfl rfl (Tryz.runUnderlying192 _) (Tryz.sizeOf191 _) (by omega) (by rw [List.length_map, W8.l_len]; decide)).as (v' := slAddr z (6 * 1)) rfl)
   | 21, _, _ =>
    intro w Y
    exact OpV.g (aC (u := wv v.g) (i := 6) (j := 0) (Y.ownAt (i := 0) rfl) (by rw [List.length_map, W8.l_len]; decide) rfl (Tryz.isAgg191 _) (by rfl))
   | i + 22, h, _ => exact absurd h (by omega)
  ·intro i hi
   exact absurd hi (by simp)
  clear Z Y
  intro  a w21 Z Y
  replace Z : Fr 238 [(198, wv (tOf v (kOf.getD ix 0#32) ((sch bs 64).getD ix 0#32))), (199, wv (uOf v)), (200, wv ((tOf v (kOf.getD ix 0#32) ((sch bs 64).getD ix 0#32)) + (uOf v))), (201, wv v.a), (202, z), (203, slAddr z (1 * 1)), (204, wv v.b), (205, z), (206, slAddr z (2 * 1)), (207, wv v.c), (208, z), (209, slAddr z (3 * 1)), (210, wv v.d), (211, wv (tOf v (kOf.getD ix 0#32) ((sch bs 64).getD ix 0#32))), (212, wv (v.d + (tOf v (kOf.getD ix 0#32) ((sch bs 64).getD ix 0#32)))), (213, wv v.e), (214, z), (215, slAddr z (5 * 1)), (216, wv v.f), (217, z), (218, slAddr z (6 * 1)), (219, wv v.g), (0, _), (4, _), (5, _), (10, _), (11, _), (12, _), (13, _), (14, _), (15, _), (16, _)] [] a := Z
  refine ab <| aP (k := 22) 24 [23] (by kernel_rfl) (by kernel_rfl) (by kernel_rfl) ?_
  refine aH (E := 191) (sz := 1) rfl [[wv ((tOf v (kOf.getD ix 0#32) ((sch bs 64).getD ix 0#32)) + (uOf v))], [wv v.a], [wv v.b], [wv v.c], [wv (v.d + (tOf v (kOf.getD ix 0#32) ((sch bs 64).getD ix 0#32)))], [wv v.e], [wv v.f], [wv v.g]] (by kernel_rfl) (by simp) rfl (by decide) (by decide) Z Y ?_
  clear Z Y
  intro a w22 Z Y
  refine wla Z rfl fun a Z => ab <| bd (by kernel_rfl) ?_
  refine hK22 _ _ ?_
  replace Z : Fr 238 [(0, _), (4, _), (5, _), (10, _), (12, _), (11, _)] [] a := Z.pick [0, 4, 5, 10, 12, 11]
  refine ar <| wlm Z rfl fun a Z => wlv Z (aM rfl rfl ⟨by omega, by omega⟩) fun a Z => wla Z rfl fun a Z => ab ?_
  replace Y : St No w0 [own (.slice (some ⟨w21.heap.size, 0, none⟩) 8 8) 191 1 (((rnd v (kOf.getD ix 0#32) ((sch bs 64).getD ix 0#32)).l).map fun x => [wv x]), own z 191 1 ((v.l).map fun x => [wv x]), own u 191 1 ((sch bs 64).map fun x => [wv x]), own kz 191 1 ((kOf).map fun x => [wv x])] w22 := Y
  refine ⟨_, ?_, ix + 1, (rnd v (kOf.getD ix 0#32) ((sch bs 64).getD ix 0#32)), (.slice (some ⟨w21.heap.size, 0, none⟩) 8 8), rfl, (by omega), (by rw [rounds, hrv]), Z.pick [0, 4, 5, 10, 11, 12], Y.select [0, 2, 3] (by decide)⟩
  omega
 rw [hc9] at Z
 try simp only [qz] at hc9
 obtain rfl : ix = 64 := by omega
 refine aS <| hK18 _ _ <| aa fun K27 hK27 => wla Z rfl fun a Z => ab (hK27 _ _ <| ai fun K28 hK28 => ?_)
 refine aa fun K29 hK29 => wla Z rfl fun a Z => ab (hK29 _ _ <| ax ?_)
 replace Y : St No w0 [own (.slice none 0 0) 191 1 (((hv.add v).l.take 0).map fun x => [wv x]), own z 191 1 ((v.l).map fun x => [wv x]), own u 191 1 ((sch bs 64).map fun x => [wv x]), own kz 191 1 ((kOf).map fun x => [wv x])] w15 := Y.nil_own
 refine bf (fun m a w => ∃ (q : Nat) (y : Value), m = 8 - q ∧ (q ≤ 8) ∧ Fr 238 [(0, hvv), (4, .slice none 0 0), (11, z), (17, y), (18, iv (q : Int))] [] a ∧ St No w0 [own y 191 1 (((hv.add v).l.take q).map fun x => [wv x]), own z 191 1 ((v.l).map fun x => [wv x])] w) _ ⟨0, .slice none 0 0, rfl, Nat.zero_le _, Z.pick [0, 4, 11, 17, 18], Y.select [0, 1] (by decide)⟩ ?_
 rintro _ a w23 ⟨q, y, rfl, hq, Z, Y⟩
 refine ai fun K30 hK30 => aa fun K31 hK31 => wlm Z rfl fun a Z => wlv Z (v_lt rfl rfl) fun a Z => ab (hK31 _ _ ?_)
 refine aB Z rfl (fun hc10 => ?_) (fun hc10 => ?_)
 ·rw [hc10] at Z
  try simp only [qz] at hc10
  refine ay <| hK30 _ _ <| ai fun K32 hK32 => ax <| aK (by kernel_rfl) (aO (by kernel_rfl) fun w24 hxz => ?_)
  replace Y := Y.grow hxz
  refine aV (k := 0) 11 [0, 10] Z (by kernel_rfl) (by kernel_rfl) (by kernel_rfl) (by rfl) ?_
  replace Z : Fr 238 [(0, _), (4, _), (11, _), (17, _), (18, _), (221, _), (222, _)] [] a := Z.pick [0, 4, 11, 17, 18, 221, 222]
  refine aL [10] (fun i => match i with | 10 => pm (fun b : Nat => .slice (some ⟨b, 0, none⟩) 1 1) (fun b => [own (.slice (some ⟨b, 0, none⟩) 1 1) 191 1 [[wv ((hv.l.getD q 0#32) + (v.l.getD q 0#32))]]]) (fun _ => True) | _ => fun _ _ => False) 11 [[], [], [], [1, 2], [3], [], [], [5, 6], [7], [4, 8], [9]] [y, hvv, iv (q : Int), slAddr hvv (q * 1), wv (hv.l.getD q 0#32), z, iv (q : Int), slAddr z (q * 1), wv (v.l.getD q 0#32), wv ((hv.l.getD q 0#32) + (v.l.getD q 0#32)), undef] Z Y (by kernel_rfl) (by kernel_rfl) (by kernel_rfl) ?_ ?_ ?_
  ·intro i hi hiq
   match i, hi, hiq with
   | 0, _, _ =>
    intro w Y
    exact OpV.g (aj rfl)
   | 1, _, _ =>
    intro w Y
    exact OpV.g (aj rfl)
   | 2, _, _ =>
    intro w Y
    exact OpV.g (aj rfl)
   | 3, _, _ =>
    intro w Y
    exact OpV.g ((am (i := (q : Int)) (sT := 192) (Y.arg hhv) rfl rfl (Tryz.runUnderlying192 _) (Tryz.sizeOf191 _) (by omega) (by rw [List.length_map]; first | omega | (rw [aG]; omega) | (rw [List.length_take, aG]; omega) | (rw [W8.l_len]; omega) | (rw [bu]; omega))).as (v' := slAddr hvv (q * 1)) rfl)
   | 4, _, _ =>
    intro w Y
    exact OpV.g (aC (u := wv (hv.l.getD q 0#32)) (i := q) (j := 0) (Y.arg hhv) (by rw [List.length_map]; first | omega | (rw [aG]; omega) | (rw [List.length_take, aG]; omega) | (rw [W8.l_len]; omega) | (rw [bu]; omega)) rfl (Tryz.isAgg191 _) (by rw [ca 0#32]; rfl))
   | 5, _, _ =>
    intro w Y
    exact OpV.g (aj rfl)
   | 6, _, _ =>
    intro w Y
    exact OpV.g (aj rfl)
   | 7, _, _ =>
    intro w Y
    exact OpV.g ((am (i := (q : Int)) (sT := 192) (Y.ownAt (i := 1) rfl) rfl rfl (Tryz.runUnderlying192 _) (Tryz.sizeOf191 _) (by omega) (by rw [List.length_map]; first | omega | (rw [aG]; omega) | (rw [List.length_take, aG]; omega) | (rw [W8.l_len]; omega) | (rw [bu]; omega))).as (v' := slAddr z (q * 1)) rfl)
   | 8, _, _ =>
    intro w Y
    exact OpV.g (aC (u := wv (v.l.getD q 0#32)) (i := q) (j := 0) (Y.ownAt (i := 1) rfl) (by rw [List.length_map]; first | omega | (rw [aG]; omega) | (rw [List.length_take, aG]; omega) | (rw [W8.l_len]; omega) | (rw [bu]; omega)) rfl (Tryz.isAgg191 _) (by rw [ca 0#32]; rfl))
   | 9, _, _ =>
    intro w Y
    exact OpV.g (ce rfl rfl)
   | 10, _, h => exact absurd (by simp) h
  ·intro i hi
   simp only [List.mem_cons, List.not_mem_nil, or_false] at hi
   subst hi
   ·intro w Y
    exact bV (E := 191) (sz := 1) rfl [[wv ((hv.l.getD q 0#32) + (v.l.getD q 0#32))]] (fun _ => by kernel_rfl) (by simp) rfl (by decide)
  clear Z Y
  rintro _ _ ⟨b11, rfl, -, rfl⟩ a w25 Z Y
  replace Z : Fr 238 [(225, y), (226, hvv), (227, iv (q : Int)), (228, slAddr hvv (q * 1)), (229, wv (hv.l.getD q 0#32)), (230, z), (231, iv (q : Int)), (232, slAddr z (q * 1)), (233, wv (v.l.getD q 0#32)), (234, wv ((hv.l.getD q 0#32) + (v.l.getD q 0#32))), (235, _), (0, _), (4, _), (11, _), (17, _), (18, _), (221, _), (222, _)] [] a := Z
  replace Y : St No w0 [_, _, _] w25 := Y
  refine ab <| aP (k := 11) 13 [12] (by kernel_rfl) (by kernel_rfl) (by kernel_rfl) ?_
  refine bL (i := 1) (sT := 192) (inf := Tryz.t191) (z := wv (0#32)) (b := 0) (off := 0) (m := 0) (c := 0) rfl rfl rfl (Y.ownAt (i := 0) rfl) (by simp) Tryz.underlying192 rfl rfl rfl rfl (by decide) (by simp [Value.oneCell', yv, wv, sv]) (by have hby : Tryz.t191.bytes = 4 := rfl; simp only [big, hby, List.length_append, List.length_map, List.length_take, aG, W8.l_len, List.length_cons, List.length_nil]; omega) (by have hby : Tryz.t191.bytes = 4 := rfl; simp only [big, hby, List.length_append, List.length_map, List.length_take, aG, W8.l_len, List.length_cons, List.length_nil]; omega) (by decide) Z Y fun a w26 s12 Z Y _ => wla Z rfl fun a Z => ab <| bd (by kernel_rfl) ?_
  refine hK32 _ _ ?_
  replace Z : Fr 238 [(0, _), (4, _), (11, _), (18, _), (17, _)] [] a := Z.pick [0, 4, 11, 18, 17]
  replace Y : St No w0 [_, _] w26 := Y.mask [false, true, true]
  refine ar <| wlm Z rfl fun a Z => wlv Z (aM rfl rfl ⟨by omega, by omega⟩) fun a Z => wla Z rfl fun a Z => ab ?_
  rw [show (((hv.add v).l.take q).map fun x => [wv x]) ++ ([[wv ((hv.l.getD q 0#32) + (v.l.getD q 0#32))]]) = (((hv.add v).l.take (q + 1)).map fun x => [wv x]) from by rw [mT hv v (by omega)]; simp] at Y
  refine ⟨_, ?_, q + 1, s12, rfl, (by omega), Z.pick [0, 4, 11, 17, 18], Y.select [0, 1] (by decide)⟩
  omega
 rw [hc10] at Z
 try simp only [qz] at hc10
 refine aS <| hK28 _ _ <| aa fun K33 hK33 => wlm Z rfl fun a Z => wla Z rfl fun a Z => ab (hK33 _ _ ?_)
 replace Z : Fr 238 [(4, _)] [] a := Z.pick [4]
 refine aq ?_
 refine ak Z Tryz.results131 (ah rfl ag) ?_
 obtain rfl : q = 8 := by omega
 exact ⟨y, rfl, trivial, Y.ext, St.out (E := [own y 191 1 (((block hv bs).l).map fun x => [wv x])]) (H := []) (by rw [block, hrv]; exact Y.select [0] (by decide))⟩
end Go.Proofs.YtmmfieceinmloaaGreatDoor
namespace Go.Proofs.YtmmfieceinmloaaGreatDoor
open Go.RowKit Go.PW
set_option linter.unusedVariables false
set_option linter.unusedSimpArgs false
set_option maxRecDepth 4000
theorem mZ (v : W8) {q : Nat} (h : q < 8) : v.out.take (4 * (q + 1)) = v.out.take (4 * q) ++ [UInt8.ofNat (v.l.getD q 0#32 >>> 24).toNat, UInt8.ofNat (v.l.getD q 0#32 >>> 16).toNat, UInt8.ofNat (v.l.getD q 0#32 >>> 8).toNat, UInt8.ofNat (v.l.getD q 0#32).toNat] := by
 have : q = 0 ∨ q = 1 ∨ q = 2 ∨ q = 3 ∨ q = 4 ∨ q = 5 ∨ q = 6 ∨ q = 7 := by omega
 rcases this with rfl | rfl | rfl | rfl | rfl | rfl | rfl | rfl <;> simp [W8.out, W8.l, li]
set_option maxHeartbeats 4000000 in
theorem gc (s : By) (w0 : World) (hs : s.length ≤ 100000000) :
  Ret Tryz.prog 91 #[sv s] w0 fun v w => v = sv (sha s) ∧ Ext No w0 w := by
 have hpb := ft s
 refine aD Tryz.func91 rfl Tryz.ntmps91 (lb rfl) fun a Z => ?_
 replace Z : Fr 56 [(0, _)] [] a := Z
 replace Y : St No w0 [] w0 := St.init w0
 refine aa fun K1 hK1 => wla Z rfl fun a Z => ab (hK1 _ _ <| aa fun K2 hK2 => ?_)
 refine aH (E := 191) (sz := 1) rfl [[wv (1779033703#32)], [wv (3144134277#32)], [wv (1013904242#32)], [wv (2773480762#32)], [wv (1359893119#32)], [wv (2600822924#32)], [wv (528734635#32)], [wv (1541459225#32)]] (by kernel_rfl) (by simp) rfl (by decide) (by decide) Z Y ?_
 clear Z Y
 intro a w1 Z Y
 refine wla Z rfl fun a Z => ab (hK2 _ _ <| aa fun K3 hK3 => ?_)
 refine wlm Z rfl fun a Z => bJ Z Y (by decide) Tryz.call130 rfl (jI s _ hs) ?_
 clear Z Y
 intro a w2 x1 hp Z Y
 revert x1 hp Z Y; rintro bz hp Z Y
 clear hp
 replace Y : St No w0 [own bz 5 1 ((padded s).map fun b => [yv b]), own (.slice (some ⟨w0.heap.size, 0, none⟩) 8 8) 191 1 ([[wv (1779033703#32)], [wv (3144134277#32)], [wv (1013904242#32)], [wv (2773480762#32)], [wv (1359893119#32)], [wv (2600822924#32)], [wv (528734635#32)], [wv (1541459225#32)]])] w2 := Y
 refine wla Z rfl fun a Z => ab (hK3 _ _ <| ai fun K4 hK4 => ?_)
 refine aa fun K5 hK5 => wla Z rfl fun a Z => ab (hK5 _ _ <| ax ?_)
 replace Y : St No w0 [own bz 5 1 ((padded s).map fun b => [yv b]), own (.slice (some ⟨w0.heap.size, 0, none⟩) 8 8) 191 1 (((blocks h0 (padded s) 0).l).map fun x => [wv x])] w2 := Y
 refine bf (fun m a w => ∃ (q : Nat) (hz : Value), m = (padded s).length / 64 - q ∧ (q ≤ (padded s).length / 64) ∧ Fr 56 [(2, sv ([])), (4, bz), (3, hz), (5, iv ((64 * q : Nat) : Int))] [] a ∧ St No w0 [own hz 191 1 (((blocks h0 (padded s) q).l).map fun x => [wv x]), own bz 5 1 ((padded s).map fun b => [yv b])] w) _ ⟨0, (.slice (some ⟨w0.heap.size, 0, none⟩) 8 8), rfl, Nat.zero_le _, Z.pick [2, 4, 3, 5], Y.select [1, 0] (by decide)⟩ ?_
 rintro _ a w3 ⟨q, hz, rfl, hq, Z, Y⟩
 refine ai fun K6 hK6 => aa fun K7 hK7 => wlm Z rfl fun a Z => wlm Z rfl fun a Z => wlv Z ((aY (sT := 62) (Y.ownAt (i := 1) rfl) rfl rfl (Tryz.runUnderlying62 _)).asi (m' := ((padded s).length : Int)) (by rw [List.length_map])) fun a Z => wlv Z (v_lt rfl rfl) fun a Z => ab (hK7 _ _ ?_)
 refine aB Z rfl (fun hc2 => ?_) (fun hc2 => ?_)
 ·rw [hc2] at Z
  try simp only [qz] at hc2
  have hpl := eY s
  refine ay <| hK6 _ _ <| ai fun K8 hK8 => ax <| ar <| wlm Z rfl fun a Z => wlm Z rfl fun a Z => wlm Z rfl fun a Z => wlm Z rfl fun a Z => wlv Z (aM rfl rfl ⟨by omega, by omega⟩) fun a Z => ?_
  refine wlv Z (ki (l := (64 * q)) (h := (64 * q + 64)) (Y.ownAt (i := 1) rfl) rfl rfl rfl Tryz.underlying62 (by kernel_rfl) (.inr (by first | rfl | (rw [show (((64 * q : Nat) : Int) : Int) = (((64 * q) : Nat) : Int) from by omega] <;> rfl))) (.inr (by first | rfl | (rw [show (((64 * q : Nat) : Int) + 64 : Int) = (((64 * q + 64) : Nat) : Int) from by omega] <;> rfl))) (by omega) (by first | (rw [List.length_map]; omega) | (simp <;> omega))) fun a Z => bJ Z Y (by decide) Tryz.call131 rfl (lH hz (cut bz 1 (64 * q) (64 * q + 64) (slCap bz)) (blocks h0 (padded s) q) (((padded s).drop (64 * q)).take 64) _ (Y.ownAt (i := 0) rfl) (by have h := ((Y.ownAt (i := 1) rfl).cutm (l := (64 * q)) (h := (64 * q + 64)) (by omega) (by first | omega | (simp; omega))); rwa [show 64 * q + 64 - 64 * q = 64 from by omega] at h) (by simp; omega)) ?_
  clear Z Y
  intro a w4 x4 hp Z Y
  revert x4 hp Z Y; rintro v3 hp Z Y
  clear hp
  replace Y : St No w0 [own v3 191 1 (((block (blocks h0 (padded s) q) (((padded s).drop (64 * q)).take 64)).l).map fun x => [wv x]), own hz 191 1 (((blocks h0 (padded s) q).l).map fun x => [wv x]), own bz 5 1 ((padded s).map fun b => [yv b])] w4 := Y
  refine wla Z rfl fun a Z => ab <| hK8 _ _ ?_
  replace Z : Fr 56 [(2, _), (4, _), (5, _), (3, _)] [] a := Z.pick [2, 4, 5, 3]
  refine ar <| wlm Z rfl fun a Z => wlv Z (aM rfl rfl ⟨by omega, by omega⟩) fun a Z => wla Z rfl fun a Z => ab ?_
  replace Y : St No w0 [own v3 191 1 (((blocks h0 (padded s) (q + 1)).l).map fun x => [wv x]), own hz 191 1 (((blocks h0 (padded s) q).l).map fun x => [wv x]), own bz 5 1 ((padded s).map fun b => [yv b])] w4 := Y
  rw [show ((64 * q : Nat) : Int) + 64 = ((64 * (q + 1) : Nat) : Int) from by omega] at Z
  refine ⟨_, ?_, q + 1, v3, rfl, (by omega), Z.pick [2, 4, 3, 5], Y.select [0, 2] (by decide)⟩
  omega
 rw [hc2] at Z
 try simp only [qz] at hc2
 have hpl := eY s
 obtain rfl : q = (padded s).length / 64 := by omega
 refine aS <| hK4 _ _ <| aa fun K9 hK9 => wla Z rfl fun a Z => ab (hK9 _ _ ?_)
 replace Z : Fr 56 [(2, _), (3, _), (6, _)] [] a := Z.pick [2, 3, 6]
 refine ai fun K10 hK10 => aa fun K11 hK11 => wla Z rfl fun a Z => ab (hK11 _ _ <| ax ?_)
 replace Y : St No w0 [own (.slice none 0 0) 5 1 (((blocks h0 (padded s) ((padded s).length / 64)).out.take (4 * 0)).map fun b => [yv b]), own hz 191 1 (((blocks h0 (padded s) ((padded s).length / 64)).l).map fun x => [wv x]), own bz 5 1 ((padded s).map fun b => [yv b])] w3 := Y.nil_own
 refine bf (fun m a w => ∃ (r : Nat) (oz : Value), m = 8 - r ∧ (r ≤ 8) ∧ Fr 56 [(2, sv ([])), (3, hz), (6, oz), (7, iv (r : Int))] [] a ∧ St No w0 [own oz 5 1 (((blocks h0 (padded s) ((padded s).length / 64)).out.take (4 * r)).map fun b => [yv b]), own hz 191 1 (((blocks h0 (padded s) ((padded s).length / 64)).l).map fun x => [wv x])] w) _ ⟨0, .slice none 0 0, rfl, Nat.zero_le _, Z.pick [2, 3, 6, 7], Y.select [0, 1] (by decide)⟩ ?_
 rintro _ a w5 ⟨r, oz, rfl, hr, Z, Y⟩
 refine ai fun K12 hK12 => aa fun K13 hK13 => wlm Z rfl fun a Z => wlv Z (v_lt rfl rfl) fun a Z => ab (hK13 _ _ ?_)
 refine aB Z rfl (fun hc5 => ?_) (fun hc5 => ?_)
 ·rw [hc5] at Z
  try simp only [qz] at hc5
  refine ay <| hK12 _ _ <| ai fun K14 hK14 => ax <| aK (by kernel_rfl) (aO (by kernel_rfl) fun w6 hxz => ?_)
  replace Y := Y.grow hxz
  refine aV (k := 0) 25 [0, 24] Z (by kernel_rfl) (by kernel_rfl) (by kernel_rfl) (by rfl) ?_
  replace Z : Fr 56 [(2, _), (3, _), (6, _), (7, _), (24, _), (25, _)] [] a := Z.pick [2, 3, 6, 7, 24, 25]
  refine aL [24] (fun i => match i with | 24 => pm (fun b : Nat => .slice (some ⟨b, 0, none⟩) 4 4) (fun b => [own (.slice (some ⟨b, 0, none⟩) 4 4) 5 1 [[yv (UInt8.ofNat (((blocks h0 (padded s) ((padded s).length / 64)).l.getD r 0#32) >>> 24).toNat)], [yv (UInt8.ofNat (((blocks h0 (padded s) ((padded s).length / 64)).l.getD r 0#32) >>> 16).toNat)], [yv (UInt8.ofNat (((blocks h0 (padded s) ((padded s).length / 64)).l.getD r 0#32) >>> 8).toNat)], [yv (UInt8.ofNat ((blocks h0 (padded s) ((padded s).length / 64)).l.getD r 0#32).toNat)]]]) (fun _ => True) | _ => fun _ _ => False) 25 [[], [], [], [1, 2], [3], [4], [5], [], [], [7, 8], [9], [10], [11], [], [], [13, 14], [15], [16], [17], [], [], [19, 20], [21], [22], [6, 12, 18, 23]] [oz, hz, iv (r : Int), slAddr hz (r * 1), wv ((blocks h0 (padded s) ((padded s).length / 64)).l.getD r 0#32), wv (((blocks h0 (padded s) ((padded s).length / 64)).l.getD r 0#32) >>> 24), yv (UInt8.ofNat (((blocks h0 (padded s) ((padded s).length / 64)).l.getD r 0#32) >>> 24).toNat), hz, iv (r : Int), slAddr hz (r * 1), wv ((blocks h0 (padded s) ((padded s).length / 64)).l.getD r 0#32), wv (((blocks h0 (padded s) ((padded s).length / 64)).l.getD r 0#32) >>> 16), yv (UInt8.ofNat (((blocks h0 (padded s) ((padded s).length / 64)).l.getD r 0#32) >>> 16).toNat), hz, iv (r : Int), slAddr hz (r * 1), wv ((blocks h0 (padded s) ((padded s).length / 64)).l.getD r 0#32), wv (((blocks h0 (padded s) ((padded s).length / 64)).l.getD r 0#32) >>> 8), yv (UInt8.ofNat (((blocks h0 (padded s) ((padded s).length / 64)).l.getD r 0#32) >>> 8).toNat), hz, iv (r : Int), slAddr hz (r * 1), wv ((blocks h0 (padded s) ((padded s).length / 64)).l.getD r 0#32), yv (UInt8.ofNat ((blocks h0 (padded s) ((padded s).length / 64)).l.getD r 0#32).toNat), undef] Z Y (by kernel_rfl) (by kernel_rfl) (by kernel_rfl) ?_ ?_ ?_
  ·intro i hi hiq
   match i, hi, hiq with
   | 0, _, _ =>
    intro w Y
    exact OpV.g (aj rfl)
   | 1, _, _ =>
    intro w Y
    exact OpV.g (aj rfl)
   | 2, _, _ =>
    intro w Y
    exact OpV.g (aj rfl)
   | 3, _, _ =>
    intro w Y
    exact OpV.g ((am (i := (r : Int)) (sT := 192) (Y.ownAt (i := 1) rfl) rfl rfl (Tryz.runUnderlying192 _) (Tryz.sizeOf191 _) (by omega) (by rw [List.length_map]; first | omega | (rw [W8.l_len]; omega))).as (v' := slAddr hz (r * 1)) rfl)
   | 4, _, _ =>
    intro w Y
    exact OpV.g (aC (u := wv ((blocks h0 (padded s) ((padded s).length / 64)).l.getD r 0#32)) (i := r) (j := 0) (Y.ownAt (i := 1) rfl) (by rw [List.length_map]; first | omega | (rw [W8.l_len]; omega)) rfl (Tryz.isAgg191 _) (by rw [ca 0#32]; rfl))
   | 5, _, _ =>
    intro w Y
    exact OpV.g (dF (n := 24) rfl rfl)
   | 6, _, _ =>
    intro w Y
    exact OpV.g (dP rfl (by kernel_rfl) Tryz.underlying5)
   | 7, _, _ =>
    intro w Y
    exact OpV.g (aj rfl)
   | 8, _, _ =>
    intro w Y
    exact OpV.g (aj rfl)
   | 9, _, _ =>
    intro w Y
    exact OpV.g ((am (i := (r : Int)) (sT := 192) (Y.ownAt (i := 1) rfl) rfl rfl (Tryz.runUnderlying192 _) (Tryz.sizeOf191 _) (by omega) (by rw [List.length_map]; first | omega | (rw [W8.l_len]; omega))).as (v' := slAddr hz (r * 1)) rfl)
   | 10, _, _ =>
    intro w Y
    exact OpV.g (aC (u := wv ((blocks h0 (padded s) ((padded s).length / 64)).l.getD r 0#32)) (i := r) (j := 0) (Y.ownAt (i := 1) rfl) (by rw [List.length_map]; first | omega | (rw [W8.l_len]; omega)) rfl (Tryz.isAgg191 _) (by rw [ca 0#32]; rfl))
   | 11, _, _ =>
    intro w Y
    exact OpV.g (dF (n := 16) rfl rfl)
   | 12, _, _ =>
    intro w Y
    exact OpV.g (dP rfl (by kernel_rfl) Tryz.underlying5)
   | 13, _, _ =>
    intro w Y
    exact OpV.g (aj rfl)
   | 14, _, _ =>
    intro w Y
    exact OpV.g (aj rfl)
   | 15, _, _ =>
    intro w Y
    exact OpV.g ((am (i := (r : Int)) (sT := 192) (Y.ownAt (i := 1) rfl) rfl rfl (Tryz.runUnderlying192 _) (Tryz.sizeOf191 _) (by omega) (by rw [List.length_map]; first | omega | (rw [W8.l_len]; omega))).as (v' := slAddr hz (r * 1)) rfl)
   | 16, _, _ =>
    intro w Y
    exact OpV.g (aC (u := wv ((blocks h0 (padded s) ((padded s).length / 64)).l.getD r 0#32)) (i := r) (j := 0) (Y.ownAt (i := 1) rfl) (by rw [List.length_map]; first | omega | (rw [W8.l_len]; omega)) rfl (Tryz.isAgg191 _) (by rw [ca 0#32]; rfl))
   | 17, _, _ =>
    intro w Y
    exact OpV.g (dF (n := 8) rfl rfl)
   | 18, _, _ =>
    intro w Y
    exact OpV.g (dP rfl (by kernel_rfl) Tryz.underlying5)
   | 19, _, _ =>
    intro w Y
    exact OpV.g (aj rfl)
   | 20, _, _ =>
    intro w Y
    exact OpV.g (aj rfl)
   | 21, _, _ =>
    intro w Y
    exact OpV.g ((am (i := (r : Int)) (sT := 192) (Y.ownAt (i := 1) rfl) rfl rfl (Tryz.runUnderlying192 _) (Tryz.sizeOf191 _) (by omega) (by rw [List.length_map]; first | omega | (rw [W8.l_len]; omega))).as (v' := slAddr hz (r * 1)) rfl)
   | 22, _, _ =>
    intro w Y
    exact OpV.g (aC (u := wv ((blocks h0 (padded s) ((padded s).length / 64)).l.getD r 0#32)) (i := r) (j := 0) (Y.ownAt (i := 1) rfl) (by rw [List.length_map]; first | omega | (rw [W8.l_len]; omega)) rfl (Tryz.isAgg191 _) (by rw [ca 0#32]; rfl))
   | 23, _, _ =>
    intro w Y
    exact OpV.g (dP rfl (by kernel_rfl) Tryz.underlying5)
   | 24, _, h => exact absurd (by simp) h
   | i + 25, h, _ => exact absurd h (by omega)
  ·intro i hi
   simp only [List.mem_cons, List.not_mem_nil, or_false] at hi
   subst hi
   ·intro w Y
    exact bV (E := 5) (sz := 1) rfl [[yv (UInt8.ofNat (((blocks h0 (padded s) ((padded s).length / 64)).l.getD r 0#32) >>> 24).toNat)], [yv (UInt8.ofNat (((blocks h0 (padded s) ((padded s).length / 64)).l.getD r 0#32) >>> 16).toNat)], [yv (UInt8.ofNat (((blocks h0 (padded s) ((padded s).length / 64)).l.getD r 0#32) >>> 8).toNat)], [yv (UInt8.ofNat ((blocks h0 (padded s) ((padded s).length / 64)).l.getD r 0#32).toNat)]] (fun _ => by kernel_rfl) (by simp) rfl (by decide)
  clear Z Y
  rintro _ _ ⟨b6, rfl, -, rfl⟩ a w7 Z Y
  replace Z : Fr 56 [(28, oz), (29, hz), (30, iv (r : Int)), (31, slAddr hz (r * 1)), (32, wv ((blocks h0 (padded s) ((padded s).length / 64)).l.getD r 0#32)), (33, wv (((blocks h0 (padded s) ((padded s).length / 64)).l.getD r 0#32) >>> 24)), (34, yv (UInt8.ofNat (((blocks h0 (padded s) ((padded s).length / 64)).l.getD r 0#32) >>> 24).toNat)), (35, hz), (36, iv (r : Int)), (37, slAddr hz (r * 1)), (38, wv ((blocks h0 (padded s) ((padded s).length / 64)).l.getD r 0#32)), (39, wv (((blocks h0 (padded s) ((padded s).length / 64)).l.getD r 0#32) >>> 16)), (40, yv (UInt8.ofNat (((blocks h0 (padded s) ((padded s).length / 64)).l.getD r 0#32) >>> 16).toNat)), (41, hz), (42, iv (r : Int)), (43, slAddr hz (r * 1)), (44, wv ((blocks h0 (padded s) ((padded s).length / 64)).l.getD r 0#32)), (45, wv (((blocks h0 (padded s) ((padded s).length / 64)).l.getD r 0#32) >>> 8)), (46, yv (UInt8.ofNat (((blocks h0 (padded s) ((padded s).length / 64)).l.getD r 0#32) >>> 8).toNat)), (47, hz), (48, iv (r : Int)), (49, slAddr hz (r * 1)), (50, wv ((blocks h0 (padded s) ((padded s).length / 64)).l.getD r 0#32)), (51, yv (UInt8.ofNat ((blocks h0 (padded s) ((padded s).length / 64)).l.getD r 0#32).toNat)), (52, _), (2, _), (3, _), (6, _), (7, _), (24, _), (25, _)] [] a := Z
  replace Y : St No w0 [_, _, _] w7 := Y
  refine ab <| aP (k := 25) 27 [26] (by kernel_rfl) (by kernel_rfl) (by kernel_rfl) ?_
  refine bL (i := 1) (sT := 62) (inf := Tryz.t5) (z := yv (0 : UInt8)) (b := 0) (off := 0) (m := 0) (c := 0) rfl rfl rfl (Y.ownAt (i := 0) rfl) (by simp) Tryz.underlying62 rfl rfl rfl rfl (by decide) (by simp [Value.oneCell', yv, wv, sv]) (by have hby : Tryz.t5.bytes = 1 := rfl; simp only [big, hby, List.length_append, List.length_map, List.length_take, ge, List.length_cons, List.length_nil]; omega) (by have hby : Tryz.t5.bytes = 1 := rfl; simp only [big, hby, List.length_append, List.length_map, List.length_take, ge, List.length_cons, List.length_nil]; omega) (by decide) Z Y fun a w8 s7 Z Y _ => wla Z rfl fun a Z => ab <| bd (by kernel_rfl) ?_
  refine hK14 _ _ ?_
  replace Z : Fr 56 [(2, _), (3, _), (7, _), (6, _)] [] a := Z.pick [2, 3, 7, 6]
  replace Y : St No w0 [_, _] w8 := Y.mask [false, true, true]
  refine ar <| wlm Z rfl fun a Z => wlv Z (aM rfl rfl ⟨by omega, by omega⟩) fun a Z => wla Z rfl fun a Z => ab ?_
  rw [show (((blocks h0 (padded s) ((padded s).length / 64)).out.take (4 * r)).map fun b => [yv b]) ++ ([[yv (UInt8.ofNat (((blocks h0 (padded s) ((padded s).length / 64)).l.getD r 0#32) >>> 24).toNat)], [yv (UInt8.ofNat (((blocks h0 (padded s) ((padded s).length / 64)).l.getD r 0#32) >>> 16).toNat)], [yv (UInt8.ofNat (((blocks h0 (padded s) ((padded s).length / 64)).l.getD r 0#32) >>> 8).toNat)], [yv (UInt8.ofNat ((blocks h0 (padded s) ((padded s).length / 64)).l.getD r 0#32).toNat)]]) = (((blocks h0 (padded s) ((padded s).length / 64)).out.take (4 * (r + 1))).map fun b => [yv b]) from by rw [mZ _ (by omega)]; simp] at Y
  refine ⟨_, ?_, r + 1, s7, rfl, (by omega), Z.pick [2, 3, 6, 7], Y.select [0, 1] (by decide)⟩
  omega
 rw [hc5] at Z
 try simp only [qz] at hc5
 obtain rfl : r = 8 := by omega
 rw [show 4 * 8 = 32 from rfl, List.take_of_length_le (by rw [ge]; decide)] at Y
 refine aS <| hK10 _ _ <| aa fun K15 hK15 => wlm Z rfl fun a Z => wlv Z (dV (Y.ownAt (i := 0) rfl) rfl Tryz.underlying62 Tryz.underlying5 Tryz.underlying9) fun a Z => wla Z rfl fun a Z => ab (hK15 _ _ ?_)
 replace Z : Fr 56 [(2, _)] [] a := Z.pick [2]
 refine aq ?_
 refine ak Z Tryz.results91 (ah rfl ag) ?_
 exact ⟨by rfl, Y.ext⟩
theorem kc (s : By) (w0 : World) (hs : s.length ≤ 40000000) :
  Ret Tryz.prog 92 #[sv s] w0 fun v w => v = sv (leafH sha s) ∧ Ext No w0 w := by
 refine aD Tryz.func92 rfl Tryz.ntmps92 (lb rfl) fun a Z => ?_
 replace Z : Fr 6 [(0, _)] [] a := Z
 replace Y : St No w0 [] w0 := St.init w0
 refine aa fun K1 hK1 => wla Z rfl fun a Z => ab (hK1 _ _ <| aa fun K2 hK2 => ?_)
 refine wlm Z rfl fun a Z => wlv Z (ew rfl rfl (by (simp only [List.length_append, List.length_cons, List.length_nil]); omega)) fun a Z => az Z Y (by decide) Tryz.call91 rfl (gc (([0]) ++ s) _ (by simp only [List.length_append, List.length_cons, List.length_nil]; omega)) ?_
 clear Z Y
 intro a w1 Z Y
 refine wla Z rfl fun a Z => ab (hK2 _ _ <| aq ?_)
 refine ak Z Tryz.results92 (ah rfl ag) ?_
 exact ⟨by rfl, Y.ext⟩
theorem mW (s t : By) (w0 : World) (hs : s.length ≤ 40000000) (ht : t.length ≤ 40000000) :
  Ret Tryz.prog 124 #[sv s, sv t] w0 fun v w => v = sv (nodeH sha s t) ∧ Ext No w0 w := by
 refine aD Tryz.func124 rfl Tryz.ntmps124 (lb rfl) fun a Z => ?_
 replace Z : Fr 10 [(0, _), (1, _)] [] a := Z
 replace Y : St No w0 [] w0 := St.init w0
 refine aa fun K1 hK1 => wla Z rfl fun a Z => ab (hK1 _ _ <| aa fun K2 hK2 => ?_)
 refine wlm Z rfl fun a Z => wlv Z (ew rfl rfl (by (simp only [List.length_append, List.length_cons, List.length_nil]); omega)) fun a Z => wlm Z rfl fun a Z => wlv Z (ew rfl rfl (by (simp only [List.length_append, List.length_cons, List.length_nil]); omega)) fun a Z => az Z Y (by decide) Tryz.call91 rfl (gc ((([1]) ++ s) ++ t) _ (by simp only [List.length_append, List.length_cons, List.length_nil]; omega)) ?_
 clear Z Y
 intro a w1 Z Y
 refine wla Z rfl fun a Z => ab (hK2 _ _ ?_)
 replace Z : Fr 10 [(4, _)] [] a := Z.pick [4]
 refine aq ?_
 refine ak Z Tryz.results124 (ah rfl ag) ?_
 exact ⟨by rfl, Y.ext⟩
end Go.Proofs.YtmmfieceinmloaaGreatDoor
namespace Go.Proofs.YtmmfieceinmloaaGreatDoor
open Go.RowKit Go.PW
set_option linter.unusedVariables false
set_option linter.unusedSimpArgs false
set_option maxRecDepth 4000
theorem m7 {f z : Nat} (h : z < 128 ^ (f + 1)) (hz : 128 ≤ z) : ∃ g, f = g + 1 := by
 cases f with
 | zero => exfalso; simp at h; omega
 | succ g => exact ⟨g, rfl⟩
theorem iU {f z : Nat} (h : z < 128 ^ (f + 1 + 1)) : z / 128 < 128 ^ (f + 1) := by
 rw [Nat.pow_succ] at h
 exact Nat.div_lt_of_lt_mul (by rw [Nat.mul_comm]; exact h)
theorem nM {f z : Nat} (h : 128 ≤ z) : vb (f + 1) z = UInt8.ofNat (z % 128 + 128) :: vb f (z / 128) := by rw [vb, if_neg (by omega)]
theorem nQ {f z : Nat} (h : z < 128) : vb f z = [UInt8.ofNat z] := by cases f <;> simp [vb, h]
theorem ky {n : Int} (h : small n) : zz n < 128 ^ (8 + 1) := by
 have := kZ h.1 h.2
 have e : (128 : Nat) ^ (8 + 1) = 9223372036854775808 := by decide
 rw [e]; exact this
theorem mo {n : Int} (h : small n) : zz n < 18446744073709551616 := by have := kZ h.1 h.2; omega
def gs : Nat → Nat → List (UInt8 × Bool)
 | 0, z => [(UInt8.ofNat (z % 128), true)]
 | f + 1, z => if z < 128 then [(UInt8.ofNat (z % 128), true)] else (UInt8.ofNat (z % 128), false) :: gs f (z / 128)
def enc1 (x : UInt8 × Bool) : UInt8 := if x.2 then x.1 else x.1 ||| 128
def encG (x : UInt8 × Bool) : List Value := [yv x.1, .bool x.2]
def NxG (pre : List (UInt8 × Bool)) (x : UInt8 × Bool) : Prop := pre.length < 9
theorem nD {f z : Nat} (h : ¬ z < 128) : gs (f + 1) z = (UInt8.ofNat (z % 128), false) :: gs f (z / 128) := by rw [gs, if_neg h]
theorem nq {f z : Nat} (h : z < 128) : gs f z = [(UInt8.ofNat (z % 128), true)] := by cases f <;> simp [gs, h]
theorem or128 : ∀ k, k < 128 → UInt8.ofNat k ||| 128 = UInt8.ofNat (k + 128) := by decide
theorem ob : ∀ (f z : Nat), z < 128 ^ (f + 1) → (gs f z).map enc1 = vb f z
 | 0, z, h => by simp [gs, vb, enc1] at h ⊢; rw [Nat.mod_eq_of_lt h]
 | f + 1, z, h => by
  unfold gs vb
  split
  ·rename_i h1
   simp [enc1, Nat.mod_eq_of_lt h1]
  ·rw [List.map_cons, ob f _ (iU h), enc1]
   simp only [Bool.false_eq_true, if_false]
   rw [or128 _ (Nat.mod_lt _ (by decide))]
def cu (n : Int) : Nat := (n % 18446744073709551616).toNat
theorem v_zz {P : Program} {w : World} {L : List (Nat × Value)} {dst : Option Tmp} {T T' ty : TypeId} {pos : String} {af : Array Edge} {gd : Option (Nat × Bool)} {x y : Operand} {n : Int} (hs : small n)
  (hx : ev L x = some (.int .u64 ((cu n * 2 % 18446744073709551616 : Nat) : Int))) (hy : ev L y = some (.int .u64 ((cu (if n < 0 then -1 else 0) : Nat) : Int))) : OpV P ⟨dst, .binOp .xor T x y T', ty, pos, af, gd⟩ L w (.int .u64 ((zz n : Nat) : Int)) := by
 have h1 := hs.1
 have h2 := hs.2
 by_cases hn : n < 0
 ·rw [if_pos hn] at hy
  have e : zz n = 18446744073709551615 - cu n * 2 % 18446744073709551616 := by unfold zz cu; rw [if_pos hn]; omega
  rw [e]
  exact na (Nat.mod_lt _ (by decide)) hx (by rw [hy]; rfl)
 ·rw [if_neg hn] at hy
  have e : zz n = cu n * 2 % 18446744073709551616 := by unfold zz cu; rw [if_neg hn]; omega
  rw [e]
  exact nv (Nat.mod_lt _ (by decide)) hx (by rw [hy]; rfl)
theorem l8 (n : Int) (w0 : World) (hs : small n) :
  Ret Tryz.prog 148 #[iv n] w0 fun v w => v = .int .u64 ((zz n : Nat) : Int) ∧ Ext No w0 w := by
 have hs1 := hs.1
 have hs2 := hs.2
 refine aD Tryz.func148 rfl Tryz.ntmps148 (lb rfl) fun a Z => ?_
 replace Z : Fr 13 [(0, _)] [] a := Z
 replace Y : St No w0 [] w0 := St.init w0
 refine aa fun K1 hK1 => wla Z rfl fun a Z => ab (hK1 _ _ <| ai fun K2 hK2 => ?_)
 refine aa fun K3 hK3 => wlm Z rfl fun a Z => wlv Z (v_lt rfl rfl) fun a Z => ab (hK3 _ _ ?_)
 refine aB Z rfl (fun hc1 => ?_) (fun hc1 => ?_)
 ·rw [hc1] at Z
  try simp only [qz] at hc1
  refine aa fun K4 hK4 => wlm Z rfl fun a Z => wlv Z (j5 rfl (by omega) (by omega)) fun a Z => wlv Z ((dL rfl (by kernel_rfl) Tryz.underlying215).asi (m' := (((-n).toNat : Nat) : Int)) (by omega)) fun a Z => wlv Z (mq (m := (-n).toNat) (n := 2) (by omega) rfl rfl) fun a Z => wlv Z (my (m := ((-n).toNat * 2)) (n := 1) (by omega) (by omega) rfl rfl) fun a Z => wla Z rfl fun a Z => ab (hK4 _ _ ?_)
  replace Z : Fr 13 [(0, _), (2, _)] [] a := Z.pick [0, 2]
  refine aq ?_
  refine ak Z Tryz.results148 (ah rfl ag) ?_
  refine ⟨congrArg (Value.int .u64) ?_, Y.ext⟩
  unfold zz
  split <;> omega
 rw [hc1] at Z
 try simp only [qz] at hc1
 refine ay <| hK2 _ _ <| aa fun K5 hK5 => wlm Z rfl fun a Z => wlv Z ((dL rfl (by kernel_rfl) Tryz.underlying215).asi (m' := (((n).toNat : Nat) : Int)) (by omega)) fun a Z => wlv Z (mq (m := (n).toNat) (n := 2) (by omega) rfl rfl) fun a Z => wla Z rfl fun a Z => ab (hK5 _ _ ?_)
 replace Z : Fr 13 [(2, _)] [] a := Z.pick [2]
 refine aq ?_
 refine ak Z Tryz.results148 (ah rfl ag) ?_
 refine ⟨congrArg (Value.int .u64) ?_, Y.ext⟩
 unfold zz
 split <;> omega
theorem kB (n : Int) (w0 : World) (hs : small n) :
  Ret Tryz.prog 127 #[iv n] w0 fun v w => v = .tuple #[sv (putI n), iv 0] ∧ Ext No w0 w := by
 refine aD Tryz.func127 rfl Tryz.ntmps127 (lb rfl) fun a Z => ?_
 replace Z : Fr 31 [(0, _)] [] a := Z
 replace Y : St No w0 [] w0 := St.init w0
 refine aa fun K1 hK1 => wla Z rfl fun a Z => wla Z rfl fun a Z => ab (hK1 _ _ <| ai fun K2 hK2 => ?_)
 refine aa fun K3 hK3 => wlm Z rfl fun a Z => wlv Z ((v_lt rfl rfl).asb (b' := false) (by rw [decide_eq_false_iff_not]; have := hs.1; omega)) fun a Z => wlm Z rfl fun a Z => wly Z (aj rfl) fun a Z => wly Z ((v_gt rfl rfl).asb (b' := false) (by rw [decide_eq_false_iff_not]; have := hs.2; omega)) fun a Z => wlv Z (au rfl rfl) fun a Z => ab (hK3 _ _ <| bj Z rfl ?_)
 refine ay <| hK2 _ _ <| aa fun K4 hK4 => wlm Z rfl fun a Z => az Z Y (by decide) Tryz.call148 rfl (l8 n _ hs) ?_
 clear Z Y
 intro a w1 Z Y
 refine wla Z rfl fun a Z => ab (hK4 _ _ ?_)
 replace Z : Fr 31 [(2, _), (3, _), (4, _)] [] a := Z.pick [2, 3, 4]
 refine aa fun K5 hK5 => wla Z rfl fun a Z => ab (hK5 _ _ <| ai fun K6 hK6 => ?_)
 refine ax ?_
 replace Y : St No w0 [own (.slice none 0 0) 5 1 ((([] : By)).map fun b => [yv b])] w1 := Y.nil_own
 refine bf (fun m a w => ∃ (f : Nat) (z : Nat) (bs : By) (v : Value), m = f ∧ (bs ++ vb f z = putI n) ∧ (z < 128 ^ (f + 1)) ∧ (bs.length + f = 8) ∧ (z < 18446744073709551616) ∧ Fr 31 [(2, sv ([])), (3, iv 0), (4, .int .u64 (z : Int)), (5, v)] [] a ∧ St No w0 [own v 5 1 ((bs).map fun b => [yv b])] w) _ ⟨8, zz n, [], .slice none 0 0, rfl, rfl, ky hs, rfl, mo hs, Z.pick [2, 3, 4, 5], Y⟩ ?_
 rintro _ a w2 ⟨f, z, bs, v, rfl, hb, hz, hl, hz6, Z, Y⟩
 refine ai fun K7 hK7 => aa fun K8 hK8 => wlm Z rfl fun a Z => wlv Z (v_ge rfl rfl) fun a Z => ab (hK8 _ _ ?_)
 refine aB Z rfl (fun hc1 => ?_) (fun hc1 => ?_)
 ·rw [hc1] at Z
  try simp only [qz] at hc1
  obtain ⟨g, rfl⟩ := m7 hz (by omega)
  rw [nM (by omega)] at hb
  refine ay <| hK7 _ _ <| ax <| aa fun K9 hK9 => wlm Z rfl fun a Z => wlm Z rfl fun a Z => wlv Z (od (m := z) (n := 128) (by omega) rfl rfl) fun a Z => wlv Z (oC (m := (z % 128)) (n := 128) (by omega) rfl rfl) fun a Z => ?_
  refine wlv Z (fB (n := ((z % 128) + 128)) rfl (by kernel_rfl) Tryz.underlying5) fun a Z => aH (E := 5) (sz := 1) rfl [[yv (UInt8.ofNat ((z % 128) + 128))]] (by kernel_rfl) (by simp) rfl (by decide) (by decide) Z Y ?_
  clear Z Y
  intro a w3 Z Y
  refine bL (i := 1) (sT := 62) (inf := Tryz.t5) (z := yv (0 : UInt8)) (b := 0) (off := 0) (m := 0) (c := 0) rfl rfl rfl (Y.ownAt (i := 0) rfl) (by simp) Tryz.underlying62 rfl rfl rfl rfl (by decide) (by simp [Value.oneCell', yv, wv, sv]) (by have hby : Tryz.t5.bytes = 1 := rfl; simp [big, hby] <;> omega) (by have hby : Tryz.t5.bytes = 1 := rfl; simp [big, hby] <;> omega) (by decide) Z Y fun a w4 s2 Z Y _ => ?_
  rw [show ((bs).map fun b => [yv b]) ++ ([[yv (UInt8.ofNat ((z % 128) + 128))]]) = ((bs ++ [(UInt8.ofNat ((z % 128) + 128))]).map fun b => [yv b]) from by simp] at Y
  refine wla Z rfl fun a Z => ab (hK9 _ _ ?_)
  replace Z : Fr 31 [(2, _), (3, _), (4, _), (5, _)] [] a := Z.pick [2, 3, 4, 5]
  replace Y : St No w0 [_] w4 := Y.mask [false, true]
  refine ar <| wlm Z rfl fun a Z => wlv Z (oE (m := z) (n := 128) (by omega) (by omega) rfl rfl) fun a Z => wla Z rfl fun a Z => ab ?_
  refine ⟨_, ?_, g, z / 128, bs ++ [UInt8.ofNat (z % 128 + 128)], s2, rfl, (by rw [List.append_assoc]; exact hb), (iU hz), (by rw [List.length_append]; simp; omega), (by omega), Z.pick [2, 3, 4, 5], Y⟩
  omega
 rw [hc1] at Z
 try simp only [qz] at hc1
 rw [nQ (by omega)] at hb
 refine aS <| hK6 _ _ <| aa fun K10 hK10 => wlm Z rfl fun a Z => wlm Z rfl fun a Z => wlv Z (fB (n := z) rfl (by kernel_rfl) Tryz.underlying5) fun a Z => aH (E := 5) (sz := 1) rfl [[yv (UInt8.ofNat z)]] (by kernel_rfl) (by simp) rfl (by decide) (by decide) Z Y ?_
 clear Z Y
 intro a w5 Z Y
 refine bL (i := 1) (sT := 62) (inf := Tryz.t5) (z := yv (0 : UInt8)) (b := 0) (off := 0) (m := 0) (c := 0) rfl rfl rfl (Y.ownAt (i := 0) rfl) (by simp) Tryz.underlying62 rfl rfl rfl rfl (by decide) (by simp [Value.oneCell', yv, wv, sv]) (by have hby : Tryz.t5.bytes = 1 := rfl; simp [big, hby] <;> omega) (by have hby : Tryz.t5.bytes = 1 := rfl; simp [big, hby] <;> omega) (by decide) Z Y fun a w6 s3 Z Y _ => ?_
 rw [show ((bs).map fun b => [yv b]) ++ ([[yv (UInt8.ofNat z)]]) = ((bs ++ [(UInt8.ofNat z)]).map fun b => [yv b]) from by simp] at Y
 refine wlv Z (dV (Y.ownAt (i := 1) rfl) rfl Tryz.underlying62 Tryz.underlying5 Tryz.underlying9) fun a Z => wla Z rfl fun a Z => wla Z rfl fun a Z => ab (hK10 _ _ ?_)
 replace Z : Fr 31 [(2, _), (3, _)] [] a := Z.pick [2, 3]
 replace Y : St No w0 [] w6 := Y.mask [false, false]
 refine aq ?_
 refine ak Z Tryz.results127 (ah rfl (ah rfl ag)) ?_
 exact ⟨by rw [← hb]; rfl, Y.ext⟩
theorem lY (z : Nat) (w0 : World) :
  Ret Tryz.prog 146 #[.int .u64 (z : Int)] w0 (MemR w0 (fun b : Nat => .func (.func 163) #[] #[pq b]) (fun b => [blk b [.int .u64 (z : Int)] 215]) (fun _ => True)) := by
 refine aD Tryz.func146 rfl Tryz.ntmps146 (lb rfl) fun a Z => ?_
 replace Z : Fr 4 [(0, _)] [] a := Z
 replace Y : St No w0 [] w0 := St.init w0
 refine aa fun K1 hK1 => aN Z Y (by decide) rfl (cs := [.int .u64 (z : Int)]) rfl ?_
 clear Z Y
 intro a w1 Z Y
 refine wla Z rfl fun a Z => ab (hK1 _ _ <| aa fun K2 hK2 => ?_)
 refine wlv Z (co rfl rfl) fun a Z => wla Z rfl fun a Z => ab (hK2 _ _ <| aq ?_)
 refine ak Z Tryz.results146 (ah rfl ag) ?_
 exact ⟨w0.heap.size, rfl, trivial, Y.ext, St.out (H := []) Y⟩
theorem kU {M : Nat → Prop} {w0 : World} (z0 lp bg : Nat) (J Jx : List (UInt8 × Bool) → Ent → Prop) (hY : Rounds Tryz.prog M w0 lp encG NxG J Jx) (e0 : Ent) (ws : World) (hz0 : z0 < 128 ^ (8 + 1)) (hz06 : z0 < 18446744073709551616) (hJ : J [] e0) (Y : St M w0 [e0, blk bg [.int .u64 (z0 : Int)] 215] ws) :
  Ret Tryz.prog 163 #[.func (.yield lp) #[] #[], pq bg] ws fun _ w => ∃ e1 Hi1, St M w0 (e1 :: Hi1) w ∧ ((∃ xs, (xs = gs 8 z0 ∧ ∃ z1 : Nat, Hi1 = [blk bg [.int .u64 (z1 : Int)] 215]) ∧ J xs e1) ∨ (∃ pre, (∃ z1 : Nat, Hi1 = [blk bg [.int .u64 (z1 : Int)] 215]) ∧ Jx pre e1)) := by
 refine aD Tryz.func163 rfl Tryz.ntmps163 (lb rfl) fun a Z => ?_
 replace Z : Fr 18 [(0, _), (1, _)] [] a := Z
 skip
 refine ax <| bf (fun m a w => ∃ (f : Nat) (z : Nat) (e : Ent) (dn : List (UInt8 × Bool)), m = f ∧ (dn ++ gs f z = gs 8 z0) ∧ (z < 128 ^ (f + 1)) ∧ (dn.length + f = 8) ∧ (z < 18446744073709551616) ∧ (J dn e) ∧ Fr 18 [(0, .func (.yield lp) #[] #[]), (1, pq bg)] [] a ∧ St M w0 [e, blk bg [.int .u64 (z : Int)] 215] w) _ ⟨8, z0, e0, [], rfl, rfl, hz0, rfl, hz06, hJ, Z.pick [0, 1], Y⟩ ?_
 rintro _ a w1 ⟨f, z, e, dn, rfl, hg, hz, hl, hz6, hJ, Z, Y⟩
 refine ax <| aa fun K1 hK1 => wlv Z (ae (Y.get (k := 1) rfl) rfl (Tryz.isAgg215 _) rfl) fun a Z => wlv Z (v_lt rfl rfl) fun a Z => wla Z rfl fun a Z => ab (hK1 _ _ <| ai fun K2 hK2 => ?_)
 refine aa fun K3 hK3 => wlm Z rfl fun a Z => wlv Z (ae (Y.get (k := 1) rfl) rfl (Tryz.isAgg215 _) rfl) fun a Z => wlv Z ((oD (m := z) (k := 7) (by omega) (by omega) rfl rfl).asi (m' := ((z % 128 : Nat) : Int)) rfl) fun a Z => wlv Z (fB (n := (z % 128)) rfl (by kernel_rfl) Tryz.underlying5) fun a Z => wlm Z rfl fun a Z => wl_r (eb rfl rfl (hY.yield (pre := dn) (x := (UInt8.ofNat (z % 128), decide ((z : Int) < 128))) (by show dn.length < 9; omega) hJ (Y.only (i := 0) rfl))) rfl rfl Z ?_
 clear Z
 intro a v w2 hR Z
 obtain ⟨y1, e2, rfl, hx, hok, hft, hJt, hJf⟩ := hR
 replace Y := Y.exchange (k := 0) rfl hx hok hft
 replace Y : St M w0 [e2, blk bg [.int .u64 (z : Int)] 215] w2 := Y
 clear hx hok hft
 refine wlv Z (bK rfl) fun a Z => wlm Z rfl fun a Z => ?_
 rcases Bool.eq_false_or_eq_true (!y1) with hb3 | hb3
 ·rw [hb3] at Z
  try simp only [qz] at hb3
  have hJ := hJf hb3
  refine wln Z fun a Z => wlv Z (aw rfl rfl) fun a Z => ab (hK3 _ _ ?_)
  replace Z : Fr 18 [(0, _), (1, _), (15, _)] [] a := Z.pick [0, 1, 15]
  refine aX Z rfl ?_
  refine aq ?_
  refine ak Z Tryz.results163 ag ?_
  first | exact ⟨_, _, Y, .inl ⟨_, ⟨rfl, _, rfl⟩, hJ⟩⟩ | exact ⟨_, _, Y, .inr ⟨_, ⟨_, rfl⟩, hJ⟩⟩
 rw [hb3] at Z
 try simp only [qz] at hb3
 have hJ := hJt hb3
 refine wly Z (aj rfl) fun a Z => wlv Z (au rfl rfl) fun a Z => ab (hK3 _ _ ?_)
 replace Z : Fr 18 [(0, _), (1, _), (15, _)] [] a := Z.pick [0, 1, 15]
 refine aB Z rfl (fun hc4 => ?_) (fun hc4 => ?_)
 ·rw [hc4] at Z
  try simp only [qz] at hc4
  rw [decide_eq_true hc4] at hJ
  rw [nq (by omega)] at hg
  rw [hg] at hJ
  refine aq ?_
  refine ak Z Tryz.results163 ag ?_
  first | exact ⟨_, _, Y, .inl ⟨_, ⟨rfl, _, rfl⟩, hJ⟩⟩ | exact ⟨_, _, Y, .inr ⟨_, ⟨_, rfl⟩, hJ⟩⟩
 rw [hc4] at Z
 try simp only [qz] at hc4
 rw [decide_eq_false hc4] at hJ
 obtain ⟨g, rfl⟩ := m7 hz (by omega)
 rw [nD (by omega)] at hg
 refine ay <| hK2 _ _ <| ar <| wlv Z (ae (Y.get (k := 1) rfl) rfl (Tryz.isAgg215 _) rfl) fun a Z => wlv Z ((om (m := z) (n := 7) (by omega) rfl rfl).asi (m' := ((z / 128 : Nat) : Int)) rfl) fun a Z => ap 1 Z Y rfl rfl rfl (Tryz.sizeOf215 _) rfl (lb rfl) (ds := [.int .u64 ((z / 128 : Nat) : Int)]) rfl rfl ?_
 clear Z Y
 intro a w3 Z Y
 refine ab ?_
 refine ⟨_, ?_, g, z / 128, e2, dn ++ [(UInt8.ofNat (z % 128), false)], rfl, (by rw [List.append_assoc]; exact hg), (iU hz), (by rw [List.length_append]; simp; omega), (by omega), hJ, Z.pick [0, 1], Y⟩
 omega
theorem jB {M : Nat → Prop} {w0 : World} (z0 bg : Nat) (hz0 : z0 < 128 ^ (8 + 1)) (hz06 : z0 < 18446744073709551616) :
  Iter Tryz.prog 163 [pq bg] encG NxG (fun xs Hi1 => xs = gs 8 z0 ∧ ∃ z1 : Nat, Hi1 = [blk bg [.int .u64 (z1 : Int)] 215]) (fun pre Hi1 => ∃ z1 : Nat, Hi1 = [blk bg [.int .u64 (z1 : Int)] 215]) M w0 [blk bg [.int .u64 (z0 : Int)] 215] :=
 fun lp J Jx w e hY hJ Y => kU z0 lp bg J Jx hY e w hz0 hz06 hJ Y
theorem lM (n : Int) (w0 : World) (hs : small n) :
  Ret Tryz.prog 125 #[iv n] w0 fun v w => v = .tuple #[sv (putI n), iv 0] ∧ Ext No w0 w := by
 have hs1 := hs.1
 have hs2 := hs.2
 refine aD Tryz.func125 rfl Tryz.ntmps125 (lb rfl) fun a Z => ?_
 replace Z : Fr 33 [(0, _)] [] a := Z
 replace Y : St No w0 [] w0 := St.init w0
 refine aa fun K1 hK1 => wla Z rfl fun a Z => wla Z rfl fun a Z => ab (hK1 _ _ <| ai fun K2 hK2 => ?_)
 refine aa fun K3 hK3 => wlm Z rfl fun a Z => wlv Z ((v_lt rfl rfl).asb (b' := false) (by rw [decide_eq_false_iff_not]; have := hs.1; omega)) fun a Z => wlm Z rfl fun a Z => wly Z (aj rfl) fun a Z => wly Z ((v_gt rfl rfl).asb (b' := false) (by rw [decide_eq_false_iff_not]; have := hs.2; omega)) fun a Z => wlv Z (au rfl rfl) fun a Z => ab (hK3 _ _ <| bj Z rfl ?_)
 refine ay <| hK2 _ _ <| aa fun K4 hK4 => aI Z Y (by decide) (Tryz.zeroValue62 _) (cs := [.slice none 0 0]) rfl ?_
 clear Z Y
 intro a w1 Z Y
 refine ab (hK4 _ _ ?_)
 replace Z : Fr 33 [(0, _), (2, _), (3, _), (4, _)] [] a := Z.pick [0, 2, 3, 4]
 refine ai fun K5 hK5 => aa fun K6 hK6 => wlm Z rfl fun a Z => wlv Z ((dL rfl (by kernel_rfl) Tryz.underlying215).asi (m' := ((cu (n) : Nat) : Int)) rfl) fun a Z => wlv Z (ov (m := cu n) (n := 1) (by omega) rfl rfl) fun a Z => wlm Z rfl fun a Z => wlv Z (nU (by omega) (by omega) rfl rfl) fun a Z => wlv Z ((dL rfl (by kernel_rfl) Tryz.underlying215).asi (m' := ((cu (if n < 0 then -1 else 0) : Nat) : Int)) rfl) fun a Z => ?_
 refine wlv Z (v_zz hs rfl rfl) fun a Z => bJ Z Y (by decide) Tryz.call146 rfl (lY (zz n) _) ?_
 clear Z Y
 intro a w2 x1 hp Z Y
 revert x1 hp Z Y; rintro bg hp Z Y
 clear hp
 replace Y : St No w0 [blk bg [.int .u64 (zz n : Int)] 215, blk w0.heap.size [.slice none 0 0] 62] w2 := Y
 refine ab (hK6 _ _ ?_)
 replace Z : Fr 33 [(2, _), (3, _), (4, _), (20, _)] [] a := Z.pick [2, 3, 4, 20]
 refine ax ?_
 replace Y : St No w0 [own (.slice none 0 0) 5 1 ((([] : List (UInt8 × Bool)).map enc1).map fun b => [yv b]), blk bg [.int .u64 (zz n : Int)] 215, blk w0.heap.size [.slice none 0 0] 62] w2 := Y.nil_own
 replace Y : St No w0 [blk w0.heap.size [.slice none 0 0] 62, own (.slice none 0 0) 5 1 ((([] : List (UInt8 × Bool)).map enc1).map fun b => [yv b]), blk bg [.int .u64 (zz n : Int)] 215] w2 := Y.select [2, 0, 1] (by decide)
 replace Z : Fr 33 [(2, sv ([])), (3, iv 0), (4, pq w0.heap.size), (20, .func (.func 163) #[] #[pq bg])] [] a := Z.pick [2, 3, 4, 20]
 refine dH (M := No) (w0 := w0) (encs := encG) (Hi := [blk bg [.int .u64 (zz n : Int)] 215]) (Hc := [blk w0.heap.size [.slice none 0 0] 62, own (.slice none 0 0) 5 1 ((([] : List (UInt8 × Bool)).map enc1).map fun b => [yv b])]) (fun pre H => ∃ (v : Value), H = [blk w0.heap.size [v] 62, own v 5 1 ((pre.map enc1).map fun b => [yv b])]) (fun _ _ _ => False) (fun pre xs H a => Fr 33 [(2, sv ([])), (3, iv 0), (4, pq w0.heap.size), (20, .func (.func 163) #[] #[pq bg]), (5, yv xs.1), (6, .bool xs.2)] [] a ∧ ∃ (v : Value), H = [blk w0.heap.size [v] 62, own v 5 1 ((pre.map enc1).map fun b => [yv b])]) rfl Tryz.call163 Z Y (jB (zz n) bg (ky hs) (mo hs)) (by decide) (fun _ => rfl) ⟨.slice none 0 0, rfl⟩ ?_ ?_ ?_ ?_
 ·clear Z Y
  rintro lp pre xs _ a w3 hnx ⟨v, rfl⟩ Z Y
  generalize (join [blk w0.heap.size [v] 62, own v 5 1 ((pre.map enc1).map fun b => [yv b])]).foot = M1 at Y ⊢
  replace Z : Fr 33 [(22, .bool xs.2), (21, yv xs.1), (2, sv ([])), (3, iv 0), (4, pq w0.heap.size), (20, .func (.func 163) #[] #[pq bg])] [] a := Z
  refine aa fun K7 hK7 => wla Z rfl fun a Z => ab (hK7 _ _ <| ar ?_)
  refine wla Z rfl fun a Z => ab ?_
  exact ⟨_, ⟨Z.pick [2, 3, 4, 20, 5, 6], v, rfl⟩, Y⟩
 ·rintro lp pre xs _ a w4 hnx ⟨Z, v, rfl⟩ hout hrec hnl Y
  clear hrec hnl
  generalize (join [blk w0.heap.size [v] 62, own v 5 1 ((pre.map enc1).map fun b => [yv b])]).foot = M1 at Y hout ⊢
  refine ax <| ai fun K8 hK8 => aa fun K9 hK9 => wlm Z rfl fun a Z => wlv Z (bK rfl) fun a Z => ab (hK9 _ _ ?_)
  refine aB Z rfl (fun hc2 => ?_) (fun hc2 => ?_)
  ·rw [hc2] at Z
   try simp only [qz] at hc2
   refine ar <| wlm Z rfl fun a Z => wlv Z (v_yor (a := xs.1) (b := (128 : UInt8)) rfl rfl) fun a Z => wla Z rfl fun a Z => ab <| hK8 _ _ ?_
   replace Z : Fr 33 [(2, _), (3, _), (4, _), (5, _)] [] a := Z.pick [2, 3, 4, 5]
   refine ar <| wlv Z (ae (Y.get (k := 0) rfl) rfl (Tryz.isAgg62 _) rfl) fun a Z => wlm Z rfl fun a Z => aH (E := 5) (sz := 1) rfl [[yv (xs.1 ||| (128 : UInt8))]] (by kernel_rfl) (by simp) rfl (by decide) (by decide) Z Y ?_
   clear Z Y
   intro a w5 Z Y
   refine bL (i := 2) (sT := 62) (inf := Tryz.t5) (z := yv (0 : UInt8)) (b := 0) (off := 0) (m := 0) (c := 0) rfl rfl rfl (Y.ownAt (i := 0) rfl) (by simp) Tryz.underlying62 rfl rfl rfl rfl (by decide) (by simp [Value.oneCell', yv, wv, sv]) (by have hby : Tryz.t5.bytes = 1 := rfl; have : pre.length < 9 := hnx; simp [big, hby] <;> omega) (by have hby : Tryz.t5.bytes = 1 := rfl; have : pre.length < 9 := hnx; simp [big, hby] <;> omega) (by decide) Z Y fun a w6 s3 Z Y _ => ?_
   rw [show ((pre.map enc1).map fun b => [yv b]) ++ ([[yv (xs.1 ||| (128 : UInt8))]]) = (((pre ++ [xs]).map enc1).map fun b => [yv b]) from by simp [enc1, hc2]] at Y
   refine cJ 1 Z Y (Y.ownAt (i := 2) rfl) rfl rfl rfl (Tryz.sizeOf62 _) (lb rfl) (ds := [s3]) rfl rfl ?_
   clear Z Y
   intro a w7 Z Y
   refine ab ?_
   exact ⟨_, ⟨s3, rfl⟩, Y.select [1, 2] (by decide)⟩
  rw [hc2] at Z
  try simp only [qz] at hc2
  refine ay <| hK8 _ _ <| ar <| wlv Z (ae (Y.get (k := 0) rfl) rfl (Tryz.isAgg62 _) rfl) fun a Z => wlm Z rfl fun a Z => aH (E := 5) (sz := 1) rfl [[yv xs.1]] (by kernel_rfl) (by simp) rfl (by decide) (by decide) Z Y ?_
  clear Z Y
  intro a w8 Z Y
  refine bL (i := 2) (sT := 62) (inf := Tryz.t5) (z := yv (0 : UInt8)) (b := 0) (off := 0) (m := 0) (c := 0) rfl rfl rfl (Y.ownAt (i := 0) rfl) (by simp) Tryz.underlying62 rfl rfl rfl rfl (by decide) (by simp [Value.oneCell', yv, wv, sv]) (by have hby : Tryz.t5.bytes = 1 := rfl; have : pre.length < 9 := hnx; simp [big, hby] <;> omega) (by have hby : Tryz.t5.bytes = 1 := rfl; have : pre.length < 9 := hnx; simp [big, hby] <;> omega) (by decide) Z Y fun a w9 s4 Z Y _ => ?_
  rw [show ((pre.map enc1).map fun b => [yv b]) ++ ([[yv xs.1]]) = (((pre ++ [xs]).map enc1).map fun b => [yv b]) from by simp [enc1, hc2]] at Y
  refine cJ 1 Z Y (Y.ownAt (i := 2) rfl) rfl rfl rfl (Tryz.sizeOf62 _) (lb rfl) (ds := [s4]) rfl rfl ?_
  clear Z Y
  intro a w10 Z Y
  refine ab ?_
  exact ⟨_, ⟨s4, rfl⟩, Y.select [1, 2] (by decide)⟩
 ·rintro D pre _ _ a w11 ⟨rfl, z1, rfl⟩ ⟨v, rfl⟩ Y Z
  replace Z : Fr 33 [(2, sv ([])), (3, iv 0), (4, pq w0.heap.size), (20, .func (.func 163) #[] #[pq bg])] [{ target := .collected D, args := #[] }] a := Z
  replace Y : St No w0 [obj D (.deferred (some [])), blk w0.heap.size [v] 62, own v 5 1 (((gs 8 (zz n)).map enc1).map fun b => [yv b]), blk bg [.int .u64 (z1 : Int)] 215] w11 := Y
  refine hK5 _ _ <| aa fun K10 hK10 => wlv Z (ae (Y.get (k := 1) rfl) rfl (Tryz.isAgg62 _) rfl) fun a Z => wlv Z (dV (Y.ownAt (i := 2) rfl) rfl Tryz.underlying62 Tryz.underlying5 Tryz.underlying9) fun a Z => wla Z rfl fun a Z => wla Z rfl fun a Z => ab (hK10 _ _ <| aq ?_)
  have hD := Y.get (k := 0) rfl
  replace Y := Y.unmark (i := 0) (o' := .deferred none) rfl
  replace Y : St No w0 [blk w0.heap.size [v] 62, own v 5 1 (((gs 8 (zz n)).map enc1).map fun b => [yv b]), blk bg [.int .u64 (z1 : Int)] 215] _ := Y
  refine ch Z hD Tryz.results125 (ah rfl (ah rfl ag)) ?_
  exact ⟨by rw [ob 8 _ (ky hs)]; rfl, Y.ext⟩
 ·rintro D c pre _ _ a w12 _ h
  exact h.elim
end Go.Proofs.YtmmfieceinmloaaGreatDoor
namespace Go.Proofs.YtmmfieceinmloaaGreatDoor
open Go.RowKit Go.PW
set_option linter.unusedVariables false
set_option linter.unusedSimpArgs false
set_option maxRecDepth 4000
def Wsh.nums (x : Wsh) : List Int := [1, x.signer, x.holder, x.rf, x.rt, x.carrier, x.serial, x.sf, x.st]
def Pxy.nums (x : Pxy) : List Int := [2, x.frm, x.to, x.rf, x.rt, x.sf, x.st]
def smalls (l : List Int) : Prop := ∀ n ∈ l, small n
theorem Wsh.smalls_of {x : Wsh} (h : x.ok = true) : smalls x.nums := by
 simp only [Wsh.ok, inB, cc, cB, Bool.and_eq_true, decide_eq_true_eq] at h
 intro n hn
 simp only [Wsh.nums, List.mem_cons, List.not_mem_nil, or_false] at hn
 unfold small
 rcases hn with rfl | rfl | rfl | rfl | rfl | rfl | rfl | rfl | rfl <;> omega
theorem Pxy.smalls_of {x : Pxy} (h : x.ok = true) : smalls x.nums := by
 simp only [Pxy.ok, inB, cc, cB, Bool.and_eq_true, decide_eq_true_eq] at h
 intro n hn
 simp only [Pxy.nums, List.mem_cons, List.not_mem_nil, or_false] at hn
 unfold small
 rcases hn with rfl | rfl | rfl | rfl | rfl | rfl | rfl <;> omega
theorem Wsh.content_len (x : Wsh) : x.content.length ≤ 81 := Nat.le_trans (eo _) (Nat.le_refl _)
theorem Pxy.content_len (x : Pxy) : x.content.length ≤ 63 := Nat.le_trans (eo _) (Nat.le_refl _)
theorem im (n lo hi : Int) (w0 : World) :
  Ret Tryz.prog 86 #[iv n, iv lo, iv hi] w0 fun v w => v = .bool (inB n lo hi) ∧ Ext No w0 w := by
 refine aD Tryz.func86 rfl Tryz.ntmps86 (lb rfl) fun a Z => ?_
 replace Z : Fr 15 [(0, _), (1, _), (2, _)] [] a := Z
 replace Y : St No w0 [] w0 := St.init w0
 refine aa fun K1 hK1 => wla Z rfl fun a Z => ab (hK1 _ _ <| aa fun K2 hK2 => ?_)
 refine wlm Z rfl fun a Z => wlm Z rfl fun a Z => wlv Z (v_ge rfl rfl) fun a Z => wlm Z rfl fun a Z => ?_
 refine cz (N := 15) (df := []) 4 [(14, .bool ((decide (lo ≤ n)) && (decide (n ≤ hi)))), (0, iv n), (1, iv lo), (2, iv hi), (6, .bool false)] ?_ (fun hj => ?_)
 rotate_left
 ·rcases Bool.eq_false_or_eq_true (decide (lo ≤ n)) with hb1 | hb1
  ·rw [hb1] at Z
   have hb1b := hb1
   try simp only [qz, Bool.and_eq_true, Bool.or_eq_true, Bool.and_eq_false_iff, Bool.or_eq_false_iff] at hb1
   refine wly Z (aj rfl) fun a Z => wly Z (aj rfl) fun a Z => wly Z (v_le rfl rfl) fun a Z => wlv Z (aw rfl rfl) fun a Z => ?_
   refine hj _ ?_
   try rw [hb1b]
   exact Z.pick [14, 0, 1, 2, 6]
  rw [hb1] at Z
  have hb1b := hb1
  try simp only [qz, Bool.and_eq_true, Bool.or_eq_true, Bool.and_eq_false_iff, Bool.or_eq_false_iff] at hb1
  refine wln Z fun a Z => wln Z fun a Z => wln Z fun a Z => wlv Z (au rfl rfl) fun a Z => ?_
  refine hj _ ?_
  try rw [hb1b]
  exact Z.pick [14, 0, 1, 2, 6]
 intro a Z
 refine wla Z rfl fun a Z => ab (hK2 _ _ <| aq ?_)
 refine ak Z Tryz.results86 (ah rfl ag) ?_
 exact ⟨by rfl, Y.ext⟩
theorem ir (b d : Int) (w0 : World) :
  Ret Tryz.prog 122 #[.agg #[iv b, iv d]] w0 fun v w => v = .bool (cc b d) ∧ Ext No w0 w := by
 refine aD Tryz.func122 rfl Tryz.ntmps122 (lb rfl) fun a Z => ?_
 replace Z : Fr 18 [(0, _)] [] a := Z
 replace Y : St No w0 [] w0 := St.init w0
 refine aa fun K1 hK1 => aN Z Y (by decide) rfl (cs := [iv b, iv d]) rfl ?_
 clear Z Y
 intro a w1 Z Y
 refine wla Z rfl fun a Z => ab (hK1 _ _ <| aa fun K2 hK2 => ?_)
 refine wlv Z (ac (v := pq w0.heap.size) rfl (by kernel_rfl)) fun a Z => wlv Z (ae (Y.get (k := 0) rfl) rfl (Tryz.isAgg3 _) rfl) fun a Z => wlv Z (v_ge rfl rfl) fun a Z => wlm Z rfl fun a Z => ?_
 refine cz (N := 18) (df := []) 6 [(12, .bool ((decide (0 ≤ b)) && (decide (b < d)))), (0, .agg #[iv b, iv d]), (1, pq w0.heap.size), (2, .bool false)] ?_ (fun hj => ?_)
 rotate_left
 ·rcases Bool.eq_false_or_eq_true (decide (0 ≤ b)) with hb1 | hb1
  ·rw [hb1] at Z
   have hb1b := hb1
   try simp only [qz, Bool.and_eq_true, Bool.or_eq_true, Bool.and_eq_false_iff, Bool.or_eq_false_iff] at hb1
   refine wly Z (ac (v := pq w0.heap.size) rfl (by kernel_rfl)) fun a Z => wly Z (ae (Y.get (k := 0) rfl) rfl (Tryz.isAgg3 _) rfl) fun a Z => wly Z (ac (v := .pointer (some ⟨w0.heap.size, 1, none⟩)) rfl (by kernel_rfl)) fun a Z => wly Z (ae (Y.get (k := 0) rfl) rfl (Tryz.isAgg3 _) rfl) fun a Z => wly Z (v_lt rfl rfl) fun a Z => wlv Z (aw rfl rfl) fun a Z => ?_
   refine hj _ ?_
   try rw [hb1b]
   exact Z.pick [12, 0, 1, 2]
  rw [hb1] at Z
  have hb1b := hb1
  try simp only [qz, Bool.and_eq_true, Bool.or_eq_true, Bool.and_eq_false_iff, Bool.or_eq_false_iff] at hb1
  refine wln Z fun a Z => wln Z fun a Z => wln Z fun a Z => wln Z fun a Z => wln Z fun a Z => wlv Z (au rfl rfl) fun a Z => ?_
  refine hj _ ?_
  try rw [hb1b]
  exact Z.pick [12, 0, 1, 2]
 intro a Z
 refine wlm Z rfl fun a Z => ?_
 refine cz (N := 18) (df := []) 4 [(17, .bool (((decide (0 ≤ b)) && (decide (b < d))) && (decide (d ≤ 100000000)))), (0, .agg #[iv b, iv d]), (1, pq w0.heap.size), (2, .bool false)] ?_ (fun hj => ?_)
 rotate_left
 ·rcases Bool.eq_false_or_eq_true ((decide (0 ≤ b)) && (decide (b < d))) with hb2 | hb2
  ·rw [hb2] at Z
   have hb2b := hb2
   try simp only [qz, Bool.and_eq_true, Bool.or_eq_true, Bool.and_eq_false_iff, Bool.or_eq_false_iff] at hb2
   refine wly Z (ac (v := .pointer (some ⟨w0.heap.size, 1, none⟩)) rfl (by kernel_rfl)) fun a Z => wly Z (ae (Y.get (k := 0) rfl) rfl (Tryz.isAgg3 _) rfl) fun a Z => wly Z (v_le rfl rfl) fun a Z => wlv Z (aw rfl rfl) fun a Z => ?_
   refine hj _ ?_
   try rw [hb2b]
   exact Z.pick [17, 0, 1, 2]
  rw [hb2] at Z
  have hb2b := hb2
  try simp only [qz, Bool.and_eq_true, Bool.or_eq_true, Bool.and_eq_false_iff, Bool.or_eq_false_iff] at hb2
  refine wln Z fun a Z => wln Z fun a Z => wln Z fun a Z => wlv Z (au rfl rfl) fun a Z => ?_
  refine hj _ ?_
  try rw [hb2b]
  exact Z.pick [17, 0, 1, 2]
 intro a Z
 refine wla Z rfl fun a Z => ab (hK2 _ _ <| aq ?_)
 refine ak Z Tryz.results122 (ah rfl ag) ?_
 exact ⟨by rfl, Y.ext⟩
theorem ic (b d : Int) (w0 : World) :
  Ret Tryz.prog 123 #[.agg #[iv b, iv d]] w0 fun v w => v = .bool (cB b d) ∧ Ext No w0 w := by
 refine aD Tryz.func123 rfl Tryz.ntmps123 (lb rfl) fun a Z => ?_
 replace Z : Fr 18 [(0, _)] [] a := Z
 replace Y : St No w0 [] w0 := St.init w0
 refine aa fun K1 hK1 => aN Z Y (by decide) rfl (cs := [iv b, iv d]) rfl ?_
 clear Z Y
 intro a w1 Z Y
 refine wla Z rfl fun a Z => ab (hK1 _ _ <| aa fun K2 hK2 => ?_)
 refine wlv Z (ac (v := pq w0.heap.size) rfl (by kernel_rfl)) fun a Z => wlv Z (ae (Y.get (k := 0) rfl) rfl (Tryz.isAgg3 _) rfl) fun a Z => wlv Z (v_ge rfl rfl) fun a Z => wlm Z rfl fun a Z => ?_
 refine cz (N := 18) (df := []) 6 [(12, .bool ((decide (0 ≤ b)) && (decide (b < d)))), (0, .agg #[iv b, iv d]), (1, pq w0.heap.size), (2, .bool false)] ?_ (fun hj => ?_)
 rotate_left
 ·rcases Bool.eq_false_or_eq_true (decide (0 ≤ b)) with hb1 | hb1
  ·rw [hb1] at Z
   have hb1b := hb1
   try simp only [qz, Bool.and_eq_true, Bool.or_eq_true, Bool.and_eq_false_iff, Bool.or_eq_false_iff] at hb1
   refine wly Z (ac (v := pq w0.heap.size) rfl (by kernel_rfl)) fun a Z => wly Z (ae (Y.get (k := 0) rfl) rfl (Tryz.isAgg3 _) rfl) fun a Z => wly Z (ac (v := .pointer (some ⟨w0.heap.size, 1, none⟩)) rfl (by kernel_rfl)) fun a Z => wly Z (ae (Y.get (k := 0) rfl) rfl (Tryz.isAgg3 _) rfl) fun a Z => wly Z (v_lt rfl rfl) fun a Z => wlv Z (aw rfl rfl) fun a Z => ?_
   refine hj _ ?_
   try rw [hb1b]
   exact Z.pick [12, 0, 1, 2]
  rw [hb1] at Z
  have hb1b := hb1
  try simp only [qz, Bool.and_eq_true, Bool.or_eq_true, Bool.and_eq_false_iff, Bool.or_eq_false_iff] at hb1
  refine wln Z fun a Z => wln Z fun a Z => wln Z fun a Z => wln Z fun a Z => wln Z fun a Z => wlv Z (au rfl rfl) fun a Z => ?_
  refine hj _ ?_
  try rw [hb1b]
  exact Z.pick [12, 0, 1, 2]
 intro a Z
 refine wlm Z rfl fun a Z => ?_
 refine cz (N := 18) (df := []) 4 [(17, .bool (((decide (0 ≤ b)) && (decide (b < d))) && (decide (d ≤ 10000001)))), (0, .agg #[iv b, iv d]), (1, pq w0.heap.size), (2, .bool false)] ?_ (fun hj => ?_)
 rotate_left
 ·rcases Bool.eq_false_or_eq_true ((decide (0 ≤ b)) && (decide (b < d))) with hb2 | hb2
  ·rw [hb2] at Z
   have hb2b := hb2
   try simp only [qz, Bool.and_eq_true, Bool.or_eq_true, Bool.and_eq_false_iff, Bool.or_eq_false_iff] at hb2
   refine wly Z (ac (v := .pointer (some ⟨w0.heap.size, 1, none⟩)) rfl (by kernel_rfl)) fun a Z => wly Z (ae (Y.get (k := 0) rfl) rfl (Tryz.isAgg3 _) rfl) fun a Z => wly Z (v_le rfl rfl) fun a Z => wlv Z (aw rfl rfl) fun a Z => ?_
   refine hj _ ?_
   try rw [hb2b]
   exact Z.pick [17, 0, 1, 2]
  rw [hb2] at Z
  have hb2b := hb2
  try simp only [qz, Bool.and_eq_true, Bool.or_eq_true, Bool.and_eq_false_iff, Bool.or_eq_false_iff] at hb2
  refine wln Z fun a Z => wln Z fun a Z => wln Z fun a Z => wlv Z (au rfl rfl) fun a Z => ?_
  refine hj _ ?_
  try rw [hb2b]
  exact Z.pick [17, 0, 1, 2]
 intro a Z
 refine wla Z rfl fun a Z => ab (hK2 _ _ <| aq ?_)
 refine ak Z Tryz.results123 (ah rfl ag) ?_
 exact ⟨by rfl, Y.ext⟩
set_option maxHeartbeats 4000000 in
theorem mH (x : Wsh) (w0 : World) :
  Ret Tryz.prog 68 #[.agg #[iv x.signer, iv x.holder, iv x.rf, iv x.rt, iv x.carrier, iv x.serial, iv x.sf, iv x.st, sv x.sig]] w0 fun v w => v = .bool x.ok ∧ Ext No w0 w := by
 refine aD Tryz.func68 rfl Tryz.ntmps68 (lb rfl) fun a Z => ?_
 replace Z : Fr 31 [(0, _)] [] a := Z
 replace Y : St No w0 [] w0 := St.init w0
 refine aa fun K1 hK1 => aN Z Y (by decide) rfl (cs := [iv x.signer, iv x.holder, iv x.rf, iv x.rt, iv x.carrier, iv x.serial, iv x.sf, iv x.st, sv x.sig]) rfl ?_
 clear Z Y
 intro a w1 Z Y
 refine wla Z rfl fun a Z => ab (hK1 _ _ <| aa fun K2 hK2 => ?_)
 refine wlv Z (ac (v := pq w0.heap.size) rfl (by kernel_rfl)) fun a Z => wlv Z (ae (Y.get (k := 0) rfl) rfl (Tryz.isAgg3 _) rfl) fun a Z => az Z Y (by decide) Tryz.call86 rfl (im x.signer 0 63 _) ?_
 clear Z Y
 intro a w2 Z Y
 refine wlm Z rfl fun a Z => ?_
 rcases Bool.eq_false_or_eq_true (inB x.signer 0 63) with hb1 | hb1
 ·rw [hb1] at Z
  try simp only [qz] at hb1
  refine wly Z (ac (v := .pointer (some ⟨w0.heap.size, 1, none⟩)) rfl (by kernel_rfl)) fun a Z => wly Z (ae (Y.get (k := 0) rfl) rfl (Tryz.isAgg3 _) rfl) fun a Z => aJ Z Y (by decide) rfl (by decide) rfl Tryz.call86 rfl (im x.holder 0 63 _) ?_
  clear Z Y
  intro a w3 Z Y
  refine wlv Z (aw rfl rfl) fun a Z => wlm Z rfl fun a Z => ?_
  rcases Bool.eq_false_or_eq_true (inB x.holder 0 63) with hb2 | hb2
  ·rw [hb2] at Z
   try simp only [qz] at hb2
   refine wly Z (ac (v := .pointer (some ⟨w0.heap.size, 2, none⟩)) rfl (by kernel_rfl)) fun a Z => wly Z (bO (ds := [iv x.rf, iv x.rt]) (Y.get (k := 0) rfl) rfl (Tryz.isAgg27 _) (Tryz.sizeOf27 _) rfl) fun a Z => aJ Z Y (by decide) rfl (by decide) rfl Tryz.call122 rfl (ir x.rf x.rt _) ?_
   clear Z Y
   intro a w4 Z Y
   refine wlv Z (aw rfl rfl) fun a Z => wlm Z rfl fun a Z => ?_
   rcases Bool.eq_false_or_eq_true (cc x.rf x.rt) with hb3 | hb3
   ·rw [hb3] at Z
    try simp only [qz] at hb3
    refine wly Z (ac (v := .pointer (some ⟨w0.heap.size, 4, none⟩)) rfl (by kernel_rfl)) fun a Z => wly Z (ae (Y.get (k := 0) rfl) rfl (Tryz.isAgg3 _) rfl) fun a Z => aJ Z Y (by decide) rfl (by decide) rfl Tryz.call86 rfl (im x.carrier 0 7 _) ?_
    clear Z Y
    intro a w5 Z Y
    refine wlv Z (aw rfl rfl) fun a Z => wlm Z rfl fun a Z => ?_
    rcases Bool.eq_false_or_eq_true (inB x.carrier 0 7) with hb4 | hb4
    ·rw [hb4] at Z
     try simp only [qz] at hb4
     refine wly Z (ac (v := .pointer (some ⟨w0.heap.size, 5, none⟩)) rfl (by kernel_rfl)) fun a Z => wly Z (ae (Y.get (k := 0) rfl) rfl (Tryz.isAgg3 _) rfl) fun a Z => aJ Z Y (by decide) rfl (by decide) rfl Tryz.call86 rfl (im x.serial 0 1000000 _) ?_
     clear Z Y
     intro a w6 Z Y
     refine wlv Z (aw rfl rfl) fun a Z => wlm Z rfl fun a Z => ?_
     rcases Bool.eq_false_or_eq_true (inB x.serial 0 1000000) with hb5 | hb5
     ·rw [hb5] at Z
      try simp only [qz] at hb5
      refine wly Z (ac (v := .pointer (some ⟨w0.heap.size, 6, none⟩)) rfl (by kernel_rfl)) fun a Z => wly Z (bO (ds := [iv x.sf, iv x.st]) (Y.get (k := 0) rfl) rfl (Tryz.isAgg28 _) (Tryz.sizeOf28 _) rfl) fun a Z => aJ Z Y (by decide) rfl (by decide) rfl Tryz.call123 rfl (ic x.sf x.st _) ?_
      clear Z Y
      intro a w7 Z Y
      refine wlv Z (aw rfl rfl) fun a Z => wla Z rfl fun a Z => ab (hK2 _ _ ?_)
      replace Z : Fr 31 [(2, _)] [] a := Z.pick [2]
      replace Y : St No w0 [] w7 := Y.mask [false]
      refine aq ?_
      refine ak Z Tryz.results68 (ah rfl ag) ?_
      exact ⟨by simp only [retv]; unfold Wsh.ok; simp [hb1, hb2, hb3, hb4, hb5], Y.ext⟩
     rw [hb5] at Z
     try simp only [qz] at hb5
     refine wln Z fun a Z => wln Z fun a Z => wln Z fun a Z => wlv Z (au rfl rfl) fun a Z => wla Z rfl fun a Z => ab (hK2 _ _ ?_)
     replace Z : Fr 31 [(2, _)] [] a := Z.pick [2]
     replace Y : St No w0 [] w6 := Y.mask [false]
     refine aq ?_
     refine ak Z Tryz.results68 (ah rfl ag) ?_
     exact ⟨by simp only [retv]; unfold Wsh.ok; simp [hb1, hb2, hb3, hb4, hb5], Y.ext⟩
    rw [hb4] at Z
    try simp only [qz] at hb4
    refine wln Z fun a Z => wln Z fun a Z => wln Z fun a Z => wlv Z (au rfl rfl) fun a Z => wlm Z rfl fun a Z => wln Z fun a Z => wln Z fun a Z => wln Z fun a Z => ?_
    refine wlv Z (au rfl rfl) fun a Z => wla Z rfl fun a Z => ab (hK2 _ _ ?_)
    replace Z : Fr 31 [(2, _)] [] a := Z.pick [2]
    replace Y : St No w0 [] w5 := Y.mask [false]
    refine aq ?_
    refine ak Z Tryz.results68 (ah rfl ag) ?_
    exact ⟨by simp only [retv]; unfold Wsh.ok; simp [hb1, hb2, hb3, hb4], Y.ext⟩
   rw [hb3] at Z
   try simp only [qz] at hb3
   refine wln Z fun a Z => wln Z fun a Z => wln Z fun a Z => wlv Z (au rfl rfl) fun a Z => wlm Z rfl fun a Z => wln Z fun a Z => wln Z fun a Z => wln Z fun a Z => ?_
   refine wlv Z (au rfl rfl) fun a Z => wlm Z rfl fun a Z => wln Z fun a Z => wln Z fun a Z => wln Z fun a Z => wlv Z (au rfl rfl) fun a Z => wla Z rfl fun a Z => ab (hK2 _ _ ?_)
   replace Z : Fr 31 [(2, _)] [] a := Z.pick [2]
   replace Y : St No w0 [] w4 := Y.mask [false]
   refine aq ?_
   refine ak Z Tryz.results68 (ah rfl ag) ?_
   exact ⟨by simp only [retv]; unfold Wsh.ok; simp [hb1, hb2, hb3], Y.ext⟩
  rw [hb2] at Z
  try simp only [qz] at hb2
  refine wln Z fun a Z => wln Z fun a Z => wln Z fun a Z => wlv Z (au rfl rfl) fun a Z => wlm Z rfl fun a Z => wln Z fun a Z => wln Z fun a Z => wln Z fun a Z => ?_
  refine wlv Z (au rfl rfl) fun a Z => wlm Z rfl fun a Z => wln Z fun a Z => wln Z fun a Z => wln Z fun a Z => wlv Z (au rfl rfl) fun a Z => wlm Z rfl fun a Z => wln Z fun a Z => wln Z fun a Z => ?_
  refine wln Z fun a Z => wlv Z (au rfl rfl) fun a Z => wla Z rfl fun a Z => ab (hK2 _ _ ?_)
  replace Z : Fr 31 [(2, _)] [] a := Z.pick [2]
  replace Y : St No w0 [] w3 := Y.mask [false]
  refine aq ?_
  refine ak Z Tryz.results68 (ah rfl ag) ?_
  exact ⟨by simp only [retv]; unfold Wsh.ok; simp [hb1, hb2], Y.ext⟩
 rw [hb1] at Z
 try simp only [qz] at hb1
 refine wln Z fun a Z => wln Z fun a Z => wln Z fun a Z => wlv Z (au rfl rfl) fun a Z => wlm Z rfl fun a Z => wln Z fun a Z => wln Z fun a Z => wln Z fun a Z => ?_
 refine wlv Z (au rfl rfl) fun a Z => wlm Z rfl fun a Z => wln Z fun a Z => wln Z fun a Z => wln Z fun a Z => wlv Z (au rfl rfl) fun a Z => wlm Z rfl fun a Z => wln Z fun a Z => wln Z fun a Z => ?_
 refine wln Z fun a Z => wlv Z (au rfl rfl) fun a Z => wlm Z rfl fun a Z => wln Z fun a Z => wln Z fun a Z => wln Z fun a Z => wlv Z (au rfl rfl) fun a Z => wla Z rfl fun a Z => ab (hK2 _ _ ?_)
 replace Z : Fr 31 [(2, _)] [] a := Z.pick [2]
 replace Y : St No w0 [] w2 := Y.mask [false]
 refine aq ?_
 refine ak Z Tryz.results68 (ah rfl ag) ?_
 exact ⟨by simp only [retv]; unfold Wsh.ok; simp [hb1], Y.ext⟩
set_option maxHeartbeats 4000000 in
theorem lO (x : Pxy) (w0 : World) :
  Ret Tryz.prog 69 #[.agg #[iv x.frm, iv x.to, iv x.rf, iv x.rt, iv x.sf, iv x.st, sv x.sig]] w0 fun v w => v = .bool x.ok ∧ Ext No w0 w := by
 refine aD Tryz.func69 rfl Tryz.ntmps69 (lb rfl) fun a Z => ?_
 replace Z : Fr 28 [(0, _)] [] a := Z
 replace Y : St No w0 [] w0 := St.init w0
 refine aa fun K1 hK1 => aN Z Y (by decide) rfl (cs := [iv x.frm, iv x.to, iv x.rf, iv x.rt, iv x.sf, iv x.st, sv x.sig]) rfl ?_
 clear Z Y
 intro a w1 Z Y
 refine wla Z rfl fun a Z => ab (hK1 _ _ <| aa fun K2 hK2 => ?_)
 refine wlv Z (ac (v := pq w0.heap.size) rfl (by kernel_rfl)) fun a Z => wlv Z (ae (Y.get (k := 0) rfl) rfl (Tryz.isAgg3 _) rfl) fun a Z => az Z Y (by decide) Tryz.call86 rfl (im x.frm 0 63 _) ?_
 clear Z Y
 intro a w2 Z Y
 refine wlm Z rfl fun a Z => ?_
 rcases Bool.eq_false_or_eq_true (inB x.frm 0 63) with hb1 | hb1
 ·rw [hb1] at Z
  try simp only [qz] at hb1
  refine wly Z (ac (v := .pointer (some ⟨w0.heap.size, 1, none⟩)) rfl (by kernel_rfl)) fun a Z => wly Z (ae (Y.get (k := 0) rfl) rfl (Tryz.isAgg3 _) rfl) fun a Z => aJ Z Y (by decide) rfl (by decide) rfl Tryz.call86 rfl (im x.to 0 63 _) ?_
  clear Z Y
  intro a w3 Z Y
  refine wlv Z (aw rfl rfl) fun a Z => wlm Z rfl fun a Z => ?_
  rcases Bool.eq_false_or_eq_true (inB x.to 0 63) with hb2 | hb2
  ·rw [hb2] at Z
   try simp only [qz] at hb2
   refine wly Z (ac (v := pq w0.heap.size) rfl (by kernel_rfl)) fun a Z => wly Z (ae (Y.get (k := 0) rfl) rfl (Tryz.isAgg3 _) rfl) fun a Z => wly Z (ac (v := .pointer (some ⟨w0.heap.size, 1, none⟩)) rfl (by kernel_rfl)) fun a Z => wly Z (ae (Y.get (k := 0) rfl) rfl (Tryz.isAgg3 _) rfl) fun a Z => wly Z (v_ne rfl rfl) fun a Z => wlv Z (aw rfl rfl) fun a Z => wlm Z rfl fun a Z => ?_
   rcases Bool.eq_false_or_eq_true (!decide (x.frm = x.to)) with hb3 | hb3
   ·rw [hb3] at Z
    try simp only [qz] at hb3
    refine wly Z (ac (v := .pointer (some ⟨w0.heap.size, 2, none⟩)) rfl (by kernel_rfl)) fun a Z => wly Z (bO (ds := [iv x.rf, iv x.rt]) (Y.get (k := 0) rfl) rfl (Tryz.isAgg27 _) (Tryz.sizeOf27 _) rfl) fun a Z => aJ Z Y (by decide) rfl (by decide) rfl Tryz.call122 rfl (ir x.rf x.rt _) ?_
    clear Z Y
    intro a w4 Z Y
    refine wlv Z (aw rfl rfl) fun a Z => wlm Z rfl fun a Z => ?_
    rcases Bool.eq_false_or_eq_true (cc x.rf x.rt) with hb4 | hb4
    ·rw [hb4] at Z
     try simp only [qz] at hb4
     refine wly Z (ac (v := .pointer (some ⟨w0.heap.size, 4, none⟩)) rfl (by kernel_rfl)) fun a Z => wly Z (bO (ds := [iv x.sf, iv x.st]) (Y.get (k := 0) rfl) rfl (Tryz.isAgg28 _) (Tryz.sizeOf28 _) rfl) fun a Z => aJ Z Y (by decide) rfl (by decide) rfl Tryz.call123 rfl (ic x.sf x.st _) ?_
     clear Z Y
     intro a w5 Z Y
     refine wlv Z (aw rfl rfl) fun a Z => wla Z rfl fun a Z => ab (hK2 _ _ ?_)
     replace Z : Fr 28 [(2, _)] [] a := Z.pick [2]
     replace Y : St No w0 [] w5 := Y.mask [false]
     refine aq ?_
     refine ak Z Tryz.results69 (ah rfl ag) ?_
     exact ⟨by simp only [retv]; unfold Pxy.ok; simp [hb1, hb2, hb3, hb4], Y.ext⟩
    rw [hb4] at Z
    try simp only [qz] at hb4
    refine wln Z fun a Z => wln Z fun a Z => wln Z fun a Z => wlv Z (au rfl rfl) fun a Z => wla Z rfl fun a Z => ab (hK2 _ _ ?_)
    replace Z : Fr 28 [(2, _)] [] a := Z.pick [2]
    replace Y : St No w0 [] w4 := Y.mask [false]
    refine aq ?_
    refine ak Z Tryz.results69 (ah rfl ag) ?_
    exact ⟨by simp only [retv]; unfold Pxy.ok; simp [hb1, hb2, hb3, hb4], Y.ext⟩
   rw [hb3] at Z
   try simp only [qz] at hb3
   refine wln Z fun a Z => wln Z fun a Z => wln Z fun a Z => wlv Z (au rfl rfl) fun a Z => wlm Z rfl fun a Z => wln Z fun a Z => wln Z fun a Z => wln Z fun a Z => ?_
   refine wlv Z (au rfl rfl) fun a Z => wla Z rfl fun a Z => ab (hK2 _ _ ?_)
   replace Z : Fr 28 [(2, _)] [] a := Z.pick [2]
   replace Y : St No w0 [] w3 := Y.mask [false]
   refine aq ?_
   refine ak Z Tryz.results69 (ah rfl ag) ?_
   exact ⟨by simp only [retv]; unfold Pxy.ok; simp [hb1, hb2, hb3], Y.ext⟩
  rw [hb2] at Z
  try simp only [qz] at hb2
  refine wln Z fun a Z => wln Z fun a Z => wln Z fun a Z => wln Z fun a Z => wln Z fun a Z => wlv Z (au rfl rfl) fun a Z => wlm Z rfl fun a Z => wln Z fun a Z => ?_
  refine wln Z fun a Z => wln Z fun a Z => wlv Z (au rfl rfl) fun a Z => wlm Z rfl fun a Z => wln Z fun a Z => wln Z fun a Z => wln Z fun a Z => wlv Z (au rfl rfl) fun a Z => wla Z rfl fun a Z => ?_
  refine ab (hK2 _ _ ?_)
  replace Z : Fr 28 [(2, _)] [] a := Z.pick [2]
  replace Y : St No w0 [] w3 := Y.mask [false]
  refine aq ?_
  refine ak Z Tryz.results69 (ah rfl ag) ?_
  exact ⟨by simp only [retv]; unfold Pxy.ok; simp [hb1, hb2], Y.ext⟩
 rw [hb1] at Z
 try simp only [qz] at hb1
 refine wln Z fun a Z => wln Z fun a Z => wln Z fun a Z => wlv Z (au rfl rfl) fun a Z => wlm Z rfl fun a Z => wln Z fun a Z => wln Z fun a Z => wln Z fun a Z => ?_
 refine wln Z fun a Z => wln Z fun a Z => wlv Z (au rfl rfl) fun a Z => wlm Z rfl fun a Z => wln Z fun a Z => wln Z fun a Z => wln Z fun a Z => wlv Z (au rfl rfl) fun a Z => wlm Z rfl fun a Z => ?_
 refine wln Z fun a Z => wln Z fun a Z => wln Z fun a Z => wlv Z (au rfl rfl) fun a Z => wla Z rfl fun a Z => ab (hK2 _ _ ?_)
 replace Z : Fr 28 [(2, _)] [] a := Z.pick [2]
 replace Y : St No w0 [] w2 := Y.mask [false]
 refine aq ?_
 refine ak Z Tryz.results69 (ah rfl ag) ?_
 exact ⟨by simp only [retv]; unfold Pxy.ok; simp [hb1], Y.ext⟩
theorem jR (ns : List Int) (lv : Value) (w0 : World) (hlv : SlAt w0 lv 1 ((ns).map fun n => [iv n])) (hns : smalls ns) (hnl : ns.length ≤ 1000) :
  Ret Tryz.prog 80 #[lv] w0 fun v w => v = sv (puts ns) ∧ Ext No w0 w := by
 refine aD Tryz.func80 rfl Tryz.ntmps80 (lb rfl) fun a Z => ?_
 replace Z : Fr 25 [(0, _)] [] a := Z
 replace Y : St No w0 [] w0 := St.init w0
 refine aa fun K1 hK1 => wla Z rfl fun a Z => ab (hK1 _ _ <| aa fun K2 hK2 => ?_)
 refine wla Z rfl fun a Z => ab (hK2 _ _ <| ai fun K3 hK3 => ?_)
 refine aa fun K4 hK4 => wla Z rfl fun a Z => ab (hK4 _ _ <| ax ?_)
 have hp0 : ([] : By) = puts (ns.take 0) := rfl
 rw [hp0] at Z
 refine bf (fun m a w => ∃ (k : Nat), m = ns.length - k ∧ (k ≤ ns.length) ∧ Fr 25 [(0, lv), (2, sv (puts (ns.take 0))), (4, iv (k : Int)), (3, sv (puts (ns.take k)))] [] a ∧ St No w0 [] w) _ ⟨0, rfl, Nat.zero_le _, Z.pick [0, 2, 4, 3], Y.select [] (by decide)⟩ ?_
 rintro _ a w1 ⟨k, rfl, hk, Z, Y⟩
 refine ai fun K5 hK5 => aa fun K6 hK6 => wlm Z rfl fun a Z => wlm Z rfl fun a Z => wlv Z ((aY (sT := 88) (Y.arg hlv) rfl rfl (Tryz.runUnderlying88 _)).asi (m' := (ns.length : Int)) (by rw [List.length_map])) fun a Z => wlv Z (v_lt rfl rfl) fun a Z => ab (hK6 _ _ ?_)
 refine aB Z rfl (fun hc1 => ?_) (fun hc1 => ?_)
 ·rw [hc1] at Z
  try simp only [qz] at hc1
  refine ay <| hK5 _ _ <| ai fun K7 hK7 => ax <| aa fun K8 hK8 => wlm Z rfl fun a Z => wlm Z rfl fun a Z => wlv Z ((am (i := (k : Int)) (sT := 88) (Y.arg hlv) rfl rfl (Tryz.runUnderlying88 _) (Tryz.sizeOf3 _) (by omega) (by rw [List.length_map]; omega)).as (v' := slAddr lv (k * 1)) rfl) fun a Z => ?_
  refine wlv Z (aC (u := iv (ns.getD k 0)) (i := k) (j := 0) (Y.arg hlv) (by rw [List.length_map]; omega) rfl (Tryz.isAgg3 _) (by rw [ca (0 : Int)]; rfl)) fun a Z => az Z Y (by decide) Tryz.call127 rfl (kB (ns.getD k 0) _ (hns _ (cd (by omega)))) ?_
  clear Z Y
  intro a w2 Z Y
  refine wlm Z rfl fun a Z => wlv Z (aA rfl rfl) fun a Z => wlv Z (aA rfl rfl) fun a Z => wla Z rfl fun a Z => wla Z rfl fun a Z => ab (hK8 _ _ ?_)
  replace Z : Fr 25 [(0, _), (2, _), (4, _), (3, _), (5, _)] [] a := Z.pick [0, 2, 4, 3, 5]
  refine ar <| wlm Z rfl fun a Z => wlm Z rfl fun a Z => wlv Z (ew rfl rfl (by have h1 := eo (ns.take k); have h2 := (ex (ns.getD k 0)).2; rw [List.length_take] at h1; omega)) fun a Z => wla Z rfl fun a Z => ?_
  refine ab <| hK7 _ _ <| ar <| wlm Z rfl fun a Z => wlv Z (aM rfl rfl ⟨by omega, by omega⟩) fun a Z => wla Z rfl fun a Z => ab ?_
  rw [show puts (ns.take k) ++ putI (ns.getD k 0) = puts (ns.take (k + 1)) from by rw [cE 0 (by omega), iu]] at Z
  refine ⟨_, ?_, k + 1, rfl, (by omega), Z.pick [0, 2, 4, 3], Y.select [] (by decide)⟩
  omega
 rw [hc1] at Z
 try simp only [qz] at hc1
 obtain rfl : k = ns.length := by omega
 rw [List.take_length] at Z
 refine aS <| hK3 _ _ <| aa fun K9 hK9 => wlm Z rfl fun a Z => wla Z rfl fun a Z => ab (hK9 _ _ ?_)
 replace Z : Fr 25 [(2, _)] [] a := Z.pick [2]
 refine aq ?_
 refine ak Z Tryz.results80 (ah rfl ag) ?_
 exact ⟨rfl, Y.ext⟩
theorem dZ (x : Wsh) (w0 : World) (hx : smalls x.nums) :
  Ret Tryz.prog 37 #[.agg #[iv x.signer, iv x.holder, iv x.rf, iv x.rt, iv x.carrier, iv x.serial, iv x.sf, iv x.st, sv x.sig]] w0 fun v w => v = sv x.content ∧ Ext No w0 w := by
 refine aD Tryz.func37 rfl Tryz.ntmps37 (lb rfl) fun a Z => ?_
 replace Z : Fr 25 [(0, _)] [] a := Z
 replace Y : St No w0 [] w0 := St.init w0
 refine aa fun K1 hK1 => aN Z Y (by decide) rfl (cs := [iv x.signer, iv x.holder, iv x.rf, iv x.rt, iv x.carrier, iv x.serial, iv x.sf, iv x.st, sv x.sig]) rfl ?_
 clear Z Y
 intro a w1 Z Y
 refine wla Z rfl fun a Z => ab (hK1 _ _ <| aa fun K2 hK2 => ?_)
 refine wlv Z (ac (v := pq w0.heap.size) rfl (by kernel_rfl)) fun a Z => wlv Z (ae (Y.get (k := 0) rfl) rfl (Tryz.isAgg3 _) rfl) fun a Z => wlv Z (ac (v := .pointer (some ⟨w0.heap.size, 1, none⟩)) rfl (by kernel_rfl)) fun a Z => wlv Z (ae (Y.get (k := 0) rfl) rfl (Tryz.isAgg3 _) rfl) fun a Z => wlv Z (ac (v := .pointer (some ⟨w0.heap.size, 2, none⟩)) rfl (by kernel_rfl)) fun a Z => wlv Z (ac (v := .pointer (some ⟨w0.heap.size, 2, none⟩)) rfl (by kernel_rfl)) fun a Z => wlv Z (ae (Y.get (k := 0) rfl) rfl (Tryz.isAgg3 _) rfl) fun a Z => ?_
 refine wlv Z (ac (v := .pointer (some ⟨w0.heap.size, 2, none⟩)) rfl (by kernel_rfl)) fun a Z => wlv Z (ac (v := .pointer (some ⟨w0.heap.size, 3, none⟩)) rfl (by kernel_rfl)) fun a Z => wlv Z (ae (Y.get (k := 0) rfl) rfl (Tryz.isAgg3 _) rfl) fun a Z => wlv Z (ac (v := .pointer (some ⟨w0.heap.size, 4, none⟩)) rfl (by kernel_rfl)) fun a Z => wlv Z (ae (Y.get (k := 0) rfl) rfl (Tryz.isAgg3 _) rfl) fun a Z => wlv Z (ac (v := .pointer (some ⟨w0.heap.size, 5, none⟩)) rfl (by kernel_rfl)) fun a Z => wlv Z (ae (Y.get (k := 0) rfl) rfl (Tryz.isAgg3 _) rfl) fun a Z => ?_
 refine wlv Z (ac (v := .pointer (some ⟨w0.heap.size, 6, none⟩)) rfl (by kernel_rfl)) fun a Z => wlv Z (ac (v := .pointer (some ⟨w0.heap.size, 6, none⟩)) rfl (by kernel_rfl)) fun a Z => wlv Z (ae (Y.get (k := 0) rfl) rfl (Tryz.isAgg3 _) rfl) fun a Z => wlv Z (ac (v := .pointer (some ⟨w0.heap.size, 6, none⟩)) rfl (by kernel_rfl)) fun a Z => wlv Z (ac (v := .pointer (some ⟨w0.heap.size, 7, none⟩)) rfl (by kernel_rfl)) fun a Z => wlv Z (ae (Y.get (k := 0) rfl) rfl (Tryz.isAgg3 _) rfl) fun a Z => aH (E := 3) (sz := 1) rfl [[iv 1], [iv x.signer], [iv x.holder], [iv x.rf], [iv x.rt], [iv x.carrier], [iv x.serial], [iv x.sf], [iv x.st]] (by kernel_rfl) (by simp) rfl (by decide) (by decide) Z Y ?_
 clear Z Y
 intro a w2 Z Y
 refine az Z Y (by decide) Tryz.call80 rfl (jR [1, x.signer, x.holder, x.rf, x.rt, x.carrier, x.serial, x.sf, x.st] (.slice (some ⟨w1.heap.size, 0, none⟩) 9 9) _ (Y.ownAt (i := 0) rfl) (hx) (by simp)) ?_
 clear Z Y
 intro a w3 Z Y
 refine wla Z rfl fun a Z => ab (hK2 _ _ ?_)
 replace Z : Fr 25 [(2, _)] [] a := Z.pick [2]
 replace Y : St No w0 [] w3 := Y.mask [false, false]
 refine aq ?_
 refine ak Z Tryz.results37 (ah rfl ag) ?_
 exact ⟨by rfl, Y.ext⟩
theorem iH (x : Pxy) (w0 : World) (hx : smalls x.nums) :
  Ret Tryz.prog 38 #[.agg #[iv x.frm, iv x.to, iv x.rf, iv x.rt, iv x.sf, iv x.st, sv x.sig]] w0 fun v w => v = sv x.content ∧ Ext No w0 w := by
 refine aD Tryz.func38 rfl Tryz.ntmps38 (lb rfl) fun a Z => ?_
 replace Z : Fr 21 [(0, _)] [] a := Z
 replace Y : St No w0 [] w0 := St.init w0
 refine aa fun K1 hK1 => aN Z Y (by decide) rfl (cs := [iv x.frm, iv x.to, iv x.rf, iv x.rt, iv x.sf, iv x.st, sv x.sig]) rfl ?_
 clear Z Y
 intro a w1 Z Y
 refine wla Z rfl fun a Z => ab (hK1 _ _ <| aa fun K2 hK2 => ?_)
 refine wlv Z (ac (v := pq w0.heap.size) rfl (by kernel_rfl)) fun a Z => wlv Z (ae (Y.get (k := 0) rfl) rfl (Tryz.isAgg3 _) rfl) fun a Z => wlv Z (ac (v := .pointer (some ⟨w0.heap.size, 1, none⟩)) rfl (by kernel_rfl)) fun a Z => wlv Z (ae (Y.get (k := 0) rfl) rfl (Tryz.isAgg3 _) rfl) fun a Z => wlv Z (ac (v := .pointer (some ⟨w0.heap.size, 2, none⟩)) rfl (by kernel_rfl)) fun a Z => wlv Z (ac (v := .pointer (some ⟨w0.heap.size, 2, none⟩)) rfl (by kernel_rfl)) fun a Z => wlv Z (ae (Y.get (k := 0) rfl) rfl (Tryz.isAgg3 _) rfl) fun a Z => ?_
 refine wlv Z (ac (v := .pointer (some ⟨w0.heap.size, 2, none⟩)) rfl (by kernel_rfl)) fun a Z => wlv Z (ac (v := .pointer (some ⟨w0.heap.size, 3, none⟩)) rfl (by kernel_rfl)) fun a Z => wlv Z (ae (Y.get (k := 0) rfl) rfl (Tryz.isAgg3 _) rfl) fun a Z => wlv Z (ac (v := .pointer (some ⟨w0.heap.size, 4, none⟩)) rfl (by kernel_rfl)) fun a Z => wlv Z (ac (v := .pointer (some ⟨w0.heap.size, 4, none⟩)) rfl (by kernel_rfl)) fun a Z => wlv Z (ae (Y.get (k := 0) rfl) rfl (Tryz.isAgg3 _) rfl) fun a Z => wlv Z (ac (v := .pointer (some ⟨w0.heap.size, 4, none⟩)) rfl (by kernel_rfl)) fun a Z => ?_
 refine wlv Z (ac (v := .pointer (some ⟨w0.heap.size, 5, none⟩)) rfl (by kernel_rfl)) fun a Z => wlv Z (ae (Y.get (k := 0) rfl) rfl (Tryz.isAgg3 _) rfl) fun a Z => aH (E := 3) (sz := 1) rfl [[iv 2], [iv x.frm], [iv x.to], [iv x.rf], [iv x.rt], [iv x.sf], [iv x.st]] (by kernel_rfl) (by simp) rfl (by decide) (by decide) Z Y ?_
 clear Z Y
 intro a w2 Z Y
 refine az Z Y (by decide) Tryz.call80 rfl (jR [2, x.frm, x.to, x.rf, x.rt, x.sf, x.st] (.slice (some ⟨w1.heap.size, 0, none⟩) 7 7) _ (Y.ownAt (i := 0) rfl) (hx) (by simp)) ?_
 clear Z Y
 intro a w3 Z Y
 refine wla Z rfl fun a Z => ab (hK2 _ _ ?_)
 replace Z : Fr 21 [(2, _)] [] a := Z.pick [2]
 replace Y : St No w0 [] w3 := Y.mask [false, false]
 refine aq ?_
 refine ak Z Tryz.results38 (ah rfl ag) ?_
 exact ⟨by rfl, Y.ext⟩
theorem jN (key s : By) (w0 : World) (hk : key.length ≤ 40000000) (hs : s.length ≤ 40000000) :
  Ret Tryz.prog 71 #[sv key, sv s] w0 fun v w => v = sv (sealH key s) ∧ Ext No w0 w := by
 refine aD Tryz.func71 rfl Tryz.ntmps71 (lb rfl) fun a Z => ?_
 replace Z : Fr 9 [(0, _), (1, _)] [] a := Z
 replace Y : St No w0 [] w0 := St.init w0
 refine aa fun K1 hK1 => wla Z rfl fun a Z => ab (hK1 _ _ <| aa fun K2 hK2 => ?_)
 refine wlm Z rfl fun a Z => wlm Z rfl fun a Z => az Z Y (by decide) Tryz.call92 rfl (kc s _ (by omega)) ?_
 clear Z Y
 intro a w1 Z Y
 refine az Z Y (by decide) Tryz.call124 rfl (mW key (leafH sha s) _ (by omega) (by rw [dQ dW]; decide)) ?_
 clear Z Y
 intro a w2 Z Y
 refine wla Z rfl fun a Z => ab (hK2 _ _ ?_)
 replace Z : Fr 9 [(4, _)] [] a := Z.pick [4]
 refine aq ?_
 refine ak Z Tryz.results71 (ah rfl ag) ?_
 exact ⟨by rfl, Y.ext⟩
end Go.Proofs.YtmmfieceinmloaaGreatDoor
namespace Go.Proofs.YtmmfieceinmloaaGreatDoor
open Go.RowKit Go.PW
set_option linter.unusedVariables false
set_option linter.unusedSimpArgs false
set_option maxRecDepth 4000
theorem kR {P : Program} {w : World} {L : List (Nat × Value)} {dst : Option Tmp} {T T' ty : TypeId} {pos : String} {af : Array Edge} {gd : Option (Nat × Bool)} {x : Operand} {n : Int} (hx : ev L x = some (iv n)) (hs : (P.underlying T).isSome = true) (hd : P.underlying T' = some (.int .u8)) : OpV P ⟨dst, .convert T T' x, ty, pos, af, gd⟩ L w (yv (UInt8.ofNat (n % 256).toNat)) :=
 (eH hx hs hd).as (by
  have h1 : 0 ≤ n % 256 := Int.emod_nonneg _ (by decide)
  have h2 : n % 256 < 256 := Int.emod_lt_of_pos _ (by decide)
  have e : ((UInt8.ofNat (n % 256).toNat).toNat : Int) = n % 256 := by rw [cD (by omega)]; omega
  unfold yv
  rw [e]
  simp [IntKind.wrap, IntKind.signed, IntKind.bits])
def kfill (b : UInt8) (k : Nat) : By := List.replicate k b ++ List.replicate (32 - k) 0
theorem lU {b : UInt8} {k : Nat} (h : k < 32) : (kfill b k).set k b = kfill b (k + 1) := by
 unfold kfill
 rw [List.set_append_right _ _ (by simp), List.length_replicate, Nat.sub_self, show 32 - k = (32 - (k + 1)) + 1 from by omega, List.replicate_succ, List.set_cons_zero, List.replicate_succ']
 simp
theorem fx {b : UInt8} {k : Nat} (h : k ≤ 32) : (kfill b k).length = 32 := by simp [kfill]; omega
theorem l3 (b : UInt8) : kfill b 32 = List.replicate 32 b := by simp [kfill]
theorem cj (n m : Int) (w0 : World) (hn : -9223372036854775808 ≤ n ∧ n ≤ 9223372036854775807) (hm : 0 < m ∧ m ≤ 9223372036854775807) :
  Ret Tryz.prog 53 #[iv n, iv m] w0 fun v w => v = iv (pickI n m) ∧ Ext No w0 w := by
 refine aD Tryz.func53 rfl Tryz.ntmps53 (lb rfl) fun a Z => ?_
 replace Z : Fr 13 [(0, _), (1, _)] [] a := Z
 replace Y : St No w0 [] w0 := St.init w0
 refine aa fun K1 hK1 => wla Z rfl fun a Z => ab (hK1 _ _ <| ai fun K2 hK2 => ?_)
 refine aa fun K3 hK3 => wlm Z rfl fun a Z => wlv Z (v_lt rfl rfl) fun a Z => ab (hK3 _ _ ?_)
 refine aB Z rfl (fun hc1 => ?_) (fun hc1 => ?_)
 ·rw [hc1] at Z
  try simp only [qz] at hc1
  refine ar <| wlm Z rfl fun a Z => wlv Z (aM rfl rfl ⟨by omega, by omega⟩) fun a Z => wlv Z (j5 rfl (by omega) (by omega)) fun a Z => wla Z rfl fun a Z => ab <| hK2 _ _ <| aa fun K4 hK4 => ?_
  refine wlm Z rfl fun a Z => wlm Z rfl fun a Z => wlv Z (ey rfl rfl (by omega) (by omega)) fun a Z => wla Z rfl fun a Z => ab (hK4 _ _ ?_)
  replace Z : Fr 13 [(4, _)] [] a := Z.pick [4]
  refine aq ?_
  refine ak Z Tryz.results53 (ah rfl ag) ?_
  exact ⟨by simp only [retv, pickI]; simp [hc1], Y.ext⟩
 rw [hc1] at Z
 try simp only [qz] at hc1
 refine ay <| hK2 _ _ <| aa fun K5 hK5 => wlm Z rfl fun a Z => wlm Z rfl fun a Z => wlv Z (ey rfl rfl (by omega) (by omega)) fun a Z => wla Z rfl fun a Z => ab (hK5 _ _ ?_)
 replace Z : Fr 13 [(4, _)] [] a := Z.pick [4]
 refine aq ?_
 refine ak Z Tryz.results53 (ah rfl ag) ?_
 exact ⟨by simp only [retv, pickI]; simp [hc1], Y.ext⟩
theorem fA (h : Int) (w0 : World) :
  Ret Tryz.prog 21 #[iv h] w0 fun v w => v = sv (keyH h) ∧ Ext No w0 w := by
 refine aD Tryz.func21 rfl Tryz.ntmps21 (lb rfl) fun a Z => ?_
 replace Z : Fr 19 [(0, _)] [] a := Z
 replace Y : St No w0 [] w0 := St.init w0
 refine aa fun K1 hK1 => wla Z rfl fun a Z => ab (hK1 _ _ <| aa fun K2 hK2 => ?_)
 refine i1 (n := 32) (E := 5) (sz := 1) rfl rfl ((kfill (UInt8.ofNat (h % 256).toNat) 0).map fun b => [yv b]) (by kernel_rfl) (by intro e he; first | (simp at he; simp [he]; done) | (obtain ⟨_, _, rfl⟩ := List.mem_map.1 he; rfl)) (by simp [kfill]) (by decide) (by decide) Z Y ?_
 clear Z Y
 intro a w1 Z Y
 refine wla Z rfl fun a Z => ab (hK2 _ _ <| ai fun K3 hK3 => ?_)
 refine aa fun K4 hK4 => wla Z rfl fun a Z => ab (hK4 _ _ <| ax ?_)
 refine bf (fun m a w => ∃ (k : Nat), m = 32 - k ∧ (k ≤ 32) ∧ Fr 19 [(0, iv h), (2, sv ([])), (3, (.slice (some ⟨w0.heap.size, 0, none⟩) 32 32)), (4, iv (k : Int))] [] a ∧ St No w0 [own (.slice (some ⟨w0.heap.size, 0, none⟩) 32 32) 5 1 ((kfill (UInt8.ofNat (h % 256).toNat) k).map fun b => [yv b])] w) _ ⟨0, rfl, Nat.zero_le _, Z.pick [0, 2, 3, 4], Y⟩ ?_
 rintro _ a w2 ⟨k, rfl, hk, Z, Y⟩
 refine ai fun K5 hK5 => aa fun K6 hK6 => wlm Z rfl fun a Z => wlm Z rfl fun a Z => wlv Z ((aY (sT := 62) (Y.ownAt (i := 0) rfl) rfl rfl (Tryz.runUnderlying62 _)).asi (m' := 32) (by rw [List.length_map, fx (by omega)]; rfl)) fun a Z => wlv Z (v_lt rfl rfl) fun a Z => ab (hK6 _ _ ?_)
 refine aB Z rfl (fun hc1 => ?_) (fun hc1 => ?_)
 ·rw [hc1] at Z
  try simp only [qz] at hc1
  have hk2 : k < 32 := by omega
  refine ay <| hK5 _ _ <| ai fun K7 hK7 => ax <| ar <| wlm Z rfl fun a Z => wlm Z rfl fun a Z => wlm Z rfl fun a Z => wlv Z (kR (n := h) rfl (by kernel_rfl) Tryz.underlying5) fun a Z => ?_
  refine wlv Z ((am (i := (k : Int)) (sT := 62) (Y.ownAt (i := 0) rfl) rfl rfl (Tryz.runUnderlying62 _) (Tryz.sizeOf5 _) (by omega) (by rw [List.length_map, fx (by omega)]; omega)).as (v' := slAddr (.slice (some ⟨w0.heap.size, 0, none⟩) 32 32) (k * 1)) rfl) fun a Z => j2 (k := k) (us := [yv (UInt8.ofNat (h % 256).toNat)]) 0 Z Y rfl rfl rfl (by rw [List.length_map, fx (by omega)]; omega) (by omega) (Tryz.sizeOf5 _) rfl (by first | rfl | simp [Value.oneCell', yv, wv, sv]) rfl rfl ?_
  clear Z Y
  intro a w3 Z Y
  refine ab <| hK7 _ _ ?_
  replace Z : Fr 19 [(0, _), (2, _), (3, _), (4, _)] [] a := Z.pick [0, 2, 3, 4]
  refine ar <| wlm Z rfl fun a Z => wlv Z (aM rfl rfl ⟨by omega, by omega⟩) fun a Z => wla Z rfl fun a Z => ab ?_
  rw [show ((kfill (UInt8.ofNat (h % 256).toNat) k).map fun b => [yv b]).set k [yv (UInt8.ofNat (h % 256).toNat)] = ((kfill (UInt8.ofNat (h % 256).toNat) (k + 1)).map fun b => [yv b]) from by rw [← lU hk2, List.map_set]] at Y
  refine ⟨_, ?_, k + 1, rfl, (by omega), Z.pick [0, 2, 3, 4], Y⟩
  omega
 rw [hc1] at Z
 try simp only [qz] at hc1
 obtain rfl : k = 32 := by omega
 refine aS <| hK3 _ _ <| aa fun K8 hK8 => wlm Z rfl fun a Z => wlv Z (dV (Y.ownAt (i := 0) rfl) rfl Tryz.underlying62 Tryz.underlying5 Tryz.underlying9) fun a Z => wla Z rfl fun a Z => ab (hK8 _ _ ?_)
 replace Z : Fr 19 [(2, _)] [] a := Z.pick [2]
 replace Y : St No w0 [] w2 := Y.mask [false]
 refine aq ?_
 refine ak Z Tryz.results21 (ah rfl ag) ?_
 exact ⟨by rw [l3]; rfl, Y.ext⟩
def keysTo (k : Nat) : List By := (List.range k).map fun h : Nat => keyH (h : Int)
theorem jQ (k : Nat) : keysTo (k + 1) = keysTo k ++ [keyH (k : Int)] := by simp [keysTo, List.range_succ]
theorem gu (k : Nat) : (keysTo k).length = k := by simp [keysTo]
theorem nu (w0 : World) :
  Ret Tryz.prog 13 #[] w0 (MemR w0 (fun v : Value => v) (fun v => [own v 9 1 (keysH.map fun s => [sv s])]) (fun _ => True)) := by
 refine aD Tryz.func13 rfl Tryz.ntmps13 (lb rfl) fun a Z => ?_
 replace Z : Fr 13 [] [] a := Z
 replace Y : St No w0 [] w0 := St.init w0
 refine aa fun K1 hK1 => wla Z rfl fun a Z => ab (hK1 _ _ <| aa fun K2 hK2 => ?_)
 refine wla Z rfl fun a Z => ab (hK2 _ _ <| ai fun K3 hK3 => ?_)
 refine aa fun K4 hK4 => wla Z rfl fun a Z => ab (hK4 _ _ <| ax ?_)
 replace Y : St No w0 [own (.slice none 0 0) 9 1 ((keysTo 0).map fun s => [sv s])] w0 := Y.nil_own
 refine bf (fun m a w => ∃ (k : Nat) (v : Value), m = 10 - k ∧ (k ≤ 10) ∧ Fr 13 [(0, .slice none 0 0), (1, v), (2, iv (k : Int))] [] a ∧ St No w0 [own v 9 1 ((keysTo k).map fun s => [sv s])] w) _ ⟨0, .slice none 0 0, rfl, Nat.zero_le _, Z.pick [0, 1, 2], Y⟩ ?_
 rintro _ a w1 ⟨k, v, rfl, hk, Z, Y⟩
 refine ai fun K5 hK5 => aa fun K6 hK6 => wlm Z rfl fun a Z => wlv Z (v_lt rfl rfl) fun a Z => ab (hK6 _ _ ?_)
 refine aB Z rfl (fun hc1 => ?_) (fun hc1 => ?_)
 ·rw [hc1] at Z
  try simp only [qz] at hc1
  refine ay <| hK5 _ _ <| ai fun K7 hK7 => ax <| ar <| wlm Z rfl fun a Z => wlm Z rfl fun a Z => az Z Y (by decide) Tryz.call21 rfl (fA (k : Int) _) ?_
  clear Z Y
  intro a w2 Z Y
  refine aH (E := 9) (sz := 1) rfl [[sv (keyH (k : Int))]] (by kernel_rfl) (by simp) rfl (by decide) (by decide) Z Y ?_
  clear Z Y
  intro a w3 Z Y
  refine bL (i := 1) (sT := 32) (inf := Tryz.t9) (z := .string (⟨#[]⟩)) (b := 0) (off := 0) (m := 0) (c := 0) rfl rfl rfl (Y.ownAt (i := 0) rfl) (by simp) Tryz.underlying32 rfl rfl rfl rfl (by decide) (by simp [Value.oneCell', yv, wv, sv]) (by have hby : Tryz.t9.bytes = 16 := rfl; simp [big, hby, gu] <;> omega) (by have hby : Tryz.t9.bytes = 16 := rfl; simp [big, hby, gu] <;> omega) (by decide) Z Y fun a w4 s2 Z Y _ => ?_
  rw [show ((keysTo k).map fun s => [sv s]) ++ ([[sv (keyH (k : Int))]]) = ((keysTo (k + 1)).map fun s => [sv s]) from by rw [jQ]; simp] at Y
  refine wla Z rfl fun a Z => ab <| hK7 _ _ ?_
  replace Z : Fr 13 [(0, _), (2, _), (1, _)] [] a := Z.pick [0, 2, 1]
  replace Y : St No w0 [_] w4 := Y.mask [false, true]
  refine ar <| wlm Z rfl fun a Z => wlv Z (aM rfl rfl ⟨by omega, by omega⟩) fun a Z => wla Z rfl fun a Z => ab ?_
  refine ⟨_, ?_, k + 1, s2, rfl, (by omega), Z.pick [0, 1, 2], Y⟩
  omega
 rw [hc1] at Z
 try simp only [qz] at hc1
 obtain rfl : k = 10 := by omega
 refine aS <| hK3 _ _ <| aa fun K8 hK8 => wlm Z rfl fun a Z => wla Z rfl fun a Z => ab (hK8 _ _ <| aq ?_)
 refine ak Z Tryz.results13 (ah rfl ag) ?_
 exact ⟨v, rfl, trivial, Y.ext, St.out (E := [own v 9 1 (keysH.map fun s => [sv s])]) (H := []) Y⟩
theorem fN (b d l r : Int) (w0 : World) (hb : 0 ≤ b) (hbd : b < d) (hd : d ≤ 1000000000) (hl : (-9223372036854775808 ≤ l ∧ l ≤ 9223372036854775807)) (hr : (-9223372036854775808 ≤ r ∧ r ≤ 9223372036854775807)) :
  Ret Tryz.prog 54 #[iv b, iv d, iv l, iv r] w0 fun v w => v = .tuple #[iv (b + pickI l (d - b)), iv (d - pickI r (d - (b + pickI l (d - b))))] ∧ Ext No w0 w := by
 refine aD Tryz.func54 rfl Tryz.ntmps54 (lb rfl) fun a Z => ?_
 replace Z : Fr 26 [(0, _), (1, _), (2, _), (3, _)] [] a := Z
 replace Y : St No w0 [] w0 := St.init w0
 have hp1 := bB l (n := d - b) (by omega)
 refine aa fun K1 hK1 => wla Z rfl fun a Z => wla Z rfl fun a Z => ab (hK1 _ _ <| aa fun K2 hK2 => ?_)
 refine wlm Z rfl fun a Z => wlm Z rfl fun a Z => wlm Z rfl fun a Z => wlm Z rfl fun a Z => wlv Z (cm rfl rfl ⟨by omega, by omega⟩) fun a Z => az Z Y (by decide) Tryz.call53 rfl (cj l (d - b) _ (by omega) (by omega)) ?_
 clear Z Y
 intro a w1 Z Y
 refine wlv Z (aM rfl rfl ⟨by omega, by omega⟩) fun a Z => wla Z rfl fun a Z => ab (hK2 _ _ ?_)
 replace Z : Fr 26 [(1, _), (3, _), (8, _), (9, _), (10, _)] [] a := Z.pick [1, 3, 8, 9, 10]
 have hp2 := bB r (n := d - (b + pickI l (d - b))) (by omega)
 refine aa fun K3 hK3 => wlm Z rfl fun a Z => wlm Z rfl fun a Z => wlm Z rfl fun a Z => wlm Z rfl fun a Z => wlm Z rfl fun a Z => wlv Z (cm rfl rfl ⟨by omega, by omega⟩) fun a Z => az Z Y (by decide) Tryz.call53 rfl (cj r (d - (b + (pickI l (d - b)))) _ (by omega) (by omega)) ?_
 clear Z Y
 intro a w2 Z Y
 refine wlv Z (cm rfl rfl ⟨by omega, by omega⟩) fun a Z => wla Z rfl fun a Z => wla Z rfl fun a Z => ab (hK3 _ _ ?_)
 replace Z : Fr 26 [(8, _), (9, _)] [] a := Z.pick [8, 9]
 refine aq ?_
 refine ak Z Tryz.results54 (ah rfl (ah rfl ag)) ?_
 exact ⟨by rfl, Y.ext⟩
theorem e9 (key : By) (x : Wsh) (w0 : World) (hk : key.length = 32) (hok : x.ok = true) :
  Ret Tryz.prog 23 #[sv key, .agg #[iv x.signer, iv x.holder, iv x.rf, iv x.rt, iv x.carrier, iv x.serial, iv x.sf, iv x.st, sv x.sig]] w0 fun v w => v = .tuple #[.agg #[iv x.signer, iv x.holder, iv x.rf, iv x.rt, iv x.carrier, iv x.serial, iv x.sf, iv x.st, sv (sealH key x.content)], iv 0] ∧ Ext No w0 w := by
 refine aD Tryz.func23 rfl Tryz.ntmps23 (lb rfl) fun a Z => ?_
 replace Z : Fr 21 [(0, _), (1, _)] [] a := Z
 replace Y : St No w0 [] w0 := St.init w0
 refine aa fun K1 hK1 => aN Z Y (by decide) rfl (cs := [iv x.signer, iv x.holder, iv x.rf, iv x.rt, iv x.carrier, iv x.serial, iv x.sf, iv x.st, sv x.sig]) rfl ?_
 clear Z Y
 intro a w1 Z Y
 refine aI Z Y (by decide) (Tryz.zeroValue30 _) (cs := [iv 0, iv 0, iv 0, iv 0, iv 0, iv 0, iv 0, iv 0, .string (⟨#[]⟩)]) rfl ?_
 clear Z Y
 intro a w2 Z Y
 refine wla Z rfl fun a Z => ab (hK1 _ _ <| ai fun K2 hK2 => ?_)
 refine aa fun K3 hK3 => wlm Z rfl fun a Z => wlv Z (cM rfl rfl (Tryz.runUnderlying9 _)) fun a Z => wlv Z ((v_ne rfl rfl).asb (b' := false) (by simp [hk])) fun a Z => wlm Z rfl fun a Z => wly Z (ao (Y.get (k := 1) rfl) rfl (Tryz.isAgg30 _) (Tryz.sizeOf30 _)) fun a Z => aJ Z Y (by decide) rfl (by decide) rfl Tryz.call68 rfl (mH x _) ?_
 clear Z Y
 intro a w3 Z Y
 refine wly Z (bK rfl) fun a Z => wlv Z (au rfl rfl) fun a Z => ab (hK3 _ _ ?_)
 replace Z : Fr 21 [(0, _), (3, _), (4, _), (5, _), (13, _)] [] a := Z.pick [0, 3, 4, 5, 13]
 refine aB Z rfl (fun hc1 => ?_) (fun hc1 => ?_)
 ·rw [hc1] at Z
  try simp only [qz] at hc1
  simp [hok] at hc1
 rw [hc1] at Z
 try simp only [qz] at hc1
 refine ay <| hK2 _ _ <| aa fun K4 hK4 => wlm Z rfl fun a Z => wlv Z (ao (Y.get (k := 1) rfl) rfl (Tryz.isAgg30 _) (Tryz.sizeOf30 _)) fun a Z => az Z Y (by decide) Tryz.call37 rfl (dZ x _ (Wsh.smalls_of hok)) ?_
 clear Z Y
 intro a w4 Z Y
 refine az Z Y (by decide) Tryz.call71 rfl (jN key x.content _ (by omega) (Nat.le_trans x.content_len (by decide))) ?_
 clear Z Y
 intro a w5 Z Y
 refine wlv Z (ac (v := .pointer (some ⟨w0.heap.size, 8, none⟩)) rfl (by kernel_rfl)) fun a Z => ap 1 Z Y rfl rfl rfl (Tryz.sizeOf9 _) rfl (lb rfl) (ds := [iv x.signer, iv x.holder, iv x.rf, iv x.rt, iv x.carrier, iv x.serial, iv x.sf, iv x.st, sv (sealH key x.content)]) rfl rfl ?_
 clear Z Y
 intro a w6 Z Y
 refine ab (hK4 _ _ ?_)
 replace Z : Fr 21 [(3, _), (4, _), (5, _)] [] a := Z.pick [3, 4, 5]
 refine aa fun K5 hK5 => wlv Z (ao (Y.get (k := 1) rfl) rfl (Tryz.isAgg30 _) (Tryz.sizeOf30 _)) fun a Z => ap 0 Z Y rfl rfl rfl (Tryz.sizeOf30 _) rfl (lb rfl) (ds := [iv x.signer, iv x.holder, iv x.rf, iv x.rt, iv x.carrier, iv x.serial, iv x.sf, iv x.st, sv (sealH key x.content)]) rfl rfl ?_
 clear Z Y
 intro a w7 Z Y
 refine wla Z rfl fun a Z => ab (hK5 _ _ <| aq ?_)
 refine ak Z Tryz.results23 (aE rfl (bW (Y.get (k := 0) rfl) (Tryz.isAgg30 _) (Tryz.sizeOf30 _)) (ah rfl ag)) ?_
 exact ⟨by rfl, Y.ext⟩
theorem gV (key : By) (x : Pxy) (w0 : World) (hk : key.length = 32) (hok : x.ok = true) :
  Ret Tryz.prog 25 #[sv key, .agg #[iv x.frm, iv x.to, iv x.rf, iv x.rt, iv x.sf, iv x.st, sv x.sig]] w0 fun v w => v = .tuple #[.agg #[iv x.frm, iv x.to, iv x.rf, iv x.rt, iv x.sf, iv x.st, sv (sealH key x.content)], iv 0] ∧ Ext No w0 w := by
 refine aD Tryz.func25 rfl Tryz.ntmps25 (lb rfl) fun a Z => ?_
 replace Z : Fr 21 [(0, _), (1, _)] [] a := Z
 replace Y : St No w0 [] w0 := St.init w0
 refine aa fun K1 hK1 => aN Z Y (by decide) rfl (cs := [iv x.frm, iv x.to, iv x.rf, iv x.rt, iv x.sf, iv x.st, sv x.sig]) rfl ?_
 clear Z Y
 intro a w1 Z Y
 refine aI Z Y (by decide) (Tryz.zeroValue40 _) (cs := [iv 0, iv 0, iv 0, iv 0, iv 0, iv 0, .string (⟨#[]⟩)]) rfl ?_
 clear Z Y
 intro a w2 Z Y
 refine wla Z rfl fun a Z => ab (hK1 _ _ <| ai fun K2 hK2 => ?_)
 refine aa fun K3 hK3 => wlm Z rfl fun a Z => wlv Z (cM rfl rfl (Tryz.runUnderlying9 _)) fun a Z => wlv Z ((v_ne rfl rfl).asb (b' := false) (by simp [hk])) fun a Z => wlm Z rfl fun a Z => wly Z (ao (Y.get (k := 1) rfl) rfl (Tryz.isAgg40 _) (Tryz.sizeOf40 _)) fun a Z => aJ Z Y (by decide) rfl (by decide) rfl Tryz.call69 rfl (lO x _) ?_
 clear Z Y
 intro a w3 Z Y
 refine wly Z (bK rfl) fun a Z => wlv Z (au rfl rfl) fun a Z => ab (hK3 _ _ ?_)
 replace Z : Fr 21 [(0, _), (3, _), (4, _), (5, _), (13, _)] [] a := Z.pick [0, 3, 4, 5, 13]
 refine aB Z rfl (fun hc1 => ?_) (fun hc1 => ?_)
 ·rw [hc1] at Z
  try simp only [qz] at hc1
  simp [hok] at hc1
 rw [hc1] at Z
 try simp only [qz] at hc1
 refine ay <| hK2 _ _ <| aa fun K4 hK4 => wlm Z rfl fun a Z => wlv Z (ao (Y.get (k := 1) rfl) rfl (Tryz.isAgg40 _) (Tryz.sizeOf40 _)) fun a Z => az Z Y (by decide) Tryz.call38 rfl (iH x _ (Pxy.smalls_of hok)) ?_
 clear Z Y
 intro a w4 Z Y
 refine az Z Y (by decide) Tryz.call71 rfl (jN key x.content _ (by omega) (Nat.le_trans x.content_len (by decide))) ?_
 clear Z Y
 intro a w5 Z Y
 refine wlv Z (ac (v := .pointer (some ⟨w0.heap.size, 6, none⟩)) rfl (by kernel_rfl)) fun a Z => ap 1 Z Y rfl rfl rfl (Tryz.sizeOf9 _) rfl (lb rfl) (ds := [iv x.frm, iv x.to, iv x.rf, iv x.rt, iv x.sf, iv x.st, sv (sealH key x.content)]) rfl rfl ?_
 clear Z Y
 intro a w6 Z Y
 refine ab (hK4 _ _ ?_)
 replace Z : Fr 21 [(3, _), (4, _), (5, _)] [] a := Z.pick [3, 4, 5]
 refine aa fun K5 hK5 => wlv Z (ao (Y.get (k := 1) rfl) rfl (Tryz.isAgg40 _) (Tryz.sizeOf40 _)) fun a Z => ap 0 Z Y rfl rfl rfl (Tryz.sizeOf40 _) rfl (lb rfl) (ds := [iv x.frm, iv x.to, iv x.rf, iv x.rt, iv x.sf, iv x.st, sv (sealH key x.content)]) rfl rfl ?_
 clear Z Y
 intro a w7 Z Y
 refine wla Z rfl fun a Z => ab (hK5 _ _ <| aq ?_)
 refine ak Z Tryz.results25 (aE rfl (bW (Y.get (k := 0) rfl) (Tryz.isAgg40 _) (Tryz.sizeOf40 _)) (ah rfl ag)) ?_
 exact ⟨by rfl, Y.ext⟩
end Go.Proofs.YtmmfieceinmloaaGreatDoor
namespace Go.Proofs.YtmmfieceinmloaaGreatDoor
open Go.RowKit Go.PW
set_option linter.unusedVariables false
set_option linter.unusedSimpArgs false
set_option maxRecDepth 4000
def Pxy.cells (x : Pxy) : List Value := [iv x.frm, iv x.to, iv x.rf, iv x.rt, iv x.sf, iv x.st, sv x.sig]
def Pxy.z : Pxy := ⟨0, 0, 0, 0, 0, 0, []⟩
def Wsh.cells (x : Wsh) : List Value := [iv x.signer, iv x.holder, iv x.rf, iv x.rt, iv x.carrier, iv x.serial, iv x.sf, iv x.st, sv x.sig]
def Cin.cells (y : Cin) : List Value := [iv y.y0, iv y.y1, iv y.y2, iv y.y3, iv y.y4]
def Cin.z : Cin := ⟨0, 0, 0, 0, 0⟩
def i64 (n : Int) : Prop := -9223372036854775808 ≤ n ∧ n ≤ 9223372036854775807
def Cin.wt (y : Cin) : Prop := i64 y.y0 ∧ i64 y.y1 ∧ i64 y.y2 ∧ i64 y.y3 ∧ i64 y.y4
theorem fQ : ∀ (l : List Cin) (o : Left) (y : Cin), leftOf o (l ++ [y]) = (leftOf o l).next y
 | [], o, y => rfl
 | x :: l, o, y => fQ l (o.next x) y
theorem fP : ∀ (l : List Cin) (o : Left) (y : Cin), pxysOf o (l ++ [y]) = pxysOf o l ++ [(leftOf o l).pxy y]
 | [], o, y => rfl
 | x :: l, o, y => by rw [List.cons_append, pxysOf, fP l (o.next x) y]; rfl
theorem jE {o : Left} (h : o.ok) (holder carrier serial : Int) : (bareW o holder carrier serial).ok = true := by
 obtain ⟨a1, a2, a3, a4, a5, a6, a7, a8⟩ := h
 have h1 := bB holder (n := 10) (by omega)
 have h2 := bB carrier (n := 8) (by omega)
 have h3 := bB serial (n := 1000) (by omega)
 show (Wsh.mk o.who (pickI holder 10) o.rf o.rt (pickI carrier 8) (pickI serial 1000) o.sf o.st []).ok = true
 simp only [Wsh.ok, inB, cc, cB, Bool.and_eq_true, decide_eq_true_eq]
 omega
theorem iq {α : Type} (l : List α) : l.take (min 4 l.length) = l.take 4 := by
 rw [Nat.min_def]
 split
 ·rfl
 ·rw [List.take_of_length_le (Nat.le_refl _), List.take_of_length_le (by omega)]
set_option maxHeartbeats 4000000 in
theorem nf (holder r0 r1 s0 s1 carrier serial : Int) (cv : Value) (ys : List Cin) (w0 : World) (hcv : SlAt w0 cv 5 (ys.map Cin.cells)) (hys : ∀ y ∈ ys, y.wt) (h0 : i64 holder) (h1 : i64 r0) (h2 : i64 r1) (h3 : i64 s0) (h4 : i64 s1) (h5 : i64 carrier) (h6 : i64 serial) :
  Ret Tryz.prog 9 #[.agg #[iv holder, iv r0, iv r1, iv s0, iv s1, iv carrier, iv serial, cv]] w0 (MemR w0 (fun v : Value => .tuple #[.agg (madeW holder r0 r1 s0 s1 carrier serial ys).cells.toArray, v]) (fun v => [own v 40 7 ((madeL holder r0 r1 s0 s1 ys).map Pxy.cells)]) (fun _ => True)) := by
 have hp0 := bB holder (n := 10) (by omega)
 have hp1 := bB r0 (n := 10000) (by omega)
 have hp2 := bB r1 (n := 1000) (by omega)
 have hp3 := bB s0 (n := 10000) (by omega)
 have hp4 := bB s1 (n := 1000) (by omega)
 have hp5 := bB carrier (n := 8) (by omega)
 have hp6 := bB serial (n := 1000) (by omega)
 refine aD Tryz.func9 rfl Tryz.ntmps9 (lb rfl) fun a Z => ?_
 replace Z : Fr 138 [(0, _)] [] a := Z
 replace Y : St No w0 [] w0 := St.init w0
 refine aa fun K1 hK1 => aN Z Y (by decide) rfl (cs := [iv holder, iv r0, iv r1, iv s0, iv s1, iv carrier, iv serial, cv]) rfl ?_
 clear Z Y
 intro a w1 Z Y
 refine aI Z Y (by decide) (Tryz.zeroValue30 _) (cs := [iv 0, iv 0, iv 0, iv 0, iv 0, iv 0, iv 0, iv 0, .string (⟨#[]⟩)]) rfl ?_
 clear Z Y
 intro a w2 Z Y
 refine wla Z rfl fun a Z => ab (hK1 _ _ <| aa fun K2 hK2 => ?_)
 refine wlv Z (ac (v := .pointer (some ⟨w0.heap.size, 1, none⟩)) rfl (by kernel_rfl)) fun a Z => wlv Z (aF (v := .pointer (some ⟨w0.heap.size, 1, none⟩)) rfl rfl (by kernel_rfl)) fun a Z => wlv Z (ae (Y.get (k := 1) rfl) rfl (Tryz.isAgg3 _) rfl) fun a Z => az Z Y (by decide) Tryz.call53 rfl (cj r0 10000 _ (by first | assumption | omega) (by omega)) ?_
 clear Z Y
 intro a w3 Z Y
 refine wla Z rfl fun a Z => ab (hK2 _ _ <| aa fun K3 hK3 => ?_)
 refine wlm Z rfl fun a Z => wlm Z rfl fun a Z => wlv Z (aM rfl rfl ⟨by omega, by omega⟩) fun a Z => wlv Z (ac (v := .pointer (some ⟨w0.heap.size, 1, none⟩)) rfl (by kernel_rfl)) fun a Z => wlv Z (aF (v := .pointer (some ⟨w0.heap.size, 2, none⟩)) rfl rfl (by kernel_rfl)) fun a Z => wlv Z (ae (Y.get (k := 1) rfl) rfl (Tryz.isAgg3 _) rfl) fun a Z => az Z Y (by decide) Tryz.call53 rfl (cj r1 1000 _ (by first | assumption | omega) (by omega)) ?_
 clear Z Y
 intro a w4 Z Y
 refine wlv Z (aM rfl rfl ⟨by omega, by omega⟩) fun a Z => wlv Z (aR (v := .agg #[iv (pickI r0 10000), iv (((pickI r0 10000) + 1) + (pickI r1 1000))]) rfl (by kernel_rfl)) fun a Z => aI Z Y (by decide) (Tryz.zeroValue27 _) (cs := [iv 0, iv 0]) rfl ?_
 clear Z Y
 intro a w5 Z Y
 refine ap 0 Z Y rfl rfl rfl (Tryz.sizeOf27 _) rfl (lb rfl) (ds := [iv (pickI r0 10000), iv (((pickI r0 10000) + 1) + (pickI r1 1000))]) rfl rfl ?_
 clear Z Y
 intro a w6 Z Y
 refine ab (hK3 _ _ ?_)
 replace Z : Fr 138 [(1, _), (2, _), (3, _), (5, _)] [] a := Z.pick [1, 2, 3, 5]
 refine aa fun K4 hK4 => wlv Z (ac (v := .pointer (some ⟨w0.heap.size, 3, none⟩)) rfl (by kernel_rfl)) fun a Z => wlv Z (aF (v := .pointer (some ⟨w0.heap.size, 3, none⟩)) rfl rfl (by kernel_rfl)) fun a Z => wlv Z (ae (Y.get (k := 2) rfl) rfl (Tryz.isAgg3 _) rfl) fun a Z => az Z Y (by decide) Tryz.call53 rfl (cj s0 10000 _ (by first | assumption | omega) (by omega)) ?_
 clear Z Y
 intro a w7 Z Y
 refine wla Z rfl fun a Z => ab (hK4 _ _ <| aa fun K5 hK5 => ?_)
 refine wlm Z rfl fun a Z => wlm Z rfl fun a Z => wlv Z (aM rfl rfl ⟨by omega, by omega⟩) fun a Z => wlv Z (ac (v := .pointer (some ⟨w0.heap.size, 3, none⟩)) rfl (by kernel_rfl)) fun a Z => wlv Z (aF (v := .pointer (some ⟨w0.heap.size, 4, none⟩)) rfl rfl (by kernel_rfl)) fun a Z => wlv Z (ae (Y.get (k := 2) rfl) rfl (Tryz.isAgg3 _) rfl) fun a Z => az Z Y (by decide) Tryz.call53 rfl (cj s1 1000 _ (by first | assumption | omega) (by omega)) ?_
 clear Z Y
 intro a w8 Z Y
 refine wlv Z (aM rfl rfl ⟨by omega, by omega⟩) fun a Z => wlv Z (aR (v := .agg #[iv (pickI s0 10000), iv (((pickI s0 10000) + 1) + (pickI s1 1000))]) rfl (by kernel_rfl)) fun a Z => aI Z Y (by decide) (Tryz.zeroValue28 _) (cs := [iv 0, iv 0]) rfl ?_
 clear Z Y
 intro a w9 Z Y
 refine ap 0 Z Y rfl rfl rfl (Tryz.sizeOf28 _) rfl (lb rfl) (ds := [iv (pickI s0 10000), iv (((pickI s0 10000) + 1) + (pickI s1 1000))]) rfl rfl ?_
 clear Z Y
 intro a w10 Z Y
 refine ab (hK5 _ _ ?_)
 replace Z : Fr 138 [(1, _), (2, _), (3, _), (5, _), (7, _)] [] a := Z.pick [1, 2, 3, 5, 7]
 refine aa fun K6 hK6 => wlv Z (ac (v := pq w0.heap.size) rfl (by kernel_rfl)) fun a Z => wlv Z (ae (Y.get (k := 3) rfl) rfl (Tryz.isAgg3 _) rfl) fun a Z => az Z Y (by decide) Tryz.call53 rfl (cj holder 10 _ (by first | assumption | omega) (by omega)) ?_
 clear Z Y
 intro a w11 Z Y
 refine wla Z rfl fun a Z => ab (hK6 _ _ <| ai fun K7 hK7 => ?_)
 refine aK (by kernel_rfl) (aO (by kernel_rfl) fun w12 hxz => ?_)
 replace Y := Y.grow hxz
 refine aV (k := 0) 9 [7, 8] Z (by kernel_rfl) (by kernel_rfl) (by kernel_rfl) (by rfl) ?_
 replace Z : Fr 138 [(1, _), (2, _), (3, _), (5, _), (7, _), (44, _), (45, _), (46, _), (8, _)] [] a := Z.pick [1, 2, 3, 5, 7, 44, 45, 46, 8]
 refine aL [8] (fun i => match i with | 8 => pm (fun b : Nat => pq b) (fun b => [blk b [iv 0, iv 0, iv 0, iv 0, iv 0, iv 0, iv 0, iv 0, .string (⟨#[]⟩)] 30]) (fun _ => True) | _ => fun _ _ => False) 9 [[], [], [1], [2], [], [4], [5], [0, 3, 6], []] [iv (pickI holder 10), .pointer (some ⟨w0.heap.size, 5, none⟩), iv carrier, iv (pickI carrier 8), .pointer (some ⟨w0.heap.size, 6, none⟩), iv serial, iv (pickI serial 1000), .agg #[iv 0, iv (pickI holder 10), iv 0, iv 0, iv (pickI carrier 8), iv (pickI serial 1000), iv 0, iv 0, .string (⟨#[]⟩)], undef] Z Y (by kernel_rfl) (by kernel_rfl) (by kernel_rfl) ?_ ?_ ?_
 ·intro i hi hiq
  match i, hi, hiq with
  | 0, _, _ =>
   intro w Y
   exact OpV.g (aj rfl)
  | 1, _, _ =>
   intro w Y
   exact OpV.g (ac (v := .pointer (some ⟨w0.heap.size, 5, none⟩)) rfl (by kernel_rfl))
  | 2, _, _ =>
   intro w Y
   exact OpV.g (ae (Y.get (k := 3) rfl) rfl (Tryz.isAgg3 _) rfl)
  | 3, _, _ =>
   intro w Y
   exact aU Tryz.call53 rfl (cj carrier 8 _ (by first | assumption | omega) (by omega))
  | 4, _, _ =>
   intro w Y
   exact OpV.g (ac (v := .pointer (some ⟨w0.heap.size, 6, none⟩)) rfl (by kernel_rfl))
  | 5, _, _ =>
   intro w Y
   exact OpV.g (ae (Y.get (k := 3) rfl) rfl (Tryz.isAgg3 _) rfl)
  | 6, _, _ =>
   intro w Y
   exact aU Tryz.call53 rfl (cj serial 1000 _ (by first | assumption | omega) (by omega))
  | 7, _, _ =>
   intro w Y
   exact OpV.g (aR (v := .agg #[iv 0, iv (pickI holder 10), iv 0, iv 0, iv (pickI carrier 8), iv (pickI serial 1000), iv 0, iv 0, .string (⟨#[]⟩)]) rfl (by kernel_rfl))
  | 8, _, h => exact absurd (by simp) h
 ·intro i hi
  simp only [List.mem_cons, List.not_mem_nil, or_false] at hi
  subst hi
  ·intro w Y
   exact f8 (Tryz.zeroValue30 _) (cs := [iv 0, iv 0, iv 0, iv 0, iv 0, iv 0, iv 0, iv 0, .string (⟨#[]⟩)]) rfl
 clear Z Y
 rintro _ _ ⟨b1, rfl, -, rfl⟩ a w13 Z Y
 replace Z : Fr 138 [(47, iv (pickI holder 10)), (48, .pointer (some ⟨w0.heap.size, 5, none⟩)), (49, iv carrier), (50, iv (pickI carrier 8)), (51, .pointer (some ⟨w0.heap.size, 6, none⟩)), (52, iv serial), (53, iv (pickI serial 1000)), (54, .agg #[iv 0, iv (pickI holder 10), iv 0, iv 0, iv (pickI carrier 8), iv (pickI serial 1000), iv 0, iv 0, .string (⟨#[]⟩)]), (9, _), (1, _), (2, _), (3, _), (5, _), (7, _), (44, _), (45, _), (46, _), (8, _)] [] a := Z
 replace Y : St No w0 [_, _, _, _, _] w13 := Y
 refine ab <| aP (k := 9) 10 [9] (by kernel_rfl) (by kernel_rfl) (by kernel_rfl) ?_
 refine ap 0 Z Y rfl rfl rfl (Tryz.sizeOf30 _) rfl (lb rfl) (ds := [iv 0, iv (pickI holder 10), iv 0, iv 0, iv (pickI carrier 8), iv (pickI serial 1000), iv 0, iv 0, .string (⟨#[]⟩)]) rfl rfl ?_
 clear Z Y
 intro a w14 Z Y
 refine ab <| bd (by kernel_rfl) ?_
 refine hK7 _ _ ?_
 replace Z : Fr 138 [(1, _), (2, _), (3, _), (5, _), (7, _), (8, _), (9, _)] [] a := Z.pick [1, 2, 3, 5, 7, 8, 9]
 refine aa fun K8 hK8 => wla Z rfl fun a Z => ab (hK8 _ _ <| ai fun K9 hK9 => ?_)
 refine aa fun K10 hK10 => wla Z rfl fun a Z => ab (hK10 _ _ <| ax ?_)
 replace Y : St No w0 [own (.slice none 0 0) 40 7 ((pxysOf (bF holder r0 r1 s0 s1) (ys.take 0)).map Pxy.cells), blk b1 [iv 0, iv (pickI holder 10), iv 0, iv 0, iv (pickI carrier 8), iv (pickI serial 1000), iv 0, iv 0, .string (⟨#[]⟩)] 30, blk w8.heap.size [iv (pickI s0 10000), iv (((pickI s0 10000) + 1) + (pickI s1 1000))] 28, blk w4.heap.size [iv (pickI r0 10000), iv (((pickI r0 10000) + 1) + (pickI r1 1000))] 27, blk w1.heap.size [iv 0, iv 0, iv 0, iv 0, iv 0, iv 0, iv 0, iv 0, .string (⟨#[]⟩)] 30, blk w0.heap.size [iv holder, iv r0, iv r1, iv s0, iv s1, iv carrier, iv serial, cv] 25] w14 := Y.nil_own
 refine bf (fun m a w => ∃ (k : Nat) (o : Left) (v : Value), m = 4 - k ∧ (k ≤ min 4 ys.length) ∧ (leftOf (bF holder r0 r1 s0 s1) (ys.take k) = o) ∧ (o.ok) ∧ Fr 138 [(1, pq w0.heap.size), (2, pq w1.heap.size), (3, .slice none 0 0), (5, pq w4.heap.size), (7, pq w8.heap.size), (9, pq b1), (8, iv o.who), (10, v), (11, iv (k : Int))] [] a ∧ St No w0 [blk w0.heap.size [iv holder, iv r0, iv r1, iv s0, iv s1, iv carrier, iv serial, cv] 25, blk w1.heap.size [iv 0, iv 0, iv 0, iv 0, iv 0, iv 0, iv 0, iv 0, .string (⟨#[]⟩)] 30, blk w4.heap.size [iv o.rf, iv o.rt] 27, blk w8.heap.size [iv o.sf, iv o.st] 28, blk b1 [iv 0, iv (pickI holder 10), iv 0, iv 0, iv (pickI carrier 8), iv (pickI serial 1000), iv 0, iv 0, .string (⟨#[]⟩)] 30, own v 40 7 ((pxysOf (bF holder r0 r1 s0 s1) (ys.take k)).map Pxy.cells)] w) _ ⟨0, (bF holder r0 r1 s0 s1), .slice none 0 0, rfl, (Nat.zero_le _), rfl, dU _ _ _ _ _, Z.pick [1, 2, 3, 5, 7, 9, 8, 10, 11], Y.select [5, 4, 3, 2, 1, 0] (by decide)⟩ ?_
 rintro _ a w15 ⟨k, o, v, rfl, hk, ho, hok, Z, Y⟩
 refine ai fun K11 hK11 => aa fun K12 hK12 => wlm Z rfl fun a Z => wlv Z (ac (v := .pointer (some ⟨w0.heap.size, 7, none⟩)) rfl (by kernel_rfl)) fun a Z => wlv Z (ae (Y.get (k := 0) rfl) rfl (Tryz.isAgg23 _) rfl) fun a Z => wlv Z ((aY (sT := 23) (Y.arg hcv) rfl rfl (Tryz.runUnderlying23 _)).asi (m' := (ys.length : Int)) (by rw [List.length_map])) fun a Z => wlv Z (v_lt rfl rfl) fun a Z => wlm Z rfl fun a Z => ?_
 rcases Bool.eq_false_or_eq_true (decide ((k : Int) < (ys.length : Int))) with hb2 | hb2
 ·rw [hb2] at Z
  try simp only [qz] at hb2
  have hky : k < ys.length := by omega
  obtain ⟨y, hy⟩ : ∃ y, ys.getD k Cin.z = y := ⟨_, rfl⟩
  obtain ⟨hy0, hy1, hy2, hy3, hy4⟩ : y.wt := by rw [← hy]; exact hys _ (cd hky)
  obtain ⟨ho1, ho2, ho3, ho4, ho5, ho6, ho7, ho8⟩ := id hok
  have hp9 := bB y.y0 (n := 9) (by omega)
  refine wly Z (aj rfl) fun a Z => wly Z (v_lt rfl rfl) fun a Z => wlv Z (aw rfl rfl) fun a Z => ab (hK12 _ _ ?_)
  replace Z : Fr 138 [(1, _), (2, _), (3, _), (5, _), (7, _), (9, _), (8, _), (10, _), (11, _), (63, _)] [] a := Z.pick [1, 2, 3, 5, 7, 9, 8, 10, 11, 63]
  refine aB Z rfl (fun hc3 => ?_) (fun hc3 => ?_)
  ·rw [hc3] at Z
   try simp only [qz] at hc3
   refine ay <| hK11 _ _ <| ai fun K13 hK13 => ax <| aa fun K14 hK14 => wlv Z (ac (v := .pointer (some ⟨w0.heap.size, 7, none⟩)) rfl (by kernel_rfl)) fun a Z => wlv Z (ae (Y.get (k := 0) rfl) rfl (Tryz.isAgg23 _) rfl) fun a Z => wlm Z rfl fun a Z => ?_
   refine wlv Z ((am (i := (k : Int)) (sT := 23) (Y.arg hcv) rfl rfl (Tryz.runUnderlying23 _) (Tryz.sizeOf108 _) (by omega) (by rw [List.length_map]; exact hky)).as (v' := slAddr cv (k * 5)) rfl) fun a Z => wlv Z ((bY (Y.arg hcv) (i := k) (by rw [List.length_map]; exact hky) rfl (Tryz.isAgg108 _) (Tryz.sizeOf108 _)).as (v' := .agg #[iv y.y0, iv y.y1, iv y.y2, iv y.y3, iv y.y4]) (by rw [ca Cin.z, hy]; rfl)) fun a Z => aI Z Y (by decide) (Tryz.zeroValue108 _) (cs := [iv 0, iv 0, iv 0, iv 0, iv 0]) rfl ?_
   clear Z Y
   intro a w16 Z Y
   refine ap 0 Z Y rfl rfl rfl (Tryz.sizeOf108 _) rfl (lb rfl) (ds := [iv y.y0, iv y.y1, iv y.y2, iv y.y3, iv y.y4]) rfl rfl ?_
   clear Z Y
   intro a w17 Z Y
   refine ab (hK14 _ _ ?_)
   replace Z : Fr 138 [(1, _), (2, _), (3, _), (5, _), (7, _), (9, _), (8, _), (10, _), (11, _), (12, _)] [] a := Z.pick [1, 2, 3, 5, 7, 9, 8, 10, 11, 12]
   refine ai fun K15 hK15 => aK (by kernel_rfl) (aO (by kernel_rfl) fun w18 hxz => ?_)
   replace Y := Y.grow hxz
   refine aV (k := 0) 12 [10, 11] Z (by kernel_rfl) (by kernel_rfl) (by kernel_rfl) (by rfl) ?_
   replace Z : Fr 138 [(1, _), (2, _), (3, _), (5, _), (7, _), (9, _), (8, _), (10, _), (11, _), (12, _)] [] a := Z.pick [1, 2, 3, 5, 7, 9, 8, 10, 11, 12]
   refine aL [11] (fun i => match i with | 11 => pm (fun b : Nat => pq b) (fun b => [blk b [iv 0, iv 0, iv 0, iv 0, iv 0, iv 0, .string (⟨#[]⟩)] 40]) (fun _ => True) | _ => fun _ _ => False) 12 [[], [], [1], [], [3], [4], [2, 5], [6], [], [], [0, 7, 8, 9], []] [iv o.who, iv o.who, iv (o.who + 1), pq w15.heap.size, iv y.y0, iv (pickI y.y0 9), iv ((o.who + 1) + (pickI y.y0 9)), iv (((o.who + 1) + (pickI y.y0 9)) % 10), .agg #[iv o.rf, iv o.rt], .agg #[iv o.sf, iv o.st], .agg #[iv o.who, iv (((o.who + 1) + (pickI y.y0 9)) % 10), iv o.rf, iv o.rt, iv o.sf, iv o.st, .string (⟨#[]⟩)], undef] Z Y (by kernel_rfl) (by kernel_rfl) (by kernel_rfl) ?_ ?_ ?_
   ·intro i hi hiq
    match i, hi, hiq with
    | 0, _, _ =>
     intro w Y
     exact OpV.g (aj rfl)
    | 1, _, _ =>
     intro w Y
     exact OpV.g (aj rfl)
    | 2, _, _ =>
     intro w Y
     exact OpV.g (aM rfl rfl ⟨by omega, by omega⟩)
    | 3, _, _ =>
     intro w Y
     exact OpV.g (aF (v := pq w15.heap.size) rfl rfl (by kernel_rfl))
    | 4, _, _ =>
     intro w Y
     exact OpV.g (ae (Y.get (k := 0) rfl) rfl (Tryz.isAgg3 _) rfl)
    | 5, _, _ =>
     intro w Y
     exact aU Tryz.call53 rfl (cj y.y0 9 _ (by first | assumption | omega) (by omega))
    | 6, _, _ =>
     intro w Y
     exact OpV.g (aM rfl rfl ⟨by omega, by omega⟩)
    | 7, _, _ =>
     intro w Y
     exact OpV.g (ey rfl rfl (by omega) (by omega))
    | 8, _, _ =>
     intro w Y
     exact OpV.g (ao (Y.get (k := 3) rfl) rfl (Tryz.isAgg27 _) (Tryz.sizeOf27 _))
    | 9, _, _ =>
     intro w Y
     exact OpV.g (ao (Y.get (k := 4) rfl) rfl (Tryz.isAgg28 _) (Tryz.sizeOf28 _))
    | 10, _, _ =>
     intro w Y
     exact OpV.g (aR (v := .agg #[iv o.who, iv (((o.who + 1) + (pickI y.y0 9)) % 10), iv o.rf, iv o.rt, iv o.sf, iv o.st, .string (⟨#[]⟩)]) rfl (by kernel_rfl))
    | 11, _, h => exact absurd (by simp) h
    | i + 12, h, _ => exact absurd h (by omega)
   ·intro i hi
    simp only [List.mem_cons, List.not_mem_nil, or_false] at hi
    subst hi
    ·intro w Y
     exact f8 (Tryz.zeroValue40 _) (cs := [iv 0, iv 0, iv 0, iv 0, iv 0, iv 0, .string (⟨#[]⟩)]) rfl
   clear Z Y
   rintro _ _ ⟨b4, rfl, -, rfl⟩ a w19 Z Y
   replace Z : Fr 138 [(71, iv o.who), (72, iv o.who), (73, iv (o.who + 1)), (74, pq w15.heap.size), (75, iv y.y0), (76, iv (pickI y.y0 9)), (77, iv ((o.who + 1) + (pickI y.y0 9))), (78, iv (((o.who + 1) + (pickI y.y0 9)) % 10)), (79, .agg #[iv o.rf, iv o.rt]), (80, .agg #[iv o.sf, iv o.st]), (81, .agg #[iv o.who, iv (((o.who + 1) + (pickI y.y0 9)) % 10), iv o.rf, iv o.rt, iv o.sf, iv o.st, .string (⟨#[]⟩)]), (13, _), (1, _), (2, _), (3, _), (5, _), (7, _), (9, _), (8, _), (10, _), (11, _), (12, _)] [] a := Z
   replace Y : St No w0 [_, _, _, _, _, _, _, _] w19 := Y
   refine ab <| aP (k := 12) 13 [12] (by kernel_rfl) (by kernel_rfl) (by kernel_rfl) ?_
   refine ap 0 Z Y rfl rfl rfl (Tryz.sizeOf40 _) rfl (lb rfl) (ds := [iv o.who, iv (((o.who + 1) + (pickI y.y0 9)) % 10), iv o.rf, iv o.rt, iv o.sf, iv o.st, .string (⟨#[]⟩)]) rfl rfl ?_
   clear Z Y
   intro a w20 Z Y
   refine ab <| bd (by kernel_rfl) ?_
   refine hK15 _ _ ?_
   replace Z : Fr 138 [(1, _), (2, _), (3, _), (5, _), (7, _), (9, _), (8, _), (10, _), (11, _), (12, _), (13, _)] [] a := Z.pick [1, 2, 3, 5, 7, 9, 8, 10, 11, 12, 13]
   refine ai fun K16 hK16 => aK (by kernel_rfl) (aO (by kernel_rfl) fun w21 hxz => ?_)
   replace Y := Y.grow hxz
   refine aV (k := 0) 9 [6, 8] Z (by kernel_rfl) (by kernel_rfl) (by kernel_rfl) (by rfl) ?_
   replace Z : Fr 138 [(1, _), (2, _), (3, _), (5, _), (7, _), (9, _), (8, _), (10, _), (11, _), (12, _), (13, _)] [] a := Z.pick [1, 2, 3, 5, 7, 9, 8, 10, 11, 12, 13]
   refine cx 7 8 40 [iv 0, iv 0, iv 0, iv 0, iv 0, iv 0, .string (⟨#[]⟩)] [iv o.who, iv ((o.who + 1 + pickI y.y0 9) % 10), iv o.rf, iv o.rt, iv o.sf, iv o.st, sv (sealH (keyH o.who) (o.bare y).content)] 9 [[], [0], [], [1, 2], [3], [4], [4], [], [5, 7]] (fun i => match i with | 0 => pv (iv o.who) | 1 => pv (sv (keyH o.who)) | 2 => pv (.agg #[iv o.who, iv (((o.who + 1) + (pickI y.y0 9)) % 10), iv o.rf, iv o.rt, iv o.sf, iv o.st, .string (⟨#[]⟩)]) | 3 => pv (.tuple #[.agg #[iv o.who, iv ((o.who + 1 + pickI y.y0 9) % 10), iv o.rf, iv o.rt, iv o.sf, iv o.st, sv (sealH (keyH o.who) (o.bare y).content)], iv 0]) | 4 => pv (.tuple #[.agg #[iv o.who, iv ((o.who + 1 + pickI y.y0 9) % 10), iv o.rf, iv o.rt, iv o.sf, iv o.st, sv (sealH (keyH o.who) (o.bare y).content)], iv 0]) | 5 => pv (.agg #[iv o.who, iv ((o.who + 1 + pickI y.y0 9) % 10), iv o.rf, iv o.rt, iv o.sf, iv o.st, sv (sealH (keyH o.who) (o.bare y).content)]) | 6 => pv (iv 0) | 7 => fun v E => ∃ b, v = ptr b ∧ E = [] | 8 => fun v E => v = undef ∧ E = [] | _ => fun _ _ => False) Z (H := [blk b4 [iv o.who, iv (((o.who + 1) + (pickI y.y0 9)) % 10), iv o.rf, iv o.rt, iv o.sf, iv o.st, .string (⟨#[]⟩)] 40, blk w15.heap.size [iv y.y0, iv y.y1, iv y.y2, iv y.y3, iv y.y4] 108, blk w0.heap.size [iv holder, iv r0, iv r1, iv s0, iv s1, iv carrier, iv serial, cv] 25, blk w1.heap.size [iv 0, iv 0, iv 0, iv 0, iv 0, iv 0, iv 0, iv 0, .string (⟨#[]⟩)] 30, blk w4.heap.size [iv o.rf, iv o.rt] 27, blk w8.heap.size [iv o.sf, iv o.st] 28, blk b1 [iv 0, iv (pickI holder 10), iv 0, iv 0, iv (pickI carrier 8), iv (pickI serial 1000), iv 0, iv 0, .string (⟨#[]⟩)] 30, own v 40 7 ((pxysOf (bF holder r0 r1 s0 s1) (ys.take k)).map Pxy.cells)]) Y (by kernel_rfl) (by kernel_rfl) (by kernel_rfl) (by kernel_rfl) (by decide) (by decide) (by decide) (by decide) (by decide) ?_ (fun v E h => h) ⟨rfl, rfl⟩ (fun v E => Iff.rfl) ?_ ?_ ?_ ?_
   ·intro i v E h
    match i, h with
    | 0, _ => exact by decide
    | 1, _ => exact by decide
    | 2, _ => exact by decide
    | 3, _ => exact by decide
    | 4, _ => exact by decide
    | 5, _ => exact by decide
    | 6, _ => exact by decide
    | 7, _ => exact by decide
    | 8, _ => exact by decide
    | i + 9, h => exact h.elim
   ·intro i hi hia hij e
    match i, hi, hia, hij with
    | 0, _, _, _ =>
     intro w Y
     exact OpV.g (aj rfl)
    | 1, _, _, _ =>
     rintro _ _ ⟨rfl, rfl⟩
     intro w Y
     exact aU Tryz.call21 rfl (fA o.who _)
    | 2, _, _, _ =>
     intro w Y
     exact OpV.g (ao (Y.get (k := 1) rfl) rfl (Tryz.isAgg40 _) (Tryz.sizeOf40 _))
    | 3, _, _, _ =>
     rintro _ _ ⟨rfl, rfl⟩ _ _ ⟨rfl, rfl⟩
     intro w Y
     exact aU Tryz.call25 rfl (gV (keyH o.who) (o.bare y) _ (cO _) (Left.pxy_ok hok y))
    | 4, _, _, _ =>
     rintro _ _ ⟨rfl, rfl⟩
     intro w Y
     exact OpV.g (aj rfl)
    | 5, _, _, _ =>
     rintro _ _ ⟨rfl, rfl⟩
     intro w Y
     exact OpV.g (aA rfl rfl)
    | 6, _, _, _ =>
     rintro _ _ ⟨rfl, rfl⟩
     intro w Y
     exact OpV.g (aA rfl rfl)
    | 7, _, h, _ => exact absurd rfl h
    | 8, _, _, h => exact absurd rfl h
   ·exact fun Lv w => dx (Tryz.zeroValue40 _)
   ·rintro _ _ ⟨rfl, rfl⟩ _ _ ⟨b5, rfl, rfl⟩
    intro b hb w h
    have hb : some (ptr b5) = some (ptr b) := hb
    cases hb
    exact dp rfl rfl h (Tryz.sizeOf40 _) rfl (lb rfl) rfl
   clear Z Y
   rintro bq _ _ ⟨⟨rfl, rfl⟩, -⟩ _ _ ⟨⟨rfl, rfl⟩, -⟩ _ _ ⟨⟨rfl, rfl⟩, -⟩ _ _ ⟨⟨rfl, rfl⟩, -⟩ _ _ ⟨⟨rfl, rfl⟩, -⟩ _ _ ⟨⟨rfl, rfl⟩, -⟩ _ _ ⟨⟨rfl, rfl⟩, -⟩ _ _ ⟨⟨b5, rfl, rfl⟩, hva⟩ a w22 Z Y
   obtain rfl : b5 = bq := eL (hva rfl)
   replace Z : Fr 138 [(83, _), (84, _), (85, _), (86, _), (82, _), (87, _), (88, _), (14, _), (1, _), (2, _), (3, _), (5, _), (7, _), (9, _), (8, _), (10, _), (11, _), (12, _), (13, _)] [] a := Z
   replace Y : St No w0 [blk b5 [iv o.who, iv ((o.who + 1 + pickI y.y0 9) % 10), iv o.rf, iv o.rt, iv o.sf, iv o.st, sv (sealH (keyH o.who) (o.bare y).content)] 40, blk b4 [iv o.who, iv (((o.who + 1) + (pickI y.y0 9)) % 10), iv o.rf, iv o.rt, iv o.sf, iv o.st, .string (⟨#[]⟩)] 40, blk w15.heap.size [iv y.y0, iv y.y1, iv y.y2, iv y.y3, iv y.y4] 108, blk w0.heap.size [iv holder, iv r0, iv r1, iv s0, iv s1, iv carrier, iv serial, cv] 25, blk w1.heap.size [iv 0, iv 0, iv 0, iv 0, iv 0, iv 0, iv 0, iv 0, .string (⟨#[]⟩)] 30, blk w4.heap.size [iv o.rf, iv o.rt] 27, blk w8.heap.size [iv o.sf, iv o.st] 28, blk b1 [iv 0, iv (pickI holder 10), iv 0, iv 0, iv (pickI carrier 8), iv (pickI serial 1000), iv 0, iv 0, .string (⟨#[]⟩)] 30, own v 40 7 ((pxysOf (bF holder r0 r1 s0 s1) (ys.take k)).map Pxy.cells)] w22 := Y
   refine ab <| aP (k := 9) 10 [9] (by kernel_rfl) (by kernel_rfl) (by kernel_rfl) ?_
   refine wla Z rfl fun a Z => ab <| bd (by kernel_rfl) ?_
   refine hK16 _ _ ?_
   replace Z : Fr 138 [(1, _), (2, _), (3, _), (5, _), (7, _), (9, _), (10, _), (11, _), (12, _), (13, _), (14, _)] [] a := Z.pick [1, 2, 3, 5, 7, 9, 10, 11, 12, 13, 14]
   refine aa fun K17 hK17 => wlm Z rfl fun a Z => wlv Z (ao (Y.get (k := 0) rfl) rfl (Tryz.isAgg40 _) (Tryz.sizeOf40 _)) fun a Z => aH (E := 40) (sz := 7) rfl [[iv o.who, iv ((o.who + 1 + pickI y.y0 9) % 10), iv o.rf, iv o.rt, iv o.sf, iv o.st, sv (sealH (keyH o.who) (o.bare y).content)]] (by kernel_rfl) (by simp) rfl (by decide) (by decide) Z Y ?_
   clear Z Y
   intro a w23 Z Y
   refine bL (i := 9) (sT := 31) (inf := Tryz.t40) (z := .agg #[iv 0, iv 0, iv 0, iv 0, iv 0, iv 0, .string (⟨#[]⟩)]) (b := 0) (off := 0) (m := 0) (c := 0) rfl rfl rfl (Y.ownAt (i := 0) rfl) (by simp) Tryz.underlying31 rfl rfl rfl rfl (by decide) (by simp [Value.oneCell', yv, wv, sv]) (by have hby : Tryz.t40.bytes = 64 := rfl; simp [big, hby, ff] <;> omega) (by have hby : Tryz.t40.bytes = 64 := rfl; simp [big, hby, ff] <;> omega) (by decide) Z Y fun a w24 s6 Z Y _ => ?_
   rw [show ((pxysOf (bF holder r0 r1 s0 s1) (ys.take k)).map Pxy.cells) ++ ([[iv o.who, iv ((o.who + 1 + pickI y.y0 9) % 10), iv o.rf, iv o.rt, iv o.sf, iv o.st, sv (sealH (keyH o.who) (o.bare y).content)]]) = ((pxysOf (bF holder r0 r1 s0 s1) (ys.take (k + 1))).map Pxy.cells) from by rw [cE Cin.z hky, fP, ho, hy, List.map_append]; rfl] at Y
   refine wla Z rfl fun a Z => ab (hK17 _ _ <| aa fun K18 hK18 => ?_)
   refine wlv Z (ac (v := .pointer (some ⟨b4, 1, none⟩)) rfl (by kernel_rfl)) fun a Z => wlv Z (ae (Y.get (k := 2) rfl) rfl (Tryz.isAgg3 _) rfl) fun a Z => wla Z rfl fun a Z => ab (hK18 _ _ ?_)
   replace Z : Fr 138 [(1, _), (2, _), (3, _), (5, _), (7, _), (9, _), (11, _), (12, _), (10, _), (8, _)] [] a := Z.pick [1, 2, 3, 5, 7, 9, 11, 12, 10, 8]
   replace Y : St No w0 [_, _, _, _, _, _, _] w24 := Y.mask [false, false, false, true, true, true, true, true, true, true]
   refine aa fun K19 hK19 => wlv Z (ac (v := pq w4.heap.size) rfl (by kernel_rfl)) fun a Z => wlv Z (ae (Y.get (k := 3) rfl) rfl (Tryz.isAgg3 _) rfl) fun a Z => wlv Z (ac (v := .pointer (some ⟨w4.heap.size, 1, none⟩)) rfl (by kernel_rfl)) fun a Z => wlv Z (ae (Y.get (k := 3) rfl) rfl (Tryz.isAgg3 _) rfl) fun a Z => wlv Z (aF (v := .pointer (some ⟨w15.heap.size, 1, none⟩)) rfl rfl (by kernel_rfl)) fun a Z => wlv Z (ae (Y.get (k := 0) rfl) rfl (Tryz.isAgg3 _) rfl) fun a Z => ?_
   refine wlv Z (aF (v := .pointer (some ⟨w15.heap.size, 2, none⟩)) rfl rfl (by kernel_rfl)) fun a Z => wlv Z (ae (Y.get (k := 0) rfl) rfl (Tryz.isAgg3 _) rfl) fun a Z => az Z Y (by decide) Tryz.call54 rfl (fN o.rf o.rt y.y1 y.y2 _ (by omega) (by omega) (by omega) (by assumption) (by assumption)) ?_
   clear Z Y
   intro a w25 Z Y
   refine wlm Z rfl fun a Z => wlv Z (aA rfl rfl) fun a Z => wlv Z (aA rfl rfl) fun a Z => wlv Z (ac (v := pq w4.heap.size) rfl (by kernel_rfl)) fun a Z => ap 3 Z Y rfl rfl rfl (Tryz.sizeOf3 _) rfl (lb rfl) (ds := [iv (o.rf + pickI y.y1 (o.rt - o.rf)), iv o.rt]) rfl rfl ?_
   clear Z Y
   intro a w26 Z Y
   refine wlv Z (ac (v := .pointer (some ⟨w4.heap.size, 1, none⟩)) rfl (by kernel_rfl)) fun a Z => ap 3 Z Y rfl rfl rfl (Tryz.sizeOf3 _) rfl (lb rfl) (ds := [iv (o.rf + pickI y.y1 (o.rt - o.rf)), iv (o.rt - pickI y.y2 (o.rt - (o.rf + pickI y.y1 (o.rt - o.rf))))]) rfl rfl ?_
   clear Z Y
   intro a w27 Z Y
   refine ab (hK19 _ _ ?_)
   replace Z : Fr 138 [(1, _), (2, _), (3, _), (5, _), (7, _), (9, _), (11, _), (12, _), (10, _), (8, _)] [] a := Z.pick [1, 2, 3, 5, 7, 9, 11, 12, 10, 8]
   refine ar <| wlv Z (ac (v := pq w8.heap.size) rfl (by kernel_rfl)) fun a Z => wlv Z (ae (Y.get (k := 4) rfl) rfl (Tryz.isAgg3 _) rfl) fun a Z => wlv Z (ac (v := .pointer (some ⟨w8.heap.size, 1, none⟩)) rfl (by kernel_rfl)) fun a Z => wlv Z (ae (Y.get (k := 4) rfl) rfl (Tryz.isAgg3 _) rfl) fun a Z => wlv Z (aF (v := .pointer (some ⟨w15.heap.size, 3, none⟩)) rfl rfl (by kernel_rfl)) fun a Z => wlv Z (ae (Y.get (k := 0) rfl) rfl (Tryz.isAgg3 _) rfl) fun a Z => ?_
   refine wlv Z (aF (v := .pointer (some ⟨w15.heap.size, 4, none⟩)) rfl rfl (by kernel_rfl)) fun a Z => wlv Z (ae (Y.get (k := 0) rfl) rfl (Tryz.isAgg3 _) rfl) fun a Z => az Z Y (by decide) Tryz.call54 rfl (fN o.sf o.st y.y3 y.y4 _ (by omega) (by omega) (by omega) (by assumption) (by assumption)) ?_
   clear Z Y
   intro a w28 Z Y
   refine wlm Z rfl fun a Z => wlv Z (aA rfl rfl) fun a Z => wlv Z (aA rfl rfl) fun a Z => wlv Z (ac (v := pq w8.heap.size) rfl (by kernel_rfl)) fun a Z => ap 4 Z Y rfl rfl rfl (Tryz.sizeOf3 _) rfl (lb rfl) (ds := [iv (o.sf + pickI y.y3 (o.st - o.sf)), iv o.st]) rfl rfl ?_
   clear Z Y
   intro a w29 Z Y
   refine wlv Z (ac (v := .pointer (some ⟨w8.heap.size, 1, none⟩)) rfl (by kernel_rfl)) fun a Z => ap 4 Z Y rfl rfl rfl (Tryz.sizeOf3 _) rfl (lb rfl) (ds := [iv (o.sf + pickI y.y3 (o.st - o.sf)), iv (o.st - pickI y.y4 (o.st - (o.sf + pickI y.y3 (o.st - o.sf))))]) rfl rfl ?_
   clear Z Y
   intro a w30 Z Y
   refine ab <| hK13 _ _ ?_
   replace Z : Fr 138 [(1, _), (2, _), (3, _), (5, _), (7, _), (9, _), (11, _), (10, _), (8, _)] [] a := Z.pick [1, 2, 3, 5, 7, 9, 11, 10, 8]
   replace Y : St No w0 [_, _, _, _, _, _] w30 := Y.mask [false, true, true, true, true, true, true]
   refine ar <| wlm Z rfl fun a Z => wlv Z (aM rfl rfl ⟨by omega, by omega⟩) fun a Z => wla Z rfl fun a Z => ab ?_
   refine ⟨_, ?_, k + 1, o.next y, s6, rfl, (by omega), (by rw [cE Cin.z hky, fQ, ho, hy]), (Left.next_ok hok y).1, Z.pick [1, 2, 3, 5, 7, 9, 8, 10, 11], Y.select [0, 1, 2, 3, 4, 5] (by decide)⟩
   omega
  rw [hc3] at Z
  try simp only [qz] at hc3
  refine aS <| hK9 _ _ ?_
  obtain ⟨ho1, ho2, ho3, ho4, ho5, ho6, ho7, ho8⟩ := id hok
  have hwok := jE hok holder carrier serial
  have hkm : k = min 4 ys.length := by omega
  have hk4 : ys.take k = ys.take 4 := by rw [hkm]; exact iq ys
  refine aa fun K20 hK20 => wlm Z rfl fun a Z => wlv Z (ac (v := pq b1) rfl (by kernel_rfl)) fun a Z => ap 4 Z Y rfl rfl rfl (Tryz.sizeOf3 _) rfl (lb rfl) (ds := [iv o.who, iv (pickI holder 10), iv 0, iv 0, iv (pickI carrier 8), iv (pickI serial 1000), iv 0, iv 0, .string (⟨#[]⟩)]) rfl rfl ?_
  clear Z Y
  intro a w31 Z Y
  refine ab (hK20 _ _ <| aa fun K21 hK21 => ?_)
  refine wlv Z (ao (Y.get (k := 2) rfl) rfl (Tryz.isAgg27 _) (Tryz.sizeOf27 _)) fun a Z => wlv Z (ac (v := .pointer (some ⟨b1, 2, none⟩)) rfl (by kernel_rfl)) fun a Z => ap 4 Z Y rfl rfl rfl (Tryz.sizeOf27 _) rfl (lb rfl) (ds := [iv o.who, iv (pickI holder 10), iv o.rf, iv o.rt, iv (pickI carrier 8), iv (pickI serial 1000), iv 0, iv 0, .string (⟨#[]⟩)]) rfl rfl ?_
  clear Z Y
  intro a w32 Z Y
  refine ab (hK21 _ _ ?_)
  replace Z : Fr 138 [(2, _), (3, _), (7, _), (9, _), (8, _), (10, _)] [] a := Z.pick [2, 3, 7, 9, 8, 10]
  replace Y : St No w0 [_, _, _, _] w32 := Y.mask [false, true, false, true, true, true]
  refine aa fun K22 hK22 => wlv Z (ao (Y.get (k := 1) rfl) rfl (Tryz.isAgg28 _) (Tryz.sizeOf28 _)) fun a Z => wlv Z (ac (v := .pointer (some ⟨b1, 6, none⟩)) rfl (by kernel_rfl)) fun a Z => ap 2 Z Y rfl rfl rfl (Tryz.sizeOf28 _) rfl (lb rfl) (ds := [iv o.who, iv (pickI holder 10), iv o.rf, iv o.rt, iv (pickI carrier 8), iv (pickI serial 1000), iv o.sf, iv o.st, .string (⟨#[]⟩)]) rfl rfl ?_
  clear Z Y
  intro a w33 Z Y
  refine ab (hK22 _ _ <| ai fun K23 hK23 => ?_)
  refine aK (by kernel_rfl) (aO (by kernel_rfl) fun w34 hxz => ?_)
  replace Y := Y.grow hxz
  refine aV (k := 0) 9 [6, 8] Z (by kernel_rfl) (by kernel_rfl) (by kernel_rfl) (by rfl) ?_
  replace Z : Fr 138 [(2, _), (3, _), (7, _), (9, _), (8, _), (10, _), (127, _), (128, _)] [] a := Z.pick [2, 3, 7, 9, 8, 10, 127, 128]
  refine cx 7 8 30 [iv 0, iv 0, iv 0, iv 0, iv 0, iv 0, iv 0, iv 0, .string (⟨#[]⟩)] [iv o.who, iv (pickI holder 10), iv o.rf, iv o.rt, iv (pickI carrier 8), iv (pickI serial 1000), iv o.sf, iv o.st, sv (sealH (keyH o.who) (bareW o holder carrier serial).content)] 9 [[], [0], [], [1, 2], [3], [4], [4], [], [5, 7]] (fun i => match i with | 0 => pv (iv o.who) | 1 => pv (sv (keyH o.who)) | 2 => pv (.agg #[iv o.who, iv (pickI holder 10), iv o.rf, iv o.rt, iv (pickI carrier 8), iv (pickI serial 1000), iv o.sf, iv o.st, .string (⟨#[]⟩)]) | 3 => pv (.tuple #[.agg #[iv o.who, iv (pickI holder 10), iv o.rf, iv o.rt, iv (pickI carrier 8), iv (pickI serial 1000), iv o.sf, iv o.st, sv (sealH (keyH o.who) (bareW o holder carrier serial).content)], iv 0]) | 4 => pv (.tuple #[.agg #[iv o.who, iv (pickI holder 10), iv o.rf, iv o.rt, iv (pickI carrier 8), iv (pickI serial 1000), iv o.sf, iv o.st, sv (sealH (keyH o.who) (bareW o holder carrier serial).content)], iv 0]) | 5 => pv (.agg #[iv o.who, iv (pickI holder 10), iv o.rf, iv o.rt, iv (pickI carrier 8), iv (pickI serial 1000), iv o.sf, iv o.st, sv (sealH (keyH o.who) (bareW o holder carrier serial).content)]) | 6 => pv (iv 0) | 7 => fun v E => ∃ b, v = ptr b ∧ E = [] | 8 => fun v E => v = undef ∧ E = [] | _ => fun _ _ => False) Z (H := [blk w1.heap.size [iv 0, iv 0, iv 0, iv 0, iv 0, iv 0, iv 0, iv 0, .string (⟨#[]⟩)] 30, blk w8.heap.size [iv o.sf, iv o.st] 28, blk b1 [iv o.who, iv (pickI holder 10), iv o.rf, iv o.rt, iv (pickI carrier 8), iv (pickI serial 1000), iv o.sf, iv o.st, .string (⟨#[]⟩)] 30, own v 40 7 ((pxysOf (bF holder r0 r1 s0 s1) (ys.take k)).map Pxy.cells)]) Y (by kernel_rfl) (by kernel_rfl) (by kernel_rfl) (by kernel_rfl) (by decide) (by decide) (by decide) (by decide) (by decide) ?_ (fun v E h => h) ⟨rfl, rfl⟩ (fun v E => Iff.rfl) ?_ ?_ ?_ ?_
  ·intro i v E h
   match i, h with
   | 0, _ => exact by decide
   | 1, _ => exact by decide
   | 2, _ => exact by decide
   | 3, _ => exact by decide
   | 4, _ => exact by decide
   | 5, _ => exact by decide
   | 6, _ => exact by decide
   | 7, _ => exact by decide
   | 8, _ => exact by decide
   | i + 9, h => exact h.elim
  ·intro i hi hia hij e
   match i, hi, hia, hij with
   | 0, _, _, _ =>
    intro w Y
    exact OpV.g (aj rfl)
   | 1, _, _, _ =>
    rintro _ _ ⟨rfl, rfl⟩
    intro w Y
    exact aU Tryz.call21 rfl (fA o.who _)
   | 2, _, _, _ =>
    intro w Y
    exact OpV.g (ao (Y.get (k := 3) rfl) rfl (Tryz.isAgg30 _) (Tryz.sizeOf30 _))
   | 3, _, _, _ =>
    rintro _ _ ⟨rfl, rfl⟩ _ _ ⟨rfl, rfl⟩
    intro w Y
    exact aU Tryz.call23 rfl (e9 (keyH o.who) (bareW o holder carrier serial) _ (cO _) hwok)
   | 4, _, _, _ =>
    rintro _ _ ⟨rfl, rfl⟩
    intro w Y
    exact OpV.g (aj rfl)
   | 5, _, _, _ =>
    rintro _ _ ⟨rfl, rfl⟩
    intro w Y
    exact OpV.g (aA rfl rfl)
   | 6, _, _, _ =>
    rintro _ _ ⟨rfl, rfl⟩
    intro w Y
    exact OpV.g (aA rfl rfl)
   | 7, _, h, _ => exact absurd rfl h
   | 8, _, _, h => exact absurd rfl h
  ·exact fun Lv w => dx (Tryz.zeroValue30 _)
  ·rintro _ _ ⟨rfl, rfl⟩ _ _ ⟨b7, rfl, rfl⟩
   intro b hb w h
   have hb : some (ptr b7) = some (ptr b) := hb
   cases hb
   exact dp rfl rfl h (Tryz.sizeOf30 _) rfl (lb rfl) rfl
  clear Z Y
  rintro bq _ _ ⟨⟨rfl, rfl⟩, -⟩ _ _ ⟨⟨rfl, rfl⟩, -⟩ _ _ ⟨⟨rfl, rfl⟩, -⟩ _ _ ⟨⟨rfl, rfl⟩, -⟩ _ _ ⟨⟨rfl, rfl⟩, -⟩ _ _ ⟨⟨rfl, rfl⟩, -⟩ _ _ ⟨⟨rfl, rfl⟩, -⟩ _ _ ⟨⟨b7, rfl, rfl⟩, hva⟩ a w35 Z Y
  obtain rfl : b7 = bq := eL (hva rfl)
  replace Z : Fr 138 [(130, _), (131, _), (132, _), (133, _), (129, _), (134, _), (135, _), (16, _), (2, _), (3, _), (7, _), (9, _), (8, _), (10, _), (127, _), (128, _)] [] a := Z
  replace Y : St No w0 [blk b7 [iv o.who, iv (pickI holder 10), iv o.rf, iv o.rt, iv (pickI carrier 8), iv (pickI serial 1000), iv o.sf, iv o.st, sv (sealH (keyH o.who) (bareW o holder carrier serial).content)] 30, blk w1.heap.size [iv 0, iv 0, iv 0, iv 0, iv 0, iv 0, iv 0, iv 0, .string (⟨#[]⟩)] 30, blk w8.heap.size [iv o.sf, iv o.st] 28, blk b1 [iv o.who, iv (pickI holder 10), iv o.rf, iv o.rt, iv (pickI carrier 8), iv (pickI serial 1000), iv o.sf, iv o.st, .string (⟨#[]⟩)] 30, own v 40 7 ((pxysOf (bF holder r0 r1 s0 s1) (ys.take k)).map Pxy.cells)] w35 := Y
  refine ab <| aP (k := 9) 10 [9] (by kernel_rfl) (by kernel_rfl) (by kernel_rfl) ?_
  refine wla Z rfl fun a Z => ab <| bd (by kernel_rfl) ?_
  refine hK23 _ _ ?_
  replace Z : Fr 138 [(2, _), (3, _), (10, _), (16, _)] [] a := Z.pick [2, 3, 10, 16]
  replace Y : St No w0 [_, _, _] w35 := Y.mask [true, true, false, false, true]
  refine aa fun K24 hK24 => wlv Z (ao (Y.get (k := 0) rfl) rfl (Tryz.isAgg30 _) (Tryz.sizeOf30 _)) fun a Z => wlm Z rfl fun a Z => ap 1 Z Y rfl rfl rfl (Tryz.sizeOf30 _) rfl (lb rfl) (ds := [iv o.who, iv (pickI holder 10), iv o.rf, iv o.rt, iv (pickI carrier 8), iv (pickI serial 1000), iv o.sf, iv o.st, sv (sealH (keyH o.who) (bareW o holder carrier serial).content)]) rfl rfl ?_
  clear Z Y
  intro a w36 Z Y
  refine wla Z rfl fun a Z => ab (hK24 _ _ <| aq ?_)
  refine ak Z Tryz.results9 (aE rfl (bW (Y.get (k := 1) rfl) (Tryz.isAgg30 _) (Tryz.sizeOf30 _)) (ah rfl ag)) ?_
  rw [hk4] at Y ho
  subst ho
  exact ⟨v, rfl, trivial, Y.ext, St.out (E := [own v 40 7 ((madeL holder r0 r1 s0 s1 ys).map Pxy.cells)]) (H := []) (Y.select [2] (by decide))⟩
 rw [hb2] at Z
 try simp only [qz] at hb2
 refine wln Z fun a Z => wln Z fun a Z => wlv Z (au rfl rfl) fun a Z => ab (hK12 _ _ ?_)
 replace Z : Fr 138 [(1, _), (2, _), (3, _), (5, _), (7, _), (9, _), (8, _), (10, _), (11, _), (63, _)] [] a := Z.pick [1, 2, 3, 5, 7, 9, 8, 10, 11, 63]
 refine bj Z rfl ?_
 refine aS <| hK9 _ _ ?_
 obtain ⟨ho1, ho2, ho3, ho4, ho5, ho6, ho7, ho8⟩ := id hok
 have hwok := jE hok holder carrier serial
 have hkm : k = min 4 ys.length := by omega
 have hk4 : ys.take k = ys.take 4 := by rw [hkm]; exact iq ys
 refine aa fun K25 hK25 => wlm Z rfl fun a Z => wlv Z (ac (v := pq b1) rfl (by kernel_rfl)) fun a Z => ap 4 Z Y rfl rfl rfl (Tryz.sizeOf3 _) rfl (lb rfl) (ds := [iv o.who, iv (pickI holder 10), iv 0, iv 0, iv (pickI carrier 8), iv (pickI serial 1000), iv 0, iv 0, .string (⟨#[]⟩)]) rfl rfl ?_
 clear Z Y
 intro a w37 Z Y
 refine ab (hK25 _ _ <| aa fun K26 hK26 => ?_)
 refine wlv Z (ao (Y.get (k := 2) rfl) rfl (Tryz.isAgg27 _) (Tryz.sizeOf27 _)) fun a Z => wlv Z (ac (v := .pointer (some ⟨b1, 2, none⟩)) rfl (by kernel_rfl)) fun a Z => ap 4 Z Y rfl rfl rfl (Tryz.sizeOf27 _) rfl (lb rfl) (ds := [iv o.who, iv (pickI holder 10), iv o.rf, iv o.rt, iv (pickI carrier 8), iv (pickI serial 1000), iv 0, iv 0, .string (⟨#[]⟩)]) rfl rfl ?_
 clear Z Y
 intro a w38 Z Y
 refine ab (hK26 _ _ ?_)
 replace Z : Fr 138 [(2, _), (3, _), (7, _), (9, _), (8, _), (10, _)] [] a := Z.pick [2, 3, 7, 9, 8, 10]
 replace Y : St No w0 [_, _, _, _] w38 := Y.mask [false, true, false, true, true, true]
 refine aa fun K27 hK27 => wlv Z (ao (Y.get (k := 1) rfl) rfl (Tryz.isAgg28 _) (Tryz.sizeOf28 _)) fun a Z => wlv Z (ac (v := .pointer (some ⟨b1, 6, none⟩)) rfl (by kernel_rfl)) fun a Z => ap 2 Z Y rfl rfl rfl (Tryz.sizeOf28 _) rfl (lb rfl) (ds := [iv o.who, iv (pickI holder 10), iv o.rf, iv o.rt, iv (pickI carrier 8), iv (pickI serial 1000), iv o.sf, iv o.st, .string (⟨#[]⟩)]) rfl rfl ?_
 clear Z Y
 intro a w39 Z Y
 refine ab (hK27 _ _ <| ai fun K28 hK28 => ?_)
 refine aK (by kernel_rfl) (aO (by kernel_rfl) fun w40 hxz => ?_)
 replace Y := Y.grow hxz
 refine aV (k := 0) 9 [6, 8] Z (by kernel_rfl) (by kernel_rfl) (by kernel_rfl) (by rfl) ?_
 replace Z : Fr 138 [(2, _), (3, _), (7, _), (9, _), (8, _), (10, _), (127, _), (128, _)] [] a := Z.pick [2, 3, 7, 9, 8, 10, 127, 128]
 refine cx 7 8 30 [iv 0, iv 0, iv 0, iv 0, iv 0, iv 0, iv 0, iv 0, .string (⟨#[]⟩)] [iv o.who, iv (pickI holder 10), iv o.rf, iv o.rt, iv (pickI carrier 8), iv (pickI serial 1000), iv o.sf, iv o.st, sv (sealH (keyH o.who) (bareW o holder carrier serial).content)] 9 [[], [0], [], [1, 2], [3], [4], [4], [], [5, 7]] (fun i => match i with | 0 => pv (iv o.who) | 1 => pv (sv (keyH o.who)) | 2 => pv (.agg #[iv o.who, iv (pickI holder 10), iv o.rf, iv o.rt, iv (pickI carrier 8), iv (pickI serial 1000), iv o.sf, iv o.st, .string (⟨#[]⟩)]) | 3 => pv (.tuple #[.agg #[iv o.who, iv (pickI holder 10), iv o.rf, iv o.rt, iv (pickI carrier 8), iv (pickI serial 1000), iv o.sf, iv o.st, sv (sealH (keyH o.who) (bareW o holder carrier serial).content)], iv 0]) | 4 => pv (.tuple #[.agg #[iv o.who, iv (pickI holder 10), iv o.rf, iv o.rt, iv (pickI carrier 8), iv (pickI serial 1000), iv o.sf, iv o.st, sv (sealH (keyH o.who) (bareW o holder carrier serial).content)], iv 0]) | 5 => pv (.agg #[iv o.who, iv (pickI holder 10), iv o.rf, iv o.rt, iv (pickI carrier 8), iv (pickI serial 1000), iv o.sf, iv o.st, sv (sealH (keyH o.who) (bareW o holder carrier serial).content)]) | 6 => pv (iv 0) | 7 => fun v E => ∃ b, v = ptr b ∧ E = [] | 8 => fun v E => v = undef ∧ E = [] | _ => fun _ _ => False) Z (H := [blk w1.heap.size [iv 0, iv 0, iv 0, iv 0, iv 0, iv 0, iv 0, iv 0, .string (⟨#[]⟩)] 30, blk w8.heap.size [iv o.sf, iv o.st] 28, blk b1 [iv o.who, iv (pickI holder 10), iv o.rf, iv o.rt, iv (pickI carrier 8), iv (pickI serial 1000), iv o.sf, iv o.st, .string (⟨#[]⟩)] 30, own v 40 7 ((pxysOf (bF holder r0 r1 s0 s1) (ys.take k)).map Pxy.cells)]) Y (by kernel_rfl) (by kernel_rfl) (by kernel_rfl) (by kernel_rfl) (by decide) (by decide) (by decide) (by decide) (by decide) ?_ (fun v E h => h) ⟨rfl, rfl⟩ (fun v E => Iff.rfl) ?_ ?_ ?_ ?_
 ·intro i v E h
  match i, h with
  | 0, _ => exact by decide
  | 1, _ => exact by decide
  | 2, _ => exact by decide
  | 3, _ => exact by decide
  | 4, _ => exact by decide
  | 5, _ => exact by decide
  | 6, _ => exact by decide
  | 7, _ => exact by decide
  | 8, _ => exact by decide
  | i + 9, h => exact h.elim
 ·intro i hi hia hij e
  match i, hi, hia, hij with
  | 0, _, _, _ =>
   intro w Y
   exact OpV.g (aj rfl)
  | 1, _, _, _ =>
   rintro _ _ ⟨rfl, rfl⟩
   intro w Y
   exact aU Tryz.call21 rfl (fA o.who _)
  | 2, _, _, _ =>
   intro w Y
   exact OpV.g (ao (Y.get (k := 3) rfl) rfl (Tryz.isAgg30 _) (Tryz.sizeOf30 _))
  | 3, _, _, _ =>
   rintro _ _ ⟨rfl, rfl⟩ _ _ ⟨rfl, rfl⟩
   intro w Y
   exact aU Tryz.call23 rfl (e9 (keyH o.who) (bareW o holder carrier serial) _ (cO _) hwok)
  | 4, _, _, _ =>
   rintro _ _ ⟨rfl, rfl⟩
   intro w Y
   exact OpV.g (aj rfl)
  | 5, _, _, _ =>
   rintro _ _ ⟨rfl, rfl⟩
   intro w Y
   exact OpV.g (aA rfl rfl)
  | 6, _, _, _ =>
   rintro _ _ ⟨rfl, rfl⟩
   intro w Y
   exact OpV.g (aA rfl rfl)
  | 7, _, h, _ => exact absurd rfl h
  | 8, _, _, h => exact absurd rfl h
 ·exact fun Lv w => dx (Tryz.zeroValue30 _)
 ·rintro _ _ ⟨rfl, rfl⟩ _ _ ⟨b8, rfl, rfl⟩
  intro b hb w h
  have hb : some (ptr b8) = some (ptr b) := hb
  cases hb
  exact dp rfl rfl h (Tryz.sizeOf30 _) rfl (lb rfl) rfl
 clear Z Y
 rintro bq _ _ ⟨⟨rfl, rfl⟩, -⟩ _ _ ⟨⟨rfl, rfl⟩, -⟩ _ _ ⟨⟨rfl, rfl⟩, -⟩ _ _ ⟨⟨rfl, rfl⟩, -⟩ _ _ ⟨⟨rfl, rfl⟩, -⟩ _ _ ⟨⟨rfl, rfl⟩, -⟩ _ _ ⟨⟨rfl, rfl⟩, -⟩ _ _ ⟨⟨b8, rfl, rfl⟩, hva⟩ a w41 Z Y
 obtain rfl : b8 = bq := eL (hva rfl)
 replace Z : Fr 138 [(130, _), (131, _), (132, _), (133, _), (129, _), (134, _), (135, _), (16, _), (2, _), (3, _), (7, _), (9, _), (8, _), (10, _), (127, _), (128, _)] [] a := Z
 replace Y : St No w0 [blk b8 [iv o.who, iv (pickI holder 10), iv o.rf, iv o.rt, iv (pickI carrier 8), iv (pickI serial 1000), iv o.sf, iv o.st, sv (sealH (keyH o.who) (bareW o holder carrier serial).content)] 30, blk w1.heap.size [iv 0, iv 0, iv 0, iv 0, iv 0, iv 0, iv 0, iv 0, .string (⟨#[]⟩)] 30, blk w8.heap.size [iv o.sf, iv o.st] 28, blk b1 [iv o.who, iv (pickI holder 10), iv o.rf, iv o.rt, iv (pickI carrier 8), iv (pickI serial 1000), iv o.sf, iv o.st, .string (⟨#[]⟩)] 30, own v 40 7 ((pxysOf (bF holder r0 r1 s0 s1) (ys.take k)).map Pxy.cells)] w41 := Y
 refine ab <| aP (k := 9) 10 [9] (by kernel_rfl) (by kernel_rfl) (by kernel_rfl) ?_
 refine wla Z rfl fun a Z => ab <| bd (by kernel_rfl) ?_
 refine hK28 _ _ ?_
 replace Z : Fr 138 [(2, _), (3, _), (10, _), (16, _)] [] a := Z.pick [2, 3, 10, 16]
 replace Y : St No w0 [_, _, _] w41 := Y.mask [true, true, false, false, true]
 refine aa fun K29 hK29 => wlv Z (ao (Y.get (k := 0) rfl) rfl (Tryz.isAgg30 _) (Tryz.sizeOf30 _)) fun a Z => wlm Z rfl fun a Z => ap 1 Z Y rfl rfl rfl (Tryz.sizeOf30 _) rfl (lb rfl) (ds := [iv o.who, iv (pickI holder 10), iv o.rf, iv o.rt, iv (pickI carrier 8), iv (pickI serial 1000), iv o.sf, iv o.st, sv (sealH (keyH o.who) (bareW o holder carrier serial).content)]) rfl rfl ?_
 clear Z Y
 intro a w42 Z Y
 refine wla Z rfl fun a Z => ab (hK29 _ _ <| aq ?_)
 refine ak Z Tryz.results9 (aE rfl (bW (Y.get (k := 1) rfl) (Tryz.isAgg30 _) (Tryz.sizeOf30 _)) (ah rfl ag)) ?_
 rw [hk4] at Y ho
 subst ho
 exact ⟨v, rfl, trivial, Y.ext, St.out (E := [own v 40 7 ((madeL holder r0 r1 s0 s1 ys).map Pxy.cells)]) (H := []) (Y.select [2] (by decide))⟩
end Go.Proofs.YtmmfieceinmloaaGreatDoor
