/- Texts joined: DigN, Rev, DigO, DigP2, DigV, DigW, RefA, RefB. -/
import Derived.Test.YtddfkkdanpmnaaaDoorPDB
import Derived.Test.YtddfkkdanpmnaaaDoorPDA
namespace Go.Proofs.YtddfkkdanpmnaaaDoor
open Go.RowKit Go.PW
set_option linter.unusedVariables false
set_option linter.unusedSimpArgs false
set_option maxRecDepth 4000
theorem jV {st : List (By × Nat)} (h : 2 ≤ st.length) : ∃ r2 s2 r1 s1 t, st = (r2, s2) :: (r1, s1) :: t ∧ st.reverse.getD (st.length - 2) ([], 0) = (r1, s1) ∧ st.reverse.getD (st.length - 1) ([], 0) = (r2, s2) ∧ st.reverse.take (st.length - 2) = t.reverse := by
 match st, h with
 | (r2, s2) :: (r1, s1) :: t, _ =>
  refine ⟨r2, s2, r1, s1, t, rfl, ?_, ?_, ?_⟩ <;> simp [List.getD_eq_getElem?_getD, List.getElem?_append]
theorem kC {st : List (By × Nat)} (hW : incrW st) (h2 : 2 ≤ st.length) (h : ¬ ((st.reverse.getD (st.length - 2) ([], 0)).2 : Int) = ((st.reverse.getD (st.length - 1) ([], 0)).2 : Int)) : incr st := by
 obtain ⟨r2, s2, r1, s1, t, e, e1, e2, _⟩ := jV h2
 rw [e1, e2] at h
 refine hW.strict fun x y t' e' he => h ?_
 rw [e] at e'
 injection e' with h3 h4
 injection h4 with h5 h6
 subst h3 h5
 exact congrArg Int.ofNat he.symm
theorem Stk.le : ∀ {st : List (By × Nat)} {l : List By}, Stk sha st l → st.length ≤ l.length ∧ ∀ x ∈ st, x.1.length = 32 ∧ x.2 ≤ l.length
 | [], l, h => ⟨Nat.zero_le _, fun x hx => by cases hx⟩
 | x :: st, l, h => by
  obtain ⟨l1, c, rfl, hc, ⟨a, ha⟩, hr, Y⟩ := h
  have hp : 0 < c.length := by rw [hc, ha]; exact Nat.pow_pos (by decide)
  obtain ⟨i1, i2⟩ := Stk.le Y
  refine ⟨by simp; omega, fun y hy => ?_⟩
  rcases List.mem_cons.1 hy with rfl | hy
  ·exact ⟨by rw [hr]; exact cf bP c, by rw [List.length_append]; omega⟩
  ·have := i2 y hy
   exact ⟨this.1, by rw [List.length_append]; omega⟩
theorem lq {st : List (By × Nat)} {l : List By} (h : Stk sha st l) (hi : incr st) (h0 : 0 < st.length) : (backs ((st.drop 1).reverse.map Prod.fst).length ((st.drop 1).reverse.map Prod.fst).length).foldl (fun o k => nodeH sha (((st.drop 1).reverse.map Prod.fst).getD k []) o) (st.reverse.getD (st.length - 1) ([], 0)).1 = rootH sha l := by
 match st, h0 with
 | x :: st, _ =>
  rw [ee (fun o r => nodeH sha r o) [] _ _ _ (Nat.le_refl _)]
  have e : (x :: st).reverse.getD ((x :: st).length - 1) ([], 0) = x := by simp [List.getD_eq_getElem?_getD, List.getElem?_append]
  rw [e, Nat.sub_self, List.drop_zero, List.drop_one, List.tail_cons, ← List.map_reverse, List.reverse_reverse, List.foldl_map]
  exact iY sha h hi
theorem jx (st : List (By × Nat)) : (st.reverse.map fun x : By × Nat => [sv x.1]).take (st.length - 1) = (((st.drop 1).reverse.map Prod.fst).map fun s => [sv s]) := by
 cases st with
 | nil => rfl
 | cons x st => simp [List.take_append, Function.comp_def]
set_option maxHeartbeats 4000000 in
theorem dQ (lv : Value) (ls : List By) (w0 : World) (hlv : SlAt w0 lv 1 (ls.map fun s => [sv s])) (hxn : ls.length ≤ 1000) (hxl : ∀ k, k < ls.length → (ls.getD k []).length ≤ 40000000) (hk0 : (blk 0 (kOf.map wv) 161).ok w0) :
  Ret Tryd.prog 63 #[lv] w0 fun v w => v = sv (rootH sha ls) ∧ Ext No w0 w := by
 have hnb := hlv.le
 rw [List.length_map] at hnb
 refine aG Tryd.func63 rfl Tryd.ntmps63 (lb rfl) fun a Z => ?_
 replace Z : Fr 96 [(0, _)] [] a := Z
 replace Y : St (· = 0) w0 [blk 0 (kOf.map wv) 161] w0 := St.one hk0
 refine aa fun K1 hK1 => wla Z rfl fun a Z => ab (hK1 _ _ <| aa fun K2 hK2 => ?_)
 refine wla Z rfl fun a Z => ab (hK2 _ _ <| aa fun K3 hK3 => ?_)
 refine wla Z rfl fun a Z => ab (hK3 _ _ <| ac fun K4 hK4 => ?_)
 refine aa fun K5 hK5 => wlm Z rfl fun a Z => wlv Z ((aM (sT := 45) (hlv.grow (Y.ext.const hk0 (Y.get (k := 0) rfl))) rfl rfl (Tryd.runUnderlying45 _)).asi (m' := (ls.length : Int)) (by simp)) fun a Z => wlm Z rfl fun a Z => ab (hK5 _ _ <| ap ?_)
 replace Y : St (· = 0) w0 [own (.slice none 0 0) 9 1 (([] : List (By × Nat)).reverse.map fun x : By × Nat => [sv x.1]), own (.slice none 0 0) 3 1 (([] : List (By × Nat)).reverse.map fun x : By × Nat => [iv (x.2 : Int)]), blk 0 (kOf.map wv) 161] w0 := Y.nil_own.nil_own
 refine aT (fun m a w => ∃ (k : Nat) (st : List (By × Nat)) (v : Value) (u : Value), m = ls.length - k ∧ (k ≤ ls.length) ∧ (Stk sha st (ls.take k)) ∧ (incr st) ∧ Fr 96 [(2, .string (⟨#[]⟩)), (11, lv), (12, iv (ls.length : Int)), (13, iv (k : Int)), (3, v), (4, u)] [] a ∧ St (· = 0) w0 [own v 9 1 (st.reverse.map fun x : By × Nat => [sv x.1]), own u 3 1 (st.reverse.map fun x : By × Nat => [iv (x.2 : Int)]), blk 0 (kOf.map wv) 161] w) _ ⟨0, [], .slice none 0 0, .slice none 0 0, rfl, Nat.zero_le _, rfl, trivial, Z.pick [2, 11, 12, 13, 3, 4], Y.select [0, 1, 2] (by decide)⟩ ?_
 rintro _ a w1 ⟨k, st, v, u, rfl, hk, hS, hI, Z, Y⟩
 refine aa fun K6 hK6 => wlv Z (v_lt rfl rfl) fun a Z => ab (hK6 _ _ <| ac fun K7 hK7 => ?_)
 refine aC Z rfl (fun hc1 => ?_) (fun hc1 => ?_)
 ·rw [hc1] at Z
  try simp only [qz] at hc1
  refine ao <| hK7 _ _ <| ac fun K8 hK8 => ap <| aa fun K9 hK9 => wlv Z ((ak (i := (k : Int)) (sT := 45) (hlv.grow (Y.ext.const hk0 (Y.get (k := 2) rfl))) rfl rfl (Tryd.runUnderlying45 _) (Tryd.sizeOf9 _) (by omega) (by first | (rw [List.length_map]; omega) | (rw [List.length_map, List.length_reverse]; omega))).as (v' := slAddr lv (k * 1)) rfl) fun a Z => ?_
  refine wlv Z (ax (u := sv (ls.getD k [])) (i := k) (j := 0) (hlv.grow (Y.ext.const hk0 (Y.get (k := 2) rfl))) (by first | (rw [List.length_map]; omega) | (rw [List.length_map, List.length_reverse]; omega)) rfl (Tryd.isAgg9 _) (by simp [List.getD_eq_getElem?_getD, List.getElem?_eq_getElem (show k < ls.length by omega)])) fun a Z => wla Z rfl fun a Z => ?_
  refine ab (hK9 _ _ <| aa fun K10 hK10 => ?_)
  refine wlm Z rfl fun a Z => wlm Z rfl fun a Z => al Z Y (by decide) Tryd.call78 rfl (gO (ls.getD k []) _ (hxl k (by omega)) (Y.get (k := 2) rfl)) ?_
  clear Z Y
  intro a w2 Z Y
  refine aH (E := 9) (sz := 1) rfl [[sv (leafH sha (ls.getD k []))]] (by kernel_rfl) (by simp) rfl (by decide) (by decide) Z Y ?_
  clear Z Y
  intro a w3 Z Y
  refine aR (i := 1) (sT := 45) (inf := Tryd.t9) (z := .string (⟨#[]⟩)) (b := 0) (off := 0) (m := 0) (c := 0) rfl rfl rfl (Y.ownAt (i := 0) rfl) (by simp) Tryd.underlying45 rfl rfl rfl rfl (by decide) (by simp [Value.oneCell', yv, wv, sv]) (by have hby : Tryd.t9.bytes = 16 := rfl; have hby3 : Tryd.t3.bytes = 8 := rfl; have hle0 := hS.le.1; rw [List.length_take] at hle0; simp only [big, hby, hby3, List.length_append, List.length_take, List.length_map, List.length_reverse, List.length_cons, List.length_nil]; omega) (by have hby : Tryd.t9.bytes = 16 := rfl; have hby3 : Tryd.t3.bytes = 8 := rfl; have hle0 := hS.le.1; rw [List.length_take] at hle0; simp only [big, hby, hby3, List.length_append, List.length_take, List.length_map, List.length_reverse, List.length_cons, List.length_nil]; omega) (by decide) Z Y fun a w4 s2 Z Y _ => ?_
  refine wlm Z rfl fun a Z => aH (E := 3) (sz := 1) rfl [[iv 1]] (by kernel_rfl) (by simp) rfl (by decide) (by decide) Z Y ?_
  clear Z Y
  intro a w5 Z Y
  refine aR (i := 3) (sT := 41) (inf := Tryd.t3) (z := iv 0) (b := 0) (off := 0) (m := 0) (c := 0) rfl rfl rfl (Y.ownAt (i := 0) rfl) (by simp) Tryd.underlying41 rfl rfl rfl rfl (by decide) (by simp [Value.oneCell', yv, wv, sv]) (by have hby : Tryd.t9.bytes = 16 := rfl; have hby3 : Tryd.t3.bytes = 8 := rfl; have hle0 := hS.le.1; rw [List.length_take] at hle0; simp only [big, hby, hby3, List.length_append, List.length_take, List.length_map, List.length_reverse, List.length_cons, List.length_nil]; omega) (by have hby : Tryd.t9.bytes = 16 := rfl; have hby3 : Tryd.t3.bytes = 8 := rfl; have hle0 := hS.le.1; rw [List.length_take] at hle0; simp only [big, hby, hby3, List.length_append, List.length_take, List.length_map, List.length_reverse, List.length_cons, List.length_nil]; omega) (by decide) Z Y fun a w6 s3 Z Y _ => ?_
  refine wla Z rfl fun a Z => wla Z rfl fun a Z => ab (hK10 _ _ ?_)
  replace Z : Fr 96 [(2, _), (11, _), (12, _), (13, _), (3, _), (4, _)] [] a := Z.pick [2, 11, 12, 13, 3, 4]
  replace Y : St (· = 0) w0 [_, _, _] w6 := Y.mask [false, false, true, true, true]
  refine aa fun K11 hK11 => wlm Z rfl fun a Z => wlv Z ((aM (sT := 41) (Y.ownAt (i := 1) rfl) rfl rfl (Tryd.runUnderlying41 _)).asi (m' := ((st.length + 1 : Nat) : Int)) (by simp)) fun a Z => wla Z rfl fun a Z => ab (hK11 _ _ <| ap ?_)
  rw [show (st.reverse.map fun x : By × Nat => [sv x.1]) ++ ([[sv (leafH sha (ls.getD k []))]]) = (((leafH sha (ls.getD k []), 1) :: st).reverse.map fun x : By × Nat => [sv x.1]) from by simp] at Y
  rw [show (st.reverse.map fun x : By × Nat => [iv (x.2 : Int)]) ++ ([[iv 1]]) = (((leafH sha (ls.getD k []), 1) :: st).reverse.map fun x : By × Nat => [iv (x.2 : Int)]) from by simp] at Y
  obtain ⟨hS1, hW1⟩ := Stk.push sha hS hI (ls.getD k [])
  rw [← cy [] (by omega)] at hS1
  refine aT (fun m a w => ∃ (st1 : List (By × Nat)) (v1 : Value) (u1 : Value), m = st1.length ∧ (Stk sha st1 (ls.take (k + 1))) ∧ (incrW st1) ∧ Fr 96 [(2, .string (⟨#[]⟩)), (11, lv), (12, iv (ls.length : Int)), (13, iv (k : Int)), (7, iv (st1.length : Int)), (3, v1), (4, u1)] [] a ∧ St (· = 0) w0 [own v1 9 1 (st1.reverse.map fun x : By × Nat => [sv x.1]), own u1 3 1 (st1.reverse.map fun x : By × Nat => [iv (x.2 : Int)]), blk 0 (kOf.map wv) 161] w) _ ⟨((leafH sha (ls.getD k []), 1) :: st), s2, s3, rfl, hS1, hW1, Z.pick [2, 11, 12, 13, 7, 3, 4], Y.select [0, 1, 2] (by decide)⟩ ?_
  rintro _ a w7 ⟨st1, v1, u1, rfl, hS1, hW1, Z, Y⟩
  have hle1 := hS1.le
  have hln1 : st1.length ≤ ls.length := Nat.le_trans hle1.1 (by rw [List.length_take]; omega)
  refine ac fun K12 hK12 => ac fun K13 hK13 => aN (by kernel_rfl) (aQ (by kernel_rfl) fun w8 hxz => ?_)
  replace Y : St (· = 0) w0 [own v1 9 1 (st1.reverse.map fun x : By × Nat => [sv x.1]), own u1 3 1 (st1.reverse.map fun x : By × Nat => [iv (x.2 : Int)]), blk 0 (kOf.map wv) 161] w8 := Y.grow hxz
  refine bd (k := 0) 3 [2] (by kernel_rfl) (by kernel_rfl) (by kernel_rfl) ?_
  refine wlm Z rfl fun a Z => wlv Z (v_gt rfl rfl) fun a Z => wlm Z rfl fun a Z => ab ?_
  rcases Bool.eq_false_or_eq_true (decide (1 < (st1.length : Int))) with hb4 | hb4
  ·rw [hb4] at Z
   try simp only [qz] at hb4
   obtain ⟨r2, s2, r1, s1, t, hst0, e1, e2, e3⟩ := jV (st := st1) (by omega)
   have hb1 := hle1.2 (st1.reverse.getD (st1.length - 2) ([], 0)) (List.mem_reverse.1 (bx (by rw [List.length_reverse]; omega)))
   have hb2 := hle1.2 (st1.reverse.getD (st1.length - 1) ([], 0)) (List.mem_reverse.1 (bx (by rw [List.length_reverse]; omega)))
   rw [List.length_take] at hb1 hb2
   refine bp (k := 3) 13 [7, 12] Z (by kernel_rfl) (by kernel_rfl) (by kernel_rfl) (by rfl) ?_
   replace Z : Fr 96 [(2, _), (11, _), (12, _), (13, _), (7, _), (3, _), (4, _), (27, _), (28, _), (29, _)] [] a := Z.pick [2, 11, 12, 13, 7, 3, 4, 27, 28, 29]
   refine aI [] (fun i => match i with | _ => fun _ _ => False) 10 [[], [], [1], [0, 2], [3], [], [], [6], [5, 7], [8]] [u1, iv (st1.length : Int), iv ((st1.length : Int) - 2), slAddr u1 ((st1.length - 2) * 1), iv ((st1.reverse.getD (st1.length - 2) ([], 0)).2 : Int), u1, iv (st1.length : Int), iv ((st1.length : Int) - 1), slAddr u1 ((st1.length - 1) * 1), iv ((st1.reverse.getD (st1.length - 1) ([], 0)).2 : Int)] Z Y (by kernel_rfl) (by kernel_rfl) (by kernel_rfl) ?_ ?_ ?_
   ·intro i hi hiq
    match i, hi, hiq with
    | 0, _, _ =>
     intro w Y
     exact OpV.g (ai rfl)
    | 1, _, _ =>
     intro w Y
     exact OpV.g (ai rfl)
    | 2, _, _ =>
     intro w Y
     exact OpV.g (bh rfl rfl ⟨by omega, by omega⟩)
    | 3, _, _ =>
     intro w Y
     exact OpV.g ((ak (i := (st1.length : Int) - 2) (sT := 41) (Y.ownAt (i := 1) rfl) rfl rfl (Tryd.runUnderlying41 _) (Tryd.sizeOf3 _) (by omega) (by first | (rw [List.length_map]; omega) | (rw [List.length_map, List.length_reverse]; omega))).as (v' := slAddr u1 ((st1.length - 2) * 1)) (by rw [show ((st1.length : Int) - 2).toNat = (st1.length - 2) from by omega]))
    | 4, _, _ =>
     intro w Y
     exact OpV.g (ax (u := iv ((st1.reverse.getD (st1.length - 2) ([], 0)).2 : Int)) (i := (st1.length - 2)) (j := 0) (Y.ownAt (i := 1) rfl) (by first | (rw [List.length_map]; omega) | (rw [List.length_map, List.length_reverse]; omega)) rfl (Tryd.isAgg3 _) (by rw [bE ([], 0)]; rfl))
    | 5, _, _ =>
     intro w Y
     exact OpV.g (ai rfl)
    | 6, _, _ =>
     intro w Y
     exact OpV.g (ai rfl)
    | 7, _, _ =>
     intro w Y
     exact OpV.g (bh rfl rfl ⟨by omega, by omega⟩)
    | 8, _, _ =>
     intro w Y
     exact OpV.g ((ak (i := (st1.length : Int) - 1) (sT := 41) (Y.ownAt (i := 1) rfl) rfl rfl (Tryd.runUnderlying41 _) (Tryd.sizeOf3 _) (by omega) (by first | (rw [List.length_map]; omega) | (rw [List.length_map, List.length_reverse]; omega))).as (v' := slAddr u1 ((st1.length - 1) * 1)) (by rw [show ((st1.length : Int) - 1).toNat = (st1.length - 1) from by omega]))
    | 9, _, _ =>
     intro w Y
     exact OpV.g (ax (u := iv ((st1.reverse.getD (st1.length - 1) ([], 0)).2 : Int)) (i := (st1.length - 1)) (j := 0) (Y.ownAt (i := 1) rfl) (by first | (rw [List.length_map]; omega) | (rw [List.length_map, List.length_reverse]; omega)) rfl (Tryd.isAgg3 _) (by rw [bE ([], 0)]; rfl))
   ·intro i hi
    exact absurd hi (by simp)
   clear Z Y
   intro  a w9 Z Y
   replace Z : Fr 96 [(30, u1), (31, iv (st1.length : Int)), (32, iv ((st1.length : Int) - 2)), (33, slAddr u1 ((st1.length - 2) * 1)), (34, iv ((st1.reverse.getD (st1.length - 2) ([], 0)).2 : Int)), (35, u1), (36, iv (st1.length : Int)), (37, iv ((st1.length : Int) - 1)), (38, slAddr u1 ((st1.length - 1) * 1)), (39, iv ((st1.reverse.getD (st1.length - 1) ([], 0)).2 : Int)), (2, _), (11, _), (12, _), (13, _), (7, _), (3, _), (4, _), (27, _), (28, _), (29, _)] [] a := Z
   refine ab <| bd (k := 13) 15 [14] (by kernel_rfl) (by kernel_rfl) (by kernel_rfl) ?_
   refine wly Z (v_eq rfl rfl) fun a Z => wlv Z (aE rfl rfl) fun a Z => ab <| bl (by kernel_rfl) ?_
   refine hK13 _ _ ?_
   replace Z : Fr 96 [(2, _), (11, _), (12, _), (13, _), (7, _), (3, _), (4, _), (41, _)] [] a := Z.pick [2, 11, 12, 13, 7, 3, 4, 41]
   refine aC Z rfl (fun hc5 => ?_) (fun hc5 => ?_)
   ·rw [hc5] at Z
    try simp only [qz] at hc5
    obtain rfl : s1 = s2 := by rw [e1, e2] at hc5; simp only at hc5; omega
    refine ao <| hK12 _ _ <| ac fun K14 hK14 => ap <| ac fun K15 hK15 => aN (by kernel_rfl) (aQ (by kernel_rfl) fun w10 hxz => ?_)
    replace Y : St (· = 0) w0 [own v1 9 1 (st1.reverse.map fun x : By × Nat => [sv x.1]), own u1 3 1 (st1.reverse.map fun x : By × Nat => [iv (x.2 : Int)]), blk 0 (kOf.map wv) 161] w10 := Y.grow hxz
    refine bp (k := 0) 16 [3, 15] Z (by kernel_rfl) (by kernel_rfl) (by kernel_rfl) (by rfl) ?_
    replace Z : Fr 96 [(2, _), (11, _), (12, _), (13, _), (7, _), (3, _), (4, _), (41, _)] [] a := Z.pick [2, 11, 12, 13, 7, 3, 4, 41]
    refine aI [15] (fun i => match i with | 15 => pm (fun b : Nat => .slice (some ⟨b, 0, none⟩) 1 1) (fun b => [own (.slice (some ⟨b, 0, none⟩) 1 1) 9 1 [[sv (nodeH sha ((st1.reverse.getD (st1.length - 2) ([], 0)).1) ((st1.reverse.getD (st1.length - 1) ([], 0)).1))]]]) (fun _ => True) | _ => fun _ _ => False) 16 [[], [], [1], [0, 2], [], [], [5], [4, 6], [7], [], [], [10], [9, 11], [12], [8, 13], [14]] [v1, iv (st1.length : Int), iv ((st1.length : Int) - 2), (cut v1 1 0 (st1.length - 2) (slCap v1)), v1, iv (st1.length : Int), iv ((st1.length : Int) - 2), slAddr v1 ((st1.length - 2) * 1), sv ((st1.reverse.getD (st1.length - 2) ([], 0)).1), v1, iv (st1.length : Int), iv ((st1.length : Int) - 1), slAddr v1 ((st1.length - 1) * 1), sv ((st1.reverse.getD (st1.length - 1) ([], 0)).1), sv (nodeH sha ((st1.reverse.getD (st1.length - 2) ([], 0)).1) ((st1.reverse.getD (st1.length - 1) ([], 0)).1)), undef] Z Y (by kernel_rfl) (by kernel_rfl) (by kernel_rfl) ?_ ?_ ?_
    ·intro i hi hiq
     match i, hi, hiq with
     | 0, _, _ =>
      intro w Y
      exact OpV.g (ai rfl)
     | 1, _, _ =>
      intro w Y
      exact OpV.g (ai rfl)
     | 2, _, _ =>
      intro w Y
      exact OpV.g (bh rfl rfl ⟨by omega, by omega⟩)
     | 3, _, _ =>
      intro w Y
      exact OpV.g (bU (l := 0) (h := (st1.length - 2)) (Y.ownAt (i := 0) rfl) rfl rfl rfl Tryd.underlying45 (by kernel_rfl) (.inl ⟨rfl, rfl⟩) (.inr (by rw [show ((st1.length : Int) - 2 : Int) = (((st1.length - 2) : Nat) : Int) from by omega] <;> rfl)) (Nat.zero_le _) (by first | (rw [List.length_map]; omega) | (simp <;> omega)))
     | 4, _, _ =>
      intro w Y
      exact OpV.g (ai rfl)
     | 5, _, _ =>
      intro w Y
      exact OpV.g (ai rfl)
     | 6, _, _ =>
      intro w Y
      exact OpV.g (bh rfl rfl ⟨by omega, by omega⟩)
     | 7, _, _ =>
      intro w Y
      exact OpV.g ((ak (i := (st1.length : Int) - 2) (sT := 45) (Y.ownAt (i := 0) rfl) rfl rfl (Tryd.runUnderlying45 _) (Tryd.sizeOf9 _) (by omega) (by first | (rw [List.length_map]; omega) | (rw [List.length_map, List.length_reverse]; omega))).as (v' := slAddr v1 ((st1.length - 2) * 1)) (by rw [show ((st1.length : Int) - 2).toNat = (st1.length - 2) from by omega]))
     | 8, _, _ =>
      intro w Y
      exact OpV.g (ax (u := sv ((st1.reverse.getD (st1.length - 2) ([], 0)).1)) (i := (st1.length - 2)) (j := 0) (Y.ownAt (i := 0) rfl) (by first | (rw [List.length_map]; omega) | (rw [List.length_map, List.length_reverse]; omega)) rfl (Tryd.isAgg9 _) (by rw [bE ([], 0)]; rfl))
     | 9, _, _ =>
      intro w Y
      exact OpV.g (ai rfl)
     | 10, _, _ =>
      intro w Y
      exact OpV.g (ai rfl)
     | 11, _, _ =>
      intro w Y
      exact OpV.g (bh rfl rfl ⟨by omega, by omega⟩)
     | 12, _, _ =>
      intro w Y
      exact OpV.g ((ak (i := (st1.length : Int) - 1) (sT := 45) (Y.ownAt (i := 0) rfl) rfl rfl (Tryd.runUnderlying45 _) (Tryd.sizeOf9 _) (by omega) (by first | (rw [List.length_map]; omega) | (rw [List.length_map, List.length_reverse]; omega))).as (v' := slAddr v1 ((st1.length - 1) * 1)) (by rw [show ((st1.length : Int) - 1).toNat = (st1.length - 1) from by omega]))
     | 13, _, _ =>
      intro w Y
      exact OpV.g (ax (u := sv ((st1.reverse.getD (st1.length - 1) ([], 0)).1)) (i := (st1.length - 1)) (j := 0) (Y.ownAt (i := 0) rfl) (by first | (rw [List.length_map]; omega) | (rw [List.length_map, List.length_reverse]; omega)) rfl (Tryd.isAgg9 _) (by rw [bE ([], 0)]; rfl))
     | 14, _, _ =>
      intro w Y
      exact br Tryd.call79 rfl (et ((st1.reverse.getD (st1.length - 2) ([], 0)).1) ((st1.reverse.getD (st1.length - 1) ([], 0)).1) _ (by first | omega | (have := hy32 xs (by have h := hnx; unfold NxB at h; omega); omega)) (by first | omega | exact Nat.le_trans (Nat.le_of_eq hf32) (by decide)) (Y.get (k := 2) rfl))
     | 15, _, h => exact absurd (by simp) h
     | i + 16, h, _ => exact absurd h (by omega)
    ·intro i hi
     simp only [List.mem_cons, List.not_mem_nil, or_false] at hi
     subst hi
     ·intro w Y
      exact aK (E := 9) (sz := 1) rfl [[sv (nodeH sha ((st1.reverse.getD (st1.length - 2) ([], 0)).1) ((st1.reverse.getD (st1.length - 1) ([], 0)).1))]] (fun _ => by kernel_rfl) (by simp) rfl (by decide)
    clear Z Y
    rintro _ _ ⟨b6, rfl, -, rfl⟩ a w11 Z Y
    replace Z : Fr 96 [(44, v1), (45, iv (st1.length : Int)), (46, iv ((st1.length : Int) - 2)), (47, (cut v1 1 0 (st1.length - 2) (slCap v1))), (48, v1), (49, iv (st1.length : Int)), (50, iv ((st1.length : Int) - 2)), (51, slAddr v1 ((st1.length - 2) * 1)), (52, sv ((st1.reverse.getD (st1.length - 2) ([], 0)).1)), (53, v1), (54, iv (st1.length : Int)), (55, iv ((st1.length : Int) - 1)), (56, slAddr v1 ((st1.length - 1) * 1)), (57, sv ((st1.reverse.getD (st1.length - 1) ([], 0)).1)), (58, sv (nodeH sha ((st1.reverse.getD (st1.length - 2) ([], 0)).1) ((st1.reverse.getD (st1.length - 1) ([], 0)).1))), (59, _), (2, _), (11, _), (12, _), (13, _), (7, _), (3, _), (4, _), (41, _)] [] a := Z
    replace Y : St (· = 0) w0 [_, _, _, _] w11 := Y
    refine ab <| bd (k := 16) 18 [17] (by kernel_rfl) (by kernel_rfl) (by kernel_rfl) ?_
    replace Y : St (· = 0) w0 [own (.slice (some ⟨b6, 0, none⟩) 1 1) 9 1 ([[sv (nodeH sha ((st1.reverse.getD (st1.length - 2) ([], 0)).1) ((st1.reverse.getD (st1.length - 1) ([], 0)).1))]]), own (cut v1 1 0 (st1.length - 2) (slCap v1)) 9 1 ((st1.reverse.map fun x : By × Nat => [sv x.1]).take (st1.length - 2)), own u1 3 1 (st1.reverse.map fun x : By × Nat => [iv (x.2 : Int)]), blk 0 (kOf.map wv) 161] w11 := Y.take (i := 1) (k := (st1.length - 2)) rfl (by simp <;> omega)
    refine aR (i := 1) (sT := 45) (inf := Tryd.t9) (z := .string (⟨#[]⟩)) (b := 0) (off := 0) (m := 0) (c := 0) rfl rfl rfl (Y.ownAt (i := 0) rfl) (by simp) Tryd.underlying45 rfl rfl rfl rfl (by decide) (by simp [Value.oneCell', yv, wv, sv]) (by have hby : Tryd.t9.bytes = 16 := rfl; have hby3 : Tryd.t3.bytes = 8 := rfl; have hle0 := hS.le.1; rw [List.length_take] at hle0; simp only [big, hby, hby3, List.length_append, List.length_take, List.length_map, List.length_reverse, List.length_cons, List.length_nil]; omega) (by have hby : Tryd.t9.bytes = 16 := rfl; have hby3 : Tryd.t3.bytes = 8 := rfl; have hle0 := hS.le.1; rw [List.length_take] at hle0; simp only [big, hby, hby3, List.length_append, List.length_take, List.length_map, List.length_reverse, List.length_cons, List.length_nil]; omega) (by decide) Z Y fun a w12 s7 Z Y _ => ?_
    refine wla Z rfl fun a Z => ab <| bl (by kernel_rfl) ?_
    refine hK15 _ _ ?_
    replace Z : Fr 96 [(2, _), (11, _), (12, _), (13, _), (7, _), (4, _), (3, _)] [] a := Z.pick [2, 11, 12, 13, 7, 4, 3]
    replace Y : St (· = 0) w0 [_, _, _] w12 := Y.mask [false, true, true, true]
    refine aN (by kernel_rfl) (aQ (by kernel_rfl) fun w13 hxz => ?_)
    replace Y : St (· = 0) w0 [own s7 9 1 (((st1.reverse.map fun x : By × Nat => [sv x.1]).take (st1.length - 2)) ++ ([[sv (nodeH sha ((st1.reverse.getD (st1.length - 2) ([], 0)).1) ((st1.reverse.getD (st1.length - 1) ([], 0)).1))]])), own u1 3 1 (st1.reverse.map fun x : By × Nat => [iv (x.2 : Int)]), blk 0 (kOf.map wv) 161] w13 := Y.grow hxz
    refine bp (k := 0) 11 [3, 10] Z (by kernel_rfl) (by kernel_rfl) (by kernel_rfl) (by rfl) ?_
    replace Z : Fr 96 [(2, _), (11, _), (12, _), (13, _), (7, _), (4, _), (3, _)] [] a := Z.pick [2, 11, 12, 13, 7, 4, 3]
    refine aI [10] (fun i => match i with | 10 => pm (fun b : Nat => .slice (some ⟨b, 0, none⟩) 1 1) (fun b => [own (.slice (some ⟨b, 0, none⟩) 1 1) 3 1 [[iv (2 * ((st1.reverse.getD (st1.length - 1) ([], 0)).2 : Int))]]]) (fun _ => True) | _ => fun _ _ => False) 11 [[], [], [1], [0, 2], [], [], [5], [4, 6], [7], [8], [9]] [u1, iv (st1.length : Int), iv ((st1.length : Int) - 2), (cut u1 1 0 (st1.length - 2) (slCap u1)), u1, iv (st1.length : Int), iv ((st1.length : Int) - 1), slAddr u1 ((st1.length - 1) * 1), iv ((st1.reverse.getD (st1.length - 1) ([], 0)).2 : Int), iv (2 * ((st1.reverse.getD (st1.length - 1) ([], 0)).2 : Int)), undef] Z Y (by kernel_rfl) (by kernel_rfl) (by kernel_rfl) ?_ ?_ ?_
    ·intro i hi hiq
     match i, hi, hiq with
     | 0, _, _ =>
      intro w Y
      exact OpV.g (ai rfl)
     | 1, _, _ =>
      intro w Y
      exact OpV.g (ai rfl)
     | 2, _, _ =>
      intro w Y
      exact OpV.g (bh rfl rfl ⟨by omega, by omega⟩)
     | 3, _, _ =>
      intro w Y
      exact OpV.g (bU (l := 0) (h := (st1.length - 2)) (Y.ownAt (i := 1) rfl) rfl rfl rfl Tryd.underlying41 (by kernel_rfl) (.inl ⟨rfl, rfl⟩) (.inr (by rw [show ((st1.length : Int) - 2 : Int) = (((st1.length - 2) : Nat) : Int) from by omega] <;> rfl)) (Nat.zero_le _) (by first | (rw [List.length_map]; omega) | (simp <;> omega)))
     | 4, _, _ =>
      intro w Y
      exact OpV.g (ai rfl)
     | 5, _, _ =>
      intro w Y
      exact OpV.g (ai rfl)
     | 6, _, _ =>
      intro w Y
      exact OpV.g (bh rfl rfl ⟨by omega, by omega⟩)
     | 7, _, _ =>
      intro w Y
      exact OpV.g ((ak (i := (st1.length : Int) - 1) (sT := 41) (Y.ownAt (i := 1) rfl) rfl rfl (Tryd.runUnderlying41 _) (Tryd.sizeOf3 _) (by omega) (by first | (rw [List.length_map]; omega) | (rw [List.length_map, List.length_reverse]; omega))).as (v' := slAddr u1 ((st1.length - 1) * 1)) (by rw [show ((st1.length : Int) - 1).toNat = (st1.length - 1) from by omega]))
     | 8, _, _ =>
      intro w Y
      exact OpV.g (ax (u := iv ((st1.reverse.getD (st1.length - 1) ([], 0)).2 : Int)) (i := (st1.length - 1)) (j := 0) (Y.ownAt (i := 1) rfl) (by first | (rw [List.length_map]; omega) | (rw [List.length_map, List.length_reverse]; omega)) rfl (Tryd.isAgg3 _) (by rw [bE ([], 0)]; rfl))
     | 9, _, _ =>
      intro w Y
      exact OpV.g (cL rfl rfl ⟨by omega, by omega⟩)
     | 10, _, h => exact absurd (by simp) h
    ·intro i hi
     simp only [List.mem_cons, List.not_mem_nil, or_false] at hi
     subst hi
     ·intro w Y
      exact aK (E := 3) (sz := 1) rfl [[iv (2 * ((st1.reverse.getD (st1.length - 1) ([], 0)).2 : Int))]] (fun _ => by kernel_rfl) (by simp) rfl (by decide)
    clear Z Y
    rintro _ _ ⟨b8, rfl, -, rfl⟩ a w14 Z Y
    replace Z : Fr 96 [(61, u1), (62, iv (st1.length : Int)), (63, iv ((st1.length : Int) - 2)), (64, (cut u1 1 0 (st1.length - 2) (slCap u1))), (65, u1), (66, iv (st1.length : Int)), (67, iv ((st1.length : Int) - 1)), (68, slAddr u1 ((st1.length - 1) * 1)), (69, iv ((st1.reverse.getD (st1.length - 1) ([], 0)).2 : Int)), (70, iv (2 * ((st1.reverse.getD (st1.length - 1) ([], 0)).2 : Int))), (71, _), (2, _), (11, _), (12, _), (13, _), (7, _), (4, _), (3, _)] [] a := Z
    replace Y : St (· = 0) w0 [_, _, _, _] w14 := Y
    refine ab <| bd (k := 11) 13 [12] (by kernel_rfl) (by kernel_rfl) (by kernel_rfl) ?_
    replace Y : St (· = 0) w0 [own (.slice (some ⟨b8, 0, none⟩) 1 1) 3 1 ([[iv (2 * ((st1.reverse.getD (st1.length - 1) ([], 0)).2 : Int))]]), own s7 9 1 (((st1.reverse.map fun x : By × Nat => [sv x.1]).take (st1.length - 2)) ++ ([[sv (nodeH sha ((st1.reverse.getD (st1.length - 2) ([], 0)).1) ((st1.reverse.getD (st1.length - 1) ([], 0)).1))]])), own (cut u1 1 0 (st1.length - 2) (slCap u1)) 3 1 ((st1.reverse.map fun x : By × Nat => [iv (x.2 : Int)]).take (st1.length - 2)), blk 0 (kOf.map wv) 161] w14 := Y.take (i := 2) (k := (st1.length - 2)) rfl (by simp <;> omega)
    refine aR (i := 2) (sT := 41) (inf := Tryd.t3) (z := iv 0) (b := 0) (off := 0) (m := 0) (c := 0) rfl rfl rfl (Y.ownAt (i := 0) rfl) (by simp) Tryd.underlying41 rfl rfl rfl rfl (by decide) (by simp [Value.oneCell', yv, wv, sv]) (by have hby : Tryd.t9.bytes = 16 := rfl; have hby3 : Tryd.t3.bytes = 8 := rfl; have hle0 := hS.le.1; rw [List.length_take] at hle0; simp only [big, hby, hby3, List.length_append, List.length_take, List.length_map, List.length_reverse, List.length_cons, List.length_nil]; omega) (by have hby : Tryd.t9.bytes = 16 := rfl; have hby3 : Tryd.t3.bytes = 8 := rfl; have hle0 := hS.le.1; rw [List.length_take] at hle0; simp only [big, hby, hby3, List.length_append, List.length_take, List.length_map, List.length_reverse, List.length_cons, List.length_nil]; omega) (by decide) Z Y fun a w15 s9 Z Y _ => ?_
    refine wla Z rfl fun a Z => ab <| bl (by kernel_rfl) ?_
    refine hK14 _ _ ?_
    replace Z : Fr 96 [(2, _), (11, _), (12, _), (13, _), (7, _), (3, _), (4, _)] [] a := Z.pick [2, 11, 12, 13, 7, 3, 4]
    replace Y : St (· = 0) w0 [_, _, _] w15 := Y.mask [false, true, true, true]
    refine am <| wlm Z rfl fun a Z => wlv Z (bh rfl rfl ⟨by omega, by omega⟩) fun a Z => wla Z rfl fun a Z => ab ?_
    rw [show ((st1.reverse.map fun x : By × Nat => [sv x.1]).take (st1.length - 2)) ++ ([[sv (nodeH sha ((st1.reverse.getD (st1.length - 2) ([], 0)).1) ((st1.reverse.getD (st1.length - 1) ([], 0)).1))]]) = (((nodeH sha r1 r2, 2 * s1) :: t).reverse.map fun x : By × Nat => [sv x.1]) from by rw [← List.map_take, e3, e1, e2]; simp] at Y
    rw [show ((st1.reverse.map fun x : By × Nat => [iv (x.2 : Int)]).take (st1.length - 2)) ++ ([[iv (2 * ((st1.reverse.getD (st1.length - 1) ([], 0)).2 : Int))]]) = (((nodeH sha r1 r2, 2 * s1) :: t).reverse.map fun x : By × Nat => [iv (x.2 : Int)]) from by rw [← List.map_take, e3, e2]; simp] at Y
    rw [show (st1.length : Int) - 1 = (((nodeH sha r1 r2, 2 * s1) :: t).length : Int) from by rw [hst0]; simp only [List.length_cons]; omega] at Z
    have hm1 : ((nodeH sha r1 r2, 2 * s1) :: t).length = t.length + 1 := rfl
    have hm2 : st1.length = t.length + 2 := by rw [hst0]; rfl
    rw [hst0] at hS1 hW1
    obtain ⟨hS2, hW2⟩ := Stk.merge sha hS1 hW1
    refine ⟨_, ?_, ((nodeH sha r1 r2, 2 * s1) :: t), s7, s9, rfl, hS2, hW2, Z.pick [2, 11, 12, 13, 7, 3, 4], Y.select [0, 1, 2] (by decide)⟩
    omega
   rw [hc5] at Z
   try simp only [qz] at hc5
   have hI1 : incr st1 := kC hW1 (by omega) hc5
   refine aF <| hK8 _ _ <| am <| wlv Z (aL rfl rfl ⟨by omega, by omega⟩) fun a Z => wlm Z rfl fun a Z => ab ?_
   refine ⟨_, ?_, k + 1, st1, v1, u1, rfl, (by omega), hS1, hI1, Z.pick [2, 11, 12, 13, 3, 4], Y.select [0, 1, 2] (by decide)⟩
   omega
  rw [hb4] at Z
  try simp only [qz] at hb4
  have hI1 : incr st1 := hW1.strict fun x y t e => absurd hb4 (by rw [e]; simp; omega)
  replace Z : Fr 96 [(2, .string (⟨#[]⟩)), (11, lv), (12, iv (ls.length : Int)), (13, iv (k : Int)), (7, iv (st1.length : Int)), (3, v1), (4, u1), (27, iv (st1.length : Int)), (28, .bool false), (29, .bool false)] [] a := Z.pick [2, 11, 12, 13, 7, 3, 4, 27, 28, 29]
  refine mL (k := 3) 13 [7, 12] Z (by kernel_rfl) (by kernel_rfl) (by kernel_rfl) (by rfl) fun a Z => ?_
  replace Z : Fr 96 [(30, undef), (31, undef), (32, undef), (33, undef), (34, undef), (35, undef), (36, undef), (37, undef), (38, undef), (39, undef), (2, .string (⟨#[]⟩)), (11, lv), (12, iv (ls.length : Int)), (13, iv (k : Int)), (7, iv (st1.length : Int)), (3, v1), (4, u1), (27, iv (st1.length : Int)), (28, .bool false), (29, .bool false)] [] a := Z
  refine bd (k := 13) 15 [14] (by kernel_rfl) (by kernel_rfl) (by kernel_rfl) ?_
  refine wln Z fun a Z => wlv Z (aw rfl rfl) fun a Z => ab <| bl (by kernel_rfl) ?_
  refine hK13 _ _ ?_
  replace Z : Fr 96 [(2, _), (11, _), (12, _), (13, _), (7, _), (3, _), (4, _), (41, _)] [] a := Z.pick [2, 11, 12, 13, 7, 3, 4, 41]
  refine av Z rfl ?_
  refine aF <| hK8 _ _ <| am <| wlv Z (aL rfl rfl ⟨by omega, by omega⟩) fun a Z => wlm Z rfl fun a Z => ab ?_
  refine ⟨_, ?_, k + 1, st1, v1, u1, rfl, (by omega), hS1, hI1, Z.pick [2, 11, 12, 13, 3, 4], Y.select [0, 1, 2] (by decide)⟩
  omega
 rw [hc1] at Z
 try simp only [qz] at hc1
 obtain rfl : k = ls.length := by omega
 rw [List.take_length] at hS
 have hle := hS.le
 refine aF <| hK4 _ _ <| ac fun K16 hK16 => aa fun K17 hK17 => wlm Z rfl fun a Z => wlv Z ((aM (sT := 45) (Y.ownAt (i := 0) rfl) rfl rfl (Tryd.runUnderlying45 _)).asi (m' := (st.length : Int)) (by simp)) fun a Z => wlv Z (v_eq rfl rfl) fun a Z => ?_
 refine ab (hK17 _ _ ?_)
 replace Z : Fr 96 [(2, _), (3, _), (76, _)] [] a := Z.pick [2, 3, 76]
 refine aC Z rfl (fun hc10 => ?_) (fun hc10 => ?_)
 ·rw [hc10] at Z
  try simp only [qz] at hc10
  refine aa fun K18 hK18 => al Z Y (by decide) Tryd.call80 rfl (jg [] _ (Y.get (k := 2) rfl) (by simp)) ?_
  clear Z Y
  intro a w16 Z Y
  refine wla Z rfl fun a Z => ab (hK18 _ _ <| au ?_)
  refine aq Z Tryd.results63 (ae rfl ah) ?_
  obtain rfl : st = [] := List.eq_nil_of_length_eq_zero (by omega)
  obtain rfl : ls = [] := hS
  exact ⟨rfl, Y.ext.const hk0 (Y.get (k := 2) rfl)⟩
 rw [hc10] at Z
 try simp only [qz] at hc10
 have hlast := hle.2 (st.reverse.getD (st.length - 1) ([], 0)) (List.mem_reverse.1 (bx (by rw [List.length_reverse]; omega)))
 refine ao <| hK16 _ _ <| aa fun K19 hK19 => wlm Z rfl fun a Z => wlm Z rfl fun a Z => wlv Z ((aM (sT := 45) (Y.ownAt (i := 0) rfl) rfl rfl (Tryd.runUnderlying45 _)).asi (m' := (st.length : Int)) (by simp)) fun a Z => wlv Z (bh rfl rfl ⟨by omega, by omega⟩) fun a Z => wlv Z ((ak (i := (st.length : Int) - 1) (sT := 45) (Y.ownAt (i := 0) rfl) rfl rfl (Tryd.runUnderlying45 _) (Tryd.sizeOf9 _) (by omega) (by first | (rw [List.length_map]; omega) | (rw [List.length_map, List.length_reverse]; omega))).as (v' := slAddr v ((st.length - 1) * 1)) (by rw [show ((st.length : Int) - 1).toNat = (st.length - 1) from by omega])) fun a Z => ?_
 refine wlv Z (ax (u := sv ((st.reverse.getD (st.length - 1) ([], 0)).1)) (i := (st.length - 1)) (j := 0) (Y.ownAt (i := 0) rfl) (by first | (rw [List.length_map]; omega) | (rw [List.length_map, List.length_reverse]; omega)) rfl (Tryd.isAgg9 _) (by rw [bE ([], 0)]; rfl)) fun a Z => aD Z Y (by decide) (Tryd.zeroValue9 _) (cs := [.string (⟨#[]⟩)]) rfl ?_
 clear Z Y
 intro a w17 Z Y
 refine az 0 Z Y rfl rfl rfl (Tryd.sizeOf9 _) rfl (lb rfl) (ds := [sv ((st.reverse.getD (st.length - 1) ([], 0)).1)]) rfl rfl ?_
 clear Z Y
 intro a w18 Z Y
 refine ab (hK19 _ _ ?_)
 replace Z : Fr 96 [(2, _), (3, _), (8, _)] [] a := Z.pick [2, 3, 8]
 refine ac fun K20 hK20 => aa fun K21 hK21 => wlm Z rfl fun a Z => wlm Z rfl fun a Z => wlv Z ((aM (sT := 45) (Y.ownAt (i := 1) rfl) rfl rfl (Tryd.runUnderlying45 _)).asi (m' := (st.length : Int)) (by simp)) fun a Z => wlv Z (bh rfl rfl ⟨by omega, by omega⟩) fun a Z => wlv Z (bU (l := 0) (h := (st.length - 1)) (Y.ownAt (i := 1) rfl) rfl rfl rfl Tryd.underlying45 (by kernel_rfl) (.inl ⟨rfl, rfl⟩) (.inr (by rw [show ((st.length : Int) - 1 : Int) = (((st.length - 1) : Nat) : Int) from by omega] <;> rfl)) (Nat.zero_le _) (by first | (rw [List.length_map]; omega) | (simp <;> omega))) fun a Z => aZ Z Y (by decide) Tryd.call81 rfl (mY (cut v 1 0 (st.length - 1) (slCap v)) _ _ ((Y.ownAt (i := 1) rfl).cut0 (h := (st.length - 1)) (by first | omega | (rw [List.length_reverse]; omega) | simp | (simp; omega)))) ?_
 clear Z Y
 intro a w19 x11 hp Z Y
 revert x11 hp Z Y; rintro z1 hp Z Y
 clear hp
 replace Y : St (· = 0) w0 [blk z1 [(cut v 1 0 (st.length - 1) (slCap v))] 45, blk w1.heap.size [sv ((st.reverse.getD (st.length - 1) ([], 0)).1)] 9, own v 9 1 (st.reverse.map fun x : By × Nat => [sv x.1]), own u 3 1 (st.reverse.map fun x : By × Nat => [iv (x.2 : Int)]), blk 0 (kOf.map wv) 161] w19 := Y
 refine ab (hK21 _ _ ?_)
 replace Z : Fr 96 [(2, _), (8, _), (89, _)] [] a := Z.pick [2, 8, 89]
 refine ap ?_
 replace Y : St (· = 0) w0 [blk z1 [(cut v 1 0 (st.length - 1) (slCap v))] 45, blk w1.heap.size [sv ((st.reverse.getD (st.length - 1) ([], 0)).1)] 9, own (cut v 1 0 (st.length - 1) (slCap v)) 9 1 (((st.drop 1).reverse.map Prod.fst).map fun s => [sv s]), own u 3 1 (st.reverse.map fun x : By × Nat => [iv (x.2 : Int)]), blk 0 (kOf.map wv) 161] w19 := by
  have h9 := Y.take (i := 2) (k := st.length - 1) rfl (by simp)
  rw [jx] at h9
  exact h9
 have hyl : ((st.drop 1).reverse.map Prod.fst).length ≤ 1000 := by simp; omega
 have hy32 : ∀ k, k < ((st.drop 1).reverse.map Prod.fst).length → (((st.drop 1).reverse.map Prod.fst).getD k []).length = 32 := fun k hk => by
  obtain ⟨z, hz, e⟩ := List.mem_map.1 (bx (d := []) hk)
  rw [← e]; exact (hle.2 z (List.mem_of_mem_drop (List.mem_reverse.1 hz))).1
 replace Y : St (· = 0) w0 [blk z1 [(cut v 1 0 (st.length - 1) (slCap v))] 45, blk w1.heap.size [sv (([] : List Nat).foldl (fun o k => nodeH sha (((st.drop 1).reverse.map Prod.fst).getD k []) o) ((st.reverse.getD (st.length - 1) ([], 0)).1))] 9, own (cut v 1 0 (st.length - 1) (slCap v)) 9 1 (((st.drop 1).reverse.map Prod.fst).map fun s => [sv s]), own u 3 1 (st.reverse.map fun x : By × Nat => [iv (x.2 : Int)]), blk 0 (kOf.map wv) 161] w19 := Y
 replace Y : St (· = 0) w0 [blk 0 (kOf.map wv) 161, blk w1.heap.size [sv (([] : List Nat).foldl (fun o k => nodeH sha (((st.drop 1).reverse.map Prod.fst).getD k []) o) ((st.reverse.getD (st.length - 1) ([], 0)).1))] 9, blk z1 [(cut v 1 0 (st.length - 1) (slCap v))] 45, own (cut v 1 0 (st.length - 1) (slCap v)) 9 1 (((st.drop 1).reverse.map Prod.fst).map fun s => [sv s])] w19 := Y.select [4, 1, 0, 2] (by decide)
 replace Z : Fr 96 [(2, .string (⟨#[]⟩)), (8, pt w1.heap.size), (89, .func (.func 97) #[] #[pt z1])] [] a := Z.pick [2, 8, 89]
 refine cG (M := (· = 0)) (w0 := w0) (encs := (encB ((st.drop 1).reverse.map Prod.fst))) (Hi := [blk z1 [(cut v 1 0 (st.length - 1) (slCap v))] 45, own (cut v 1 0 (st.length - 1) (slCap v)) 9 1 (((st.drop 1).reverse.map Prod.fst).map fun s => [sv s])]) (Hc := [blk 0 (kOf.map wv) 161, blk w1.heap.size [sv (([] : List Nat).foldl (fun o k => nodeH sha (((st.drop 1).reverse.map Prod.fst).getD k []) o) ((st.reverse.getD (st.length - 1) ([], 0)).1))] 9]) (fun pre H => ((pre.foldl (fun o k => nodeH sha (((st.drop 1).reverse.map Prod.fst).getD k []) o) ((st.reverse.getD (st.length - 1) ([], 0)).1)).length = 32) ∧ H = [blk 0 (kOf.map wv) 161, blk w1.heap.size [sv (pre.foldl (fun o k => nodeH sha (((st.drop 1).reverse.map Prod.fst).getD k []) o) ((st.reverse.getD (st.length - 1) ([], 0)).1))] 9]) (fun _ _ _ => False) (fun pre xs H a => Fr 96 [(2, .string (⟨#[]⟩)), (8, pt w1.heap.size), (89, .func (.func 97) #[] #[pt z1]), (10, sv (((st.drop 1).reverse.map Prod.fst).getD xs []))] [] a ∧ ((pre.foldl (fun o k => nodeH sha (((st.drop 1).reverse.map Prod.fst).getD k []) o) ((st.reverse.getD (st.length - 1) ([], 0)).1)).length = 32) ∧ H = [blk 0 (kOf.map wv) 161, blk w1.heap.size [sv (pre.foldl (fun o k => nodeH sha (((st.drop 1).reverse.map Prod.fst).getD k []) o) ((st.reverse.getD (st.length - 1) ([], 0)).1))] 9]) rfl Tryd.call97 Z Y (kb (cut v 1 0 (st.length - 1) (slCap v)) ((st.drop 1).reverse.map Prod.fst) z1 (by omega)) (by decide) (fun _ => rfl) ⟨hlast.1, rfl⟩ ?_ ?_ ?_ ?_
 ·clear Z Y
  rintro lp pre xs _ a w20 hnx ⟨hf32, rfl⟩ Z Y
  generalize (join [blk 0 (kOf.map wv) 161, blk w1.heap.size [sv (pre.foldl (fun o k => nodeH sha (((st.drop 1).reverse.map Prod.fst).getD k []) o) ((st.reverse.getD (st.length - 1) ([], 0)).1))] 9]).foot = M1 at Y ⊢
  replace Z : Fr 96 [(91, sv (((st.drop 1).reverse.map Prod.fst).getD xs [])), (90, iv (xs : Int)), (2, .string (⟨#[]⟩)), (8, pt w1.heap.size), (89, .func (.func 97) #[] #[pt z1])] [] a := Z
  refine am <| wla Z rfl fun a Z => ab ?_
  exact ⟨_, ⟨Z.pick [2, 8, 89, 10], hf32, rfl⟩, Y⟩
 ·rintro lp pre xs _ a w21 hnx ⟨Z, hf32, rfl⟩ hout hrec hnl Y
  clear hrec hnl
  generalize (join [blk 0 (kOf.map wv) 161, blk w1.heap.size [sv (pre.foldl (fun o k => nodeH sha (((st.drop 1).reverse.map Prod.fst).getD k []) o) ((st.reverse.getD (st.length - 1) ([], 0)).1))] 9]).foot = M1 at Y hout ⊢
  refine ap <| am <| wlm Z rfl fun a Z => wlv Z (aj (Y.get (k := 1) rfl) rfl (Tryd.isAgg9 _) rfl) fun a Z => al Z Y (by decide) Tryd.call79 rfl (et (((st.drop 1).reverse.map Prod.fst).getD xs []) (pre.foldl (fun o k => nodeH sha (((st.drop 1).reverse.map Prod.fst).getD k []) o) ((st.reverse.getD (st.length - 1) ([], 0)).1)) _ (by first | omega | (have := hy32 xs (by have h := hnx; unfold NxB at h; omega); omega)) (by first | omega | exact Nat.le_trans (Nat.le_of_eq hf32) (by decide)) (Y.get (k := 0) rfl)) ?_
  clear Z Y
  intro a w22 Z Y
  refine az 1 Z Y rfl rfl rfl (Tryd.sizeOf9 _) rfl (lb rfl) (ds := [sv (nodeH sha (((st.drop 1).reverse.map Prod.fst).getD xs []) (pre.foldl (fun o k => nodeH sha (((st.drop 1).reverse.map Prod.fst).getD k []) o) ((st.reverse.getD (st.length - 1) ([], 0)).1)))]) rfl rfl ?_
  clear Z Y
  intro a w23 Z Y
  refine ab ?_
  rw [show nodeH sha (((st.drop 1).reverse.map Prod.fst).getD xs []) (pre.foldl (fun o k => nodeH sha (((st.drop 1).reverse.map Prod.fst).getD k []) o) ((st.reverse.getD (st.length - 1) ([], 0)).1)) = (pre ++ [xs]).foldl (fun o k => nodeH sha (((st.drop 1).reverse.map Prod.fst).getD k []) o) ((st.reverse.getD (st.length - 1) ([], 0)).1) from by rw [List.foldl_append]; rfl] at Y
  exact ⟨_, ⟨(by rw [List.foldl_append]; exact hC bP _ _), rfl⟩, Y.select [0, 1] (by decide)⟩
 ·rintro D pre _ _ a w24 ⟨rfl, rfl⟩ ⟨hf32, rfl⟩ Y Z
  replace Z : Fr 96 [(2, .string (⟨#[]⟩)), (8, pt w1.heap.size), (89, .func (.func 97) #[] #[pt z1])] [{ target := .collected D, args := #[] }] a := Z
  replace Y : St (· = 0) w0 [obj D (.deferred (some [])), blk 0 (kOf.map wv) 161, blk w1.heap.size [sv ((backs ((st.drop 1).reverse.map Prod.fst).length ((st.drop 1).reverse.map Prod.fst).length).foldl (fun o k => nodeH sha (((st.drop 1).reverse.map Prod.fst).getD k []) o) ((st.reverse.getD (st.length - 1) ([], 0)).1))] 9, blk z1 [(cut v 1 0 (st.length - 1) (slCap v))] 45, own (cut v 1 0 (st.length - 1) (slCap v)) 9 1 (((st.drop 1).reverse.map Prod.fst).map fun s => [sv s])] w24 := Y
  refine hK20 _ _ <| aa fun K22 hK22 => wlv Z (aj (Y.get (k := 2) rfl) rfl (Tryd.isAgg9 _) rfl) fun a Z => wla Z rfl fun a Z => ab (hK22 _ _ <| au ?_)
  have hD := Y.get (k := 0) rfl
  replace Y := Y.unmark (i := 0) (o' := .deferred none) rfl
  replace Y : St (· = 0) w0 [blk 0 (kOf.map wv) 161, blk w1.heap.size [sv ((backs ((st.drop 1).reverse.map Prod.fst).length ((st.drop 1).reverse.map Prod.fst).length).foldl (fun o k => nodeH sha (((st.drop 1).reverse.map Prod.fst).getD k []) o) ((st.reverse.getD (st.length - 1) ([], 0)).1))] 9, blk z1 [(cut v 1 0 (st.length - 1) (slCap v))] 45, own (cut v 1 0 (st.length - 1) (slCap v)) 9 1 (((st.drop 1).reverse.map Prod.fst).map fun s => [sv s])] _ := Y
  refine bL Z hD Tryd.results63 (ae rfl ah) ?_
  exact ⟨by simp only [retv]; rw [lq hS hI (by omega)], Y.ext.const hk0 (Y.get (k := 0) rfl)⟩
 ·rintro D c pre _ _ a w25 _ h
  exact h.elim
end Go.Proofs.YtddfkkdanpmnaaaDoor
namespace Go.Proofs.YtddfkkdanpmnaaaDoor
open Go.RowKit Go.PW Go.Sort
set_option linter.unusedVariables false
set_option linter.unusedSimpArgs false
theorem gz (xs : List (List UInt8)) : (xs.map fun s => [sv s]).flatten = xs.map sv := by
 induction xs with
 | nil => rfl
 | cons x xs ih => rw [List.map_cons, List.flatten_cons, ih]; rfl
theorem gj (s : List UInt8) : encStr s = sv s := rfl
theorem lT (cur : Array Value) (n : Nat) (ys : List (List UInt8)) (hn : n ≤ cur.size) (hy : ys.length = n) : (putCells encStr 0 ys.toArray cur).toList.take n = ys.map sv := by
 subst hy
 refine List.ext_getElem? fun i => ?_
 by_cases hi : i < ys.length
 ·have hc : i < cur.size := by omega
  rw [List.getElem?_take_of_lt hi, List.getElem?_map, List.getElem?_eq_getElem hi]
  simp [putCells, hc, hi, gj]
 ·rw [List.getElem?_eq_none (by rw [List.length_take]; omega), List.getElem?_eq_none (by rw [List.length_map]; omega)]
theorem ei (v : Value) (xs : List (List UInt8)) (E : TypeId) (w : World) (h : (own v E 1 (xs.map fun s => [sv s])).ok w) :
  Ret Tryd.prog 83 #[v] w fun u w' => u = .tuple #[] ∧ Ext (own v E 1 (xs.map fun s => [sv s])).foot w w' ∧ (own v E 1 (xs.reverse.map fun s => [sv s])).ok w' := by
 obtain ⟨h1, h2, h3, h4⟩ := h
 rcases h4 with ⟨rfl, h0⟩ | ⟨g, cap, cur, fz, rfl, hg, hfz, hnc, hcm, hcs, htk⟩
 ·obtain rfl : xs = [] := by simpa using h0
  refine (Tryd.slices_Reverse_string_empty none 0 w).mono fun e w' ⟨he, hw⟩ => ⟨_, he, rfl, by rw [hw]; exact Ext.refl _ _, ?_⟩
  rw [hw]; exact gU w E 1
 ·rw [List.length_map] at *
  rw [gz] at htk
  have hsz : xs.length ≤ cur.size := by omega
  have hcell : ∀ j, j < xs.length → cur[j]? = some (sv (xs.getD j [])) := by
   intro j hj
   have : (cur.toList.take (xs.length * 1))[j]? = (xs.map sv)[j]? := by rw [htk]
   rw [List.getElem?_take_of_lt (by omega), List.getElem?_map, List.getElem?_eq_getElem hj] at this
   simpa [List.getD_eq_getElem?_getD, hj] using this
  have hH : Holds encStr w g 0 xs.toArray := by
   intro j hj
   have hj' : j < xs.length := by simpa using hj
   refine ⟨?_, ?_⟩
   ·rw [Nat.zero_add]
    simp only [World.cell?, hg]
    have := hcell j hj'
    simp [hj', gj, List.getD_eq_getElem?_getD] at this ⊢
    exact this
   ·obtain ⟨lo, hi'⟩ := fz
    simp only [World.frozen?, hg, Bool.and_eq_false_iff, decide_eq_false_iff_not]
    unfold rowFz at hfz
    simp only at hfz
    omega
  refine (Tryd.slices_Reverse_string g 0 cap xs w hH (by simp only [big] at h2; omega)).mono fun e w' ⟨he, n, hw⟩ => ⟨_, he, rfl, ?_, ?_⟩
  ·rw [hw]
   refine ⟨rfl, rfl, rfl, by simp, fun k hk hn => ?_⟩
   have hne : g ≠ k := fun e => hn (by show Value.ownBlock _ = some k; rw [← e]; rfl)
   simp [putRow, mapBlock, Array.getElem?_modify, hne]
  ·rw [hw]
   refine ⟨fun e he => by obtain ⟨s, _, rfl⟩ := List.mem_map.1 he; rfl, by simpa using h2, by rw [gz]; simp, .inr ⟨g, cap, putCells encStr 0 xs.reverse.toArray cur, fz, by simp, ?_, hfz, by simpa using hnc, hcm, by simpa [putCells] using hcs, ?_⟩⟩
   ·simp [putRow, mapBlock, Array.getElem?_modify, hg, onCells]
   ·rw [gz, List.length_map, List.length_reverse, Nat.mul_one]
    exact lT cur xs.length xs.reverse hsz (by simp)
end Go.Proofs.YtddfkkdanpmnaaaDoor
namespace Go.PW
open Go.RowKit
section
variable {P : Program} {r : Option Nat} {ops : Array Oper} {K : Act → World → Prop} {rest : List Oper} {a : Act} {w w0 : World} {M : Nat → Prop} {H : List Ent}
variable {N : Nat} {L : List (Nat × Value)} {df : List Deferred} {d : Nat} {ty : TypeId} {pos : String} {af : Array Edge} {v : Value}
theorem fm {f : FuncId} {xs : List Operand} {vs : List Value} {ats : Array TypeId} {e e' : Ent} {H' : List Ent} (i : Nat) (Z : Fr N L df a) (Y : St M w0 H w) (hd : d < N) (hen : ∀ args w, (callFunc f args).run P w = .ok (.enter f args) w) (hx : evs L xs = some vs)
  (hi : H[i]? = some e) (hf : ∀ b, e'.foot b → e.foot b) (hc : Ret P f vs.toArray w fun v' w' => v' = v ∧ Ext e.foot w w' ∧ e'.ok w') (hH : H.set i e' = H')
  (k : ∀ a w', Fr N ((d, v) :: L) df a → St M w0 H' w' → WL P r ops K rest a w') :
  WL P r ops K (⟨some d, .call { callee := .value (.func f), args := xs.toArray, argTypes := ats }, ty, pos, af, none⟩ :: rest) a w :=
 wl_r (dA hen hx hc) rfl (decide_eq_true hd) Z fun a v' w' ⟨hv, hw, ho⟩ h => by
  subst hv; subst hH
  exact k _ _ h (Y.exchange hi hw ho fun b' hb' => ⟨Nat.lt_of_lt_of_le (Y.lt hi (hf _ hb')) hw.size, .inl (hf _ hb')⟩)
end
end Go.PW
namespace Go.Proofs.YtddfkkdanpmnaaaDoor
open Go.RowKit Go.PW
set_option linter.unusedVariables false
set_option linter.unusedSimpArgs false
set_option maxRecDepth 4000
set_option maxHeartbeats 4000000 in
theorem k7 (lv : Value) (ls : List By) (i : Nat) (w0 : World) (hlv : SlAt w0 lv 1 (ls.map fun s => [sv s])) (hi : i < ls.length) (hln : ls.length ≤ 1000) (hls : ∀ s ∈ ls, s.length ≤ 40000000) (hk0 : (blk 0 (kOf.map wv) 161).ok w0) :
  Ret Tryd.prog 65 #[lv, iv (i : Int)] w0 (MemR w0 (fun v : Value => .tuple #[v, iv 0]) (fun v => [own v 9 1 ((proofH sha ls i).map fun s => [sv s])]) (fun _ => True)) := by
 refine aG Tryd.func65 rfl Tryd.ntmps65 (lb rfl) fun a Z => ?_
 replace Z : Fr 47 [(0, _), (1, _)] [] a := Z
 replace Y : St No w0 [] w0 := St.init w0
 refine aa fun K1 hK1 => wla Z rfl fun a Z => wla Z rfl fun a Z => ab (hK1 _ _ <| l7 ?_)
 refine ac fun K2 hK2 => aa fun K3 hK3 => wlm Z rfl fun a Z => wlv Z (v_lt rfl rfl) fun a Z => wlm Z rfl fun a Z => ?_
 rcases Bool.eq_false_or_eq_true (decide ((i : Int) < 0)) with hb1 | hb1
 ·rw [hb1] at Z
  try simp only [qz] at hb1
  omega
 rw [hb1] at Z
 try simp only [qz] at hb1
 refine wly Z (ai rfl) fun a Z => wly Z (ai rfl) fun a Z => wly Z ((aM (sT := 45) (Y.arg hlv) rfl rfl (Tryd.runUnderlying45 _)).asi (m' := (ls.length : Int)) (by simp)) fun a Z => wly Z (v_ge rfl rfl) fun a Z => wlv Z (aw rfl rfl) fun a Z => ab (hK3 _ _ ?_)
 replace Z : Fr 47 [(0, _), (1, _), (4, _), (5, _), (17, _)] [] a := Z.pick [0, 1, 4, 5, 17]
 refine aC Z rfl (fun hc2 => ?_) (fun hc2 => ?_)
 ·rw [hc2] at Z
  try simp only [qz] at hc2
  omega
 rw [hc2] at Z
 try simp only [qz] at hc2
 refine ao <| hK2 _ _ <| aa fun K4 hK4 => wla Z rfl fun a Z => ab (hK4 _ _ <| ac fun K5 hK5 => ?_)
 refine md ?_
 refine hK5 _ _ <| ac fun K6 hK6 => ap ?_
 replace Y : St No w0 [own (.slice none 0 0) 9 1 (([] : List By).map fun s => [sv s])] w0 := Y.nil_own
 refine aT (fun m a w => ∃ (v : Value) (cl : List By) (ci : Nat) (ou : List By) (o : Value), m = cl.length ∧ (SlAt w0 v 1 (cl.map fun s => [sv s])) ∧ (ci < cl.length) ∧ (cl.length ≤ 1000) ∧ (cl.length + ou.length ≤ 2000) ∧ (∀ s ∈ cl, s.length ≤ 40000000) ∧ (proofH sha ls i = proofH sha cl ci ++ ou.reverse) ∧ Fr 47 [(4, .slice none 0 0), (5, iv 0), (0, v), (1, iv (ci : Int)), (6, o)] [] a ∧ St No w0 [own o 9 1 (ou.map fun s => [sv s])] w) _ ⟨lv, ls, i, [], .slice none 0 0, rfl, hlv, hi, hln, (by simp; omega), hls, (by simp), Z.pick [4, 5, 0, 1, 6], Y.select [0] (by decide)⟩ ?_
 rintro _ a w1 ⟨v, cl, ci, ou, o, rfl, hv, hc1, hc2, hc3, hcl, hpr, Z, Y⟩
 refine ap <| ac fun K7 hK7 => aa fun K8 hK8 => wlm Z rfl fun a Z => wlv Z ((aM (sT := 45) (Y.arg hv) rfl rfl (Tryd.runUnderlying45 _)).asi (m' := (cl.length : Int)) (by simp)) fun a Z => wlv Z (v_eq rfl rfl) fun a Z => ab (hK8 _ _ ?_)
 refine aC Z rfl (fun hc3 => ?_) (fun hc3 => ?_)
 ·rw [hc3] at Z
  try simp only [qz] at hc3
  refine aF <| hK6 _ _ <| aa fun K9 hK9 => wlm Z rfl fun a Z => fm (e' := own o 9 1 (ou.reverse.map fun s => [sv s])) 0 Z Y (by decide) Tryd.call83 rfl rfl (fun _ h => h) (ei _ _ _ _ (Y.get (k := 0) rfl)) rfl ?_
  clear Z Y
  intro a w2 Z Y
  refine ab (hK9 _ _ ?_)
  replace Z : Fr 47 [(4, _), (5, _), (6, _)] [] a := Z.pick [4, 5, 6]
  refine aa fun K10 hK10 => wlm Z rfl fun a Z => wla Z rfl fun a Z => wla Z rfl fun a Z => ab (hK10 _ _ <| au ?_)
  refine aq Z Tryd.results65 (ae rfl (ae rfl ah)) ?_
  rw [ec sha (l := cl) (by omega), List.nil_append] at hpr
  refine ⟨o, rfl, trivial, Y.ext, St.out (E := [own o 9 1 ((proofH sha ls i).map fun s => [sv s])]) (H := []) ?_⟩
  rw [hpr]; exact Y
 rw [hc3] at Z
 try simp only [qz] at hc3
 have hlt := ch (n := cl.length) (by omega)
 have hlp := bX cl.length
 refine ao <| hK7 _ _ <| aa fun K11 hK11 => wlm Z rfl fun a Z => wlv Z ((aM (sT := 45) (Y.arg hv) rfl rfl (Tryd.runUnderlying45 _)).asi (m' := (cl.length : Int)) (by simp)) fun a Z => al Z Y (by decide) Tryd.call82 rfl (e6 cl.length _ (by omega) (by omega)) ?_
 clear Z Y
 intro a w3 Z Y
 refine wla Z rfl fun a Z => ab (hK11 _ _ ?_)
 replace Z : Fr 47 [(4, _), (5, _), (0, _), (1, _), (6, _), (7, _)] [] a := Z.pick [4, 5, 0, 1, 6, 7]
 refine ac fun K12 hK12 => aN (by kernel_rfl) (aQ (by kernel_rfl) fun w4 hxz => ?_)
 replace Y := Y.grow hxz
 refine bp (k := 0) 7 [5, 6] Z (by kernel_rfl) (by kernel_rfl) (by kernel_rfl) (by rfl) ?_
 replace Z : Fr 47 [(4, _), (5, _), (0, _), (1, _), (6, _), (7, _)] [] a := Z.pick [4, 5, 0, 1, 6, 7]
 refine aI [] (fun i => match i with | _ => fun _ _ => False) 7 [[], [], [0, 1], [], [], [3, 4], [2]] [v, iv (lft cl.length : Int), (cut v 1 0 (lft cl.length) (slCap v)), v, iv (lft cl.length : Int), (cut v 1 (lft cl.length) cl.length (slCap v)), (cut v 1 0 (lft cl.length) (slCap v))] Z Y (by kernel_rfl) (by kernel_rfl) (by kernel_rfl) ?_ ?_ ?_
 ·intro i hi hiq
  match i, hi, hiq with
  | 0, _, _ =>
   intro w Y
   exact OpV.g (ai rfl)
  | 1, _, _ =>
   intro w Y
   exact OpV.g (ai rfl)
  | 2, _, _ =>
   intro w Y
   exact OpV.g (bU (l := 0) (h := (lft cl.length)) (Y.arg hv) rfl rfl rfl Tryd.underlying45 (by kernel_rfl) (.inl ⟨rfl, rfl⟩) (.inr (by rw [show ((lft cl.length : Int) : Int) = (((lft cl.length) : Nat) : Int) from by omega] <;> rfl)) (Nat.zero_le _) (by first | (rw [List.length_map]; omega) | (simp <;> omega)))
  | 3, _, _ =>
   intro w Y
   exact OpV.g (ai rfl)
  | 4, _, _ =>
   intro w Y
   exact OpV.g (ai rfl)
  | 5, _, _ =>
   intro w Y
   exact OpV.g (bU (l := (lft cl.length)) (h := cl.length) (Y.arg hv) rfl rfl rfl Tryd.underlying45 (by kernel_rfl) (.inr (by rw [show ((lft cl.length : Int) : Int) = (((lft cl.length) : Nat) : Int) from by omega] <;> rfl)) (.inl ⟨rfl, by simp⟩) (by omega) (by simp))
  | 6, _, _ =>
   intro w Y
   exact OpV.g (dk rfl)
 ·intro i hi
  exact absurd hi (by simp)
 clear Z Y
 intro  a w5 Z Y
 replace Z : Fr 47 [(24, v), (25, iv (lft cl.length : Int)), (26, (cut v 1 0 (lft cl.length) (slCap v))), (27, v), (28, iv (lft cl.length : Int)), (29, (cut v 1 (lft cl.length) cl.length (slCap v))), (8, (cut v 1 0 (lft cl.length) (slCap v))), (4, _), (5, _), (0, _), (1, _), (6, _), (7, _)] [] a := Z
 refine ab <| bd (k := 7) 8 [7] (by kernel_rfl) (by kernel_rfl) (by kernel_rfl) ?_
 refine wla Z rfl fun a Z => ab <| bl (by kernel_rfl) ?_
 refine hK12 _ _ ?_
 replace Z : Fr 47 [(4, _), (5, _), (1, _), (6, _), (7, _), (8, _), (9, _)] [] a := Z.pick [4, 5, 1, 6, 7, 8, 9]
 refine ac fun K13 hK13 => aa fun K14 hK14 => wlm Z rfl fun a Z => wlm Z rfl fun a Z => wlv Z (v_ge rfl rfl) fun a Z => ab (hK14 _ _ ?_)
 refine aC Z rfl (fun hc4 => ?_) (fun hc4 => ?_)
 ·rw [hc4] at Z
  try simp only [qz] at hc4
  refine am <| wlm Z rfl fun a Z => wlm Z rfl fun a Z => wlm Z rfl fun a Z => wlm Z rfl fun a Z => wlv Z ((bh rfl rfl ⟨by omega, by omega⟩).asi (m' := ((ci - lft cl.length : Nat) : Int)) (by omega)) fun a Z => wla Z rfl fun a Z => wla Z rfl fun a Z => wla Z rfl fun a Z => ab <| hK13 _ _ ?_
  replace Z : Fr 47 [(4, _), (5, _), (6, _), (8, _), (9, _), (1, _)] [] a := Z.pick [4, 5, 6, 8, 9, 1]
  refine aa fun K15 hK15 => wlm Z rfl fun a Z => wlm Z rfl fun a Z => al Z Y (by decide) Tryd.call63 rfl (dQ (cut v 1 0 (lft cl.length) (slCap v)) (cl.take (lft cl.length)) _ ((Y.arg hv).cut0 (h := (lft cl.length)) (by first | omega | (rw [List.length_reverse]; omega) | simp | (simp; omega))) (by first | omega | (simp only [List.length_take, List.length_drop]; omega)) (by intro k hk; have h := bx (d := []) hk; first | exact hcl _ h | exact hcl _ (List.mem_of_mem_take h) | exact hcl _ (List.mem_of_mem_drop h)) (Y.keepb hk0)) ?_
  clear Z Y
  intro a w6 Z Y
  refine aH (E := 9) (sz := 1) rfl [[sv (rootH sha (cl.take (lft cl.length)))]] (by kernel_rfl) (by simp) rfl (by decide) (by decide) Z Y ?_
  clear Z Y
  intro a w7 Z Y
  refine aR (i := 1) (sT := 45) (inf := Tryd.t9) (z := .string (⟨#[]⟩)) (b := 0) (off := 0) (m := 0) (c := 0) rfl rfl rfl (Y.ownAt (i := 0) rfl) (by simp) Tryd.underlying45 rfl rfl rfl rfl (by decide) (by simp [Value.oneCell', yv, wv, sv]) (by have hby : Tryd.t9.bytes = 16 := rfl; simp only [big, hby, List.length_append, List.length_map, List.length_cons, List.length_nil]; omega) (by have hby : Tryd.t9.bytes = 16 := rfl; simp only [big, hby, List.length_append, List.length_map, List.length_cons, List.length_nil]; omega) (by decide) Z Y fun a w8 s5 Z Y _ => wla Z rfl fun a Z => ab (hK15 _ _ ?_)
  replace Z : Fr 47 [(4, _), (5, _), (8, _), (1, _), (6, _)] [] a := Z.pick [4, 5, 8, 1, 6]
  replace Y : St No w0 [_] w8 := Y.mask [false, true]
  refine am <| wlm Z rfl fun a Z => wla Z rfl fun a Z => ab ?_
  rw [show (ou.map fun s => [sv s]) ++ ([[sv (rootH sha (cl.take (lft cl.length)))]]) = ((ou ++ [rootH sha (cl.take (lft cl.length))]).map fun s => [sv s]) from by simp] at Y
  have hm1 : (cl.drop (lft cl.length)).length < cl.length := by simp only [List.length_take, List.length_drop]; omega
  refine ⟨_, ?_, (cut v 1 (lft cl.length) cl.length (slCap v)), (cl.drop (lft cl.length)), (ci - lft cl.length), (ou ++ [rootH sha (cl.take (lft cl.length))]), s5, rfl, hv.cutd (l := lft cl.length) (by omega), (by simp only [List.length_take, List.length_drop]; omega), (by simp only [List.length_take, List.length_drop]; omega), (by simp only [List.length_append, List.length_take, List.length_drop, List.length_cons, List.length_nil]; omega), (fun s h => hcl s (List.mem_of_mem_drop h)), (by rw [hpr, dr sha (by omega), if_neg (by omega)]; simp), Z.pick [4, 5, 0, 1, 6], Y.select [0] (by decide)⟩
  omega
 rw [hc4] at Z
 try simp only [qz] at hc4
 refine ao <| hK13 _ _ <| aa fun K16 hK16 => wlm Z rfl fun a Z => wlm Z rfl fun a Z => al Z Y (by decide) Tryd.call63 rfl (dQ (cut v 1 (lft cl.length) cl.length (slCap v)) (cl.drop (lft cl.length)) _ ((Y.arg hv).cutd (l := (lft cl.length)) (by first | omega | (rw [List.length_reverse]; omega) | simp | (simp; omega))) (by first | omega | (simp only [List.length_take, List.length_drop]; omega)) (by intro k hk; have h := bx (d := []) hk; first | exact hcl _ h | exact hcl _ (List.mem_of_mem_take h) | exact hcl _ (List.mem_of_mem_drop h)) (Y.keepb hk0)) ?_
 clear Z Y
 intro a w9 Z Y
 refine aH (E := 9) (sz := 1) rfl [[sv (rootH sha (cl.drop (lft cl.length)))]] (by kernel_rfl) (by simp) rfl (by decide) (by decide) Z Y ?_
 clear Z Y
 intro a w10 Z Y
 refine aR (i := 1) (sT := 45) (inf := Tryd.t9) (z := .string (⟨#[]⟩)) (b := 0) (off := 0) (m := 0) (c := 0) rfl rfl rfl (Y.ownAt (i := 0) rfl) (by simp) Tryd.underlying45 rfl rfl rfl rfl (by decide) (by simp [Value.oneCell', yv, wv, sv]) (by have hby : Tryd.t9.bytes = 16 := rfl; simp only [big, hby, List.length_append, List.length_map, List.length_cons, List.length_nil]; omega) (by have hby : Tryd.t9.bytes = 16 := rfl; simp only [big, hby, List.length_append, List.length_map, List.length_cons, List.length_nil]; omega) (by decide) Z Y fun a w11 s6 Z Y _ => wla Z rfl fun a Z => ab (hK16 _ _ ?_)
 replace Z : Fr 47 [(4, _), (5, _), (1, _), (8, _), (6, _)] [] a := Z.pick [4, 5, 1, 8, 6]
 replace Y : St No w0 [_] w11 := Y.mask [false, true]
 refine am <| wlm Z rfl fun a Z => wla Z rfl fun a Z => ab ?_
 rw [show (ou.map fun s => [sv s]) ++ ([[sv (rootH sha (cl.drop (lft cl.length)))]]) = ((ou ++ [rootH sha (cl.drop (lft cl.length))]).map fun s => [sv s]) from by simp] at Y
 have hm1 : (cl.take (lft cl.length)).length < cl.length := by simp only [List.length_take, List.length_drop]; omega
 refine ⟨_, ?_, (cut v 1 0 (lft cl.length) (slCap v)), (cl.take (lft cl.length)), ci, (ou ++ [rootH sha (cl.drop (lft cl.length))]), s6, rfl, hv.cut0 (h := lft cl.length) (by omega), (by simp only [List.length_take, List.length_drop]; omega), (by simp only [List.length_take, List.length_drop]; omega), (by simp only [List.length_append, List.length_take, List.length_drop, List.length_cons, List.length_nil]; omega), (fun s h => hcl s (List.mem_of_mem_take h)), (by rw [hpr, dr sha (by omega), if_pos (by omega)]; simp), Z.pick [4, 5, 0, 1, 6], Y.select [0] (by decide)⟩
 omega
theorem mc (lv : Value) (ls : List By) (w0 : World) (hlv : SlAt w0 lv 1 (ls.map fun s => [sv s])) :
  Ret Tryd.prog 72 #[lv, iv 0] w0 fun v w => v = .tuple #[.slice none 0 0, iv 0] ∧ Ext No w0 w := by
 refine aG Tryd.func72 rfl Tryd.ntmps72 (lb rfl) fun a Z => ?_
 replace Z : Fr 60 [(0, _), (1, _)] [] a := Z
 replace Y : St No w0 [] w0 := St.init w0
 refine aa fun K1 hK1 => wla Z rfl fun a Z => wla Z rfl fun a Z => ab (hK1 _ _ <| ac fun K2 hK2 => ?_)
 refine ap <| aa fun K3 hK3 => wlm Z rfl fun a Z => wlv Z ((v_lt rfl rfl).asb (b' := false) rfl) fun a Z => wlm Z rfl fun a Z => wly Z (ai rfl) fun a Z => wly Z (ai rfl) fun a Z => wly Z ((aM (sT := 45) (Y.arg hlv) rfl rfl (Tryd.runUnderlying45 _)).asi (m' := (ls.length : Int)) (by simp)) fun a Z => wly Z (v_gt rfl rfl) fun a Z => wlv Z (aw rfl rfl) fun a Z => wla Z rfl fun a Z => ab (hK3 _ _ ?_)
 replace Z : Fr 60 [(0, _), (1, _), (4, _), (5, _), (11, _)] [] a := Z.pick [0, 1, 4, 5, 11]
 refine aC Z rfl (fun hc1 => ?_) (fun hc1 => ?_)
 ·rw [hc1] at Z
  try simp only [qz] at hc1
  omega
 rw [hc1] at Z
 try simp only [qz] at hc1
 refine aa fun K4 hK4 => wlm Z rfl fun a Z => wlv Z ((v_eq rfl rfl).asb (b' := true) rfl) fun a Z => wla Z rfl fun a Z => ab (hK4 _ _ <| aB Z rfl ?_)
 refine aa fun K5 hK5 => wla Z rfl fun a Z => wla Z rfl fun a Z => ab (hK5 _ _ <| au ?_)
 refine aq Z Tryd.results72 (ae rfl (ae rfl ah)) ?_
 exact ⟨by rfl, Y.ext⟩
set_option maxHeartbeats 4000000 in
theorem nf (lv : Value) (ls : List By) (i : Nat) (w0 : World) (hlv : SlAt w0 lv 1 (ls.map fun s => [sv s])) (hi0 : 1 ≤ i) (hi : i ≤ ls.length) (hln : ls.length ≤ 1000) (hls : ∀ s ∈ ls, s.length ≤ 40000000) (hk0 : (blk 0 (kOf.map wv) 161).ok w0) :
  Ret Tryd.prog 72 #[lv, iv (i : Int)] w0 (MemR w0 (fun v : Value => .tuple #[v, iv 0]) (fun v => [own v 9 1 ((partH sha ls i true).map fun s => [sv s])]) (fun _ => True)) := by
 refine aG Tryd.func72 rfl Tryd.ntmps72 (lb rfl) fun a Z => ?_
 replace Z : Fr 60 [(0, _), (1, _)] [] a := Z
 replace Y : St No w0 [] w0 := St.init w0
 refine aa fun K1 hK1 => wla Z rfl fun a Z => wla Z rfl fun a Z => ab (hK1 _ _ <| ac fun K2 hK2 => ?_)
 refine ap <| aa fun K3 hK3 => wlm Z rfl fun a Z => wlv Z (v_lt rfl rfl) fun a Z => wlm Z rfl fun a Z => ?_
 rcases Bool.eq_false_or_eq_true (decide ((i : Int) < 0)) with hb1 | hb1
 ·rw [hb1] at Z
  try simp only [qz] at hb1
  omega
 rw [hb1] at Z
 try simp only [qz] at hb1
 refine wly Z (ai rfl) fun a Z => wly Z (ai rfl) fun a Z => wly Z ((aM (sT := 45) (Y.arg hlv) rfl rfl (Tryd.runUnderlying45 _)).asi (m' := (ls.length : Int)) (by simp)) fun a Z => wly Z (v_gt rfl rfl) fun a Z => wlv Z (aw rfl rfl) fun a Z => wla Z rfl fun a Z => ab (hK3 _ _ ?_)
 replace Z : Fr 60 [(0, _), (1, _), (4, _), (5, _), (11, _)] [] a := Z.pick [0, 1, 4, 5, 11]
 refine aC Z rfl (fun hc2 => ?_) (fun hc2 => ?_)
 ·rw [hc2] at Z
  try simp only [qz] at hc2
  omega
 rw [hc2] at Z
 try simp only [qz] at hc2
 refine aa fun K4 hK4 => wlm Z rfl fun a Z => wlv Z (v_eq rfl rfl) fun a Z => wla Z rfl fun a Z => ab (hK4 _ _ ?_)
 refine aC Z rfl (fun hc3 => ?_) (fun hc3 => ?_)
 ·rw [hc3] at Z
  try simp only [qz] at hc3
  omega
 rw [hc3] at Z
 try simp only [qz] at hc3
 refine ao <| hK2 _ _ <| aa fun K5 hK5 => wla Z rfl fun a Z => ab (hK5 _ _ <| aa fun K6 hK6 => ?_)
 refine wla Z rfl fun a Z => ab (hK6 _ _ <| ac fun K7 hK7 => ?_)
 refine ap ?_
 replace Y : St No w0 [own (.slice none 0 0) 9 1 (([] : List By).map fun s => [sv s])] w0 := Y.nil_own
 refine aT (fun m a w => ∃ (v : Value) (cl : List By) (ci : Nat) (wh : Bool) (ou : List By) (o : Value), m = cl.length ∧ (SlAt w0 v 1 (cl.map fun s => [sv s])) ∧ (1 ≤ ci) ∧ (ci ≤ cl.length) ∧ (cl.length ≤ 1000) ∧ (cl.length + ou.length ≤ 2000) ∧ (∀ s ∈ cl, s.length ≤ 40000000) ∧ (partH sha ls i true = partH sha cl ci wh ++ ou.reverse) ∧ Fr 60 [(4, .slice none 0 0), (5, iv 0), (0, v), (1, iv (ci : Int)), (6, o), (7, .bool wh)] [] a ∧ St No w0 [own o 9 1 (ou.map fun s => [sv s])] w) _ ⟨lv, ls, i, true, [], .slice none 0 0, rfl, hlv, hi0, hi, hln, (by simp; omega), hls, (by simp), Z.pick [4, 5, 0, 1, 6, 7], Y.select [0] (by decide)⟩ ?_
 rintro _ a w1 ⟨v, cl, ci, wh, ou, o, rfl, hv, hc0, hc1, hc2, hc3, hcl, hpr, Z, Y⟩
 refine ac fun K8 hK8 => aa fun K9 hK9 => wlm Z rfl fun a Z => wlm Z rfl fun a Z => wlv Z ((aM (sT := 45) (Y.arg hv) rfl rfl (Tryd.runUnderlying45 _)).asi (m' := (cl.length : Int)) (by simp)) fun a Z => wlv Z (v_lt rfl rfl) fun a Z => ab (hK9 _ _ ?_)
 refine aC Z rfl (fun hc4 => ?_) (fun hc4 => ?_)
 ·rw [hc4] at Z
  try simp only [qz] at hc4
  have hlt := ch (n := cl.length) (by omega)
  have hlp := bX cl.length
  refine ao <| hK8 _ _ <| ap <| aa fun K10 hK10 => wlm Z rfl fun a Z => wlv Z ((aM (sT := 45) (Y.arg hv) rfl rfl (Tryd.runUnderlying45 _)).asi (m' := (cl.length : Int)) (by simp)) fun a Z => al Z Y (by decide) Tryd.call82 rfl (e6 cl.length _ (by omega) (by omega)) ?_
  clear Z Y
  intro a w2 Z Y
  refine wla Z rfl fun a Z => ab (hK10 _ _ ?_)
  replace Z : Fr 60 [(4, _), (5, _), (0, _), (1, _), (6, _), (7, _), (8, _)] [] a := Z.pick [4, 5, 0, 1, 6, 7, 8]
  refine ac fun K11 hK11 => aN (by kernel_rfl) (aQ (by kernel_rfl) fun w3 hxz => ?_)
  replace Y := Y.grow hxz
  refine bp (k := 0) 7 [5, 6] Z (by kernel_rfl) (by kernel_rfl) (by kernel_rfl) (by rfl) ?_
  replace Z : Fr 60 [(4, _), (5, _), (0, _), (1, _), (6, _), (7, _), (8, _)] [] a := Z.pick [4, 5, 0, 1, 6, 7, 8]
  refine aI [] (fun i => match i with | _ => fun _ _ => False) 7 [[], [], [0, 1], [], [], [3, 4], [2]] [v, iv (lft cl.length : Int), (cut v 1 0 (lft cl.length) (slCap v)), v, iv (lft cl.length : Int), (cut v 1 (lft cl.length) cl.length (slCap v)), (cut v 1 0 (lft cl.length) (slCap v))] Z Y (by kernel_rfl) (by kernel_rfl) (by kernel_rfl) ?_ ?_ ?_
  ·intro i hi hiq
   match i, hi, hiq with
   | 0, _, _ =>
    intro w Y
    exact OpV.g (ai rfl)
   | 1, _, _ =>
    intro w Y
    exact OpV.g (ai rfl)
   | 2, _, _ =>
    intro w Y
    exact OpV.g (bU (l := 0) (h := (lft cl.length)) (Y.arg hv) rfl rfl rfl Tryd.underlying45 (by kernel_rfl) (.inl ⟨rfl, rfl⟩) (.inr (by rw [show ((lft cl.length : Int) : Int) = (((lft cl.length) : Nat) : Int) from by omega] <;> rfl)) (Nat.zero_le _) (by first | (rw [List.length_map]; omega) | (simp <;> omega)))
   | 3, _, _ =>
    intro w Y
    exact OpV.g (ai rfl)
   | 4, _, _ =>
    intro w Y
    exact OpV.g (ai rfl)
   | 5, _, _ =>
    intro w Y
    exact OpV.g (bU (l := (lft cl.length)) (h := cl.length) (Y.arg hv) rfl rfl rfl Tryd.underlying45 (by kernel_rfl) (.inr (by rw [show ((lft cl.length : Int) : Int) = (((lft cl.length) : Nat) : Int) from by omega] <;> rfl)) (.inl ⟨rfl, by simp⟩) (by omega) (by simp))
   | 6, _, _ =>
    intro w Y
    exact OpV.g (dk rfl)
  ·intro i hi
   exact absurd hi (by simp)
  clear Z Y
  intro  a w4 Z Y
  replace Z : Fr 60 [(30, v), (31, iv (lft cl.length : Int)), (32, (cut v 1 0 (lft cl.length) (slCap v))), (33, v), (34, iv (lft cl.length : Int)), (35, (cut v 1 (lft cl.length) cl.length (slCap v))), (9, (cut v 1 0 (lft cl.length) (slCap v))), (4, _), (5, _), (0, _), (1, _), (6, _), (7, _), (8, _)] [] a := Z
  refine ab <| bd (k := 7) 8 [7] (by kernel_rfl) (by kernel_rfl) (by kernel_rfl) ?_
  refine wla Z rfl fun a Z => ab <| bl (by kernel_rfl) ?_
  refine hK11 _ _ ?_
  replace Z : Fr 60 [(4, _), (5, _), (1, _), (6, _), (7, _), (8, _), (9, _), (10, _)] [] a := Z.pick [4, 5, 1, 6, 7, 8, 9, 10]
  refine ac fun K12 hK12 => aa fun K13 hK13 => wlm Z rfl fun a Z => wlm Z rfl fun a Z => wlv Z (v_gt rfl rfl) fun a Z => ab (hK13 _ _ ?_)
  refine aC Z rfl (fun hc5 => ?_) (fun hc5 => ?_)
  ·rw [hc5] at Z
   try simp only [qz] at hc5
   refine am <| wlm Z rfl fun a Z => wlm Z rfl fun a Z => wlm Z rfl fun a Z => wlm Z rfl fun a Z => wlv Z ((bh rfl rfl ⟨by omega, by omega⟩).asi (m' := ((ci - lft cl.length : Nat) : Int)) (by omega)) fun a Z => wla Z rfl fun a Z => wla Z rfl fun a Z => wla Z rfl fun a Z => wla Z rfl fun a Z => ab <| hK12 _ _ ?_
   replace Z : Fr 60 [(4, _), (5, _), (6, _), (9, _), (10, _), (1, _), (7, _)] [] a := Z.pick [4, 5, 6, 9, 10, 1, 7]
   refine aa fun K14 hK14 => wlm Z rfl fun a Z => wlm Z rfl fun a Z => al Z Y (by decide) Tryd.call63 rfl (dQ (cut v 1 0 (lft cl.length) (slCap v)) (cl.take (lft cl.length)) _ ((Y.arg hv).cut0 (h := (lft cl.length)) (by first | omega | (rw [List.length_reverse]; omega) | simp | (simp; omega))) (by first | omega | (simp only [List.length_take, List.length_drop]; omega)) (by intro k hk; have h := bx (d := []) hk; first | exact hcl _ h | exact hcl _ (List.mem_of_mem_take h) | exact hcl _ (List.mem_of_mem_drop h)) (Y.keepb hk0)) ?_
   clear Z Y
   intro a w5 Z Y
   refine aH (E := 9) (sz := 1) rfl [[sv (rootH sha (cl.take (lft cl.length)))]] (by kernel_rfl) (by simp) rfl (by decide) (by decide) Z Y ?_
   clear Z Y
   intro a w6 Z Y
   refine aR (i := 1) (sT := 45) (inf := Tryd.t9) (z := .string (⟨#[]⟩)) (b := 0) (off := 0) (m := 0) (c := 0) rfl rfl rfl (Y.ownAt (i := 0) rfl) (by simp) Tryd.underlying45 rfl rfl rfl rfl (by decide) (by simp [Value.oneCell', yv, wv, sv]) (by have hby : Tryd.t9.bytes = 16 := rfl; simp only [big, hby, List.length_append, List.length_map, List.length_cons, List.length_nil]; omega) (by have hby : Tryd.t9.bytes = 16 := rfl; simp only [big, hby, List.length_append, List.length_map, List.length_cons, List.length_nil]; omega) (by decide) Z Y fun a w7 s6 Z Y _ => wla Z rfl fun a Z => ab (hK14 _ _ ?_)
   replace Z : Fr 60 [(4, _), (5, _), (9, _), (1, _), (7, _), (6, _)] [] a := Z.pick [4, 5, 9, 1, 7, 6]
   replace Y : St No w0 [_] w7 := Y.mask [false, true]
   refine am <| wlm Z rfl fun a Z => wla Z rfl fun a Z => ab ?_
   rw [show (ou.map fun s => [sv s]) ++ ([[sv (rootH sha (cl.take (lft cl.length)))]]) = ((ou ++ [rootH sha (cl.take (lft cl.length))]).map fun s => [sv s]) from by simp] at Y
   have hm1 : (cl.drop (lft cl.length)).length < cl.length := by simp only [List.length_take, List.length_drop]; omega
   refine ⟨_, ?_, (cut v 1 (lft cl.length) cl.length (slCap v)), (cl.drop (lft cl.length)), (ci - lft cl.length), false, (ou ++ [rootH sha (cl.take (lft cl.length))]), s6, rfl, hv.cutd (l := lft cl.length) (by omega), (by omega), (by simp only [List.length_take, List.length_drop]; omega), (by simp only [List.length_take, List.length_drop]; omega), (by simp only [List.length_append, List.length_take, List.length_drop, List.length_cons, List.length_nil]; omega), (fun s h => hcl s (List.mem_of_mem_drop h)), (by rw [hpr, eC sha (by omega) (by omega), if_neg (by omega)]; simp), Z.pick [4, 5, 0, 1, 6, 7], Y.select [0] (by decide)⟩
   omega
  rw [hc5] at Z
  try simp only [qz] at hc5
  refine ao <| hK12 _ _ <| aa fun K15 hK15 => wlm Z rfl fun a Z => wlm Z rfl fun a Z => al Z Y (by decide) Tryd.call63 rfl (dQ (cut v 1 (lft cl.length) cl.length (slCap v)) (cl.drop (lft cl.length)) _ ((Y.arg hv).cutd (l := (lft cl.length)) (by first | omega | (rw [List.length_reverse]; omega) | simp | (simp; omega))) (by first | omega | (simp only [List.length_take, List.length_drop]; omega)) (by intro k hk; have h := bx (d := []) hk; first | exact hcl _ h | exact hcl _ (List.mem_of_mem_take h) | exact hcl _ (List.mem_of_mem_drop h)) (Y.keepb hk0)) ?_
  clear Z Y
  intro a w8 Z Y
  refine aH (E := 9) (sz := 1) rfl [[sv (rootH sha (cl.drop (lft cl.length)))]] (by kernel_rfl) (by simp) rfl (by decide) (by decide) Z Y ?_
  clear Z Y
  intro a w9 Z Y
  refine aR (i := 1) (sT := 45) (inf := Tryd.t9) (z := .string (⟨#[]⟩)) (b := 0) (off := 0) (m := 0) (c := 0) rfl rfl rfl (Y.ownAt (i := 0) rfl) (by simp) Tryd.underlying45 rfl rfl rfl rfl (by decide) (by simp [Value.oneCell', yv, wv, sv]) (by have hby : Tryd.t9.bytes = 16 := rfl; simp only [big, hby, List.length_append, List.length_map, List.length_cons, List.length_nil]; omega) (by have hby : Tryd.t9.bytes = 16 := rfl; simp only [big, hby, List.length_append, List.length_map, List.length_cons, List.length_nil]; omega) (by decide) Z Y fun a w10 s7 Z Y _ => wla Z rfl fun a Z => ab (hK15 _ _ ?_)
  replace Z : Fr 60 [(4, _), (5, _), (1, _), (7, _), (9, _), (6, _)] [] a := Z.pick [4, 5, 1, 7, 9, 6]
  replace Y : St No w0 [_] w10 := Y.mask [false, true]
  refine am <| wlm Z rfl fun a Z => wla Z rfl fun a Z => ab ?_
  rw [show (ou.map fun s => [sv s]) ++ ([[sv (rootH sha (cl.drop (lft cl.length)))]]) = ((ou ++ [rootH sha (cl.drop (lft cl.length))]).map fun s => [sv s]) from by simp] at Y
  have hm1 : (cl.take (lft cl.length)).length < cl.length := by simp only [List.length_take, List.length_drop]; omega
  refine ⟨_, ?_, (cut v 1 0 (lft cl.length) (slCap v)), (cl.take (lft cl.length)), ci, wh, (ou ++ [rootH sha (cl.drop (lft cl.length))]), s7, rfl, hv.cut0 (h := lft cl.length) (by omega), (by omega), (by simp only [List.length_take, List.length_drop]; omega), (by simp only [List.length_take, List.length_drop]; omega), (by simp only [List.length_append, List.length_take, List.length_drop, List.length_cons, List.length_nil]; omega), (fun s h => hcl s (List.mem_of_mem_take h)), (by rw [hpr, eC sha (by omega) (by omega), if_pos (by omega)]; simp), Z.pick [4, 5, 0, 1, 6, 7], Y.select [0] (by decide)⟩
  omega
 rw [hc4] at Z
 try simp only [qz] at hc4
 obtain rfl : ci = cl.length := by omega
 rw [dU] at hpr
 refine aF <| hK7 _ _ <| ac fun K16 hK16 => aa fun K17 hK17 => wlm Z rfl fun a Z => wlv Z (bq rfl) fun a Z => ab (hK17 _ _ ?_)
 replace Z : Fr 60 [(4, _), (5, _), (0, _), (6, _), (51, _)] [] a := Z.pick [4, 5, 0, 6, 51]
 refine aC Z rfl (fun hc8 => ?_) (fun hc8 => ?_)
 ·rw [hc8] at Z
  try simp only [qz] at hc8
  refine am <| wlm Z rfl fun a Z => wlm Z rfl fun a Z => al Z Y (by decide) Tryd.call63 rfl (dQ v cl _ (Y.arg hv) (by first | omega | (simp only [List.length_take, List.length_drop]; omega)) (by intro k hk; have h := bx (d := []) hk; first | exact hcl _ h | exact hcl _ (List.mem_of_mem_take h) | exact hcl _ (List.mem_of_mem_drop h)) (Y.keepb hk0)) ?_
  clear Z Y
  intro a w11 Z Y
  refine aH (E := 9) (sz := 1) rfl [[sv (rootH sha cl)]] (by kernel_rfl) (by simp) rfl (by decide) (by decide) Z Y ?_
  clear Z Y
  intro a w12 Z Y
  refine aR (i := 1) (sT := 45) (inf := Tryd.t9) (z := .string (⟨#[]⟩)) (b := 0) (off := 0) (m := 0) (c := 0) rfl rfl rfl (Y.ownAt (i := 0) rfl) (by simp) Tryd.underlying45 rfl rfl rfl rfl (by decide) (by simp [Value.oneCell', yv, wv, sv]) (by have hby : Tryd.t9.bytes = 16 := rfl; simp only [big, hby, List.length_append, List.length_map, List.length_cons, List.length_nil]; omega) (by have hby : Tryd.t9.bytes = 16 := rfl; simp only [big, hby, List.length_append, List.length_map, List.length_cons, List.length_nil]; omega) (by decide) Z Y fun a w13 s9 Z Y _ => wla Z rfl fun a Z => ab <| hK16 _ _ ?_
  replace Z : Fr 60 [(4, _), (5, _), (6, _)] [] a := Z.pick [4, 5, 6]
  replace Y : St No w0 [_] w13 := Y.mask [false, true]
  refine aa fun K18 hK18 => wlm Z rfl fun a Z => ?_
  rw [show (ou.map fun s => [sv s]) ++ ([[sv (rootH sha cl)]]) = ((ou ++ [rootH sha cl]).map fun s => [sv s]) from by simp] at Y
  refine fm (e' := own s9 9 1 ((ou ++ [rootH sha cl]).reverse.map fun s => [sv s])) 0 Z Y (by decide) Tryd.call83 rfl rfl (fun _ h => h) (ei _ _ _ _ (Y.get (k := 0) rfl)) rfl ?_
  clear Z Y
  intro a w14 Z Y
  refine ab (hK18 _ _ <| aa fun K19 hK19 => ?_)
  refine wlm Z rfl fun a Z => wla Z rfl fun a Z => wla Z rfl fun a Z => ab (hK19 _ _ <| au ?_)
  refine aq Z Tryd.results72 (ae rfl (ae rfl ah)) ?_
  have hwh : wh = false := by assumption
  rw [hwh] at hpr
  simp only [if_true, if_false, Bool.false_eq_true, List.nil_append] at hpr
  refine ⟨s9, rfl, trivial, Y.ext, St.out (E := [own s9 9 1 ((partH sha ls i true).map fun s => [sv s])]) (H := []) ?_⟩
  rw [hpr]; rw [List.reverse_append] at Y; exact Y
 rw [hc8] at Z
 try simp only [qz] at hc8
 refine ao <| hK16 _ _ <| aa fun K20 hK20 => wlm Z rfl fun a Z => fm (e' := own o 9 1 (ou.reverse.map fun s => [sv s])) 0 Z Y (by decide) Tryd.call83 rfl rfl (fun _ h => h) (ei _ _ _ _ (Y.get (k := 0) rfl)) rfl ?_
 clear Z Y
 intro a w15 Z Y
 refine ab (hK20 _ _ <| aa fun K21 hK21 => ?_)
 refine wlm Z rfl fun a Z => wla Z rfl fun a Z => wla Z rfl fun a Z => ab (hK21 _ _ ?_)
 replace Z : Fr 60 [(4, _), (5, _)] [] a := Z.pick [4, 5]
 refine au ?_
 refine aq Z Tryd.results72 (ae rfl (ae rfl ah)) ?_
 have hwh : wh = true := by assumption
 rw [hwh] at hpr
 simp only [if_true, if_false, Bool.false_eq_true, List.nil_append] at hpr
 refine ⟨o, rfl, trivial, Y.ext, St.out (E := [own o 9 1 ((partH sha ls i true).map fun s => [sv s])]) (H := []) ?_⟩
 rw [hpr]; exact Y
end Go.Proofs.YtddfkkdanpmnaaaDoor
namespace Go.Proofs.YtddfkkdanpmnaaaDoor
open Go.RowKit Go.PW
set_option linter.unusedVariables false
set_option linter.unusedSimpArgs false
set_option maxRecDepth 4000
def encD (xs : List (By × Bool)) (k : Nat) : List Value := [iv (k : Int), .agg #[sv (xs.getD k ([], false)).1, .bool (xs.getD k ([], false)).2]]
theorem kj {M : Nat → Prop} {w0 : World} (v : Value) (xs : List (By × Bool)) (lp b1 : Nat) (J Jx : List Nat → Ent → Prop) (hY : Rounds Tryd.prog M w0 lp (encD xs) (NxB xs.length) J Jx) (e0 : Ent) (ws : World) (hn : xs.length ≤ 1000000) (hJ : J [] e0) (Y : St M w0 [e0, blk b1 [v] 125, own v 129 2 (xs.map fun x : By × Bool => [sv x.1, .bool x.2])] ws) :
  Ret Tryd.prog 101 #[.func (.yield lp) #[] #[], pt b1] ws fun _ w => ∃ e1 Hi1, St M w0 (e1 :: Hi1) w ∧ ((∃ ys, (ys = backs xs.length xs.length ∧ Hi1 = [blk b1 [v] 125, own v 129 2 (xs.map fun x : By × Bool => [sv x.1, .bool x.2])]) ∧ J ys e1) ∨ (∃ pre, Hi1 = [blk b1 [v] 125, own v 129 2 (xs.map fun x : By × Bool => [sv x.1, .bool x.2])] ∧ Jx pre e1)) := by
 refine aG Tryd.func101 rfl Tryd.ntmps101 (lb rfl) fun a Z => ?_
 replace Z : Fr 19 [(0, _), (1, _)] [] a := Z
 skip
 refine aa fun K1 hK1 => wlv Z (aj (Y.get (k := 1) rfl) rfl (Tryd.isAgg125 _) rfl) fun a Z => wlv Z ((aM (sT := 125) (Y.ownAt (i := 2) rfl) rfl rfl (Tryd.runUnderlying125 _)).asi (m' := (xs.length : Int)) (by simp)) fun a Z => wlv Z (bh rfl rfl ⟨by omega, by omega⟩) fun a Z => wla Z rfl fun a Z => ab (hK1 _ _ <| ap ?_)
 rw [show (xs.length : Int) - 1 = (xs.length : Int) - 1 - ((0 : Nat) : Int) from by omega] at Z
 refine aT (fun m a w => ∃ (j : Nat) (e : Ent), m = xs.length - j ∧ (j ≤ xs.length) ∧ (J (backs xs.length j) e) ∧ Fr 19 [(0, .func (.yield lp) #[] #[]), (1, pt b1), (3, iv ((xs.length : Int) - 1 - (j : Int)))] [] a ∧ St M w0 [e, blk b1 [v] 125, own v 129 2 (xs.map fun x : By × Bool => [sv x.1, .bool x.2])] w) _ ⟨0, e0, rfl, Nat.zero_le _, hJ, Z.pick [0, 1, 3], Y⟩ ?_
 rintro _ a w1 ⟨j, e, rfl, hj, hJ, Z, Y⟩
 refine ac fun K2 hK2 => aa fun K3 hK3 => wlm Z rfl fun a Z => wlv Z (v_ge rfl rfl) fun a Z => ab (hK3 _ _ ?_)
 refine aC Z rfl (fun hc1 => ?_) (fun hc1 => ?_)
 ·rw [hc1] at Z
  try simp only [qz] at hc1
  have hjl : j < xs.length := by omega
  refine ao <| hK2 _ _ <| ac fun K4 hK4 => ap ?_
  have hidx : (xs.length : Int) - 1 - (j : Int) = ((xs.length - 1 - j : Nat) : Int) := by omega
  refine aa fun K5 hK5 => wlm Z rfl fun a Z => wlm Z rfl fun a Z => wlv Z (aj (Y.get (k := 1) rfl) rfl (Tryd.isAgg125 _) rfl) fun a Z => wlm Z rfl fun a Z => wlv Z ((ak (i := (xs.length : Int) - 1 - (j : Int)) (sT := 125) (Y.ownAt (i := 2) rfl) rfl rfl (Tryd.runUnderlying125 _) (Tryd.sizeOf129 _) (by omega) (by simp; omega)).as (v' := slAddr v ((xs.length - 1 - j) * 2)) (by rw [show ((xs.length : Int) - 1 - (j : Int)).toNat = (xs.length - 1 - j) from by omega])) fun a Z => wlv Z ((cA (Y.ownAt (i := 2) rfl) (i := (xs.length - 1 - j)) (by simp; omega) rfl (Tryd.isAgg129 _) (Tryd.sizeOf129 _)).as (v' := .agg #[sv ((xs.getD (xs.length - 1 - j) ([], false)).1), .bool ((xs.getD (xs.length - 1 - j) ([], false)).2)]) (by rw [bE ([], false)])) fun a Z => ?_
  rw [hidx] at Z
  refine wl_r (eq rfl rfl (hY.yield (pre := backs xs.length j) (x := xs.length - 1 - j) (by show xs.length - 1 - j + 1 + (backs xs.length j).length = xs.length; rw [dp]; omega) hJ (Y.only (i := 0) rfl))) rfl rfl Z ?_
  clear Z
  intro a v w2 hR Z
  obtain ⟨y2, e3, rfl, hx, hok, hft, hJt, hJf⟩ := hR
  replace Y := Y.exchange (k := 0) rfl hx hok hft
  replace Y : St M w0 [e3, blk b1 [v] 125, own v 129 2 (xs.map fun x : By × Bool => [sv x.1, .bool x.2])] w2 := Y
  clear hx hok hft
  refine wlv Z (bq rfl) fun a Z => ab (hK5 _ _ ?_)
  replace Z : Fr 19 [(0, _), (1, _), (3, _), (18, _)] [] a := Z.pick [0, 1, 3, 18]
  refine aC Z rfl (fun hc4 => ?_) (fun hc4 => ?_)
  ·rw [hc4] at Z
   try simp only [qz] at hc4
   have hJ := hJf hc4
   refine au ?_
   refine aq Z Tryd.results101 ah ?_
   exact ⟨_, _, Y, .inr ⟨_, rfl, hJ⟩⟩
  rw [hc4] at Z
  try simp only [qz] at hc4
  have hJ := hJt hc4
  refine ao <| hK4 _ _ <| am <| wlm Z rfl fun a Z => wlv Z (bh rfl rfl ⟨by omega, by omega⟩) fun a Z => wla Z rfl fun a Z => ab ?_
  rw [show ((xs.length - 1 - j : Nat) : Int) - 1 = (xs.length : Int) - 1 - ((j + 1 : Nat) : Int) from by omega] at Z
  refine ⟨_, ?_, j + 1, e3, rfl, (by omega), hJ, Z.pick [0, 1, 3], Y⟩
  omega
 rw [hc1] at Z
 try simp only [qz] at hc1
 obtain rfl : j = xs.length := by omega
 refine aF ?_
 refine c7 Z Tryd.results101 ah ?_
 exact ⟨_, _, Y, .inl ⟨_, ⟨rfl, rfl⟩, hJ⟩⟩
theorem el {M : Nat → Prop} {w0 : World} (v : Value) (xs : List (By × Bool)) (b1 : Nat) (hn : xs.length ≤ 1000000) :
  Iter Tryd.prog 101 [pt b1] (encD xs) (NxB xs.length) (fun ys Hi => ys = backs xs.length xs.length ∧ Hi = [blk b1 [v] 125, own v 129 2 (xs.map fun x : By × Bool => [sv x.1, .bool x.2])]) (fun pre Hi => Hi = [blk b1 [v] 125, own v 129 2 (xs.map fun x : By × Bool => [sv x.1, .bool x.2])]) M w0 [blk b1 [v] 125, own v 129 2 (xs.map fun x : By × Bool => [sv x.1, .bool x.2])] :=
 fun lp J Jx w e hY hJ Y => kj v xs lp b1 J Jx hY e w hn hJ Y
theorem fp (v : Value) (els : List (List Value)) (w0 : World) (hv : SlAt w0 v 2 els) :
  Ret Tryd.prog 86 #[v] w0 (MemR w0 (fun z : Nat => .func (.func 101) #[] #[pt z]) (fun z => [blk z [v] 125]) (fun _ => True)) := by
 refine aG Tryd.func86 rfl Tryd.ntmps86 (lb rfl) fun a Z => ?_
 replace Z : Fr 4 [(0, _)] [] a := Z
 replace Y : St No w0 [] w0 := St.init w0
 refine aa fun K1 hK1 => bn Z Y (by decide) rfl (cs := [v]) (by rw [(Y.arg hv).cells]) ?_
 clear Z Y
 intro a w1 Z Y
 refine wla Z rfl fun a Z => ab (hK1 _ _ <| aa fun K2 hK2 => ?_)
 refine wlv Z (cj rfl rfl) fun a Z => wla Z rfl fun a Z => ab (hK2 _ _ <| au ?_)
 refine aq Z Tryd.results86 (ae rfl ah) ?_
 exact ⟨w0.heap.size, rfl, trivial, Y.ext, St.out (H := []) Y⟩
end Go.Proofs.YtddfkkdanpmnaaaDoor
namespace Go.Proofs.YtddfkkdanpmnaaaDoor
open Go.RowKit Go.PW
set_option linter.unusedVariables false
set_option linter.unusedSimpArgs false
set_option maxRecDepth 4000
def joinH (x : By × Bool) (o : By) : By := sha (1 :: (if x.2 then x.1 ++ o else o ++ x.1))
theorem bZ {α : Type} (f : By × Bool → α → α) (l : List (By × Bool)) (r : α) : (backs l.length l.length).foldl (fun o k => f (l.getD k ([], false)) o) r = l.foldr f r := by
 rw [ee (fun o x => f x o) ([], false) _ _ _ (Nat.le_refl _), Nat.sub_self, List.drop_zero, List.foldl_reverse]
theorem dV {p : List By} (h : 0 < p.length) : p = p.take (p.length - 1) ++ [p.getD (p.length - 1) []] := by
 conv => lhs; rw [← List.take_length (l := p), show p.length = p.length - 1 + 1 from by omega, cy [] (by omega)]
theorem jl {n i : Nat} {s : By} {p : List By} (h : 2 ≤ n) (hp : 0 < p.length) (hi : i < lft n) : valueH sha n i s p = (joinH (p.getD (p.length - 1) [], false) (valueH sha (lft n) i s (p.take (p.length - 1))).1, (valueH sha (lft n) i s (p.take (p.length - 1))).2) := by
 conv => lhs; rw [dV hp, da sha h, if_pos hi]
 rfl
theorem hT {n i : Nat} {s : By} {p : List By} (h : 2 ≤ n) (hp : 0 < p.length) (hi : lft n ≤ i) : valueH sha n i s p = (joinH (p.getD (p.length - 1) [], true) (valueH sha (n - lft n) (i - lft n) s (p.take (p.length - 1))).1, (valueH sha (n - lft n) (i - lft n) s (p.take (p.length - 1))).2) := by
 conv => lhs; rw [dV hp, da sha h, if_neg (by omega)]
 rfl
theorem eg {root : By} {n i : Int} {s : By} {p : List By} (h : ¬ (0 ≤ i ∧ i < n ∧ (p.all fun x => decide (x.length = 32)) = true)) : cr sha root n i s p = false := by
 cases hv : cr sha root n i s p with
 | false => rfl
 | true =>
  unfold cr at hv
  simp only [Bool.and_eq_true, decide_eq_true_eq] at hv
  exact absurd ⟨hv.1.1.1.1, hv.1.1.1.2, hv.1.1.2⟩ h
theorem l8 {root : By} {n i cn ci : Nat} {s : By} {p cp : List By} {way : List (By × Bool)} (hval : valueH sha n i s p = (way.foldr joinH (valueH sha cn ci s cp).1, (valueH sha cn ci s cp).2)) (hc : cp.length = 0) (h2 : 2 ≤ cn) : cr sha root n i s p = false := by
 obtain rfl : cp = [] := List.eq_nil_of_length_eq_zero hc
 rw [i4 sha h2] at hval
 unfold cr
 rw [Int.toNat_natCast, Int.toNat_natCast, hval]
 simp
theorem jZ {root : By} {n i cn ci : Nat} {s : By} {p cp : List By} {way : List (By × Bool)} (hval : valueH sha n i s p = (way.foldr joinH (valueH sha cn ci s cp).1, (valueH sha cn ci s cp).2)) (h1 : i < n) (hall : (p.all fun x => decide (x.length = 32)) = true) (h2 : cn ≤ 1) : cr sha root n i s p = (decide (cp.length = 0) && decide (way.foldr joinH (leafH sha s) = root)) := by
 rw [fL sha h2] at hval
 unfold cr
 rw [Int.toNat_natCast, Int.toNat_natCast, hval, hall]
 have : cp.isEmpty = decide (cp.length = 0) := by cases cp <;> simp
 simp [this, h1]
theorem all32 {p : List By} (h : (p.all fun x => decide (x.length = 32)) = true) : ∀ x ∈ p, x.length = 32 := by
 intro x hx; simpa using List.all_eq_true.1 h x hx
theorem ip (lv : Value) (xs : List By) (w0 : World) (hlv : SlAt w0 lv 1 (xs.map fun s => [sv s])) (h0 : xs.length = 0) :
  Ret Tryd.prog 85 #[lv] w0 fun v w => v = .tuple #[sv [], .slice none 0 0, .bool false] ∧ Ext No w0 w := by
 refine aG Tryd.func85 rfl Tryd.ntmps85 (lb rfl) fun a Z => ?_
 replace Z : Fr 19 [(0, _)] [] a := Z
 replace Y : St No w0 [] w0 := St.init w0
 refine aa fun K1 hK1 => wla Z rfl fun a Z => wla Z rfl fun a Z => wla Z rfl fun a Z => ab (hK1 _ _ <| ac fun K2 hK2 => ?_)
 refine aa fun K3 hK3 => wlm Z rfl fun a Z => wlv Z ((aM (sT := 45) (Y.arg hlv) rfl rfl (Tryd.runUnderlying45 _)).asi (m' := (xs.length : Int)) (by simp)) fun a Z => wlv Z (v_eq rfl rfl) fun a Z => ab (hK3 _ _ ?_)
 refine aC Z rfl (fun hc1 => ?_) (fun hc1 => ?_)
 ·rw [hc1] at Z
  try simp only [qz] at hc1
  refine aa fun K4 hK4 => wla Z rfl fun a Z => wla Z rfl fun a Z => wla Z rfl fun a Z => ab (hK4 _ _ <| au ?_)
  refine aq Z Tryd.results85 (ae rfl (ae rfl (ae rfl ah))) ?_
  exact ⟨by rfl, Y.ext⟩
 rw [hc1] at Z
 try simp only [qz] at hc1
 omega
set_option maxHeartbeats 4000000 in
theorem kA (root s : By) (n i : Int) (lv : Value) (ls : List By) (w0 : World) (hlv : SlAt w0 lv 1 (ls.map fun s => [sv s])) (hln : ls.length ≤ 1000) (hs : s.length ≤ 40000000) (hn : n ≤ 9223372036854775807) (hk0 : (blk 0 (kOf.map wv) 161).ok w0) :
  Ret Tryd.prog 66 #[sv root, iv n, iv i, sv s, lv] w0 fun v w => v = .bool (cr sha root n i s ls) ∧ Ext No w0 w := by
 refine aG Tryd.func66 rfl Tryd.ntmps66 (lb rfl) fun a Z => ?_
 replace Z : Fr 79 [(0, _), (1, _), (2, _), (3, _), (4, _)] [] a := Z
 replace Y : St (· = 0) w0 [blk 0 (kOf.map wv) 161] w0 := St.one hk0
 refine aa fun K1 hK1 => wla Z rfl fun a Z => ab (hK1 _ _ <| ac fun K2 hK2 => ?_)
 refine aa fun K3 hK3 => wlm Z rfl fun a Z => wlv Z (v_lt rfl rfl) fun a Z => wlm Z rfl fun a Z => ?_
 rcases Bool.eq_false_or_eq_true (decide (i < 0)) with hb1 | hb1
 ·rw [hb1] at Z
  try simp only [qz] at hb1
  refine wln Z fun a Z => wln Z fun a Z => wln Z fun a Z => wlv Z (aE rfl rfl) fun a Z => wlm Z rfl fun a Z => wln Z fun a Z => wln Z fun a Z => wln Z fun a Z => ?_
  refine wlv Z (aE rfl rfl) fun a Z => ab (hK3 _ _ ?_)
  replace Z : Fr 79 [(0, _), (1, _), (2, _), (3, _), (4, _), (10, _), (30, _)] [] a := Z.pick [0, 1, 2, 3, 4, 10, 30]
  refine aB Z rfl ?_
  refine aa fun K4 hK4 => wla Z rfl fun a Z => ab (hK4 _ _ <| au ?_)
  refine aq Z Tryd.results66 (ae rfl ah) ?_
  exact ⟨by simp only [retv]; rw [eg (by rintro ⟨h1, h2, h3⟩; first | omega | simp_all)], Y.ext.const hk0 (Y.get (k := 0) rfl)⟩
 rw [hb1] at Z
 try simp only [qz] at hb1
 refine wly Z (ai rfl) fun a Z => wly Z (ai rfl) fun a Z => wly Z (v_ge rfl rfl) fun a Z => wlv Z (aw rfl rfl) fun a Z => wlm Z rfl fun a Z => ?_
 rcases Bool.eq_false_or_eq_true (decide (n ≤ i)) with hb2 | hb2
 ·rw [hb2] at Z
  try simp only [qz] at hb2
  refine wln Z fun a Z => wln Z fun a Z => wln Z fun a Z => wlv Z (aE rfl rfl) fun a Z => ab (hK3 _ _ ?_)
  replace Z : Fr 79 [(0, _), (1, _), (2, _), (3, _), (4, _), (10, _), (30, _)] [] a := Z.pick [0, 1, 2, 3, 4, 10, 30]
  refine aB Z rfl ?_
  refine aa fun K5 hK5 => wla Z rfl fun a Z => ab (hK5 _ _ <| au ?_)
  refine aq Z Tryd.results66 (ae rfl ah) ?_
  exact ⟨by simp only [retv]; rw [eg (by rintro ⟨h1, h2, h3⟩; first | omega | simp_all)], Y.ext.const hk0 (Y.get (k := 0) rfl)⟩
 rw [hb2] at Z
 try simp only [qz] at hb2
 refine wly Z (ai rfl) fun a Z => aW Z Y (by decide) rfl (by decide) rfl Tryd.call84 rfl (lz lv ls _ (hlv.grow (Y.ext.const hk0 (Y.get (k := 0) rfl)))) ?_
 clear Z Y
 intro a w1 Z Y
 refine wly Z (bq rfl) fun a Z => wlv Z (aw rfl rfl) fun a Z => ab (hK3 _ _ ?_)
 replace Z : Fr 79 [(0, _), (1, _), (2, _), (3, _), (4, _), (10, _), (30, _)] [] a := Z.pick [0, 1, 2, 3, 4, 10, 30]
 refine aC Z rfl (fun hc3 => ?_) (fun hc3 => ?_)
 ·rw [hc3] at Z
  try simp only [qz] at hc3
  have hall := hc3
  refine aa fun K6 hK6 => wla Z rfl fun a Z => ab (hK6 _ _ <| au ?_)
  refine aq Z Tryd.results66 (ae rfl ah) ?_
  exact ⟨by simp only [retv]; rw [eg (by rintro ⟨h1, h2, h3⟩; first | omega | simp_all)], Y.ext.const hk0 (Y.get (k := 0) rfl)⟩
 rw [hc3] at Z
 try simp only [qz] at hc3
 have hall := hc3
 refine ao <| hK2 _ _ <| aa fun K7 hK7 => wla Z rfl fun a Z => ab (hK7 _ _ <| ac fun K8 hK8 => ?_)
 refine ap ?_
 obtain ⟨nn, rfl⟩ := Int.eq_ofNat_of_zero_le (show 0 ≤ n by omega)
 obtain ⟨ii, rfl⟩ := Int.eq_ofNat_of_zero_le (show 0 ≤ i by omega)
 have hl32 := all32 hall
 replace Y : St (· = 0) w0 [own (.slice none 0 0) 129 2 (([] : List (By × Bool)).map fun x : By × Bool => [sv x.1, .bool x.2]), blk 0 (kOf.map wv) 161] w1 := Y.nil_own
 refine aT (fun m a w => ∃ (cn : Nat) (ci : Nat) (pz : Value) (cp : List By) (way : List (By × Bool)) (u : Value), m = cp.length ∧ (SlAt w0 pz 1 (cp.map fun s => [sv s])) ∧ (ci < cn) ∧ (cn ≤ 9223372036854775807) ∧ (way.length + cp.length ≤ 1000) ∧ (∀ x ∈ cp, x.length = 32) ∧ (∀ x ∈ way, x.1.length = 32) ∧ (valueH sha nn ii s ls = (way.foldr joinH (valueH sha cn ci s cp).1, (valueH sha cn ci s cp).2)) ∧ Fr 79 [(0, sv root), (3, sv s), (1, iv (cn : Int)), (2, iv (ci : Int)), (4, pz), (11, u)] [] a ∧ St (· = 0) w0 [own u 129 2 (way.map fun x : By × Bool => [sv x.1, .bool x.2]), blk 0 (kOf.map wv) 161] w) _ ⟨nn, ii, lv, ls, [], .slice none 0 0, rfl, hlv, (by omega), (by omega), (by simp; omega), hl32, (by simp), rfl, Z.pick [0, 3, 1, 2, 4, 11], Y.select [0, 1] (by decide)⟩ ?_
 rintro _ a w2 ⟨cn, ci, pz, cp, way, u, rfl, hpv, hc1, hc2, hc3, hcp, hway, hval, Z, Y⟩
 refine ac fun K9 hK9 => aa fun K10 hK10 => wlm Z rfl fun a Z => wlv Z (v_gt rfl rfl) fun a Z => ab (hK10 _ _ ?_)
 refine aC Z rfl (fun hc4 => ?_) (fun hc4 => ?_)
 ·rw [hc4] at Z
  try simp only [qz] at hc4
  refine ao <| hK9 _ _ <| ap <| aa fun K11 hK11 => wlm Z rfl fun a Z => ?_
  rcases Bool.eq_false_or_eq_true (decide (cp.length = 0)) with hb5 | hb5
  ·try simp only [qz] at hb5
   refine al Z Y (by decide) Tryd.call85 rfl (ip pz cp _ (hpv.grow (Y.ext.const hk0 (Y.get (k := 1) rfl))) (by omega)) ?_
   clear Z Y
   intro a w3 Z Y
   refine wlm Z rfl fun a Z => wlv Z (ag rfl rfl) fun a Z => wlv Z (ag rfl rfl) fun a Z => wlv Z (ag rfl rfl) fun a Z => wla Z rfl fun a Z => wla Z rfl fun a Z => wla Z rfl fun a Z => ab (hK11 _ _ ?_)
   replace Z : Fr 79 [(0, _), (3, _), (1, _), (2, _), (4, _), (11, _), (12, _), (13, _), (14, _)] [] a := Z.pick [0, 3, 1, 2, 4, 11, 12, 13, 14]
   refine ac fun K12 hK12 => aa fun K13 hK13 => wlm Z rfl fun a Z => wlv Z ((bq rfl).asb (b' := true) rfl) fun a Z => ab (hK13 _ _ <| aB Z rfl ?_)
   refine aa fun K14 hK14 => wla Z rfl fun a Z => ab (hK14 _ _ <| au ?_)
   refine aq Z Tryd.results66 (ae rfl ah) ?_
   exact ⟨by simp only [retv]; rw [l8 hval (by omega) (by omega)], Y.ext.const hk0 (Y.get (k := 1) rfl)⟩
  try simp only [qz] at hb5
  have hlt := ch (n := cn) (by omega)
  have hlp := bX cn
  have hx32 : (cp.getD (cp.length - 1) []).length = 32 := hcp _ (bx (by omega))
  refine al Z Y (by decide) Tryd.call85 rfl (jQ pz cp _ (hpv.grow (Y.ext.const hk0 (Y.get (k := 1) rfl))) (by omega)) ?_
  clear Z Y
  intro a w4 Z Y
  refine wlm Z rfl fun a Z => wlv Z (ag rfl rfl) fun a Z => wlv Z (ag rfl rfl) fun a Z => wlv Z (ag rfl rfl) fun a Z => wla Z rfl fun a Z => wla Z rfl fun a Z => wla Z rfl fun a Z => ab (hK11 _ _ ?_)
  replace Z : Fr 79 [(0, _), (3, _), (1, _), (2, _), (4, _), (11, _), (12, _), (13, _), (14, _)] [] a := Z.pick [0, 3, 1, 2, 4, 11, 12, 13, 14]
  refine ac fun K15 hK15 => aa fun K16 hK16 => wlm Z rfl fun a Z => wlv Z ((bq rfl).asb (b' := false) rfl) fun a Z => ab (hK16 _ _ <| av Z rfl ?_)
  refine ao <| hK15 _ _ <| aa fun K17 hK17 => wlm Z rfl fun a Z => wla Z rfl fun a Z => ab (hK17 _ _ <| aa fun K18 hK18 => ?_)
  refine wlm Z rfl fun a Z => al Z Y (by decide) Tryd.call82 rfl (e6 cn _ (by omega) (by omega)) ?_
  clear Z Y
  intro a w5 Z Y
  refine wla Z rfl fun a Z => ab (hK18 _ _ ?_)
  replace Z : Fr 79 [(0, _), (3, _), (1, _), (2, _), (11, _), (12, _), (4, _), (15, _)] [] a := Z.pick [0, 3, 1, 2, 11, 12, 4, 15]
  refine aa fun K19 hK19 => wlm Z rfl fun a Z => wlm Z rfl fun a Z => wlm Z rfl fun a Z => wlm Z rfl fun a Z => wlv Z (v_ge rfl rfl) fun a Z => wlv Z (bt (v := .agg #[sv (cp.getD (cp.length - 1) []), .bool (decide ((lft cn : Int) ≤ (ci : Int)))]) rfl (by kernel_rfl)) fun a Z => aH (E := 129) (sz := 2) rfl [[sv (cp.getD (cp.length - 1) []), .bool (decide ((lft cn : Int) ≤ (ci : Int)))]] (by kernel_rfl) (by simp) rfl (by decide) (by decide) Z Y ?_
  clear Z Y
  intro a w6 Z Y
  refine aR (i := 1) (sT := 125) (inf := Tryd.t129) (z := .agg #[.string (⟨#[]⟩), .bool false]) (b := 0) (off := 0) (m := 0) (c := 0) rfl rfl rfl (Y.ownAt (i := 0) rfl) (by simp) Tryd.underlying125 rfl rfl rfl rfl (by decide) (by simp [Value.oneCell', yv, wv, sv]) (by have hby : Tryd.t129.bytes = 24 := rfl; simp only [big, hby, List.length_append, List.length_map, List.length_cons, List.length_nil]; omega) (by have hby : Tryd.t129.bytes = 24 := rfl; simp only [big, hby, List.length_append, List.length_map, List.length_cons, List.length_nil]; omega) (by decide) Z Y fun a w7 s6 Z Y _ => wla Z rfl fun a Z => ab (hK19 _ _ ?_)
  replace Z : Fr 79 [(0, _), (3, _), (1, _), (2, _), (4, _), (15, _), (11, _)] [] a := Z.pick [0, 3, 1, 2, 4, 15, 11]
  replace Y : St (· = 0) w0 [_, _] w7 := Y.mask [false, true, true]
  refine aa fun K20 hK20 => wlm Z rfl fun a Z => wlm Z rfl fun a Z => wlv Z (v_ge rfl rfl) fun a Z => ab (hK20 _ _ ?_)
  refine aC Z rfl (fun hc7 => ?_) (fun hc7 => ?_)
  ·rw [hc7] at Z
   try simp only [qz] at hc7
   refine am <| wlm Z rfl fun a Z => wlm Z rfl fun a Z => wlv Z ((bh rfl rfl ⟨by omega, by omega⟩).asi (m' := ((cn - lft cn : Nat) : Int)) (by omega)) fun a Z => wlm Z rfl fun a Z => wlm Z rfl fun a Z => wlv Z ((bh rfl rfl ⟨by omega, by omega⟩).asi (m' := ((ci - lft cn : Nat) : Int)) (by omega)) fun a Z => wla Z rfl fun a Z => wla Z rfl fun a Z => ab ?_
   rw [show (way.map fun x : By × Bool => [sv x.1, .bool x.2]) ++ ([[sv (cp.getD (cp.length - 1) []), .bool (decide ((lft cn : Int) ≤ (ci : Int)))]]) = ((way ++ [(cp.getD (cp.length - 1) [], true)]).map fun x : By × Bool => [sv x.1, .bool x.2]) from by rw [decide_eq_true (by omega)]; simp] at Y
   have hm1 : (cp.take (cp.length - 1)).length < cp.length := by rw [List.length_take]; omega
   refine ⟨_, ?_, (cn - lft cn), (ci - lft cn), (cut pz 1 0 (cp.length - 1) (slCap pz)), (cp.take (cp.length - 1)), (way ++ [(cp.getD (cp.length - 1) [], true)]), s6, rfl, hpv.cut0 (h := cp.length - 1) (by omega), (by omega), (by omega), (by rw [List.length_append, List.length_take, List.length_singleton]; omega), (fun x h => hcp x (List.mem_of_mem_take h)), (by intro x h; rcases List.mem_append.1 h with h | h; exact hway x h; rw [List.mem_singleton.1 h]; exact hx32), (by rw [hval, hT (by omega) (by omega) (by omega)]; simp), Z.pick [0, 3, 1, 2, 4, 11], Y.select [0, 1] (by decide)⟩
   omega
  rw [hc7] at Z
  try simp only [qz] at hc7
  refine am <| wlm Z rfl fun a Z => wla Z rfl fun a Z => ab ?_
  rw [show (way.map fun x : By × Bool => [sv x.1, .bool x.2]) ++ ([[sv (cp.getD (cp.length - 1) []), .bool (decide ((lft cn : Int) ≤ (ci : Int)))]]) = ((way ++ [(cp.getD (cp.length - 1) [], false)]).map fun x : By × Bool => [sv x.1, .bool x.2]) from by rw [decide_eq_false (by omega)]; simp] at Y
  have hm1 : (cp.take (cp.length - 1)).length < cp.length := by rw [List.length_take]; omega
  refine ⟨_, ?_, (lft cn), ci, (cut pz 1 0 (cp.length - 1) (slCap pz)), (cp.take (cp.length - 1)), (way ++ [(cp.getD (cp.length - 1) [], false)]), s6, rfl, hpv.cut0 (h := cp.length - 1) (by omega), (by omega), (by omega), (by rw [List.length_append, List.length_take, List.length_singleton]; omega), (fun x h => hcp x (List.mem_of_mem_take h)), (by intro x h; rcases List.mem_append.1 h with h | h; exact hway x h; rw [List.mem_singleton.1 h]; exact hx32), (by rw [hval, jl (by omega) (by omega) (by omega)]; simp), Z.pick [0, 3, 1, 2, 4, 11], Y.select [0, 1] (by decide)⟩
  omega
 rw [hc4] at Z
 try simp only [qz] at hc4
 refine aF <| hK8 _ _ <| aa fun K21 hK21 => wlm Z rfl fun a Z => al Z Y (by decide) Tryd.call78 rfl (gO s _ (by omega) (Y.get (k := 1) rfl)) ?_
 clear Z Y
 intro a w8 Z Y
 refine aD Z Y (by decide) (Tryd.zeroValue9 _) (cs := [.string (⟨#[]⟩)]) rfl ?_
 clear Z Y
 intro a w9 Z Y
 refine az 0 Z Y rfl rfl rfl (Tryd.sizeOf9 _) rfl (lb rfl) (ds := [sv (leafH sha s)]) rfl rfl ?_
 clear Z Y
 intro a w10 Z Y
 refine ab (hK21 _ _ ?_)
 replace Z : Fr 79 [(0, _), (4, _), (11, _), (16, _)] [] a := Z.pick [0, 4, 11, 16]
 refine ac fun K22 hK22 => aa fun K23 hK23 => wlm Z rfl fun a Z => aZ Z Y (by decide) Tryd.call86 rfl (fp u _ _ (Y.ownAt (i := 1) rfl)) ?_
 clear Z Y
 intro a w11 x8 hp Z Y
 revert x8 hp Z Y; rintro z1 hp Z Y
 clear hp
 replace Y : St (· = 0) w0 [blk z1 [u] 125, blk w8.heap.size [sv (leafH sha s)] 9, own u 129 2 (way.map fun x : By × Bool => [sv x.1, .bool x.2]), blk 0 (kOf.map wv) 161] w11 := Y
 refine ab (hK23 _ _ <| ap ?_)
 have hy32 : ∀ k, k < way.length → (way.getD k ([], false)).1.length = 32 := fun k hk => hway _ (bx hk)
 replace Y : St (· = 0) w0 [blk z1 [u] 125, blk w8.heap.size [sv (([] : List Nat).foldl (fun o k => joinH (way.getD k ([], false)) o) (leafH sha s))] 9, own u 129 2 (way.map fun x : By × Bool => [sv x.1, .bool x.2]), blk 0 (kOf.map wv) 161] w11 := Y
 replace Y : St (· = 0) w0 [blk 0 (kOf.map wv) 161, blk w8.heap.size [sv (([] : List Nat).foldl (fun o k => joinH (way.getD k ([], false)) o) (leafH sha s))] 9, blk z1 [u] 125, own u 129 2 (way.map fun x : By × Bool => [sv x.1, .bool x.2])] w11 := Y.select [3, 1, 0, 2] (by decide)
 replace Z : Fr 79 [(0, sv root), (4, pz), (11, u), (16, pt w8.heap.size), (64, u), (65, .func (.func 101) #[] #[pt z1])] [] a := Z.pick [0, 4, 11, 16, 64, 65]
 refine cG (M := (· = 0)) (w0 := w0) (encs := (encD way)) (Hi := [blk z1 [u] 125, own u 129 2 (way.map fun x : By × Bool => [sv x.1, .bool x.2])]) (Hc := [blk 0 (kOf.map wv) 161, blk w8.heap.size [sv (([] : List Nat).foldl (fun o k => joinH (way.getD k ([], false)) o) (leafH sha s))] 9]) (fun pre H => ((pre.foldl (fun o k => joinH (way.getD k ([], false)) o) (leafH sha s)).length = 32) ∧ H = [blk 0 (kOf.map wv) 161, blk w8.heap.size [sv (pre.foldl (fun o k => joinH (way.getD k ([], false)) o) (leafH sha s))] 9]) (fun _ _ _ => False) (fun pre xs H a => ∃ (bA0 : Nat), Fr 79 [(0, sv root), (4, pz), (11, u), (16, pt w8.heap.size), (64, u), (65, .func (.func 101) #[] #[pt z1]), (18, pt bA0)] [] a ∧ ((pre.foldl (fun o k => joinH (way.getD k ([], false)) o) (leafH sha s)).length = 32) ∧ H = [blk bA0 [sv ((way.getD xs ([], false)).1), .bool ((way.getD xs ([], false)).2)] 129, blk 0 (kOf.map wv) 161, blk w8.heap.size [sv (pre.foldl (fun o k => joinH (way.getD k ([], false)) o) (leafH sha s))] 9]) rfl Tryd.call101 Z Y (el u way z1 (by omega)) (by decide) (fun _ => rfl) ⟨g6 bP s, rfl⟩ ?_ ?_ ?_ ?_
 ·clear Z Y
  rintro lp pre xs _ a w12 hnx ⟨hf32, rfl⟩ Z Y
  generalize (join [blk 0 (kOf.map wv) 161, blk w8.heap.size [sv (pre.foldl (fun o k => joinH (way.getD k ([], false)) o) (leafH sha s))] 9]).foot = M1 at Y ⊢
  replace Z : Fr 79 [(67, .agg #[sv ((way.getD xs ([], false)).1), .bool ((way.getD xs ([], false)).2)]), (66, iv (xs : Int)), (0, sv root), (4, pz), (11, u), (16, pt w8.heap.size), (64, u), (65, .func (.func 101) #[] #[pt z1])] [] a := Z
  refine am <| aD Z Y (by decide) (Tryd.zeroValue129 _) (cs := [.string (⟨#[]⟩), .bool false]) rfl ?_
  clear Z Y
  intro a w13 Z Y
  refine az 0 Z Y rfl rfl rfl (Tryd.sizeOf129 _) rfl (lb rfl) (ds := [sv ((way.getD xs ([], false)).1), .bool ((way.getD xs ([], false)).2)]) rfl rfl ?_
  clear Z Y
  intro a w14 Z Y
  refine ab ?_
  exact ⟨_, ⟨w12.heap.size, Z.pick [0, 4, 11, 16, 64, 65, 18], hf32, rfl⟩, Y⟩
 ·rintro lp pre xs _ a w15 hnx ⟨bA0, Z, hf32, rfl⟩ hout hrec hnl Y
  clear hrec hnl
  generalize (join [blk bA0 [sv ((way.getD xs ([], false)).1), .bool ((way.getD xs ([], false)).2)] 129, blk 0 (kOf.map wv) 161, blk w8.heap.size [sv (pre.foldl (fun o k => joinH (way.getD k ([], false)) o) (leafH sha s))] 9]).foot = M1 at Y hout ⊢
  refine ap <| am <| wlv Z (ar (Y.get (k := 0) rfl) rfl (Tryd.isAgg129 _) (Tryd.sizeOf129 _)) fun a Z => wlv Z (aj (Y.get (k := 2) rfl) rfl (Tryd.isAgg9 _) rfl) fun a Z => al Z Y (by decide) Tryd.call87 rfl (cV ((way.getD xs ([], false)).1) ((way.getD xs ([], false)).2) (pre.foldl (fun o k => joinH (way.getD k ([], false)) o) (leafH sha s)) _ (by have := hy32 xs (by have h := hnx; unfold NxB at h; omega); omega) (by first | omega | exact Nat.le_trans (Nat.le_of_eq hf32) (by decide)) (Y.get (k := 1) rfl)) ?_
  clear Z Y
  intro a w16 Z Y
  refine az 2 Z Y rfl rfl rfl (Tryd.sizeOf9 _) rfl (lb rfl) (ds := [sv (joinH ((way.getD xs ([], false)).1, (way.getD xs ([], false)).2) (pre.foldl (fun o k => joinH (way.getD k ([], false)) o) (leafH sha s)))]) rfl rfl ?_
  clear Z Y
  intro a w17 Z Y
  refine ab ?_
  rw [show joinH ((way.getD xs ([], false)).1, (way.getD xs ([], false)).2) (pre.foldl (fun o k => joinH (way.getD k ([], false)) o) (leafH sha s)) = (pre ++ [xs]).foldl (fun o k => joinH (way.getD k ([], false)) o) (leafH sha s) from by rw [List.foldl_append]; rfl] at Y
  exact ⟨_, ⟨(by rw [List.foldl_append]; exact bP _), rfl⟩, Y.select [1, 2] (by decide)⟩
 ·rintro D pre _ _ a w18 ⟨rfl, rfl⟩ ⟨hf32, rfl⟩ Y Z
  replace Z : Fr 79 [(0, sv root), (4, pz), (11, u), (16, pt w8.heap.size), (64, u), (65, .func (.func 101) #[] #[pt z1])] [{ target := .collected D, args := #[] }] a := Z
  replace Y : St (· = 0) w0 [obj D (.deferred (some [])), blk 0 (kOf.map wv) 161, blk w8.heap.size [sv ((backs way.length way.length).foldl (fun o k => joinH (way.getD k ([], false)) o) (leafH sha s))] 9, blk z1 [u] 125, own u 129 2 (way.map fun x : By × Bool => [sv x.1, .bool x.2])] w18 := Y
  refine hK22 _ _ <| aa fun K24 hK24 => wlm Z rfl fun a Z => wlv Z ((aM (sT := 45) (hpv.grow (Y.ext.const hk0 (Y.get (k := 1) rfl))) rfl rfl (Tryd.runUnderlying45 _)).asi (m' := (cp.length : Int)) (by simp)) fun a Z => wlv Z (v_eq rfl rfl) fun a Z => wlm Z rfl fun a Z => ?_
  rcases Bool.eq_false_or_eq_true (decide ((cp.length : Int) = 0)) with hb9 | hb9
  ·rw [hb9] at Z
   try simp only [qz] at hb9
   refine wly Z (aj (Y.get (k := 2) rfl) rfl (Tryd.isAgg9 _) rfl) fun a Z => wly Z (ai rfl) fun a Z => wly Z (dq rfl rfl) fun a Z => wlv Z (aE rfl rfl) fun a Z => wla Z rfl fun a Z => ab (hK24 _ _ ?_)
   replace Z : Fr 79 [(10, _)] [{ target := .collected D, args := #[] }] a := Z.pick [10]
   replace Y : St (· = 0) w0 [_, _, _] w18 := Y.mask [true, true, false, false, true]
   refine au ?_
   have hD := Y.get (k := 0) rfl
   replace Y := Y.unmark (i := 0) (o' := .deferred none) rfl
   replace Y : St (· = 0) w0 [blk 0 (kOf.map wv) 161, own u 129 2 (way.map fun x : By × Bool => [sv x.1, .bool x.2])] _ := Y
   refine bL Z hD Tryd.results66 (ae rfl ah) ?_
   exact ⟨by simp only [retv]; rw [bZ, jZ hval (by omega) hall (by omega), decide_eq_true (show cp.length = 0 by omega), Bool.true_and], Y.ext.const hk0 (Y.get (k := 0) rfl)⟩
  rw [hb9] at Z
  try simp only [qz] at hb9
  refine wln Z fun a Z => wln Z fun a Z => wln Z fun a Z => wlv Z (aw rfl rfl) fun a Z => wla Z rfl fun a Z => ab (hK24 _ _ ?_)
  replace Z : Fr 79 [(10, _)] [{ target := .collected D, args := #[] }] a := Z.pick [10]
  replace Y : St (· = 0) w0 [_, _, _] w18 := Y.mask [true, true, false, false, true]
  refine au ?_
  have hD := Y.get (k := 0) rfl
  replace Y := Y.unmark (i := 0) (o' := .deferred none) rfl
  replace Y : St (· = 0) w0 [blk 0 (kOf.map wv) 161, own u 129 2 (way.map fun x : By × Bool => [sv x.1, .bool x.2])] _ := Y
  refine bL Z hD Tryd.results66 (ae rfl ah) ?_
  exact ⟨by simp only [retv]; rw [jZ hval (by omega) hall (by omega), decide_eq_false (show ¬ cp.length = 0 by omega), Bool.false_and], Y.ext.const hk0 (Y.get (k := 0) rfl)⟩
 ·rintro D c pre _ _ a w19 _ h
  exact h.elim
end Go.Proofs.YtddfkkdanpmnaaaDoor
namespace Go.Proofs.YtddfkkdanpmnaaaDoor
open Go.RowKit Go.PW
set_option linter.unusedVariables false
set_option linter.unusedSimpArgs false
set_option maxRecDepth 4000
def fstH (x : By × Bool) (o : By) : By := if x.2 then joinH x o else o
theorem eZ {x : By × Bool} {o : By} (h : o.length = 32) : (fstH x o).length = 32 := by
 unfold fstH; split
 ·exact bP _
 ·exact h
theorem kQ {old : By} {m n : Nat} {p : List By} {w : Bool} (h : m ≠ n) (hp : 0 < p.length) (hi : m ≤ lft n) : bothH sha old m n p w = (fstH (p.getD (p.length - 1) [], false) (bothH sha old m (lft n) (p.take (p.length - 1)) w).1, joinH (p.getD (p.length - 1) [], false) (bothH sha old m (lft n) (p.take (p.length - 1)) w).2.1, (bothH sha old m (lft n) (p.take (p.length - 1)) w).2.2) := by
 conv => lhs; rw [dV hp, dy sha h, if_pos hi]
 rfl
theorem jB {old : By} {m n : Nat} {p : List By} {w : Bool} (h : m ≠ n) (hp : 0 < p.length) (hi : ¬ m ≤ lft n) : bothH sha old m n p w = (fstH (p.getD (p.length - 1) [], true) (bothH sha old (m - lft n) (n - lft n) (p.take (p.length - 1)) false).1, joinH (p.getD (p.length - 1) [], true) (bothH sha old (m - lft n) (n - lft n) (p.take (p.length - 1)) false).2.1, (bothH sha old (m - lft n) (n - lft n) (p.take (p.length - 1)) false).2.2) := by
 conv => lhs; rw [dV hp, dy sha h, if_neg hi]
 rfl
theorem fA {old root : By} {m n : Int} {p : List By} (h : ¬ (0 ≤ m ∧ m ≤ n ∧ (p.all fun x => decide (x.length = 32)) = true ∧ old.length = 32 ∧ root.length = 32)) : bj sha old m root n p = false := by
 unfold bj
 rw [if_pos]
 refine Classical.byContradiction fun hc => h ?_
 simp only [not_or, Int.not_lt, Bool.not_eq_false, Classical.not_not, ne_eq] at hc
 exact hc
theorem dJ (p : List By) : p.isEmpty = decide (p.length = 0) := by cases p <;> simp
section
variable {old root : By} {p : List By} (hall : (p.all fun x => decide (x.length = 32)) = true) (ho : old.length = 32) (hr : root.length = 32)
include hall ho hr
theorem f9 {m n : Int} (h0 : 0 ≤ m) (hmn : m ≤ n) : bj sha old m root n p = (if m = 0 then p.isEmpty && decide (old = sha []) else if m = n then p.isEmpty && decide (old = root) else (bothH sha old m.toNat n.toNat p true).2.2 && decide ((bothH sha old m.toNat n.toNat p true).1 = old) && decide ((bothH sha old m.toNat n.toNat p true).2.1 = root)) := by
 unfold bj
 rw [if_neg (by simp [hall, ho, hr]; omega)]
theorem jP {n : Int} (hmn : 0 ≤ n) : bj sha old 0 root n p = (decide (p.length = 0) && decide (old = sha [])) := by
 rw [f9 hall ho hr (Int.le_refl _) hmn, if_pos rfl, dJ]
theorem jX {m : Int} (h0 : 0 < m) : bj sha old m root m p = (decide (p.length = 0) && decide (old = root)) := by
 rw [f9 hall ho hr (by omega) (Int.le_refl _), if_neg (by omega), if_pos rfl, dJ]
variable {m n cm cn : Nat} {cp : List By} {wh : Bool} {way : List (By × Bool)} (hm : 1 ≤ m) (hmn : m < n) (hval : bothH sha old m n p true = (way.foldr fstH (bothH sha old cm cn cp wh).1, way.foldr joinH (bothH sha old cm cn cp wh).2.1, (bothH sha old cm cn cp wh).2.2))
include hm hmn hval
theorem mV (hc : cp.length = 0) (h2 : cm ≠ cn) : bj sha old m root n p = false := by
 obtain rfl : cp = [] := List.eq_nil_of_length_eq_zero hc
 rw [kB sha h2] at hval
 rw [f9 hall ho hr (by omega) (by omega), if_neg (by omega), if_neg (by omega), Int.toNat_natCast, Int.toNat_natCast, hval]; simp
theorem nw (hw : wh = false) (hc : cm = cn) (h1 : cp.length ≠ 1) : bj sha old m root n p = false := by
 subst hw; subst hc
 rw [dP] at hval
 have : (endH cp).2.2 = false := by
  match cp, h1 with
  | [], _ => rfl
  | _ :: _ :: _, _ => rfl
  | [_], h => exact absurd rfl h
 simp only [Bool.false_eq_true, if_false] at hval
 rw [f9 hall ho hr (by omega) (by omega), if_neg (by omega), if_neg (by omega), Int.toNat_natCast, Int.toNat_natCast, hval]
 simp only [this, Bool.false_and]
theorem fi (hw : wh = true) (hc : cm = cn) : bj sha old m root n p = (decide (cp.length = 0) && decide (way.foldr fstH old = old) && decide (way.foldr joinH old = root)) := by
 subst hw; subst hc
 rw [dP] at hval
 simp only [if_true] at hval
 rw [f9 hall ho hr (by omega) (by omega), if_neg (by omega), if_neg (by omega), Int.toNat_natCast, Int.toNat_natCast, hval, dJ]
theorem jM (hw : wh = false) (hc : cm = cn) (h1 : cp.length = 1) : bj sha old m root n p = (decide (way.foldr fstH (cp.getD 0 []) = old) && decide (way.foldr joinH (cp.getD 0 []) = root)) := by
 subst hw; subst hc
 rw [dP] at hval
 simp only [Bool.false_eq_true, if_false] at hval
 obtain ⟨x, rfl⟩ : ∃ x, cp = [x] := by
  match cp, h1 with
  | [x], _ => exact ⟨x, rfl⟩
 rw [f9 hall ho hr (by omega) (by omega), if_neg (by omega), if_neg (by omega), Int.toNat_natCast, Int.toNat_natCast, hval]
 simp only [endH, Bool.true_and]; rfl
end
set_option maxHeartbeats 4000000 in
theorem je (old root : By) (m n : Int) (lv : Value) (ls : List By) (w0 : World) (hlv : SlAt w0 lv 1 (ls.map fun s => [sv s])) (hln : ls.length ≤ 1000) (hn : n ≤ 9223372036854775807) (hk0 : (blk 0 (kOf.map wv) 161).ok w0) :
  Ret Tryd.prog 73 #[sv old, iv m, sv root, iv n, lv] w0 fun v w => v = .bool (bj sha old m root n ls) ∧ Ext No w0 w := by
 refine aG Tryd.func73 rfl Tryd.ntmps73 (lb rfl) fun a Z => ?_
 replace Z : Fr 137 [(0, _), (1, _), (2, _), (3, _), (4, _)] [] a := Z
 replace Y : St (· = 0) w0 [blk 0 (kOf.map wv) 161] w0 := St.one hk0
 refine aa fun K1 hK1 => wla Z rfl fun a Z => ab (hK1 _ _ <| ac fun K2 hK2 => ?_)
 refine ap <| aa fun K3 hK3 => wlm Z rfl fun a Z => wlv Z (v_lt rfl rfl) fun a Z => wlm Z rfl fun a Z => ?_
 rcases Bool.eq_false_or_eq_true (decide (m < 0)) with hb1 | hb1
 ·rw [hb1] at Z
  try simp only [qz] at hb1
  refine wln Z fun a Z => wln Z fun a Z => wln Z fun a Z => wlv Z (aE rfl rfl) fun a Z => wlm Z rfl fun a Z => wln Z fun a Z => wln Z fun a Z => wln Z fun a Z => ?_
  refine wlv Z (aE rfl rfl) fun a Z => wlm Z rfl fun a Z => wln Z fun a Z => wln Z fun a Z => wln Z fun a Z => wlv Z (aE rfl rfl) fun a Z => wlm Z rfl fun a Z => wln Z fun a Z => wln Z fun a Z => ?_
  refine wln Z fun a Z => wlv Z (aE rfl rfl) fun a Z => wla Z rfl fun a Z => ab (hK3 _ _ ?_)
  replace Z : Fr 137 [(0, _), (1, _), (2, _), (3, _), (4, _), (10, _), (21, _)] [] a := Z.pick [0, 1, 2, 3, 4, 10, 21]
  refine aB Z rfl ?_
  refine aa fun K4 hK4 => wla Z rfl fun a Z => ab (hK4 _ _ <| au ?_)
  refine aq Z Tryd.results73 (ae rfl ah) ?_
  exact ⟨by simp only [retv]; rw [fA (by rintro ⟨h1, h2, h3, h4, h5⟩; first | omega | simp_all)], Y.ext.const hk0 (Y.get (k := 0) rfl)⟩
 rw [hb1] at Z
 try simp only [qz] at hb1
 refine wly Z (ai rfl) fun a Z => wly Z (ai rfl) fun a Z => wly Z (v_gt rfl rfl) fun a Z => wlv Z (aw rfl rfl) fun a Z => wlm Z rfl fun a Z => ?_
 rcases Bool.eq_false_or_eq_true (decide (n < m)) with hb2 | hb2
 ·rw [hb2] at Z
  try simp only [qz] at hb2
  refine wln Z fun a Z => wln Z fun a Z => wln Z fun a Z => wlv Z (aE rfl rfl) fun a Z => wlm Z rfl fun a Z => wln Z fun a Z => wln Z fun a Z => wln Z fun a Z => ?_
  refine wlv Z (aE rfl rfl) fun a Z => wlm Z rfl fun a Z => wln Z fun a Z => wln Z fun a Z => wln Z fun a Z => wlv Z (aE rfl rfl) fun a Z => wla Z rfl fun a Z => ab (hK3 _ _ ?_)
  replace Z : Fr 137 [(0, _), (1, _), (2, _), (3, _), (4, _), (10, _), (21, _)] [] a := Z.pick [0, 1, 2, 3, 4, 10, 21]
  refine aB Z rfl ?_
  refine aa fun K5 hK5 => wla Z rfl fun a Z => ab (hK5 _ _ <| au ?_)
  refine aq Z Tryd.results73 (ae rfl ah) ?_
  exact ⟨by simp only [retv]; rw [fA (by rintro ⟨h1, h2, h3, h4, h5⟩; first | omega | simp_all)], Y.ext.const hk0 (Y.get (k := 0) rfl)⟩
 rw [hb2] at Z
 try simp only [qz] at hb2
 refine wly Z (ai rfl) fun a Z => aW Z Y (by decide) rfl (by decide) rfl Tryd.call84 rfl (lz lv ls _ (hlv.grow (Y.ext.const hk0 (Y.get (k := 0) rfl)))) ?_
 clear Z Y
 intro a w1 Z Y
 refine wly Z (bq rfl) fun a Z => wlv Z (aw rfl rfl) fun a Z => wlm Z rfl fun a Z => ?_
 rcases Bool.eq_false_or_eq_true (!(ls.all fun s => decide (s.length = 32))) with hb3 | hb3
 ·rw [hb3] at Z
  try simp only [qz] at hb3
  have hall := hb3
  refine wln Z fun a Z => wln Z fun a Z => wln Z fun a Z => wlv Z (aE rfl rfl) fun a Z => wlm Z rfl fun a Z => wln Z fun a Z => wln Z fun a Z => wln Z fun a Z => ?_
  refine wlv Z (aE rfl rfl) fun a Z => wla Z rfl fun a Z => ab (hK3 _ _ ?_)
  replace Z : Fr 137 [(0, _), (1, _), (2, _), (3, _), (4, _), (10, _), (21, _)] [] a := Z.pick [0, 1, 2, 3, 4, 10, 21]
  refine aB Z rfl ?_
  refine aa fun K6 hK6 => wla Z rfl fun a Z => ab (hK6 _ _ <| au ?_)
  refine aq Z Tryd.results73 (ae rfl ah) ?_
  exact ⟨by simp only [retv]; rw [fA (by rintro ⟨h1, h2, h3, h4, h5⟩; first | omega | simp_all)], Y.ext.const hk0 (Y.get (k := 0) rfl)⟩
 rw [hb3] at Z
 try simp only [qz] at hb3
 have hall := hb3
 refine wly Z (ai rfl) fun a Z => aW Z Y (by decide) rfl (by decide) rfl Tryd.call90 rfl (dH old _) ?_
 clear Z Y
 intro a w2 Z Y
 refine wly Z (bq rfl) fun a Z => wlv Z (aw rfl rfl) fun a Z => wlm Z rfl fun a Z => ?_
 rcases Bool.eq_false_or_eq_true (!(decide ((old.length : Int) = 32))) with hb4 | hb4
 ·rw [hb4] at Z
  try simp only [qz] at hb4
  refine wln Z fun a Z => wln Z fun a Z => wln Z fun a Z => wlv Z (aE rfl rfl) fun a Z => wla Z rfl fun a Z => ab (hK3 _ _ ?_)
  replace Z : Fr 137 [(0, _), (1, _), (2, _), (3, _), (4, _), (10, _), (21, _)] [] a := Z.pick [0, 1, 2, 3, 4, 10, 21]
  refine aB Z rfl ?_
  refine aa fun K7 hK7 => wla Z rfl fun a Z => ab (hK7 _ _ <| au ?_)
  refine aq Z Tryd.results73 (ae rfl ah) ?_
  exact ⟨by simp only [retv]; rw [fA (by rintro ⟨h1, h2, h3, h4, h5⟩; first | omega | simp_all)], Y.ext.const hk0 (Y.get (k := 0) rfl)⟩
 rw [hb4] at Z
 try simp only [qz] at hb4
 refine wly Z (ai rfl) fun a Z => aW Z Y (by decide) rfl (by decide) rfl Tryd.call90 rfl (dH root _) ?_
 clear Z Y
 intro a w3 Z Y
 refine wly Z (bq rfl) fun a Z => wlv Z (aw rfl rfl) fun a Z => wla Z rfl fun a Z => ab (hK3 _ _ ?_)
 replace Z : Fr 137 [(0, _), (1, _), (2, _), (3, _), (4, _), (10, _), (21, _)] [] a := Z.pick [0, 1, 2, 3, 4, 10, 21]
 refine aC Z rfl (fun hc5 => ?_) (fun hc5 => ?_)
 ·rw [hc5] at Z
  try simp only [qz] at hc5
  refine aa fun K8 hK8 => wla Z rfl fun a Z => ab (hK8 _ _ <| au ?_)
  refine aq Z Tryd.results73 (ae rfl ah) ?_
  exact ⟨by simp only [retv]; rw [fA (by rintro ⟨h1, h2, h3, h4, h5⟩; first | omega | simp_all)], Y.ext.const hk0 (Y.get (k := 0) rfl)⟩
 rw [hc5] at Z
 try simp only [qz] at hc5
 refine aa fun K9 hK9 => wlm Z rfl fun a Z => wlv Z (v_eq rfl rfl) fun a Z => wla Z rfl fun a Z => ab (hK9 _ _ ?_)
 refine aC Z rfl (fun hc6 => ?_) (fun hc6 => ?_)
 ·rw [hc6] at Z
  try simp only [qz] at hc6
  obtain rfl : m = 0 := by omega
  refine aa fun K10 hK10 => wlm Z rfl fun a Z => wlv Z ((aM (sT := 45) (hlv.grow (Y.ext.const hk0 (Y.get (k := 0) rfl))) rfl rfl (Tryd.runUnderlying45 _)).asi (m' := (ls.length : Int)) (by simp)) fun a Z => wlv Z (v_eq rfl rfl) fun a Z => wlm Z rfl fun a Z => ?_
  rcases Bool.eq_false_or_eq_true (decide ((ls.length : Int) = 0)) with hb7 | hb7
  ·rw [hb7] at Z
   try simp only [qz] at hb7
   refine wly Z (ai rfl) fun a Z => aW Z Y (by decide) rfl (by decide) rfl Tryd.call80 rfl (jg [] _ (Y.get (k := 0) rfl) (by simp)) ?_
   clear Z Y
   intro a w4 Z Y
   refine wly Z (dq rfl rfl) fun a Z => wlv Z (aE rfl rfl) fun a Z => wla Z rfl fun a Z => ab (hK10 _ _ ?_)
   replace Z : Fr 137 [(0, _), (1, _), (2, _), (3, _), (4, _), (10, _)] [] a := Z.pick [0, 1, 2, 3, 4, 10]
   refine au ?_
   refine aq Z Tryd.results73 (ae rfl ah) ?_
   exact ⟨by simp only [retv]; rw [jP hall (by omega) (by omega) (by omega)]; rw [decide_eq_true (show ls.length = 0 by omega), Bool.true_and], Y.ext.const hk0 (Y.get (k := 0) rfl)⟩
  rw [hb7] at Z
  try simp only [qz] at hb7
  refine wln Z fun a Z => wln Z fun a Z => wln Z fun a Z => wlv Z (aw rfl rfl) fun a Z => wla Z rfl fun a Z => ab (hK10 _ _ ?_)
  replace Z : Fr 137 [(0, _), (1, _), (2, _), (3, _), (4, _), (10, _)] [] a := Z.pick [0, 1, 2, 3, 4, 10]
  refine au ?_
  refine aq Z Tryd.results73 (ae rfl ah) ?_
  exact ⟨by simp only [retv]; rw [jP hall (by omega) (by omega) (by omega)]; rw [decide_eq_false (show ¬ ls.length = 0 by omega), Bool.false_and], Y.ext.const hk0 (Y.get (k := 0) rfl)⟩
 rw [hc6] at Z
 try simp only [qz] at hc6
 refine aa fun K11 hK11 => wlm Z rfl fun a Z => wlm Z rfl fun a Z => wlv Z (v_eq rfl rfl) fun a Z => wla Z rfl fun a Z => ab (hK11 _ _ ?_)
 replace Z : Fr 137 [(0, _), (1, _), (2, _), (3, _), (4, _), (10, _), (55, _)] [] a := Z.pick [0, 1, 2, 3, 4, 10, 55]
 refine aC Z rfl (fun hc8 => ?_) (fun hc8 => ?_)
 ·rw [hc8] at Z
  try simp only [qz] at hc8
  obtain rfl : m = n := by omega
  refine aa fun K12 hK12 => wlm Z rfl fun a Z => wlv Z ((aM (sT := 45) (hlv.grow (Y.ext.const hk0 (Y.get (k := 0) rfl))) rfl rfl (Tryd.runUnderlying45 _)).asi (m' := (ls.length : Int)) (by simp)) fun a Z => wlv Z (v_eq rfl rfl) fun a Z => wlm Z rfl fun a Z => ?_
  rcases Bool.eq_false_or_eq_true (decide ((ls.length : Int) = 0)) with hb9 | hb9
  ·rw [hb9] at Z
   try simp only [qz] at hb9
   refine wly Z (ai rfl) fun a Z => wly Z (ai rfl) fun a Z => wly Z (dq rfl rfl) fun a Z => wlv Z (aE rfl rfl) fun a Z => wla Z rfl fun a Z => ab (hK12 _ _ ?_)
   replace Z : Fr 137 [(0, _), (1, _), (2, _), (3, _), (4, _), (10, _)] [] a := Z.pick [0, 1, 2, 3, 4, 10]
   refine au ?_
   refine aq Z Tryd.results73 (ae rfl ah) ?_
   exact ⟨by simp only [retv]; rw [jX hall (by omega) (by omega) (by omega)]; rw [decide_eq_true (show ls.length = 0 by omega), Bool.true_and], Y.ext.const hk0 (Y.get (k := 0) rfl)⟩
  rw [hb9] at Z
  try simp only [qz] at hb9
  refine wln Z fun a Z => wln Z fun a Z => wln Z fun a Z => wlv Z (aw rfl rfl) fun a Z => wla Z rfl fun a Z => ab (hK12 _ _ ?_)
  replace Z : Fr 137 [(0, _), (1, _), (2, _), (3, _), (4, _), (10, _)] [] a := Z.pick [0, 1, 2, 3, 4, 10]
  refine au ?_
  refine aq Z Tryd.results73 (ae rfl ah) ?_
  exact ⟨by simp only [retv]; rw [jX hall (by omega) (by omega) (by omega)]; rw [decide_eq_false (show ¬ ls.length = 0 by omega), Bool.false_and], Y.ext.const hk0 (Y.get (k := 0) rfl)⟩
 rw [hc8] at Z
 try simp only [qz] at hc8
 refine ao <| hK2 _ _ <| aa fun K13 hK13 => wla Z rfl fun a Z => ab (hK13 _ _ <| aa fun K14 hK14 => ?_)
 refine wla Z rfl fun a Z => ab (hK14 _ _ <| ac fun K15 hK15 => ?_)
 refine ap ?_
 obtain ⟨mm, rfl⟩ := Int.eq_ofNat_of_zero_le (show 0 ≤ m by omega)
 obtain ⟨nn, rfl⟩ := Int.eq_ofNat_of_zero_le (show 0 ≤ n by omega)
 have hl32 := all32 hall
 have hold : old.length = 32 := by omega
 have hroot : root.length = 32 := by omega
 replace Y : St (· = 0) w0 [own (.slice none 0 0) 129 2 (([] : List (By × Bool)).map fun x : By × Bool => [sv x.1, .bool x.2]), blk 0 (kOf.map wv) 161] w3 := Y.nil_own
 refine aT (fun m a w => ∃ (cm : Nat) (cn : Nat) (pz : Value) (cp : List By) (wh : Bool) (way : List (By × Bool)) (u : Value), m = cp.length ∧ (SlAt w0 pz 1 (cp.map fun s => [sv s])) ∧ (1 ≤ cm) ∧ (cm ≤ cn) ∧ (cn ≤ 9223372036854775807) ∧ (way.length + cp.length ≤ 1000) ∧ (∀ x ∈ cp, x.length = 32) ∧ (∀ x ∈ way, x.1.length = 32) ∧ (bothH sha old mm nn ls true = (way.foldr fstH (bothH sha old cm cn cp wh).1, way.foldr joinH (bothH sha old cm cn cp wh).2.1, (bothH sha old cm cn cp wh).2.2)) ∧ Fr 137 [(0, sv old), (2, sv root), (1, iv (cm : Int)), (3, iv (cn : Int)), (4, pz), (11, u), (12, .bool wh)] [] a ∧ St (· = 0) w0 [own u 129 2 (way.map fun x : By × Bool => [sv x.1, .bool x.2]), blk 0 (kOf.map wv) 161] w) _ ⟨mm, nn, lv, ls, true, [], .slice none 0 0, rfl, hlv, (by omega), (by omega), (by omega), (by simp; omega), hl32, (by simp), rfl, Z.pick [0, 2, 1, 3, 4, 11, 12], Y.select [0, 1] (by decide)⟩ ?_
 rintro _ a w5 ⟨cm, cn, pz, cp, wh, way, u, rfl, hpv, hc0, hc1, hc2, hc3, hcp, hway, hval, Z, Y⟩
 refine ac fun K16 hK16 => aa fun K17 hK17 => wlm Z rfl fun a Z => wlm Z rfl fun a Z => wlv Z (v_lt rfl rfl) fun a Z => ab (hK17 _ _ ?_)
 refine aC Z rfl (fun hc10 => ?_) (fun hc10 => ?_)
 ·rw [hc10] at Z
  try simp only [qz] at hc10
  refine ao <| hK16 _ _ <| ap <| aa fun K18 hK18 => wlm Z rfl fun a Z => ?_
  rcases Bool.eq_false_or_eq_true (decide (cp.length = 0)) with hb11 | hb11
  ·try simp only [qz] at hb11
   refine al Z Y (by decide) Tryd.call85 rfl (ip pz cp _ (hpv.grow (Y.ext.const hk0 (Y.get (k := 1) rfl))) (by omega)) ?_
   clear Z Y
   intro a w6 Z Y
   refine wlm Z rfl fun a Z => wlv Z (ag rfl rfl) fun a Z => wlv Z (ag rfl rfl) fun a Z => wlv Z (ag rfl rfl) fun a Z => wla Z rfl fun a Z => wla Z rfl fun a Z => wla Z rfl fun a Z => ab (hK18 _ _ ?_)
   replace Z : Fr 137 [(0, _), (2, _), (1, _), (3, _), (4, _), (11, _), (12, _), (13, _), (14, _), (15, _)] [] a := Z.pick [0, 2, 1, 3, 4, 11, 12, 13, 14, 15]
   refine ac fun K19 hK19 => aa fun K20 hK20 => wlm Z rfl fun a Z => wlv Z ((bq rfl).asb (b' := true) rfl) fun a Z => ab (hK20 _ _ <| aB Z rfl ?_)
   refine aa fun K21 hK21 => wla Z rfl fun a Z => ab (hK21 _ _ <| au ?_)
   refine aq Z Tryd.results73 (ae rfl ah) ?_
   exact ⟨by simp only [retv]; rw [mV hall hold hroot (by omega) (by omega) hval (by omega) (by omega)], Y.ext.const hk0 (Y.get (k := 1) rfl)⟩
  try simp only [qz] at hb11
  have hlt := ch (n := cn) (by omega)
  have hlp := bX cn
  have hx32 : (cp.getD (cp.length - 1) []).length = 32 := hcp _ (bx (by omega))
  refine al Z Y (by decide) Tryd.call85 rfl (jQ pz cp _ (hpv.grow (Y.ext.const hk0 (Y.get (k := 1) rfl))) (by omega)) ?_
  clear Z Y
  intro a w7 Z Y
  refine wlm Z rfl fun a Z => wlv Z (ag rfl rfl) fun a Z => wlv Z (ag rfl rfl) fun a Z => wlv Z (ag rfl rfl) fun a Z => wla Z rfl fun a Z => wla Z rfl fun a Z => wla Z rfl fun a Z => ab (hK18 _ _ ?_)
  replace Z : Fr 137 [(0, _), (2, _), (1, _), (3, _), (4, _), (11, _), (12, _), (13, _), (14, _), (15, _)] [] a := Z.pick [0, 2, 1, 3, 4, 11, 12, 13, 14, 15]
  refine ac fun K22 hK22 => aa fun K23 hK23 => wlm Z rfl fun a Z => wlv Z ((bq rfl).asb (b' := false) rfl) fun a Z => ab (hK23 _ _ <| av Z rfl ?_)
  refine ao <| hK22 _ _ <| aa fun K24 hK24 => wlm Z rfl fun a Z => wla Z rfl fun a Z => ab (hK24 _ _ <| aa fun K25 hK25 => ?_)
  refine wlm Z rfl fun a Z => al Z Y (by decide) Tryd.call82 rfl (e6 cn _ (by omega) (by omega)) ?_
  clear Z Y
  intro a w8 Z Y
  refine wla Z rfl fun a Z => ab (hK25 _ _ ?_)
  replace Z : Fr 137 [(0, _), (2, _), (1, _), (3, _), (11, _), (12, _), (13, _), (4, _), (16, _)] [] a := Z.pick [0, 2, 1, 3, 11, 12, 13, 4, 16]
  refine aa fun K26 hK26 => wlm Z rfl fun a Z => wlm Z rfl fun a Z => wlm Z rfl fun a Z => wlm Z rfl fun a Z => wlv Z (v_gt rfl rfl) fun a Z => wlv Z (bt (v := .agg #[sv (cp.getD (cp.length - 1) []), .bool (decide ((lft cn : Int) < (cm : Int)))]) rfl (by kernel_rfl)) fun a Z => aH (E := 129) (sz := 2) rfl [[sv (cp.getD (cp.length - 1) []), .bool (decide ((lft cn : Int) < (cm : Int)))]] (by kernel_rfl) (by simp) rfl (by decide) (by decide) Z Y ?_
  clear Z Y
  intro a w9 Z Y
  refine aR (i := 1) (sT := 125) (inf := Tryd.t129) (z := .agg #[.string (⟨#[]⟩), .bool false]) (b := 0) (off := 0) (m := 0) (c := 0) rfl rfl rfl (Y.ownAt (i := 0) rfl) (by simp) Tryd.underlying125 rfl rfl rfl rfl (by decide) (by simp [Value.oneCell', yv, wv, sv]) (by have hby : Tryd.t129.bytes = 24 := rfl; simp only [big, hby, List.length_append, List.length_map, List.length_cons, List.length_nil]; omega) (by have hby : Tryd.t129.bytes = 24 := rfl; simp only [big, hby, List.length_append, List.length_map, List.length_cons, List.length_nil]; omega) (by decide) Z Y fun a w10 s12 Z Y _ => wla Z rfl fun a Z => ab (hK26 _ _ ?_)
  replace Z : Fr 137 [(0, _), (2, _), (1, _), (3, _), (12, _), (4, _), (16, _), (11, _)] [] a := Z.pick [0, 2, 1, 3, 12, 4, 16, 11]
  replace Y : St (· = 0) w0 [_, _] w10 := Y.mask [false, true, true]
  refine aa fun K27 hK27 => wlm Z rfl fun a Z => wlm Z rfl fun a Z => wlv Z (v_gt rfl rfl) fun a Z => ab (hK27 _ _ ?_)
  refine aC Z rfl (fun hc13 => ?_) (fun hc13 => ?_)
  ·rw [hc13] at Z
   try simp only [qz] at hc13
   refine am <| wlm Z rfl fun a Z => wlm Z rfl fun a Z => wlv Z ((bh rfl rfl ⟨by omega, by omega⟩).asi (m' := ((cm - lft cn : Nat) : Int)) (by omega)) fun a Z => wlm Z rfl fun a Z => wlm Z rfl fun a Z => wlv Z ((bh rfl rfl ⟨by omega, by omega⟩).asi (m' := ((cn - lft cn : Nat) : Int)) (by omega)) fun a Z => wla Z rfl fun a Z => wla Z rfl fun a Z => wla Z rfl fun a Z => ab ?_
   rw [show (way.map fun x : By × Bool => [sv x.1, .bool x.2]) ++ ([[sv (cp.getD (cp.length - 1) []), .bool (decide ((lft cn : Int) < (cm : Int)))]]) = ((way ++ [(cp.getD (cp.length - 1) [], true)]).map fun x : By × Bool => [sv x.1, .bool x.2]) from by rw [decide_eq_true (by omega)]; simp] at Y
   have hm1 : (cp.take (cp.length - 1)).length < cp.length := by rw [List.length_take]; omega
   refine ⟨_, ?_, (cm - lft cn), (cn - lft cn), (cut pz 1 0 (cp.length - 1) (slCap pz)), (cp.take (cp.length - 1)), false, (way ++ [(cp.getD (cp.length - 1) [], true)]), s12, rfl, hpv.cut0 (h := cp.length - 1) (by omega), (by omega), (by omega), (by omega), (by rw [List.length_append, List.length_take, List.length_singleton]; omega), (fun x h => hcp x (List.mem_of_mem_take h)), (by intro x h; rcases List.mem_append.1 h with h | h; exact hway x h; rw [List.mem_singleton.1 h]; exact hx32), (by rw [hval, jB (by omega) (by omega) (by omega)]; simp), Z.pick [0, 2, 1, 3, 4, 11, 12], Y.select [0, 1] (by decide)⟩
   omega
  rw [hc13] at Z
  try simp only [qz] at hc13
  refine am <| wlm Z rfl fun a Z => wla Z rfl fun a Z => ab ?_
  rw [show (way.map fun x : By × Bool => [sv x.1, .bool x.2]) ++ ([[sv (cp.getD (cp.length - 1) []), .bool (decide ((lft cn : Int) < (cm : Int)))]]) = ((way ++ [(cp.getD (cp.length - 1) [], false)]).map fun x : By × Bool => [sv x.1, .bool x.2]) from by rw [decide_eq_false (by omega)]; simp] at Y
  have hm1 : (cp.take (cp.length - 1)).length < cp.length := by rw [List.length_take]; omega
  refine ⟨_, ?_, cm, (lft cn), (cut pz 1 0 (cp.length - 1) (slCap pz)), (cp.take (cp.length - 1)), wh, (way ++ [(cp.getD (cp.length - 1) [], false)]), s12, rfl, hpv.cut0 (h := cp.length - 1) (by omega), (by omega), (by omega), (by omega), (by rw [List.length_append, List.length_take, List.length_singleton]; omega), (fun x h => hcp x (List.mem_of_mem_take h)), (by intro x h; rcases List.mem_append.1 h with h | h; exact hway x h; rw [List.mem_singleton.1 h]; exact hx32), (by rw [hval, kQ (by omega) (by omega) (by omega)]; simp), Z.pick [0, 2, 1, 3, 4, 11, 12], Y.select [0, 1] (by decide)⟩
  omega
 rw [hc10] at Z
 try simp only [qz] at hc10
 refine aF <| hK15 _ _ <| aa fun K28 hK28 => wlm Z rfl fun a Z => wlm Z rfl fun a Z => aD Z Y (by decide) (Tryd.zeroValue9 _) (cs := [.string (⟨#[]⟩)]) rfl ?_
 clear Z Y
 intro a w11 Z Y
 refine aD Z Y (by decide) (Tryd.zeroValue9 _) (cs := [.string (⟨#[]⟩)]) rfl ?_
 clear Z Y
 intro a w12 Z Y
 refine az 1 Z Y rfl rfl rfl (Tryd.sizeOf9 _) rfl (lb rfl) (ds := [sv old]) rfl rfl ?_
 clear Z Y
 intro a w13 Z Y
 refine az 0 Z Y rfl rfl rfl (Tryd.sizeOf9 _) rfl (lb rfl) (ds := [sv old]) rfl rfl ?_
 clear Z Y
 intro a w14 Z Y
 refine ab (hK28 _ _ ?_)
 replace Z : Fr 137 [(0, _), (2, _), (4, _), (11, _), (12, _), (17, _), (18, _)] [] a := Z.pick [0, 2, 4, 11, 12, 17, 18]
 refine ac fun K29 hK29 => aa fun K30 hK30 => wlm Z rfl fun a Z => wlv Z (bq rfl) fun a Z => ab (hK30 _ _ ?_)
 refine aC Z rfl (fun hc14 => ?_) (fun hc14 => ?_)
 ·rw [hc14] at Z
  try simp only [qz] at hc14
  have hwh := hc14
  refine ac fun K31 hK31 => aa fun K32 hK32 => wlm Z rfl fun a Z => wlv Z ((aM (sT := 45) (hpv.grow (Y.ext.const hk0 (Y.get (k := 3) rfl))) rfl rfl (Tryd.runUnderlying45 _)).asi (m' := (cp.length : Int)) (by simp)) fun a Z => wlv Z (v_ne rfl rfl) fun a Z => ab (hK32 _ _ ?_)
  refine aC Z rfl (fun hc15 => ?_) (fun hc15 => ?_)
  ·rw [hc15] at Z
   try simp only [qz] at hc15
   refine aa fun K33 hK33 => wla Z rfl fun a Z => ab (hK33 _ _ ?_)
   replace Z : Fr 137 [(0, _), (2, _), (4, _), (11, _), (17, _), (18, _), (10, _)] [] a := Z.pick [0, 2, 4, 11, 17, 18, 10]
   refine au ?_
   refine aq Z Tryd.results73 (ae rfl ah) ?_
   exact ⟨by simp only [retv]; rw [nw hall hold hroot (by omega) (by omega) hval hwh (by omega) (by omega)], Y.ext.const hk0 (Y.get (k := 3) rfl)⟩
  rw [hc15] at Z
  try simp only [qz] at hc15
  refine ao <| hK31 _ _ <| aN (by kernel_rfl) (aQ (by kernel_rfl) fun w15 hxz => ?_)
  replace Y : St (· = 0) w0 [blk w11.heap.size [sv old] 9, blk w5.heap.size [sv old] 9, own u 129 2 (way.map fun x : By × Bool => [sv x.1, .bool x.2]), blk 0 (kOf.map wv) 161] w15 := Y.grow hxz
  refine bp (k := 0) 7 [5, 6] Z (by kernel_rfl) (by kernel_rfl) (by kernel_rfl) (by rfl) ?_
  replace Z : Fr 137 [(0, _), (2, _), (4, _), (11, _), (12, _), (17, _), (18, _), (101, _), (102, _), (103, _), (104, _), (105, _)] [] a := Z.pick [0, 2, 4, 11, 12, 17, 18, 101, 102, 103, 104, 105]
  replace Y : St (· = 0) w0 [blk w5.heap.size [sv old] 9, blk w11.heap.size [sv old] 9, own u 129 2 (way.map fun x : By × Bool => [sv x.1, .bool x.2]), blk 0 (kOf.map wv) 161] w15 := Y.select [1, 0, 2, 3] (by decide)
  refine eb [6] (fun q => if q = 6 then blk w5.heap.size [sv old] 9 else join []) (fun q => if q = 6 then blk w5.heap.size [sv (cp.getD 0 [])] 9 else join []) 7 [[], [0], [1], [], [3], [4], [2]] (fun i => match i with | 0 => pv (pz) | 1 => pv (slAddr pz (0 * 1)) | 2 => pv (sv (cp.getD 0 [])) | 3 => pv (pz) | 4 => pv (slAddr pz (0 * 1)) | 5 => pv (sv (cp.getD 0 [])) | 6 => fun v E => v = undef ∧ E = [] | _ => fun _ _ => False) (by intro q; by_cases h6 : q = 6; (subst h6; rfl); simp only [h6, if_false]) Z (H := [blk w11.heap.size [sv old] 9, own u 129 2 (way.map fun x : By × Bool => [sv x.1, .bool x.2]), blk 0 (kOf.map wv) 161]) Y (by kernel_rfl) (by kernel_rfl) (by kernel_rfl) (by kernel_rfl) (by decide) (by decide) ?_ ?_ ?_ ?_ ?_ ?_
  ·intro i v E h
   match i, h with
   | 0, _ => exact by decide
   | 1, _ => exact by decide
   | 2, _ => exact by decide
   | 3, _ => exact by decide
   | 4, _ => exact by decide
   | 5, _ => exact by decide
   | 6, _ => exact by decide
   | i + 7, h => exact h.elim
  ·intro q v E hq h
   simp only [List.mem_cons, List.not_mem_nil, or_false] at hq
   rcases hq with rfl <;> exact h
  ·intro q hq
   simp only [List.mem_cons, List.not_mem_nil, or_false] at hq
   rcases hq with rfl <;> exact ⟨rfl, rfl⟩
  ·intro i hi hiq e
   match i, hi, hiq with
   | 0, _, _ =>
    intro w Y
    exact OpV.g (ai rfl)
   | 1, _, _ =>
    rintro _ _ ⟨rfl, rfl⟩
    intro w Y
    exact OpV.g ((ak (i := 0) (sT := 45) (hpv.grow (Y.ext.const hk0 (Y.get (k := 3) rfl))) rfl rfl (Tryd.runUnderlying45 _) (Tryd.sizeOf9 _) (by omega) (by rw [List.length_map]; omega)).as (v' := slAddr pz (0 * 1)) rfl)
   | 2, _, _ =>
    rintro _ _ ⟨rfl, rfl⟩
    intro w Y
    exact OpV.g (ax (u := sv (cp.getD 0 [])) (i := 0) (j := 0) (hpv.grow (Y.ext.const hk0 (Y.get (k := 3) rfl))) (by rw [List.length_map]; omega) rfl (Tryd.isAgg9 _) (by simp [List.getD_eq_getElem?_getD, List.getElem?_eq_getElem (show 0 < cp.length by omega)]))
   | 3, _, _ =>
    intro w Y
    exact OpV.g (ai rfl)
   | 4, _, _ =>
    rintro _ _ ⟨rfl, rfl⟩
    intro w Y
    exact OpV.g ((ak (i := 0) (sT := 45) (hpv.grow (Y.ext.const hk0 (Y.get (k := 3) rfl))) rfl rfl (Tryd.runUnderlying45 _) (Tryd.sizeOf9 _) (by omega) (by rw [List.length_map]; omega)).as (v' := slAddr pz (0 * 1)) rfl)
   | 5, _, _ =>
    rintro _ _ ⟨rfl, rfl⟩
    intro w Y
    exact OpV.g (ax (u := sv (cp.getD 0 [])) (i := 0) (j := 0) (hpv.grow (Y.ext.const hk0 (Y.get (k := 3) rfl))) (by rw [List.length_map]; omega) rfl (Tryd.isAgg9 _) (by simp [List.getD_eq_getElem?_getD, List.getElem?_eq_getElem (show 0 < cp.length by omega)]))
   | 6, _, h => exact absurd (by decide) h
  ·intro q hq
   simp only [List.mem_cons, List.not_mem_nil, or_false] at hq
   rcases hq with rfl
   ·rintro _ _ ⟨rfl, rfl⟩
    intro w h
    exact lL (cs := [sv old]) (ds := [sv (cp.getD 0 [])]) rfl rfl h (Tryd.sizeOf9 _) rfl (lb rfl) rfl
  clear Z Y
  rintro _ _ ⟨rfl, rfl⟩ _ _ ⟨rfl, rfl⟩ _ _ ⟨rfl, rfl⟩ _ _ ⟨rfl, rfl⟩ _ _ ⟨rfl, rfl⟩ _ _ ⟨rfl, rfl⟩ a w16 Z Y
  replace Z : Fr 137 [(106, _), (107, _), (108, _), (109, _), (110, _), (111, _), (0, _), (2, _), (4, _), (11, _), (12, _), (17, _), (18, _), (101, _), (102, _), (103, _), (104, _), (105, _)] [] a := Z
  replace Y : St (· = 0) w0 [blk w5.heap.size [sv (cp.getD 0 [])] 9, blk w11.heap.size [sv old] 9, own u 129 2 (way.map fun x : By × Bool => [sv x.1, .bool x.2]), blk 0 (kOf.map wv) 161] w16 := Y
  refine ab <| bd (k := 7) 9 [8] (by kernel_rfl) (by kernel_rfl) (by kernel_rfl) ?_
  refine az 1 Z Y rfl rfl rfl (Tryd.sizeOf9 _) rfl (lb rfl) (ds := [sv (cp.getD 0 [])]) rfl rfl ?_
  clear Z Y
  intro a w17 Z Y
  refine wla Z rfl fun a Z => ab <| bl (by kernel_rfl) ?_
  refine hK29 _ _ ?_
  replace Z : Fr 137 [(0, _), (2, _), (11, _), (17, _), (18, _), (4, _)] [] a := Z.pick [0, 2, 11, 17, 18, 4]
  refine ac fun K34 hK34 => aa fun K35 hK35 => wlm Z rfl fun a Z => aZ Z Y (by decide) Tryd.call86 rfl (fp u _ _ (Y.ownAt (i := 2) rfl)) ?_
  clear Z Y
  intro a w18 x16 hp Z Y
  revert x16 hp Z Y; rintro z1 hp Z Y
  clear hp
  replace Y : St (· = 0) w0 [blk z1 [u] 125, blk w5.heap.size [sv (cp.getD 0 [])] 9, blk w11.heap.size [sv (cp.getD 0 [])] 9, own u 129 2 (way.map fun x : By × Bool => [sv x.1, .bool x.2]), blk 0 (kOf.map wv) 161] w18 := Y
  refine ab (hK35 _ _ <| ap ?_)
  have hy32 : ∀ k, k < way.length → (way.getD k ([], false)).1.length = 32 := fun k hk => hway _ (bx hk)
  have hr0 : (cp.getD 0 []).length = 32 := hcp _ (bx (by omega))
  replace Y : St (· = 0) w0 [blk z1 [u] 125, blk w5.heap.size [sv (([] : List Nat).foldl (fun o k => fstH (way.getD k ([], false)) o) (cp.getD 0 []))] 9, blk w11.heap.size [sv (([] : List Nat).foldl (fun o k => joinH (way.getD k ([], false)) o) (cp.getD 0 []))] 9, own u 129 2 (way.map fun x : By × Bool => [sv x.1, .bool x.2]), blk 0 (kOf.map wv) 161] w18 := Y
  replace Y : St (· = 0) w0 [blk 0 (kOf.map wv) 161, blk w5.heap.size [sv (([] : List Nat).foldl (fun o k => fstH (way.getD k ([], false)) o) (cp.getD 0 []))] 9, blk w11.heap.size [sv (([] : List Nat).foldl (fun o k => joinH (way.getD k ([], false)) o) (cp.getD 0 []))] 9, blk z1 [u] 125, own u 129 2 (way.map fun x : By × Bool => [sv x.1, .bool x.2])] w18 := Y.select [4, 1, 2, 0, 3] (by decide)
  replace Z : Fr 137 [(0, sv old), (2, sv root), (11, u), (17, pt w5.heap.size), (18, pt w11.heap.size), (4, .slice none 0 0), (112, u), (113, .func (.func 101) #[] #[pt z1])] [] a := Z.pick [0, 2, 11, 17, 18, 4, 112, 113]
  refine cG (M := (· = 0)) (w0 := w0) (encs := (encD way)) (Hi := [blk z1 [u] 125, own u 129 2 (way.map fun x : By × Bool => [sv x.1, .bool x.2])]) (Hc := [blk 0 (kOf.map wv) 161, blk w5.heap.size [sv (([] : List Nat).foldl (fun o k => fstH (way.getD k ([], false)) o) (cp.getD 0 []))] 9, blk w11.heap.size [sv (([] : List Nat).foldl (fun o k => joinH (way.getD k ([], false)) o) (cp.getD 0 []))] 9]) (fun pre H => ((pre.foldl (fun o k => fstH (way.getD k ([], false)) o) (cp.getD 0 [])).length = 32 ∧ (pre.foldl (fun o k => joinH (way.getD k ([], false)) o) (cp.getD 0 [])).length = 32) ∧ H = [blk 0 (kOf.map wv) 161, blk w5.heap.size [sv (pre.foldl (fun o k => fstH (way.getD k ([], false)) o) (cp.getD 0 []))] 9, blk w11.heap.size [sv (pre.foldl (fun o k => joinH (way.getD k ([], false)) o) (cp.getD 0 []))] 9]) (fun _ _ _ => False) (fun pre xs H a => ∃ (bA0 : Nat), Fr 137 [(0, sv old), (2, sv root), (11, u), (17, pt w5.heap.size), (18, pt w11.heap.size), (4, .slice none 0 0), (112, u), (113, .func (.func 101) #[] #[pt z1]), (20, pt bA0)] [] a ∧ ((pre.foldl (fun o k => fstH (way.getD k ([], false)) o) (cp.getD 0 [])).length = 32 ∧ (pre.foldl (fun o k => joinH (way.getD k ([], false)) o) (cp.getD 0 [])).length = 32) ∧ H = [blk bA0 [sv ((way.getD xs ([], false)).1), .bool ((way.getD xs ([], false)).2)] 129, blk 0 (kOf.map wv) 161, blk w5.heap.size [sv (pre.foldl (fun o k => fstH (way.getD k ([], false)) o) (cp.getD 0 []))] 9, blk w11.heap.size [sv (pre.foldl (fun o k => joinH (way.getD k ([], false)) o) (cp.getD 0 []))] 9]) rfl Tryd.call101 Z Y (el u way z1 (by omega)) (by decide) (fun _ => rfl) ⟨⟨hr0, hr0⟩, rfl⟩ ?_ ?_ ?_ ?_
  ·clear Z Y
   rintro lp pre xs _ a w19 hnx ⟨hf32, rfl⟩ Z Y
   generalize (join [blk 0 (kOf.map wv) 161, blk w5.heap.size [sv (pre.foldl (fun o k => fstH (way.getD k ([], false)) o) (cp.getD 0 []))] 9, blk w11.heap.size [sv (pre.foldl (fun o k => joinH (way.getD k ([], false)) o) (cp.getD 0 []))] 9]).foot = M1 at Y ⊢
   replace Z : Fr 137 [(115, .agg #[sv ((way.getD xs ([], false)).1), .bool ((way.getD xs ([], false)).2)]), (114, iv (xs : Int)), (0, sv old), (2, sv root), (11, u), (17, pt w5.heap.size), (18, pt w11.heap.size), (4, .slice none 0 0), (112, u), (113, .func (.func 101) #[] #[pt z1])] [] a := Z
   refine am <| aD Z Y (by decide) (Tryd.zeroValue129 _) (cs := [.string (⟨#[]⟩), .bool false]) rfl ?_
   clear Z Y
   intro a w20 Z Y
   refine az 0 Z Y rfl rfl rfl (Tryd.sizeOf129 _) rfl (lb rfl) (ds := [sv ((way.getD xs ([], false)).1), .bool ((way.getD xs ([], false)).2)]) rfl rfl ?_
   clear Z Y
   intro a w21 Z Y
   refine ab ?_
   exact ⟨_, ⟨w19.heap.size, Z.pick [0, 2, 11, 17, 18, 4, 112, 113, 20], hf32, rfl⟩, Y⟩
  ·rintro lp pre xs _ a w22 hnx ⟨bA0, Z, hf32, rfl⟩ hout hrec hnl Y
   clear hrec hnl
   generalize (join [blk bA0 [sv ((way.getD xs ([], false)).1), .bool ((way.getD xs ([], false)).2)] 129, blk 0 (kOf.map wv) 161, blk w5.heap.size [sv (pre.foldl (fun o k => fstH (way.getD k ([], false)) o) (cp.getD 0 []))] 9, blk w11.heap.size [sv (pre.foldl (fun o k => joinH (way.getD k ([], false)) o) (cp.getD 0 []))] 9]).foot = M1 at Y hout ⊢
   refine ap <| ac fun K36 hK36 => aa fun K37 hK37 => wlv Z (ay (v := .pointer (some ⟨bA0, 1, none⟩)) rfl (by kernel_rfl)) fun a Z => wlv Z (aj (Y.get (k := 0) rfl) rfl (Tryd.isAgg4 _) rfl) fun a Z => ab (hK37 _ _ ?_)
   replace Z : Fr 137 [(17, _), (18, _), (20, _), (117, _)] [] a := Z.pick [17, 18, 20, 117]
   refine aC Z rfl (fun hc17 => ?_) (fun hc17 => ?_)
   ·rw [hc17] at Z
    try simp only [qz] at hc17
    refine am <| wlv Z (ar (Y.get (k := 0) rfl) rfl (Tryd.isAgg129 _) (Tryd.sizeOf129 _)) fun a Z => wlv Z (aj (Y.get (k := 2) rfl) rfl (Tryd.isAgg9 _) rfl) fun a Z => al Z Y (by decide) Tryd.call87 rfl (cV ((way.getD xs ([], false)).1) ((way.getD xs ([], false)).2) (pre.foldl (fun o k => fstH (way.getD k ([], false)) o) (cp.getD 0 [])) _ (by have := hy32 xs (by have h := hnx; unfold NxB at h; omega); omega) (by first | omega | exact Nat.le_trans (Nat.le_of_eq hf32.1) (by decide) | exact Nat.le_trans (Nat.le_of_eq hf32.2) (by decide)) (Y.get (k := 1) rfl)) ?_
    clear Z Y
    intro a w23 Z Y
    refine az 2 Z Y rfl rfl rfl (Tryd.sizeOf9 _) rfl (lb rfl) (ds := [sv (joinH ((way.getD xs ([], false)).1, (way.getD xs ([], false)).2) (pre.foldl (fun o k => fstH (way.getD k ([], false)) o) (cp.getD 0 [])))]) rfl rfl ?_
    clear Z Y
    intro a w24 Z Y
    refine ab <| hK36 _ _ <| am <| wlv Z (ar (Y.get (k := 0) rfl) rfl (Tryd.isAgg129 _) (Tryd.sizeOf129 _)) fun a Z => wlv Z (aj (Y.get (k := 3) rfl) rfl (Tryd.isAgg9 _) rfl) fun a Z => al Z Y (by decide) Tryd.call87 rfl (cV ((way.getD xs ([], false)).1) ((way.getD xs ([], false)).2) (pre.foldl (fun o k => joinH (way.getD k ([], false)) o) (cp.getD 0 [])) _ (by have := hy32 xs (by have h := hnx; unfold NxB at h; omega); omega) (by first | omega | exact Nat.le_trans (Nat.le_of_eq hf32.1) (by decide) | exact Nat.le_trans (Nat.le_of_eq hf32.2) (by decide)) (Y.get (k := 1) rfl)) ?_
    clear Z Y
    intro a w25 Z Y
    refine az 3 Z Y rfl rfl rfl (Tryd.sizeOf9 _) rfl (lb rfl) (ds := [sv (joinH ((way.getD xs ([], false)).1, (way.getD xs ([], false)).2) (pre.foldl (fun o k => joinH (way.getD k ([], false)) o) (cp.getD 0 [])))]) rfl rfl ?_
    clear Z Y
    intro a w26 Z Y
    refine ab ?_
    have hF : joinH ((way.getD xs ([], false)).1, (way.getD xs ([], false)).2) (pre.foldl (fun o k => fstH (way.getD k ([], false)) o) (cp.getD 0 [])) = (pre ++ [xs]).foldl (fun o k => fstH (way.getD k ([], false)) o) (cp.getD 0 []) := by rw [List.foldl_append]; exact ((if_pos (c := (way.getD xs ([], false)).2 = true) hc17)).symm
    have hJ : joinH ((way.getD xs ([], false)).1, (way.getD xs ([], false)).2) (pre.foldl (fun o k => joinH (way.getD k ([], false)) o) (cp.getD 0 [])) = (pre ++ [xs]).foldl (fun o k => joinH (way.getD k ([], false)) o) (cp.getD 0 []) := by rw [List.foldl_append]; rfl
    rw [hF, hJ] at Y
    exact ⟨_, ⟨⟨by rw [List.foldl_append]; exact eZ hf32.1, by rw [List.foldl_append]; exact bP _⟩, rfl⟩, Y.select [1, 2, 3] (by decide)⟩
   rw [hc17] at Z
   try simp only [qz] at hc17
   refine ao <| hK36 _ _ <| am <| wlv Z (ar (Y.get (k := 0) rfl) rfl (Tryd.isAgg129 _) (Tryd.sizeOf129 _)) fun a Z => wlv Z (aj (Y.get (k := 3) rfl) rfl (Tryd.isAgg9 _) rfl) fun a Z => al Z Y (by decide) Tryd.call87 rfl (cV ((way.getD xs ([], false)).1) ((way.getD xs ([], false)).2) (pre.foldl (fun o k => joinH (way.getD k ([], false)) o) (cp.getD 0 [])) _ (by have := hy32 xs (by have h := hnx; unfold NxB at h; omega); omega) (by first | omega | exact Nat.le_trans (Nat.le_of_eq hf32.1) (by decide) | exact Nat.le_trans (Nat.le_of_eq hf32.2) (by decide)) (Y.get (k := 1) rfl)) ?_
   clear Z Y
   intro a w27 Z Y
   refine az 3 Z Y rfl rfl rfl (Tryd.sizeOf9 _) rfl (lb rfl) (ds := [sv (joinH ((way.getD xs ([], false)).1, (way.getD xs ([], false)).2) (pre.foldl (fun o k => joinH (way.getD k ([], false)) o) (cp.getD 0 [])))]) rfl rfl ?_
   clear Z Y
   intro a w28 Z Y
   refine ab ?_
   have hF : pre.foldl (fun o k => fstH (way.getD k ([], false)) o) (cp.getD 0 []) = (pre ++ [xs]).foldl (fun o k => fstH (way.getD k ([], false)) o) (cp.getD 0 []) := by rw [List.foldl_append]; exact ((if_neg (c := (way.getD xs ([], false)).2 = true) (by rw [hc17]; decide))).symm
   have hJ : joinH ((way.getD xs ([], false)).1, (way.getD xs ([], false)).2) (pre.foldl (fun o k => joinH (way.getD k ([], false)) o) (cp.getD 0 [])) = (pre ++ [xs]).foldl (fun o k => joinH (way.getD k ([], false)) o) (cp.getD 0 []) := by rw [List.foldl_append]; rfl
   rw [hF, hJ] at Y
   exact ⟨_, ⟨⟨by rw [List.foldl_append]; exact eZ hf32.1, by rw [List.foldl_append]; exact bP _⟩, rfl⟩, Y.select [1, 2, 3] (by decide)⟩
  ·rintro D pre _ _ a w29 ⟨rfl, rfl⟩ ⟨hf32, rfl⟩ Y Z
   replace Z : Fr 137 [(0, sv old), (2, sv root), (11, u), (17, pt w5.heap.size), (18, pt w11.heap.size), (4, .slice none 0 0), (112, u), (113, .func (.func 101) #[] #[pt z1])] [{ target := .collected D, args := #[] }] a := Z
   replace Y : St (· = 0) w0 [obj D (.deferred (some [])), blk 0 (kOf.map wv) 161, blk w5.heap.size [sv ((backs way.length way.length).foldl (fun o k => fstH (way.getD k ([], false)) o) (cp.getD 0 []))] 9, blk w11.heap.size [sv ((backs way.length way.length).foldl (fun o k => joinH (way.getD k ([], false)) o) (cp.getD 0 []))] 9, blk z1 [u] 125, own u 129 2 (way.map fun x : By × Bool => [sv x.1, .bool x.2])] w29 := Y
   refine hK34 _ _ <| aa fun K38 hK38 => wlm Z rfl fun a Z => wlv Z (cB (v := iv 0) rfl (by kernel_rfl)) fun a Z => wlv Z ((v_eq rfl rfl).asb (b' := true) rfl) fun a Z => wlm Z rfl fun a Z => wly Z (aj (Y.get (k := 2) rfl) rfl (Tryd.isAgg9 _) rfl) fun a Z => wly Z (ai rfl) fun a Z => wly Z (dq rfl rfl) fun a Z => wlv Z (aE rfl rfl) fun a Z => wlm Z rfl fun a Z => ?_
   rcases Bool.eq_false_or_eq_true (decide ((backs way.length way.length).foldl (fun o k => fstH (way.getD k ([], false)) o) (cp.getD 0 []) = old)) with hb18 | hb18
   ·rw [hb18] at Z
    try simp only [qz] at hb18
    refine wly Z (aj (Y.get (k := 3) rfl) rfl (Tryd.isAgg9 _) rfl) fun a Z => wly Z (ai rfl) fun a Z => wly Z (dq rfl rfl) fun a Z => wlv Z (aE rfl rfl) fun a Z => wla Z rfl fun a Z => ab (hK38 _ _ ?_)
    replace Z : Fr 137 [(10, _)] [{ target := .collected D, args := #[] }] a := Z.pick [10]
    replace Y : St (· = 0) w0 [_, _, _] w29 := Y.mask [true, true, false, false, false, true]
    refine au ?_
    have hD := Y.get (k := 0) rfl
    replace Y := Y.unmark (i := 0) (o' := .deferred none) rfl
    replace Y : St (· = 0) w0 [blk 0 (kOf.map wv) 161, own u 129 2 (way.map fun x : By × Bool => [sv x.1, .bool x.2])] _ := Y
    refine bL Z hD Tryd.results73 (ae rfl ah) ?_
    have hkey := jM hall hold hroot (by omega) (by omega) hval hwh (by omega) (by omega)
    rw [← bZ fstH, ← bZ joinH] at hkey
    exact ⟨by simp only [retv]; rw [hkey, decide_eq_true (show (backs way.length way.length).foldl (fun o k => fstH (way.getD k ([], false)) o) (cp.getD 0 []) = old by assumption)]; rfl, Y.ext.const hk0 (Y.get (k := 0) rfl)⟩
   rw [hb18] at Z
   try simp only [qz] at hb18
   refine wln Z fun a Z => wln Z fun a Z => wln Z fun a Z => wlv Z (aw rfl rfl) fun a Z => wla Z rfl fun a Z => ab (hK38 _ _ ?_)
   replace Z : Fr 137 [(10, _)] [{ target := .collected D, args := #[] }] a := Z.pick [10]
   replace Y : St (· = 0) w0 [_, _, _] w29 := Y.mask [true, true, false, false, false, true]
   refine au ?_
   have hD := Y.get (k := 0) rfl
   replace Y := Y.unmark (i := 0) (o' := .deferred none) rfl
   replace Y : St (· = 0) w0 [blk 0 (kOf.map wv) 161, own u 129 2 (way.map fun x : By × Bool => [sv x.1, .bool x.2])] _ := Y
   refine bL Z hD Tryd.results73 (ae rfl ah) ?_
   have hkey := jM hall hold hroot (by omega) (by omega) hval hwh (by omega) (by omega)
   rw [← bZ fstH, ← bZ joinH] at hkey
   exact ⟨by simp only [retv]; rw [hkey, decide_eq_false (show ¬ (backs way.length way.length).foldl (fun o k => fstH (way.getD k ([], false)) o) (cp.getD 0 []) = old by assumption)]; rfl, Y.ext.const hk0 (Y.get (k := 0) rfl)⟩
  ·rintro D c pre _ _ a w30 _ h
   exact h.elim
 rw [hc14] at Z
 try simp only [qz] at hc14
 have hwh := hc14
 refine ao <| hK29 _ _ <| ac fun K39 hK39 => aa fun K40 hK40 => wlm Z rfl fun a Z => aZ Z Y (by decide) Tryd.call86 rfl (fp u _ _ (Y.ownAt (i := 2) rfl)) ?_
 clear Z Y
 intro a w31 x19 hp Z Y
 revert x19 hp Z Y; rintro z1 hp Z Y
 clear hp
 replace Y : St (· = 0) w0 [blk z1 [u] 125, blk w11.heap.size [sv old] 9, blk w5.heap.size [sv old] 9, own u 129 2 (way.map fun x : By × Bool => [sv x.1, .bool x.2]), blk 0 (kOf.map wv) 161] w31 := Y
 refine ab (hK40 _ _ <| ap ?_)
 have hy32 : ∀ k, k < way.length → (way.getD k ([], false)).1.length = 32 := fun k hk => hway _ (bx hk)
 have hr0 : (old).length = 32 := hold
 replace Y : St (· = 0) w0 [blk z1 [u] 125, blk w11.heap.size [sv (([] : List Nat).foldl (fun o k => joinH (way.getD k ([], false)) o) old)] 9, blk w5.heap.size [sv (([] : List Nat).foldl (fun o k => fstH (way.getD k ([], false)) o) old)] 9, own u 129 2 (way.map fun x : By × Bool => [sv x.1, .bool x.2]), blk 0 (kOf.map wv) 161] w31 := Y
 replace Y : St (· = 0) w0 [blk 0 (kOf.map wv) 161, blk w5.heap.size [sv (([] : List Nat).foldl (fun o k => fstH (way.getD k ([], false)) o) old)] 9, blk w11.heap.size [sv (([] : List Nat).foldl (fun o k => joinH (way.getD k ([], false)) o) old)] 9, blk z1 [u] 125, own u 129 2 (way.map fun x : By × Bool => [sv x.1, .bool x.2])] w31 := Y.select [4, 2, 1, 0, 3] (by decide)
 replace Z : Fr 137 [(0, sv old), (2, sv root), (4, pz), (11, u), (12, .bool wh), (17, pt w5.heap.size), (18, pt w11.heap.size), (101, .bool wh), (102, .bool false), (112, u), (113, .func (.func 101) #[] #[pt z1])] [] a := Z.pick [0, 2, 4, 11, 12, 17, 18, 101, 102, 112, 113]
 refine cG (M := (· = 0)) (w0 := w0) (encs := (encD way)) (Hi := [blk z1 [u] 125, own u 129 2 (way.map fun x : By × Bool => [sv x.1, .bool x.2])]) (Hc := [blk 0 (kOf.map wv) 161, blk w5.heap.size [sv (([] : List Nat).foldl (fun o k => fstH (way.getD k ([], false)) o) old)] 9, blk w11.heap.size [sv (([] : List Nat).foldl (fun o k => joinH (way.getD k ([], false)) o) old)] 9]) (fun pre H => ((pre.foldl (fun o k => fstH (way.getD k ([], false)) o) old).length = 32 ∧ (pre.foldl (fun o k => joinH (way.getD k ([], false)) o) old).length = 32) ∧ H = [blk 0 (kOf.map wv) 161, blk w5.heap.size [sv (pre.foldl (fun o k => fstH (way.getD k ([], false)) o) old)] 9, blk w11.heap.size [sv (pre.foldl (fun o k => joinH (way.getD k ([], false)) o) old)] 9]) (fun _ _ _ => False) (fun pre xs H a => ∃ (bA0 : Nat), Fr 137 [(0, sv old), (2, sv root), (4, pz), (11, u), (12, .bool wh), (17, pt w5.heap.size), (18, pt w11.heap.size), (101, .bool wh), (102, .bool false), (112, u), (113, .func (.func 101) #[] #[pt z1]), (20, pt bA0)] [] a ∧ ((pre.foldl (fun o k => fstH (way.getD k ([], false)) o) old).length = 32 ∧ (pre.foldl (fun o k => joinH (way.getD k ([], false)) o) old).length = 32) ∧ H = [blk bA0 [sv ((way.getD xs ([], false)).1), .bool ((way.getD xs ([], false)).2)] 129, blk 0 (kOf.map wv) 161, blk w5.heap.size [sv (pre.foldl (fun o k => fstH (way.getD k ([], false)) o) old)] 9, blk w11.heap.size [sv (pre.foldl (fun o k => joinH (way.getD k ([], false)) o) old)] 9]) rfl Tryd.call101 Z Y (el u way z1 (by omega)) (by decide) (fun _ => rfl) ⟨⟨hr0, hr0⟩, rfl⟩ ?_ ?_ ?_ ?_
 ·clear Z Y
  rintro lp pre xs _ a w32 hnx ⟨hf32, rfl⟩ Z Y
  generalize (join [blk 0 (kOf.map wv) 161, blk w5.heap.size [sv (pre.foldl (fun o k => fstH (way.getD k ([], false)) o) old)] 9, blk w11.heap.size [sv (pre.foldl (fun o k => joinH (way.getD k ([], false)) o) old)] 9]).foot = M1 at Y ⊢
  replace Z : Fr 137 [(115, .agg #[sv ((way.getD xs ([], false)).1), .bool ((way.getD xs ([], false)).2)]), (114, iv (xs : Int)), (0, sv old), (2, sv root), (4, pz), (11, u), (12, .bool wh), (17, pt w5.heap.size), (18, pt w11.heap.size), (101, .bool wh), (102, .bool false), (112, u), (113, .func (.func 101) #[] #[pt z1])] [] a := Z
  refine am <| aD Z Y (by decide) (Tryd.zeroValue129 _) (cs := [.string (⟨#[]⟩), .bool false]) rfl ?_
  clear Z Y
  intro a w33 Z Y
  refine az 0 Z Y rfl rfl rfl (Tryd.sizeOf129 _) rfl (lb rfl) (ds := [sv ((way.getD xs ([], false)).1), .bool ((way.getD xs ([], false)).2)]) rfl rfl ?_
  clear Z Y
  intro a w34 Z Y
  refine ab ?_
  exact ⟨_, ⟨w32.heap.size, Z.pick [0, 2, 4, 11, 12, 17, 18, 101, 102, 112, 113, 20], hf32, rfl⟩, Y⟩
 ·rintro lp pre xs _ a w35 hnx ⟨bA0, Z, hf32, rfl⟩ hout hrec hnl Y
  clear hrec hnl
  generalize (join [blk bA0 [sv ((way.getD xs ([], false)).1), .bool ((way.getD xs ([], false)).2)] 129, blk 0 (kOf.map wv) 161, blk w5.heap.size [sv (pre.foldl (fun o k => fstH (way.getD k ([], false)) o) old)] 9, blk w11.heap.size [sv (pre.foldl (fun o k => joinH (way.getD k ([], false)) o) old)] 9]).foot = M1 at Y hout ⊢
  refine ap <| ac fun K41 hK41 => aa fun K42 hK42 => wlv Z (ay (v := .pointer (some ⟨bA0, 1, none⟩)) rfl (by kernel_rfl)) fun a Z => wlv Z (aj (Y.get (k := 0) rfl) rfl (Tryd.isAgg4 _) rfl) fun a Z => ab (hK42 _ _ ?_)
  replace Z : Fr 137 [(17, _), (18, _), (20, _), (117, _)] [] a := Z.pick [17, 18, 20, 117]
  refine aC Z rfl (fun hc20 => ?_) (fun hc20 => ?_)
  ·rw [hc20] at Z
   try simp only [qz] at hc20
   refine am <| wlv Z (ar (Y.get (k := 0) rfl) rfl (Tryd.isAgg129 _) (Tryd.sizeOf129 _)) fun a Z => wlv Z (aj (Y.get (k := 2) rfl) rfl (Tryd.isAgg9 _) rfl) fun a Z => al Z Y (by decide) Tryd.call87 rfl (cV ((way.getD xs ([], false)).1) ((way.getD xs ([], false)).2) (pre.foldl (fun o k => fstH (way.getD k ([], false)) o) old) _ (by have := hy32 xs (by have h := hnx; unfold NxB at h; omega); omega) (by first | omega | exact Nat.le_trans (Nat.le_of_eq hf32.1) (by decide) | exact Nat.le_trans (Nat.le_of_eq hf32.2) (by decide)) (Y.get (k := 1) rfl)) ?_
   clear Z Y
   intro a w36 Z Y
   refine az 2 Z Y rfl rfl rfl (Tryd.sizeOf9 _) rfl (lb rfl) (ds := [sv (joinH ((way.getD xs ([], false)).1, (way.getD xs ([], false)).2) (pre.foldl (fun o k => fstH (way.getD k ([], false)) o) old))]) rfl rfl ?_
   clear Z Y
   intro a w37 Z Y
   refine ab <| hK41 _ _ <| am <| wlv Z (ar (Y.get (k := 0) rfl) rfl (Tryd.isAgg129 _) (Tryd.sizeOf129 _)) fun a Z => wlv Z (aj (Y.get (k := 3) rfl) rfl (Tryd.isAgg9 _) rfl) fun a Z => al Z Y (by decide) Tryd.call87 rfl (cV ((way.getD xs ([], false)).1) ((way.getD xs ([], false)).2) (pre.foldl (fun o k => joinH (way.getD k ([], false)) o) old) _ (by have := hy32 xs (by have h := hnx; unfold NxB at h; omega); omega) (by first | omega | exact Nat.le_trans (Nat.le_of_eq hf32.1) (by decide) | exact Nat.le_trans (Nat.le_of_eq hf32.2) (by decide)) (Y.get (k := 1) rfl)) ?_
   clear Z Y
   intro a w38 Z Y
   refine az 3 Z Y rfl rfl rfl (Tryd.sizeOf9 _) rfl (lb rfl) (ds := [sv (joinH ((way.getD xs ([], false)).1, (way.getD xs ([], false)).2) (pre.foldl (fun o k => joinH (way.getD k ([], false)) o) old))]) rfl rfl ?_
   clear Z Y
   intro a w39 Z Y
   refine ab ?_
   have hF : joinH ((way.getD xs ([], false)).1, (way.getD xs ([], false)).2) (pre.foldl (fun o k => fstH (way.getD k ([], false)) o) old) = (pre ++ [xs]).foldl (fun o k => fstH (way.getD k ([], false)) o) old := by rw [List.foldl_append]; exact ((if_pos (c := (way.getD xs ([], false)).2 = true) hc20)).symm
   have hJ : joinH ((way.getD xs ([], false)).1, (way.getD xs ([], false)).2) (pre.foldl (fun o k => joinH (way.getD k ([], false)) o) old) = (pre ++ [xs]).foldl (fun o k => joinH (way.getD k ([], false)) o) old := by rw [List.foldl_append]; rfl
   rw [hF, hJ] at Y
   exact ⟨_, ⟨⟨by rw [List.foldl_append]; exact eZ hf32.1, by rw [List.foldl_append]; exact bP _⟩, rfl⟩, Y.select [1, 2, 3] (by decide)⟩
  rw [hc20] at Z
  try simp only [qz] at hc20
  refine ao <| hK41 _ _ <| am <| wlv Z (ar (Y.get (k := 0) rfl) rfl (Tryd.isAgg129 _) (Tryd.sizeOf129 _)) fun a Z => wlv Z (aj (Y.get (k := 3) rfl) rfl (Tryd.isAgg9 _) rfl) fun a Z => al Z Y (by decide) Tryd.call87 rfl (cV ((way.getD xs ([], false)).1) ((way.getD xs ([], false)).2) (pre.foldl (fun o k => joinH (way.getD k ([], false)) o) old) _ (by have := hy32 xs (by have h := hnx; unfold NxB at h; omega); omega) (by first | omega | exact Nat.le_trans (Nat.le_of_eq hf32.1) (by decide) | exact Nat.le_trans (Nat.le_of_eq hf32.2) (by decide)) (Y.get (k := 1) rfl)) ?_
  clear Z Y
  intro a w40 Z Y
  refine az 3 Z Y rfl rfl rfl (Tryd.sizeOf9 _) rfl (lb rfl) (ds := [sv (joinH ((way.getD xs ([], false)).1, (way.getD xs ([], false)).2) (pre.foldl (fun o k => joinH (way.getD k ([], false)) o) old))]) rfl rfl ?_
  clear Z Y
  intro a w41 Z Y
  refine ab ?_
  have hF : pre.foldl (fun o k => fstH (way.getD k ([], false)) o) old = (pre ++ [xs]).foldl (fun o k => fstH (way.getD k ([], false)) o) old := by rw [List.foldl_append]; exact ((if_neg (c := (way.getD xs ([], false)).2 = true) (by rw [hc20]; decide))).symm
  have hJ : joinH ((way.getD xs ([], false)).1, (way.getD xs ([], false)).2) (pre.foldl (fun o k => joinH (way.getD k ([], false)) o) old) = (pre ++ [xs]).foldl (fun o k => joinH (way.getD k ([], false)) o) old := by rw [List.foldl_append]; rfl
  rw [hF, hJ] at Y
  exact ⟨_, ⟨⟨by rw [List.foldl_append]; exact eZ hf32.1, by rw [List.foldl_append]; exact bP _⟩, rfl⟩, Y.select [1, 2, 3] (by decide)⟩
 ·rintro D pre _ _ a w42 ⟨rfl, rfl⟩ ⟨hf32, rfl⟩ Y Z
  replace Z : Fr 137 [(0, sv old), (2, sv root), (4, pz), (11, u), (12, .bool wh), (17, pt w5.heap.size), (18, pt w11.heap.size), (101, .bool wh), (102, .bool false), (112, u), (113, .func (.func 101) #[] #[pt z1])] [{ target := .collected D, args := #[] }] a := Z
  replace Y : St (· = 0) w0 [obj D (.deferred (some [])), blk 0 (kOf.map wv) 161, blk w5.heap.size [sv ((backs way.length way.length).foldl (fun o k => fstH (way.getD k ([], false)) o) old)] 9, blk w11.heap.size [sv ((backs way.length way.length).foldl (fun o k => joinH (way.getD k ([], false)) o) old)] 9, blk z1 [u] 125, own u 129 2 (way.map fun x : By × Bool => [sv x.1, .bool x.2])] w42 := Y
  refine hK39 _ _ <| aa fun K43 hK43 => wlm Z rfl fun a Z => wlv Z ((aM (sT := 45) (hpv.grow (Y.ext.const hk0 (Y.get (k := 1) rfl))) rfl rfl (Tryd.runUnderlying45 _)).asi (m' := (cp.length : Int)) (by simp)) fun a Z => wlv Z (v_eq rfl rfl) fun a Z => wlm Z rfl fun a Z => ?_
  rcases Bool.eq_false_or_eq_true (decide ((cp.length : Int) = 0)) with hb21 | hb21
  ·rw [hb21] at Z
   try simp only [qz] at hb21
   refine wly Z (aj (Y.get (k := 2) rfl) rfl (Tryd.isAgg9 _) rfl) fun a Z => wly Z (ai rfl) fun a Z => wly Z (dq rfl rfl) fun a Z => wlv Z (aE rfl rfl) fun a Z => wlm Z rfl fun a Z => ?_
   rcases Bool.eq_false_or_eq_true (decide ((backs way.length way.length).foldl (fun o k => fstH (way.getD k ([], false)) o) old = old)) with hb22 | hb22
   ·rw [hb22] at Z
    try simp only [qz] at hb22
    refine wly Z (aj (Y.get (k := 3) rfl) rfl (Tryd.isAgg9 _) rfl) fun a Z => wly Z (ai rfl) fun a Z => wly Z (dq rfl rfl) fun a Z => wlv Z (aE rfl rfl) fun a Z => wla Z rfl fun a Z => ab (hK43 _ _ ?_)
    replace Z : Fr 137 [(10, _)] [{ target := .collected D, args := #[] }] a := Z.pick [10]
    replace Y : St (· = 0) w0 [_, _, _] w42 := Y.mask [true, true, false, false, false, true]
    refine au ?_
    have hD := Y.get (k := 0) rfl
    replace Y := Y.unmark (i := 0) (o' := .deferred none) rfl
    replace Y : St (· = 0) w0 [blk 0 (kOf.map wv) 161, own u 129 2 (way.map fun x : By × Bool => [sv x.1, .bool x.2])] _ := Y
    refine bL Z hD Tryd.results73 (ae rfl ah) ?_
    have hkey := fi hall hold hroot (by omega) (by omega) hval hwh (by omega)
    rw [← bZ fstH, ← bZ joinH] at hkey
    exact ⟨by simp only [retv]; rw [hkey, decide_eq_true (show cp.length = 0 by omega), decide_eq_true (show (backs way.length way.length).foldl (fun o k => fstH (way.getD k ([], false)) o) old = old by assumption)]; rfl, Y.ext.const hk0 (Y.get (k := 0) rfl)⟩
   rw [hb22] at Z
   try simp only [qz] at hb22
   refine wln Z fun a Z => wln Z fun a Z => wln Z fun a Z => wlv Z (aw rfl rfl) fun a Z => wla Z rfl fun a Z => ab (hK43 _ _ ?_)
   replace Z : Fr 137 [(10, _)] [{ target := .collected D, args := #[] }] a := Z.pick [10]
   replace Y : St (· = 0) w0 [_, _, _] w42 := Y.mask [true, true, false, false, false, true]
   refine au ?_
   have hD := Y.get (k := 0) rfl
   replace Y := Y.unmark (i := 0) (o' := .deferred none) rfl
   replace Y : St (· = 0) w0 [blk 0 (kOf.map wv) 161, own u 129 2 (way.map fun x : By × Bool => [sv x.1, .bool x.2])] _ := Y
   refine bL Z hD Tryd.results73 (ae rfl ah) ?_
   have hkey := fi hall hold hroot (by omega) (by omega) hval hwh (by omega)
   rw [← bZ fstH, ← bZ joinH] at hkey
   exact ⟨by simp only [retv]; rw [hkey]; first | rw [decide_eq_false (show ¬ cp.length = 0 by omega)]; rfl | rw [decide_eq_false (show ¬ (backs way.length way.length).foldl (fun o k => fstH (way.getD k ([], false)) o) old = old by assumption), Bool.and_false]; rfl, Y.ext.const hk0 (Y.get (k := 0) rfl)⟩
  rw [hb21] at Z
  try simp only [qz] at hb21
  refine wln Z fun a Z => wln Z fun a Z => wln Z fun a Z => wlv Z (aw rfl rfl) fun a Z => wlm Z rfl fun a Z => wln Z fun a Z => wln Z fun a Z => wln Z fun a Z => ?_
  refine wlv Z (aw rfl rfl) fun a Z => wla Z rfl fun a Z => ab (hK43 _ _ ?_)
  replace Z : Fr 137 [(10, _)] [{ target := .collected D, args := #[] }] a := Z.pick [10]
  replace Y : St (· = 0) w0 [_, _, _] w42 := Y.mask [true, true, false, false, false, true]
  refine au ?_
  have hD := Y.get (k := 0) rfl
  replace Y := Y.unmark (i := 0) (o' := .deferred none) rfl
  replace Y : St (· = 0) w0 [blk 0 (kOf.map wv) 161, own u 129 2 (way.map fun x : By × Bool => [sv x.1, .bool x.2])] _ := Y
  refine bL Z hD Tryd.results73 (ae rfl ah) ?_
  have hkey := fi hall hold hroot (by omega) (by omega) hval hwh (by omega)
  rw [← bZ fstH, ← bZ joinH] at hkey
  exact ⟨by simp only [retv]; rw [hkey]; first | rw [decide_eq_false (show ¬ cp.length = 0 by omega)]; rfl | rw [decide_eq_false (show ¬ (backs way.length way.length).foldl (fun o k => fstH (way.getD k ([], false)) o) old = old by assumption), Bool.and_false]; rfl, Y.ext.const hk0 (Y.get (k := 0) rfl)⟩
 ·rintro D c pre _ _ a w43 _ h
  exact h.elim
end Go.Proofs.YtddfkkdanpmnaaaDoor
namespace Go.Proofs.YtddfkkdanpmnaaaDoor
open Go.RowKit Go.PW
set_option linter.unusedVariables false
set_option linter.unusedSimpArgs false
set_option maxRecDepth 4000
theorem gQ (w0 : World) :
  Ret Tryd.prog 103 #[] w0 (MemR w0 (fun v : Value => v) (fun v => [own v 133 1 ((kOf).map fun x => [wv x])]) (fun _ => True)) := by
 refine aG Tryd.func103 rfl Tryd.ntmps103 (lb rfl) fun a Z => ?_
 replace Z : Fr 2 [] [] a := Z
 replace Y : St No w0 [] w0 := St.init w0
 refine aa fun K1 hK1 => wla Z rfl fun a Z => ab (hK1 _ _ <| aa fun K2 hK2 => ?_)
 refine aH (E := 133) (sz := 1) rfl [[wv (1116352408#32)], [wv (1899447441#32)], [wv (3049323471#32)], [wv (3921009573#32)], [wv (961987163#32)], [wv (1508970993#32)], [wv (2453635748#32)], [wv (2870763221#32)], [wv (3624381080#32)], [wv (310598401#32)], [wv (607225278#32)], [wv (1426881987#32)], [wv (1925078388#32)], [wv (2162078206#32)], [wv (2614888103#32)], [wv (3248222580#32)], [wv (3835390401#32)], [wv (4022224774#32)], [wv (264347078#32)], [wv (604807628#32)], [wv (770255983#32)], [wv (1249150122#32)], [wv (1555081692#32)], [wv (1996064986#32)], [wv (2554220882#32)], [wv (2821834349#32)], [wv (2952996808#32)], [wv (3210313671#32)], [wv (3336571891#32)], [wv (3584528711#32)], [wv (113926993#32)], [wv (338241895#32)], [wv (666307205#32)], [wv (773529912#32)], [wv (1294757372#32)], [wv (1396182291#32)], [wv (1695183700#32)], [wv (1986661051#32)], [wv (2177026350#32)], [wv (2456956037#32)], [wv (2730485921#32)], [wv (2820302411#32)], [wv (3259730800#32)], [wv (3345764771#32)], [wv (3516065817#32)], [wv (3600352804#32)], [wv (4094571909#32)], [wv (275423344#32)], [wv (430227734#32)], [wv (506948616#32)], [wv (659060556#32)], [wv (883997877#32)], [wv (958139571#32)], [wv (1322822218#32)], [wv (1537002063#32)], [wv (1747873779#32)], [wv (1955562222#32)], [wv (2024104815#32)], [wv (2227730452#32)], [wv (2361852424#32)], [wv (2428436474#32)], [wv (2756734187#32)], [wv (3204031479#32)], [wv (3329325298#32)]] (by kernel_rfl) (by simp) rfl (by decide) (by decide) Z Y ?_
 clear Z Y
 intro a w1 Z Y
 refine wla Z rfl fun a Z => ab (hK2 _ _ <| au ?_)
 refine aq Z Tryd.results103 (ae rfl ah) ?_
 exact ⟨(.slice (some ⟨w0.heap.size, 0, none⟩) 64 64), rfl, trivial, Y.ext, St.out (E := [own (.slice (some ⟨w0.heap.size, 0, none⟩) 64 64) 133 1 ((kOf).map fun x => [wv x])]) (H := []) Y⟩
theorem dM {α : Type} {l : List α} {i k : Nat} (d : α) (h : i < k) : (l.take k).getD i d = l.getD i d := by
 rw [List.getD_eq_getElem?_getD, List.getElem?_take_of_lt h, ← List.getD_eq_getElem?_getD]
set_option maxHeartbeats 4000000 in
theorem iH (s : By) (w0 : World) (hs : s.length ≤ 100000000) :
  Ret Tryd.prog 88 #[sv s] w0 (MemR w0 (fun v : Value => v) (fun v => [own v 5 1 ((padded s).map fun b => [yv b])]) (fun _ => True)) := by
 refine aG Tryd.func88 rfl Tryd.ntmps88 (lb rfl) fun a Z => ?_
 replace Z : Fr 43 [(0, _)] [] a := Z
 replace Y : St No w0 [] w0 := St.init w0
 refine aa fun K1 hK1 => wla Z rfl fun a Z => ab (hK1 _ _ <| aa fun K2 hK2 => ?_)
 refine wla Z rfl fun a Z => ab (hK2 _ _ <| ac fun K3 hK3 => ?_)
 refine aa fun K4 hK4 => wla Z rfl fun a Z => ab (hK4 _ _ <| ap ?_)
 replace Y : St No w0 [own (.slice none 0 0) 5 1 ((s.take 0).map fun b => [yv b])] w0 := Y.nil_own
 refine aT (fun m a w => ∃ (k : Nat) (v : Value), m = s.length - k ∧ (k ≤ s.length) ∧ Fr 43 [(0, sv s), (2, .slice none 0 0), (3, v), (4, iv (k : Int))] [] a ∧ St No w0 [own v 5 1 ((s.take k).map fun b => [yv b])] w) _ ⟨0, .slice none 0 0, rfl, Nat.zero_le _, Z.pick [0, 2, 3, 4], Y.select [0] (by decide)⟩ ?_
 rintro _ a w1 ⟨k, v, rfl, hk, Z, Y⟩
 refine ac fun K5 hK5 => aa fun K6 hK6 => wlm Z rfl fun a Z => wlm Z rfl fun a Z => wlv Z (aJ rfl rfl (Tryd.runUnderlying9 _)) fun a Z => wlv Z (v_lt rfl rfl) fun a Z => ab (hK6 _ _ ?_)
 refine aC Z rfl (fun hc1 => ?_) (fun hc1 => ?_)
 ·rw [hc1] at Z
  try simp only [qz] at hc1
  refine ao <| hK5 _ _ <| ac fun K7 hK7 => ap <| am <| wlm Z rfl fun a Z => wlm Z rfl fun a Z => wlm Z rfl fun a Z => wlv Z (eO (k := k) rfl rfl (Tryd.runUnderlying9 _) (by omega) (by omega)) fun a Z => ?_
  refine aH (E := 5) (sz := 1) rfl [[yv (s.getD k 0)]] (by kernel_rfl) (by simp) rfl (by decide) (by decide) Z Y ?_
  clear Z Y
  intro a w2 Z Y
  refine aR (i := 1) (sT := 71) (inf := Tryd.t5) (z := yv (0 : UInt8)) (b := 0) (off := 0) (m := 0) (c := 0) rfl rfl rfl (Y.ownAt (i := 0) rfl) (by simp) Tryd.underlying71 rfl rfl rfl rfl (by decide) (by simp [Value.oneCell', yv, wv, sv]) (by have hby : Tryd.t5.bytes = 1 := rfl; have hz6 : zeros s.length < 64 := (by unfold zeros; omega); simp [big, hby, sum1, sum2, bf] <;> omega) (by have hby : Tryd.t5.bytes = 1 := rfl; have hz6 : zeros s.length < 64 := (by unfold zeros; omega); simp [big, hby, sum1, sum2, bf] <;> omega) (by decide) Z Y fun a w3 s2 Z Y _ => wla Z rfl fun a Z => ab <| hK7 _ _ ?_
  replace Z : Fr 43 [(0, _), (2, _), (4, _), (3, _)] [] a := Z.pick [0, 2, 4, 3]
  replace Y : St No w0 [_] w3 := Y.mask [false, true]
  refine am <| wlm Z rfl fun a Z => wlv Z (aL rfl rfl ⟨by omega, by omega⟩) fun a Z => wla Z rfl fun a Z => ab ?_
  rw [show ((s.take k).map fun b => [yv b]) ++ ([[yv (s.getD k 0)]]) = ((s.take (k + 1)).map fun b => [yv b]) from by rw [cy 0 (by omega)]; simp] at Y
  refine ⟨_, ?_, k + 1, s2, rfl, (by omega), Z.pick [0, 2, 3, 4], Y.select [0] (by decide)⟩
  omega
 rw [hc1] at Z
 try simp only [qz] at hc1
 obtain rfl : k = s.length := by omega
 rw [List.take_length] at Y
 refine aF <| hK3 _ _ <| aa fun K8 hK8 => wlm Z rfl fun a Z => aH (E := 5) (sz := 1) rfl [[yv (128 : UInt8)]] (by kernel_rfl) (by simp) rfl (by decide) (by decide) Z Y ?_
 clear Z Y
 intro a w4 Z Y
 refine aR (i := 1) (sT := 71) (inf := Tryd.t5) (z := yv (0 : UInt8)) (b := 0) (off := 0) (m := 0) (c := 0) rfl rfl rfl (Y.ownAt (i := 0) rfl) (by simp) Tryd.underlying71 rfl rfl rfl rfl (by decide) (by simp [Value.oneCell', yv, wv, sv]) (by have hby : Tryd.t5.bytes = 1 := rfl; have hz6 : zeros s.length < 64 := (by unfold zeros; omega); simp [big, hby, sum1, sum2, bf] <;> omega) (by have hby : Tryd.t5.bytes = 1 := rfl; have hz6 : zeros s.length < 64 := (by unfold zeros; omega); simp [big, hby, sum1, sum2, bf] <;> omega) (by decide) Z Y fun a w5 s3 Z Y _ => wla Z rfl fun a Z => ab (hK8 _ _ ?_)
 replace Z : Fr 43 [(0, _), (2, _), (3, _)] [] a := Z.pick [0, 2, 3]
 replace Y : St No w0 [_] w5 := Y.mask [false, true]
 refine ac fun K9 hK9 => ap ?_
 rw [show ((s).map fun b => [yv b]) ++ ([[yv (128 : UInt8)]]) = ((sum1 s 0).map fun b => [yv b]) from by simp [sum1]] at Y
 refine aT (fun m a w => ∃ (z : Nat) (v : Value), m = 64 - z ∧ (z ≤ zeros s.length) ∧ Fr 43 [(0, sv s), (2, .slice none 0 0), (3, v)] [] a ∧ St No w0 [own v 5 1 ((sum1 s z).map fun b => [yv b])] w) _ ⟨0, s3, rfl, Nat.zero_le _, Z.pick [0, 2, 3], Y.select [0] (by decide)⟩ ?_
 rintro _ a w6 ⟨z, v, rfl, hz, Z, Y⟩
 refine ac fun K10 hK10 => aa fun K11 hK11 => wlm Z rfl fun a Z => wlv Z ((aM (sT := 71) (Y.ownAt (i := 0) rfl) rfl rfl (Tryd.runUnderlying71 _)).asi (m' := ((s.length + 1 + z : Nat) : Int)) (by rw [List.length_map, g8])) fun a Z => wlv Z (gn rfl rfl (by omega) (by omega)) fun a Z => wlv Z (v_ne rfl rfl) fun a Z => ab (hK11 _ _ ?_)
 refine aC Z rfl (fun hc4 => ?_) (fun hc4 => ?_)
 ·rw [hc4] at Z
  try simp only [qz] at hc4
  have hz2 : z + 1 ≤ zeros s.length := by unfold zeros at hz ⊢; omega
  have hz3 : zeros s.length < 64 := by unfold zeros; omega
  refine ao <| hK10 _ _ <| ap <| am <| wlm Z rfl fun a Z => aH (E := 5) (sz := 1) rfl [[yv (0 : UInt8)]] (by kernel_rfl) (by simp) rfl (by decide) (by decide) Z Y ?_
  clear Z Y
  intro a w7 Z Y
  refine aR (i := 1) (sT := 71) (inf := Tryd.t5) (z := yv (0 : UInt8)) (b := 0) (off := 0) (m := 0) (c := 0) rfl rfl rfl (Y.ownAt (i := 0) rfl) (by simp) Tryd.underlying71 rfl rfl rfl rfl (by decide) (by simp [Value.oneCell', yv, wv, sv]) (by have hby : Tryd.t5.bytes = 1 := rfl; have hz6 : zeros s.length < 64 := (by unfold zeros; omega); simp [big, hby, sum1, sum2, bf] <;> omega) (by have hby : Tryd.t5.bytes = 1 := rfl; have hz6 : zeros s.length < 64 := (by unfold zeros; omega); simp [big, hby, sum1, sum2, bf] <;> omega) (by decide) Z Y fun a w8 s5 Z Y _ => wla Z rfl fun a Z => ab ?_
  rw [show ((sum1 s z).map fun b => [yv b]) ++ ([[yv (0 : UInt8)]]) = ((sum1 s (z + 1)).map fun b => [yv b]) from by simp [sum1, List.replicate_succ']] at Y
  refine ⟨_, ?_, z + 1, s5, rfl, hz2, Z.pick [0, 2, 3], Y.select [1] (by decide)⟩
  omega
 rw [hc4] at Z
 try simp only [qz] at hc4
 obtain rfl : z = zeros s.length := by unfold zeros at hz ⊢; omega
 refine aF <| hK9 _ _ <| ac fun K12 hK12 => aa fun K13 hK13 => wla Z rfl fun a Z => ab (hK13 _ _ <| ap ?_)
 rw [show ((sum1 s (zeros s.length)).map fun b => [yv b]) = ((sum2 s 0).map fun b => [yv b]) from by simp [sum1, sum2]] at Y
 rw [show (7 : Int) = 7 - ((0 : Nat) : Int) from by omega] at Z
 refine aT (fun m a w => ∃ (r : Nat) (v : Value), m = 8 - r ∧ (r ≤ 8) ∧ Fr 43 [(0, sv s), (2, .slice none 0 0), (3, v), (5, iv (7 - (r : Int)))] [] a ∧ St No w0 [own v 5 1 ((sum2 s r).map fun b => [yv b])] w) _ ⟨0, v, rfl, Nat.zero_le _, Z.pick [0, 2, 3, 5], Y.select [0] (by decide)⟩ ?_
 rintro _ a w9 ⟨r, v, rfl, hr, Z, Y⟩
 refine ac fun K14 hK14 => aa fun K15 hK15 => wlm Z rfl fun a Z => wlv Z (v_ge rfl rfl) fun a Z => ab (hK15 _ _ ?_)
 refine aC Z rfl (fun hc6 => ?_) (fun hc6 => ?_)
 ·rw [hc6] at Z
  try simp only [qz] at hc6
  refine ao <| hK14 _ _ <| ac fun K16 hK16 => ap <| am <| wlm Z rfl fun a Z => wlm Z rfl fun a Z => wlv Z (aJ rfl rfl (Tryd.runUnderlying9 _)) fun a Z => ?_
  refine wlv Z ((cL rfl rfl ⟨by omega, by omega⟩).asi (m' := ((8 * s.length : Nat) : Int)) (by omega)) fun a Z => wlm Z rfl fun a Z => wlv Z ((cL rfl rfl ⟨by omega, by omega⟩).asi (m' := ((8 * (7 - r) : Nat) : Int)) (by omega)) fun a Z => wlv Z (lx (m := (8 * s.length)) (n := (8 * (7 - r))) rfl rfl (by omega)) fun a Z => wlv Z (gq (n := 8 * s.length / 2 ^ (8 * (7 - r))) rfl (by kernel_rfl) Tryd.underlying5) fun a Z => aH (E := 5) (sz := 1) rfl [[yv (UInt8.ofNat (8 * s.length / 2 ^ (8 * (7 - r))))]] (by kernel_rfl) (by simp) rfl (by decide) (by decide) Z Y ?_
  clear Z Y
  intro a w10 Z Y
  refine aR (i := 1) (sT := 71) (inf := Tryd.t5) (z := yv (0 : UInt8)) (b := 0) (off := 0) (m := 0) (c := 0) rfl rfl rfl (Y.ownAt (i := 0) rfl) (by simp) Tryd.underlying71 rfl rfl rfl rfl (by decide) (by simp [Value.oneCell', yv, wv, sv]) (by have hby : Tryd.t5.bytes = 1 := rfl; have hz6 : zeros s.length < 64 := (by unfold zeros; omega); simp [big, hby, sum1, sum2, bf] <;> omega) (by have hby : Tryd.t5.bytes = 1 := rfl; have hz6 : zeros s.length < 64 := (by unfold zeros; omega); simp [big, hby, sum1, sum2, bf] <;> omega) (by decide) Z Y fun a w11 s7 Z Y _ => wla Z rfl fun a Z => ab <| hK16 _ _ ?_
  replace Z : Fr 43 [(0, _), (2, _), (5, _), (3, _)] [] a := Z.pick [0, 2, 5, 3]
  replace Y : St No w0 [_] w11 := Y.mask [false, true]
  refine am <| wlm Z rfl fun a Z => wlv Z (bh rfl rfl ⟨by omega, by omega⟩) fun a Z => wla Z rfl fun a Z => ab ?_
  rw [show ((sum2 s r).map fun b => [yv b]) ++ ([[yv (UInt8.ofNat (8 * s.length / 2 ^ (8 * (7 - r))))]]) = ((sum2 s (r + 1)).map fun b => [yv b]) from by unfold sum2; rw [ea (by omega)]; simp] at Y
  rw [show 7 - (r : Int) - 1 = 7 - ((r + 1 : Nat) : Int) from by omega] at Z
  refine ⟨_, ?_, r + 1, s7, rfl, (by omega), Z.pick [0, 2, 3, 5], Y.select [0] (by decide)⟩
  omega
 rw [hc6] at Z
 try simp only [qz] at hc6
 obtain rfl : r = 8 := by omega
 rw [show sum2 s 8 = padded s from rfl] at Y
 refine aF <| hK12 _ _ <| aa fun K17 hK17 => wlm Z rfl fun a Z => wla Z rfl fun a Z => ab (hK17 _ _ ?_)
 replace Z : Fr 43 [(2, _)] [] a := Z.pick [2]
 refine au ?_
 refine aq Z Tryd.results88 (ae rfl ah) ?_
 exact ⟨v, rfl, trivial, Y.ext, St.out (E := [own v 5 1 ((padded s).map fun b => [yv b])]) (H := []) Y⟩
end Go.Proofs.YtddfkkdanpmnaaaDoor
namespace Go.Proofs.YtddfkkdanpmnaaaDoor
open Go.RowKit Go.PW
set_option linter.unusedVariables false
set_option linter.unusedSimpArgs false
set_option maxRecDepth 4000
theorem cF (x : Wd) (n : Nat) (w0 : World) (hn : 0 < n) (hn2 : n < 32) : Ret Tryd.prog 102 #[wv x, iv (n : Int)] w0 fun v w => v = wv (ror x n) ∧ Ext No w0 w := by
 have := jh x n w0 hn hn2
 rw [show (x >>> n) ||| (x <<< (32 - n)) = ror x n from BitVec.or_comm _ _] at this
 exact this
theorem mix2 (x : Wd) (a b : Nat) : mix x [a, b] = ror x a ^^^ ror x b := by simp [mix]
theorem mix3 (x : Wd) (a b c : Nat) : mix x [a, b, c] = ror x a ^^^ ror x b ^^^ ror x c := by simp [mix]
theorem g5 (bs : List UInt8) {j : Nat} : ∀ {i : Nat}, j < i → (d : Nat) → (sch bs (i + d)).getD j 0#32 = (sch bs i).getD j 0#32
 | i, h, 0 => rfl
 | i, h, d + 1 => by
  have e : sch bs (i + (d + 1)) = (sch bs (i + d)).set (i + d) (if i + d < 16 then be bs (i + d) else nx (sch bs (i + d)) (i + d)) := rfl
  rw [e, List.getD_eq_getElem?_getD, List.getElem?_set_ne (by omega), ← List.getD_eq_getElem?_getD]
  exact g5 bs h d
theorem lG (bs : List UInt8) {j : Nat} (h : j < 64) : (sch bs 64).getD j 0#32 = if j < 16 then be bs j else nx (sch bs j) j := by
 have := g5 bs (j := j) (i := j + 1) (by omega) (63 - j)
 rw [show j + 1 + (63 - j) = 64 from by omega] at this
 rw [this, sch, List.getD_eq_getElem?_getD, List.getElem?_set_self (by rw [aA]; omega)]; rfl
theorem gG (bs : List UInt8) {i j : Nat} (h : i < j) (hj : j ≤ 64) : (sch bs j).getD i 0#32 = (sch bs 64).getD i 0#32 := by
 have := g5 bs h (64 - j)
 rw [show j + (64 - j) = 64 from by omega] at this
 exact this.symm
theorem kq (bs : List UInt8) {k : Nat} (h : k < 16) : (sch bs 64).take (k + 1) = (sch bs 64).take k ++ [be bs k] := by
 rw [cy 0#32 (by rw [aA]; omega), lG bs (by omega), if_pos h]
theorem kv (bs : List UInt8) {j : Nat} (h : 16 ≤ j) (hj : j < 64) : (sch bs 64).take (j + 1) = (sch bs 64).take j ++ [((((sch bs 64).take j).getD (j - 16) 0#32 + (ror (((sch bs 64).take j).getD (j - 15) 0#32) 7 ^^^ ror (((sch bs 64).take j).getD (j - 15) 0#32) 18 ^^^ ((sch bs 64).take j).getD (j - 15) 0#32 >>> 3)) + ((sch bs 64).take j).getD (j - 7) 0#32) + (ror (((sch bs 64).take j).getD (j - 2) 0#32) 17 ^^^ ror (((sch bs 64).take j).getD (j - 2) 0#32) 19 ^^^ ((sch bs 64).take j).getD (j - 2) 0#32 >>> 10)] := by
 rw [cy 0#32 (by rw [aA]; omega), lG bs (by omega), if_neg (by omega), nx, mix2, mix2]
 rw [gG bs (i := j - 16) (j := j) (by omega) (by omega), gG bs (i := j - 15) (j := j) (by omega) (by omega), gG bs (i := j - 7) (j := j) (by omega) (by omega), gG bs (i := j - 2) (j := j) (by omega) (by omega)]
 rw [dM _ (by omega), dM _ (by omega), dM _ (by omega), dM _ (by omega)]
theorem l6 (x y : W8) {q : Nat} (h : q < 8) : (x.add y).l.take (q + 1) = (x.add y).l.take q ++ [x.l.getD q 0#32 + y.l.getD q 0#32] := by
 rw [cy 0#32 (by exact h)]
 congr 2
 have : q = 0 ∨ q = 1 ∨ q = 2 ∨ q = 3 ∨ q = 4 ∨ q = 5 ∨ q = 6 ∨ q = 7 := by omega
 rcases this with rfl | rfl | rfl | rfl | rfl | rfl | rfl | rfl <;> rfl
set_option maxHeartbeats 4000000 in
theorem kJ (hvv bv : Value) (hv : W8) (bs : List UInt8) (w0 : World) (hhv : SlAt w0 hvv 1 ((hv.l).map fun x => [wv x])) (hbv : SlAt w0 bv 1 (bs.map fun b => [yv b])) (hbl : bs.length = 64) :
  Ret Tryd.prog 89 #[hvv, bv] w0 (MemR w0 (fun v : Value => v) (fun v => [own v 133 1 (((block hv bs).l).map fun x => [wv x])]) (fun _ => True)) := by
 refine aG Tryd.func89 rfl Tryd.ntmps89 (lb rfl) fun a Z => ?_
 replace Z : Fr 238 [(0, _), (1, _)] [] a := Z
 replace Y : St No w0 [] w0 := St.init w0
 refine aa fun K1 hK1 => wla Z rfl fun a Z => ab (hK1 _ _ <| aa fun K2 hK2 => ?_)
 refine wla Z rfl fun a Z => ab (hK2 _ _ <| ac fun K3 hK3 => ?_)
 refine aa fun K4 hK4 => wla Z rfl fun a Z => ab (hK4 _ _ <| ap ?_)
 replace Y : St No w0 [own (.slice none 0 0) 133 1 (((sch bs 64).take 0).map fun x => [wv x])] w0 := Y.nil_own
 refine aT (fun m a w => ∃ (k : Nat) (u : Value), m = 16 - k ∧ (k ≤ 16) ∧ Fr 238 [(0, hvv), (1, bv), (4, .slice none 0 0), (5, u), (6, iv (k : Int))] [] a ∧ St No w0 [own u 133 1 (((sch bs 64).take k).map fun x => [wv x])] w) _ ⟨0, .slice none 0 0, rfl, Nat.zero_le _, Z.pick [0, 1, 4, 5, 6], Y.select [0] (by decide)⟩ ?_
 rintro _ a w1 ⟨k, u, rfl, hk, Z, Y⟩
 refine ac fun K5 hK5 => aa fun K6 hK6 => wlm Z rfl fun a Z => wlv Z (v_lt rfl rfl) fun a Z => ab (hK6 _ _ ?_)
 refine aC Z rfl (fun hc1 => ?_) (fun hc1 => ?_)
 ·rw [hc1] at Z
  try simp only [qz] at hc1
  refine ao <| hK5 _ _ <| ac fun K7 hK7 => ap <| aN (by kernel_rfl) (aQ (by kernel_rfl) fun w2 hxz => ?_)
  replace Y := Y.grow hxz
  refine bp (k := 0) 35 [0, 34] Z (by kernel_rfl) (by kernel_rfl) (by kernel_rfl) (by rfl) ?_
  replace Z : Fr 238 [(0, _), (1, _), (4, _), (5, _), (6, _), (19, _), (20, _)] [] a := Z.pick [0, 1, 4, 5, 6, 19, 20]
  refine aI [34] (fun i => match i with | 34 => pm (fun b : Nat => .slice (some ⟨b, 0, none⟩) 1 1) (fun b => [own (.slice (some ⟨b, 0, none⟩) 1 1) 133 1 [[wv (((((BitVec.ofNat 32 (bs.getD (4 * k) 0).toNat) <<< 24) ||| ((BitVec.ofNat 32 (bs.getD (4 * k + 1) 0).toNat) <<< 16)) ||| ((BitVec.ofNat 32 (bs.getD (4 * k + 2) 0).toNat) <<< 8)) ||| (BitVec.ofNat 32 (bs.getD (4 * k + 3) 0).toNat))]]]) (fun _ => True) | _ => fun _ _ => False) 35 [[], [], [], [2], [1, 3], [4], [5], [6], [], [], [9], [10], [8, 11], [12], [13], [14], [7, 15], [], [], [18], [19], [17, 20], [21], [22], [23], [16, 24], [], [], [27], [28], [26, 29], [30], [31], [25, 32], [33]] [u, bv, iv (k : Int), iv (4 * (k : Int)), slAddr bv ((4 * k) * 1), yv (bs.getD (4 * k) 0), wv (BitVec.ofNat 32 (bs.getD (4 * k) 0).toNat), wv ((BitVec.ofNat 32 (bs.getD (4 * k) 0).toNat) <<< 24), bv, iv (k : Int), iv (4 * (k : Int)), iv ((4 * (k : Int)) + 1), slAddr bv ((4 * k + 1) * 1), yv (bs.getD (4 * k + 1) 0), wv (BitVec.ofNat 32 (bs.getD (4 * k + 1) 0).toNat), wv ((BitVec.ofNat 32 (bs.getD (4 * k + 1) 0).toNat) <<< 16), wv (((BitVec.ofNat 32 (bs.getD (4 * k) 0).toNat) <<< 24) ||| ((BitVec.ofNat 32 (bs.getD (4 * k + 1) 0).toNat) <<< 16)), bv, iv (k : Int), iv (4 * (k : Int)), iv ((4 * (k : Int)) + 2), slAddr bv ((4 * k + 2) * 1), yv (bs.getD (4 * k + 2) 0), wv (BitVec.ofNat 32 (bs.getD (4 * k + 2) 0).toNat), wv ((BitVec.ofNat 32 (bs.getD (4 * k + 2) 0).toNat) <<< 8), wv ((((BitVec.ofNat 32 (bs.getD (4 * k) 0).toNat) <<< 24) ||| ((BitVec.ofNat 32 (bs.getD (4 * k + 1) 0).toNat) <<< 16)) ||| ((BitVec.ofNat 32 (bs.getD (4 * k + 2) 0).toNat) <<< 8)), bv, iv (k : Int), iv (4 * (k : Int)), iv ((4 * (k : Int)) + 3), slAddr bv ((4 * k + 3) * 1), yv (bs.getD (4 * k + 3) 0), wv (BitVec.ofNat 32 (bs.getD (4 * k + 3) 0).toNat), wv (((((BitVec.ofNat 32 (bs.getD (4 * k) 0).toNat) <<< 24) ||| ((BitVec.ofNat 32 (bs.getD (4 * k + 1) 0).toNat) <<< 16)) ||| ((BitVec.ofNat 32 (bs.getD (4 * k + 2) 0).toNat) <<< 8)) ||| (BitVec.ofNat 32 (bs.getD (4 * k + 3) 0).toNat)), undef] Z Y (by kernel_rfl) (by kernel_rfl) (by kernel_rfl) ?_ ?_ ?_
  ·intro i hi hiq
   match i, hi, hiq with
   | 0, _, _ =>
    intro w Y
    exact OpV.g (ai rfl)
   | 1, _, _ =>
    intro w Y
    exact OpV.g (ai rfl)
   | 2, _, _ =>
    intro w Y
    exact OpV.g (ai rfl)
   | 3, _, _ =>
    intro w Y
    exact OpV.g (cL rfl rfl ⟨by omega, by omega⟩)
   | 4, _, _ =>
    intro w Y
    exact OpV.g ((ak (i := 4 * (k : Int)) (sT := 71) (Y.arg hbv) rfl rfl (Tryd.runUnderlying71 _) (Tryd.sizeOf5 _) (by omega) (by rw [List.length_map]; first | omega | (rw [aA]; omega) | (rw [List.length_take, aA]; omega) | (rw [W8.l_len]; omega) | (rw [aU]; omega))).as (v' := slAddr bv ((4 * k) * 1)) (by rw [show (4 * (k : Int)).toNat = (4 * k) from by omega]))
   | 5, _, _ =>
    intro w Y
    exact OpV.g (ax (u := yv (bs.getD (4 * k) 0)) (i := (4 * k)) (j := 0) (Y.arg hbv) (by rw [List.length_map]; first | omega | (rw [aA]; omega) | (rw [List.length_take, aA]; omega) | (rw [W8.l_len]; omega) | (rw [aU]; omega)) rfl (Tryd.isAgg5 _) (by simp [List.getD_eq_getElem?_getD, List.getElem?_eq_getElem (show (4 * k) < bs.length by omega)]))
   | 6, _, _ =>
    intro w Y
    exact OpV.g (co rfl (by kernel_rfl) Tryd.underlying133)
   | 7, _, _ =>
    intro w Y
    exact OpV.g (dL (n := 24) rfl rfl)
   | 8, _, _ =>
    intro w Y
    exact OpV.g (ai rfl)
   | 9, _, _ =>
    intro w Y
    exact OpV.g (ai rfl)
   | 10, _, _ =>
    intro w Y
    exact OpV.g (cL rfl rfl ⟨by omega, by omega⟩)
   | 11, _, _ =>
    intro w Y
    exact OpV.g (aL rfl rfl ⟨by omega, by omega⟩)
   | 12, _, _ =>
    intro w Y
    exact OpV.g ((ak (i := (4 * (k : Int)) + 1) (sT := 71) (Y.arg hbv) rfl rfl (Tryd.runUnderlying71 _) (Tryd.sizeOf5 _) (by omega) (by rw [List.length_map]; first | omega | (rw [aA]; omega) | (rw [List.length_take, aA]; omega) | (rw [W8.l_len]; omega) | (rw [aU]; omega))).as (v' := slAddr bv ((4 * k + 1) * 1)) (by rw [show ((4 * (k : Int)) + 1).toNat = (4 * k + 1) from by omega]))
   | 13, _, _ =>
    intro w Y
    exact OpV.g (ax (u := yv (bs.getD (4 * k + 1) 0)) (i := (4 * k + 1)) (j := 0) (Y.arg hbv) (by rw [List.length_map]; first | omega | (rw [aA]; omega) | (rw [List.length_take, aA]; omega) | (rw [W8.l_len]; omega) | (rw [aU]; omega)) rfl (Tryd.isAgg5 _) (by simp [List.getD_eq_getElem?_getD, List.getElem?_eq_getElem (show (4 * k + 1) < bs.length by omega)]))
   | 14, _, _ =>
    intro w Y
    exact OpV.g (co rfl (by kernel_rfl) Tryd.underlying133)
   | 15, _, _ =>
    intro w Y
    exact OpV.g (dL (n := 16) rfl rfl)
   | 16, _, _ =>
    intro w Y
    exact OpV.g (eU rfl rfl)
   | 17, _, _ =>
    intro w Y
    exact OpV.g (ai rfl)
   | 18, _, _ =>
    intro w Y
    exact OpV.g (ai rfl)
   | 19, _, _ =>
    intro w Y
    exact OpV.g (cL rfl rfl ⟨by omega, by omega⟩)
   | 20, _, _ =>
    intro w Y
    exact OpV.g (aL rfl rfl ⟨by omega, by omega⟩)
   | 21, _, _ =>
    intro w Y
    exact OpV.g ((ak (i := (4 * (k : Int)) + 2) (sT := 71) (Y.arg hbv) rfl rfl (Tryd.runUnderlying71 _) (Tryd.sizeOf5 _) (by omega) (by rw [List.length_map]; first | omega | (rw [aA]; omega) | (rw [List.length_take, aA]; omega) | (rw [W8.l_len]; omega) | (rw [aU]; omega))).as (v' := slAddr bv ((4 * k + 2) * 1)) (by rw [show ((4 * (k : Int)) + 2).toNat = (4 * k + 2) from by omega]))
   | 22, _, _ =>
    intro w Y
    exact OpV.g (ax (u := yv (bs.getD (4 * k + 2) 0)) (i := (4 * k + 2)) (j := 0) (Y.arg hbv) (by rw [List.length_map]; first | omega | (rw [aA]; omega) | (rw [List.length_take, aA]; omega) | (rw [W8.l_len]; omega) | (rw [aU]; omega)) rfl (Tryd.isAgg5 _) (by simp [List.getD_eq_getElem?_getD, List.getElem?_eq_getElem (show (4 * k + 2) < bs.length by omega)]))
   | 23, _, _ =>
    intro w Y
    exact OpV.g (co rfl (by kernel_rfl) Tryd.underlying133)
   | 24, _, _ =>
    intro w Y
    exact OpV.g (dL (n := 8) rfl rfl)
   | 25, _, _ =>
    intro w Y
    exact OpV.g (eU rfl rfl)
   | 26, _, _ =>
    intro w Y
    exact OpV.g (ai rfl)
   | 27, _, _ =>
    intro w Y
    exact OpV.g (ai rfl)
   | 28, _, _ =>
    intro w Y
    exact OpV.g (cL rfl rfl ⟨by omega, by omega⟩)
   | 29, _, _ =>
    intro w Y
    exact OpV.g (aL rfl rfl ⟨by omega, by omega⟩)
   | 30, _, _ =>
    intro w Y
    exact OpV.g ((ak (i := (4 * (k : Int)) + 3) (sT := 71) (Y.arg hbv) rfl rfl (Tryd.runUnderlying71 _) (Tryd.sizeOf5 _) (by omega) (by rw [List.length_map]; first | omega | (rw [aA]; omega) | (rw [List.length_take, aA]; omega) | (rw [W8.l_len]; omega) | (rw [aU]; omega))).as (v' := slAddr bv ((4 * k + 3) * 1)) (by rw [show ((4 * (k : Int)) + 3).toNat = (4 * k + 3) from by omega]))
   | 31, _, _ =>
    intro w Y
    exact OpV.g (ax (u := yv (bs.getD (4 * k + 3) 0)) (i := (4 * k + 3)) (j := 0) (Y.arg hbv) (by rw [List.length_map]; first | omega | (rw [aA]; omega) | (rw [List.length_take, aA]; omega) | (rw [W8.l_len]; omega) | (rw [aU]; omega)) rfl (Tryd.isAgg5 _) (by simp [List.getD_eq_getElem?_getD, List.getElem?_eq_getElem (show (4 * k + 3) < bs.length by omega)]))
   | 32, _, _ =>
    intro w Y
    exact OpV.g (co rfl (by kernel_rfl) Tryd.underlying133)
   | 33, _, _ =>
    intro w Y
    exact OpV.g (eU rfl rfl)
   | 34, _, h => exact absurd (by simp) h
   | i + 35, h, _ => exact absurd h (by omega)
  ·intro i hi
   simp only [List.mem_cons, List.not_mem_nil, or_false] at hi
   subst hi
   ·intro w Y
    exact aK (E := 133) (sz := 1) rfl [[wv (((((BitVec.ofNat 32 (bs.getD (4 * k) 0).toNat) <<< 24) ||| ((BitVec.ofNat 32 (bs.getD (4 * k + 1) 0).toNat) <<< 16)) ||| ((BitVec.ofNat 32 (bs.getD (4 * k + 2) 0).toNat) <<< 8)) ||| (BitVec.ofNat 32 (bs.getD (4 * k + 3) 0).toNat))]] (fun _ => by kernel_rfl) (by simp) rfl (by decide)
  clear Z Y
  rintro _ _ ⟨b2, rfl, -, rfl⟩ a w3 Z Y
  replace Z : Fr 238 [(23, u), (24, bv), (25, iv (k : Int)), (26, iv (4 * (k : Int))), (27, slAddr bv ((4 * k) * 1)), (28, yv (bs.getD (4 * k) 0)), (29, wv (BitVec.ofNat 32 (bs.getD (4 * k) 0).toNat)), (30, wv ((BitVec.ofNat 32 (bs.getD (4 * k) 0).toNat) <<< 24)), (31, bv), (32, iv (k : Int)), (33, iv (4 * (k : Int))), (34, iv ((4 * (k : Int)) + 1)), (35, slAddr bv ((4 * k + 1) * 1)), (36, yv (bs.getD (4 * k + 1) 0)), (37, wv (BitVec.ofNat 32 (bs.getD (4 * k + 1) 0).toNat)), (38, wv ((BitVec.ofNat 32 (bs.getD (4 * k + 1) 0).toNat) <<< 16)), (39, wv (((BitVec.ofNat 32 (bs.getD (4 * k) 0).toNat) <<< 24) ||| ((BitVec.ofNat 32 (bs.getD (4 * k + 1) 0).toNat) <<< 16))), (40, bv), (41, iv (k : Int)), (42, iv (4 * (k : Int))), (43, iv ((4 * (k : Int)) + 2)), (44, slAddr bv ((4 * k + 2) * 1)), (45, yv (bs.getD (4 * k + 2) 0)), (46, wv (BitVec.ofNat 32 (bs.getD (4 * k + 2) 0).toNat)), (47, wv ((BitVec.ofNat 32 (bs.getD (4 * k + 2) 0).toNat) <<< 8)), (48, wv ((((BitVec.ofNat 32 (bs.getD (4 * k) 0).toNat) <<< 24) ||| ((BitVec.ofNat 32 (bs.getD (4 * k + 1) 0).toNat) <<< 16)) ||| ((BitVec.ofNat 32 (bs.getD (4 * k + 2) 0).toNat) <<< 8))), (49, bv), (50, iv (k : Int)), (51, iv (4 * (k : Int))), (52, iv ((4 * (k : Int)) + 3)), (53, slAddr bv ((4 * k + 3) * 1)), (54, yv (bs.getD (4 * k + 3) 0)), (55, wv (BitVec.ofNat 32 (bs.getD (4 * k + 3) 0).toNat)), (56, wv (((((BitVec.ofNat 32 (bs.getD (4 * k) 0).toNat) <<< 24) ||| ((BitVec.ofNat 32 (bs.getD (4 * k + 1) 0).toNat) <<< 16)) ||| ((BitVec.ofNat 32 (bs.getD (4 * k + 2) 0).toNat) <<< 8)) ||| (BitVec.ofNat 32 (bs.getD (4 * k + 3) 0).toNat))), (57, _), (0, _), (1, _), (4, _), (5, _), (6, _), (19, _), (20, _)] [] a := Z
  replace Y : St No w0 [_, _] w3 := Y
  refine ab <| bd (k := 35) 37 [36] (by kernel_rfl) (by kernel_rfl) (by kernel_rfl) ?_
  refine aR (i := 1) (sT := 134) (inf := Tryd.t133) (z := wv (0#32)) (b := 0) (off := 0) (m := 0) (c := 0) rfl rfl rfl (Y.ownAt (i := 0) rfl) (by simp) Tryd.underlying134 rfl rfl rfl rfl (by decide) (by simp [Value.oneCell', yv, wv, sv]) (by have hby : Tryd.t133.bytes = 4 := rfl; simp only [big, hby, List.length_append, List.length_map, List.length_take, aA, W8.l_len, List.length_cons, List.length_nil]; omega) (by have hby : Tryd.t133.bytes = 4 := rfl; simp only [big, hby, List.length_append, List.length_map, List.length_take, aA, W8.l_len, List.length_cons, List.length_nil]; omega) (by decide) Z Y fun a w4 s3 Z Y _ => wla Z rfl fun a Z => ab <| bl (by kernel_rfl) ?_
  refine hK7 _ _ ?_
  replace Z : Fr 238 [(0, _), (1, _), (4, _), (6, _), (5, _)] [] a := Z.pick [0, 1, 4, 6, 5]
  replace Y : St No w0 [_] w4 := Y.mask [false, true]
  refine am <| wlm Z rfl fun a Z => wlv Z (aL rfl rfl ⟨by omega, by omega⟩) fun a Z => wla Z rfl fun a Z => ab ?_
  rw [show (((sch bs 64).take k).map fun x => [wv x]) ++ ([[wv (((((BitVec.ofNat 32 (bs.getD (4 * k) 0).toNat) <<< 24) ||| ((BitVec.ofNat 32 (bs.getD (4 * k + 1) 0).toNat) <<< 16)) ||| ((BitVec.ofNat 32 (bs.getD (4 * k + 2) 0).toNat) <<< 8)) ||| (BitVec.ofNat 32 (bs.getD (4 * k + 3) 0).toNat))]]) = (((sch bs 64).take (k + 1)).map fun x => [wv x]) from by rw [kq bs (by omega)]; simp [be]] at Y
  refine ⟨_, ?_, k + 1, s3, rfl, (by omega), Z.pick [0, 1, 4, 5, 6], Y.select [0] (by decide)⟩
  omega
 rw [hc1] at Z
 try simp only [qz] at hc1
 obtain rfl : k = 16 := by omega
 refine aF <| hK3 _ _ <| ac fun K8 hK8 => aa fun K9 hK9 => wla Z rfl fun a Z => ab (hK9 _ _ <| ap ?_)
 refine aT (fun m a w => ∃ (j : Nat) (u : Value), m = 64 - j ∧ (16 ≤ j) ∧ (j ≤ 64) ∧ Fr 238 [(0, hvv), (4, .slice none 0 0), (5, u), (7, iv (j : Int))] [] a ∧ St No w0 [own u 133 1 (((sch bs 64).take j).map fun x => [wv x])] w) _ ⟨16, u, rfl, (by omega), (by omega), Z.pick [0, 4, 5, 7], Y.select [0] (by decide)⟩ ?_
 rintro _ a w5 ⟨j, u, rfl, hj, hj2, Z, Y⟩
 refine ac fun K10 hK10 => aa fun K11 hK11 => wlm Z rfl fun a Z => wlv Z (v_lt rfl rfl) fun a Z => ab (hK11 _ _ ?_)
 refine aC Z rfl (fun hc4 => ?_) (fun hc4 => ?_)
 ·rw [hc4] at Z
  try simp only [qz] at hc4
  refine ao <| hK10 _ _ <| ac fun K12 hK12 => ap <| ac fun K13 hK13 => aN (by kernel_rfl) (aQ (by kernel_rfl) fun w6 hxz => ?_)
  replace Y := Y.grow hxz
  refine bp (k := 0) 19 [12, 18] Z (by kernel_rfl) (by kernel_rfl) (by kernel_rfl) (by rfl) ?_
  replace Z : Fr 238 [(0, _), (4, _), (5, _), (7, _), (59, _), (60, _)] [] a := Z.pick [0, 4, 5, 7, 59, 60]
  refine aI [] (fun i => match i with | _ => fun _ _ => False) 19 [[], [], [1], [0, 2], [3], [4], [], [], [7], [6, 8], [9], [10], [5, 11], [], [], [14], [13, 15], [16], [17]] [u, iv (j : Int), iv ((j : Int) - 15), slAddr u ((j - 15) * 1), wv (((sch bs 64).take j).getD (j - 15) 0#32), wv (ror (((sch bs 64).take j).getD (j - 15) 0#32) 7), u, iv (j : Int), iv ((j : Int) - 15), slAddr u ((j - 15) * 1), wv (((sch bs 64).take j).getD (j - 15) 0#32), wv (ror (((sch bs 64).take j).getD (j - 15) 0#32) 18), wv ((ror (((sch bs 64).take j).getD (j - 15) 0#32) 7) ^^^ (ror (((sch bs 64).take j).getD (j - 15) 0#32) 18)), u, iv (j : Int), iv ((j : Int) - 15), slAddr u ((j - 15) * 1), wv (((sch bs 64).take j).getD (j - 15) 0#32), wv ((((sch bs 64).take j).getD (j - 15) 0#32) >>> 3)] Z Y (by kernel_rfl) (by kernel_rfl) (by kernel_rfl) ?_ ?_ ?_
  ·intro i hi hiq
   match i, hi, hiq with
   | 0, _, _ =>
    intro w Y
    exact OpV.g (ai rfl)
   | 1, _, _ =>
    intro w Y
    exact OpV.g (ai rfl)
   | 2, _, _ =>
    intro w Y
    exact OpV.g (bh rfl rfl ⟨by omega, by omega⟩)
   | 3, _, _ =>
    intro w Y
    exact OpV.g ((ak (i := (j : Int) - 15) (sT := 134) (Y.ownAt (i := 0) rfl) rfl rfl (Tryd.runUnderlying134 _) (Tryd.sizeOf133 _) (by omega) (by rw [List.length_map]; first | omega | (rw [aA]; omega) | (rw [List.length_take, aA]; omega) | (rw [W8.l_len]; omega) | (rw [aU]; omega))).as (v' := slAddr u ((j - 15) * 1)) (by rw [show ((j : Int) - 15).toNat = (j - 15) from by omega]))
   | 4, _, _ =>
    intro w Y
    exact OpV.g (ax (u := wv (((sch bs 64).take j).getD (j - 15) 0#32)) (i := (j - 15)) (j := 0) (Y.ownAt (i := 0) rfl) (by rw [List.length_map]; first | omega | (rw [aA]; omega) | (rw [List.length_take, aA]; omega) | (rw [W8.l_len]; omega) | (rw [aU]; omega)) rfl (Tryd.isAgg133 _) (by rw [bE 0#32]; rfl))
   | 5, _, _ =>
    intro w Y
    exact br Tryd.call102 rfl (cF (((sch bs 64).take j).getD (j - 15) 0#32) 7 _ (by decide) (by decide))
   | 6, _, _ =>
    intro w Y
    exact OpV.g (ai rfl)
   | 7, _, _ =>
    intro w Y
    exact OpV.g (ai rfl)
   | 8, _, _ =>
    intro w Y
    exact OpV.g (bh rfl rfl ⟨by omega, by omega⟩)
   | 9, _, _ =>
    intro w Y
    exact OpV.g ((ak (i := (j : Int) - 15) (sT := 134) (Y.ownAt (i := 0) rfl) rfl rfl (Tryd.runUnderlying134 _) (Tryd.sizeOf133 _) (by omega) (by rw [List.length_map]; first | omega | (rw [aA]; omega) | (rw [List.length_take, aA]; omega) | (rw [W8.l_len]; omega) | (rw [aU]; omega))).as (v' := slAddr u ((j - 15) * 1)) (by rw [show ((j : Int) - 15).toNat = (j - 15) from by omega]))
   | 10, _, _ =>
    intro w Y
    exact OpV.g (ax (u := wv (((sch bs 64).take j).getD (j - 15) 0#32)) (i := (j - 15)) (j := 0) (Y.ownAt (i := 0) rfl) (by rw [List.length_map]; first | omega | (rw [aA]; omega) | (rw [List.length_take, aA]; omega) | (rw [W8.l_len]; omega) | (rw [aU]; omega)) rfl (Tryd.isAgg133 _) (by rw [bE 0#32]; rfl))
   | 11, _, _ =>
    intro w Y
    exact br Tryd.call102 rfl (cF (((sch bs 64).take j).getD (j - 15) 0#32) 18 _ (by decide) (by decide))
   | 12, _, _ =>
    intro w Y
    exact OpV.g (bY rfl rfl)
   | 13, _, _ =>
    intro w Y
    exact OpV.g (ai rfl)
   | 14, _, _ =>
    intro w Y
    exact OpV.g (ai rfl)
   | 15, _, _ =>
    intro w Y
    exact OpV.g (bh rfl rfl ⟨by omega, by omega⟩)
   | 16, _, _ =>
    intro w Y
    exact OpV.g ((ak (i := (j : Int) - 15) (sT := 134) (Y.ownAt (i := 0) rfl) rfl rfl (Tryd.runUnderlying134 _) (Tryd.sizeOf133 _) (by omega) (by rw [List.length_map]; first | omega | (rw [aA]; omega) | (rw [List.length_take, aA]; omega) | (rw [W8.l_len]; omega) | (rw [aU]; omega))).as (v' := slAddr u ((j - 15) * 1)) (by rw [show ((j : Int) - 15).toNat = (j - 15) from by omega]))
   | 17, _, _ =>
    intro w Y
    exact OpV.g (ax (u := wv (((sch bs 64).take j).getD (j - 15) 0#32)) (i := (j - 15)) (j := 0) (Y.ownAt (i := 0) rfl) (by rw [List.length_map]; first | omega | (rw [aA]; omega) | (rw [List.length_take, aA]; omega) | (rw [W8.l_len]; omega) | (rw [aU]; omega)) rfl (Tryd.isAgg133 _) (by rw [bE 0#32]; rfl))
   | 18, _, _ =>
    intro w Y
    exact OpV.g (dg (n := 3) rfl rfl)
   | i + 19, h, _ => exact absurd h (by omega)
  ·intro i hi
   exact absurd hi (by simp)
  clear Z Y
  intro  a w7 Z Y
  replace Z : Fr 238 [(63, u), (64, iv (j : Int)), (65, iv ((j : Int) - 15)), (66, slAddr u ((j - 15) * 1)), (67, wv (((sch bs 64).take j).getD (j - 15) 0#32)), (68, wv (ror (((sch bs 64).take j).getD (j - 15) 0#32) 7)), (69, u), (70, iv (j : Int)), (71, iv ((j : Int) - 15)), (72, slAddr u ((j - 15) * 1)), (73, wv (((sch bs 64).take j).getD (j - 15) 0#32)), (74, wv (ror (((sch bs 64).take j).getD (j - 15) 0#32) 18)), (75, wv ((ror (((sch bs 64).take j).getD (j - 15) 0#32) 7) ^^^ (ror (((sch bs 64).take j).getD (j - 15) 0#32) 18))), (76, u), (77, iv (j : Int)), (78, iv ((j : Int) - 15)), (79, slAddr u ((j - 15) * 1)), (80, wv (((sch bs 64).take j).getD (j - 15) 0#32)), (81, wv ((((sch bs 64).take j).getD (j - 15) 0#32) >>> 3)), (0, _), (4, _), (5, _), (7, _), (59, _), (60, _)] [] a := Z
  refine ab <| bd (k := 19) 21 [20] (by kernel_rfl) (by kernel_rfl) (by kernel_rfl) ?_
  refine wlv Z (bY rfl rfl) fun a Z => wla Z rfl fun a Z => ab <| bl (by kernel_rfl) ?_
  refine hK13 _ _ ?_
  replace Z : Fr 238 [(0, _), (4, _), (5, _), (7, _), (8, _)] [] a := Z.pick [0, 4, 5, 7, 8]
  refine ac fun K14 hK14 => aN (by kernel_rfl) (aQ (by kernel_rfl) fun w8 hxz => ?_)
  replace Y := Y.grow hxz
  refine bp (k := 0) 19 [12, 18] Z (by kernel_rfl) (by kernel_rfl) (by kernel_rfl) (by rfl) ?_
  replace Z : Fr 238 [(0, _), (4, _), (5, _), (7, _), (8, _)] [] a := Z.pick [0, 4, 5, 7, 8]
  refine aI [] (fun i => match i with | _ => fun _ _ => False) 19 [[], [], [1], [0, 2], [3], [4], [], [], [7], [6, 8], [9], [10], [5, 11], [], [], [14], [13, 15], [16], [17]] [u, iv (j : Int), iv ((j : Int) - 2), slAddr u ((j - 2) * 1), wv (((sch bs 64).take j).getD (j - 2) 0#32), wv (ror (((sch bs 64).take j).getD (j - 2) 0#32) 17), u, iv (j : Int), iv ((j : Int) - 2), slAddr u ((j - 2) * 1), wv (((sch bs 64).take j).getD (j - 2) 0#32), wv (ror (((sch bs 64).take j).getD (j - 2) 0#32) 19), wv ((ror (((sch bs 64).take j).getD (j - 2) 0#32) 17) ^^^ (ror (((sch bs 64).take j).getD (j - 2) 0#32) 19)), u, iv (j : Int), iv ((j : Int) - 2), slAddr u ((j - 2) * 1), wv (((sch bs 64).take j).getD (j - 2) 0#32), wv ((((sch bs 64).take j).getD (j - 2) 0#32) >>> 10)] Z Y (by kernel_rfl) (by kernel_rfl) (by kernel_rfl) ?_ ?_ ?_
  ·intro i hi hiq
   match i, hi, hiq with
   | 0, _, _ =>
    intro w Y
    exact OpV.g (ai rfl)
   | 1, _, _ =>
    intro w Y
    exact OpV.g (ai rfl)
   | 2, _, _ =>
    intro w Y
    exact OpV.g (bh rfl rfl ⟨by omega, by omega⟩)
   | 3, _, _ =>
    intro w Y
    exact OpV.g ((ak (i := (j : Int) - 2) (sT := 134) (Y.ownAt (i := 0) rfl) rfl rfl (Tryd.runUnderlying134 _) (Tryd.sizeOf133 _) (by omega) (by rw [List.length_map]; first | omega | (rw [aA]; omega) | (rw [List.length_take, aA]; omega) | (rw [W8.l_len]; omega) | (rw [aU]; omega))).as (v' := slAddr u ((j - 2) * 1)) (by rw [show ((j : Int) - 2).toNat = (j - 2) from by omega]))
   | 4, _, _ =>
    intro w Y
    exact OpV.g (ax (u := wv (((sch bs 64).take j).getD (j - 2) 0#32)) (i := (j - 2)) (j := 0) (Y.ownAt (i := 0) rfl) (by rw [List.length_map]; first | omega | (rw [aA]; omega) | (rw [List.length_take, aA]; omega) | (rw [W8.l_len]; omega) | (rw [aU]; omega)) rfl (Tryd.isAgg133 _) (by rw [bE 0#32]; rfl))
   | 5, _, _ =>
    intro w Y
    exact br Tryd.call102 rfl (cF (((sch bs 64).take j).getD (j - 2) 0#32) 17 _ (by decide) (by decide))
   | 6, _, _ =>
    intro w Y
    exact OpV.g (ai rfl)
   | 7, _, _ =>
    intro w Y
    exact OpV.g (ai rfl)
   | 8, _, _ =>
    intro w Y
    exact OpV.g (bh rfl rfl ⟨by omega, by omega⟩)
   | 9, _, _ =>
    intro w Y
    exact OpV.g ((ak (i := (j : Int) - 2) (sT := 134) (Y.ownAt (i := 0) rfl) rfl rfl (Tryd.runUnderlying134 _) (Tryd.sizeOf133 _) (by omega) (by rw [List.length_map]; first | omega | (rw [aA]; omega) | (rw [List.length_take, aA]; omega) | (rw [W8.l_len]; omega) | (rw [aU]; omega))).as (v' := slAddr u ((j - 2) * 1)) (by rw [show ((j : Int) - 2).toNat = (j - 2) from by omega]))
   | 10, _, _ =>
    intro w Y
    exact OpV.g (ax (u := wv (((sch bs 64).take j).getD (j - 2) 0#32)) (i := (j - 2)) (j := 0) (Y.ownAt (i := 0) rfl) (by rw [List.length_map]; first | omega | (rw [aA]; omega) | (rw [List.length_take, aA]; omega) | (rw [W8.l_len]; omega) | (rw [aU]; omega)) rfl (Tryd.isAgg133 _) (by rw [bE 0#32]; rfl))
   | 11, _, _ =>
    intro w Y
    exact br Tryd.call102 rfl (cF (((sch bs 64).take j).getD (j - 2) 0#32) 19 _ (by decide) (by decide))
   | 12, _, _ =>
    intro w Y
    exact OpV.g (bY rfl rfl)
   | 13, _, _ =>
    intro w Y
    exact OpV.g (ai rfl)
   | 14, _, _ =>
    intro w Y
    exact OpV.g (ai rfl)
   | 15, _, _ =>
    intro w Y
    exact OpV.g (bh rfl rfl ⟨by omega, by omega⟩)
   | 16, _, _ =>
    intro w Y
    exact OpV.g ((ak (i := (j : Int) - 2) (sT := 134) (Y.ownAt (i := 0) rfl) rfl rfl (Tryd.runUnderlying134 _) (Tryd.sizeOf133 _) (by omega) (by rw [List.length_map]; first | omega | (rw [aA]; omega) | (rw [List.length_take, aA]; omega) | (rw [W8.l_len]; omega) | (rw [aU]; omega))).as (v' := slAddr u ((j - 2) * 1)) (by rw [show ((j : Int) - 2).toNat = (j - 2) from by omega]))
   | 17, _, _ =>
    intro w Y
    exact OpV.g (ax (u := wv (((sch bs 64).take j).getD (j - 2) 0#32)) (i := (j - 2)) (j := 0) (Y.ownAt (i := 0) rfl) (by rw [List.length_map]; first | omega | (rw [aA]; omega) | (rw [List.length_take, aA]; omega) | (rw [W8.l_len]; omega) | (rw [aU]; omega)) rfl (Tryd.isAgg133 _) (by rw [bE 0#32]; rfl))
   | 18, _, _ =>
    intro w Y
    exact OpV.g (dg (n := 10) rfl rfl)
   | i + 19, h, _ => exact absurd h (by omega)
  ·intro i hi
   exact absurd hi (by simp)
  clear Z Y
  intro  a w9 Z Y
  replace Z : Fr 238 [(83, u), (84, iv (j : Int)), (85, iv ((j : Int) - 2)), (86, slAddr u ((j - 2) * 1)), (87, wv (((sch bs 64).take j).getD (j - 2) 0#32)), (88, wv (ror (((sch bs 64).take j).getD (j - 2) 0#32) 17)), (89, u), (90, iv (j : Int)), (91, iv ((j : Int) - 2)), (92, slAddr u ((j - 2) * 1)), (93, wv (((sch bs 64).take j).getD (j - 2) 0#32)), (94, wv (ror (((sch bs 64).take j).getD (j - 2) 0#32) 19)), (95, wv ((ror (((sch bs 64).take j).getD (j - 2) 0#32) 17) ^^^ (ror (((sch bs 64).take j).getD (j - 2) 0#32) 19))), (96, u), (97, iv (j : Int)), (98, iv ((j : Int) - 2)), (99, slAddr u ((j - 2) * 1)), (100, wv (((sch bs 64).take j).getD (j - 2) 0#32)), (101, wv ((((sch bs 64).take j).getD (j - 2) 0#32) >>> 10)), (0, _), (4, _), (5, _), (7, _), (8, _)] [] a := Z
  refine ab <| bd (k := 19) 21 [20] (by kernel_rfl) (by kernel_rfl) (by kernel_rfl) ?_
  refine wlv Z (bY rfl rfl) fun a Z => wla Z rfl fun a Z => ab <| bl (by kernel_rfl) ?_
  refine hK14 _ _ ?_
  replace Z : Fr 238 [(0, _), (4, _), (5, _), (7, _), (8, _), (9, _)] [] a := Z.pick [0, 4, 5, 7, 8, 9]
  refine aN (by kernel_rfl) (aQ (by kernel_rfl) fun w10 hxz => ?_)
  replace Y := Y.grow hxz
  refine bp (k := 0) 17 [0, 16] Z (by kernel_rfl) (by kernel_rfl) (by kernel_rfl) (by rfl) ?_
  replace Z : Fr 238 [(0, _), (4, _), (5, _), (7, _), (8, _), (9, _)] [] a := Z.pick [0, 4, 5, 7, 8, 9]
  refine aI [16] (fun i => match i with | 16 => pm (fun b : Nat => .slice (some ⟨b, 0, none⟩) 1 1) (fun b => [own (.slice (some ⟨b, 0, none⟩) 1 1) 133 1 [[wv ((((((sch bs 64).take j).getD (j - 16) 0#32) + (((ror (((sch bs 64).take j).getD (j - 15) 0#32) 7) ^^^ (ror (((sch bs 64).take j).getD (j - 15) 0#32) 18)) ^^^ ((((sch bs 64).take j).getD (j - 15) 0#32) >>> 3))) + (((sch bs 64).take j).getD (j - 7) 0#32)) + (((ror (((sch bs 64).take j).getD (j - 2) 0#32) 17) ^^^ (ror (((sch bs 64).take j).getD (j - 2) 0#32) 19)) ^^^ ((((sch bs 64).take j).getD (j - 2) 0#32) >>> 10)))]]]) (fun _ => True) | _ => fun _ _ => False) 17 [[], [], [], [2], [1, 3], [4], [], [5, 6], [], [], [9], [8, 10], [11], [7, 12], [], [13, 14], [15]] [u, u, iv (j : Int), iv ((j : Int) - 16), slAddr u ((j - 16) * 1), wv (((sch bs 64).take j).getD (j - 16) 0#32), wv (((ror (((sch bs 64).take j).getD (j - 15) 0#32) 7) ^^^ (ror (((sch bs 64).take j).getD (j - 15) 0#32) 18)) ^^^ ((((sch bs 64).take j).getD (j - 15) 0#32) >>> 3)), wv ((((sch bs 64).take j).getD (j - 16) 0#32) + (((ror (((sch bs 64).take j).getD (j - 15) 0#32) 7) ^^^ (ror (((sch bs 64).take j).getD (j - 15) 0#32) 18)) ^^^ ((((sch bs 64).take j).getD (j - 15) 0#32) >>> 3))), u, iv (j : Int), iv ((j : Int) - 7), slAddr u ((j - 7) * 1), wv (((sch bs 64).take j).getD (j - 7) 0#32), wv (((((sch bs 64).take j).getD (j - 16) 0#32) + (((ror (((sch bs 64).take j).getD (j - 15) 0#32) 7) ^^^ (ror (((sch bs 64).take j).getD (j - 15) 0#32) 18)) ^^^ ((((sch bs 64).take j).getD (j - 15) 0#32) >>> 3))) + (((sch bs 64).take j).getD (j - 7) 0#32)), wv (((ror (((sch bs 64).take j).getD (j - 2) 0#32) 17) ^^^ (ror (((sch bs 64).take j).getD (j - 2) 0#32) 19)) ^^^ ((((sch bs 64).take j).getD (j - 2) 0#32) >>> 10)), wv ((((((sch bs 64).take j).getD (j - 16) 0#32) + (((ror (((sch bs 64).take j).getD (j - 15) 0#32) 7) ^^^ (ror (((sch bs 64).take j).getD (j - 15) 0#32) 18)) ^^^ ((((sch bs 64).take j).getD (j - 15) 0#32) >>> 3))) + (((sch bs 64).take j).getD (j - 7) 0#32)) + (((ror (((sch bs 64).take j).getD (j - 2) 0#32) 17) ^^^ (ror (((sch bs 64).take j).getD (j - 2) 0#32) 19)) ^^^ ((((sch bs 64).take j).getD (j - 2) 0#32) >>> 10))), undef] Z Y (by kernel_rfl) (by kernel_rfl) (by kernel_rfl) ?_ ?_ ?_
  ·intro i hi hiq
   match i, hi, hiq with
   | 0, _, _ =>
    intro w Y
    exact OpV.g (ai rfl)
   | 1, _, _ =>
    intro w Y
    exact OpV.g (ai rfl)
   | 2, _, _ =>
    intro w Y
    exact OpV.g (ai rfl)
   | 3, _, _ =>
    intro w Y
    exact OpV.g (bh rfl rfl ⟨by omega, by omega⟩)
   | 4, _, _ =>
    intro w Y
    exact OpV.g ((ak (i := (j : Int) - 16) (sT := 134) (Y.ownAt (i := 0) rfl) rfl rfl (Tryd.runUnderlying134 _) (Tryd.sizeOf133 _) (by omega) (by rw [List.length_map]; first | omega | (rw [aA]; omega) | (rw [List.length_take, aA]; omega) | (rw [W8.l_len]; omega) | (rw [aU]; omega))).as (v' := slAddr u ((j - 16) * 1)) (by rw [show ((j : Int) - 16).toNat = (j - 16) from by omega]))
   | 5, _, _ =>
    intro w Y
    exact OpV.g (ax (u := wv (((sch bs 64).take j).getD (j - 16) 0#32)) (i := (j - 16)) (j := 0) (Y.ownAt (i := 0) rfl) (by rw [List.length_map]; first | omega | (rw [aA]; omega) | (rw [List.length_take, aA]; omega) | (rw [W8.l_len]; omega) | (rw [aU]; omega)) rfl (Tryd.isAgg133 _) (by rw [bE 0#32]; rfl))
   | 6, _, _ =>
    intro w Y
    exact OpV.g (ai rfl)
   | 7, _, _ =>
    intro w Y
    exact OpV.g (bF rfl rfl)
   | 8, _, _ =>
    intro w Y
    exact OpV.g (ai rfl)
   | 9, _, _ =>
    intro w Y
    exact OpV.g (ai rfl)
   | 10, _, _ =>
    intro w Y
    exact OpV.g (bh rfl rfl ⟨by omega, by omega⟩)
   | 11, _, _ =>
    intro w Y
    exact OpV.g ((ak (i := (j : Int) - 7) (sT := 134) (Y.ownAt (i := 0) rfl) rfl rfl (Tryd.runUnderlying134 _) (Tryd.sizeOf133 _) (by omega) (by rw [List.length_map]; first | omega | (rw [aA]; omega) | (rw [List.length_take, aA]; omega) | (rw [W8.l_len]; omega) | (rw [aU]; omega))).as (v' := slAddr u ((j - 7) * 1)) (by rw [show ((j : Int) - 7).toNat = (j - 7) from by omega]))
   | 12, _, _ =>
    intro w Y
    exact OpV.g (ax (u := wv (((sch bs 64).take j).getD (j - 7) 0#32)) (i := (j - 7)) (j := 0) (Y.ownAt (i := 0) rfl) (by rw [List.length_map]; first | omega | (rw [aA]; omega) | (rw [List.length_take, aA]; omega) | (rw [W8.l_len]; omega) | (rw [aU]; omega)) rfl (Tryd.isAgg133 _) (by rw [bE 0#32]; rfl))
   | 13, _, _ =>
    intro w Y
    exact OpV.g (bF rfl rfl)
   | 14, _, _ =>
    intro w Y
    exact OpV.g (ai rfl)
   | 15, _, _ =>
    intro w Y
    exact OpV.g (bF rfl rfl)
   | 16, _, h => exact absurd (by simp) h
   | i + 17, h, _ => exact absurd h (by omega)
  ·intro i hi
   simp only [List.mem_cons, List.not_mem_nil, or_false] at hi
   subst hi
   ·intro w Y
    exact aK (E := 133) (sz := 1) rfl [[wv ((((((sch bs 64).take j).getD (j - 16) 0#32) + (((ror (((sch bs 64).take j).getD (j - 15) 0#32) 7) ^^^ (ror (((sch bs 64).take j).getD (j - 15) 0#32) 18)) ^^^ ((((sch bs 64).take j).getD (j - 15) 0#32) >>> 3))) + (((sch bs 64).take j).getD (j - 7) 0#32)) + (((ror (((sch bs 64).take j).getD (j - 2) 0#32) 17) ^^^ (ror (((sch bs 64).take j).getD (j - 2) 0#32) 19)) ^^^ ((((sch bs 64).take j).getD (j - 2) 0#32) >>> 10)))]] (fun _ => by kernel_rfl) (by simp) rfl (by decide)
  clear Z Y
  rintro _ _ ⟨b5, rfl, -, rfl⟩ a w11 Z Y
  replace Z : Fr 238 [(103, u), (104, u), (105, iv (j : Int)), (106, iv ((j : Int) - 16)), (107, slAddr u ((j - 16) * 1)), (108, wv (((sch bs 64).take j).getD (j - 16) 0#32)), (109, wv (((ror (((sch bs 64).take j).getD (j - 15) 0#32) 7) ^^^ (ror (((sch bs 64).take j).getD (j - 15) 0#32) 18)) ^^^ ((((sch bs 64).take j).getD (j - 15) 0#32) >>> 3))), (110, wv ((((sch bs 64).take j).getD (j - 16) 0#32) + (((ror (((sch bs 64).take j).getD (j - 15) 0#32) 7) ^^^ (ror (((sch bs 64).take j).getD (j - 15) 0#32) 18)) ^^^ ((((sch bs 64).take j).getD (j - 15) 0#32) >>> 3)))), (111, u), (112, iv (j : Int)), (113, iv ((j : Int) - 7)), (114, slAddr u ((j - 7) * 1)), (115, wv (((sch bs 64).take j).getD (j - 7) 0#32)), (116, wv (((((sch bs 64).take j).getD (j - 16) 0#32) + (((ror (((sch bs 64).take j).getD (j - 15) 0#32) 7) ^^^ (ror (((sch bs 64).take j).getD (j - 15) 0#32) 18)) ^^^ ((((sch bs 64).take j).getD (j - 15) 0#32) >>> 3))) + (((sch bs 64).take j).getD (j - 7) 0#32))), (117, wv (((ror (((sch bs 64).take j).getD (j - 2) 0#32) 17) ^^^ (ror (((sch bs 64).take j).getD (j - 2) 0#32) 19)) ^^^ ((((sch bs 64).take j).getD (j - 2) 0#32) >>> 10))), (118, wv ((((((sch bs 64).take j).getD (j - 16) 0#32) + (((ror (((sch bs 64).take j).getD (j - 15) 0#32) 7) ^^^ (ror (((sch bs 64).take j).getD (j - 15) 0#32) 18)) ^^^ ((((sch bs 64).take j).getD (j - 15) 0#32) >>> 3))) + (((sch bs 64).take j).getD (j - 7) 0#32)) + (((ror (((sch bs 64).take j).getD (j - 2) 0#32) 17) ^^^ (ror (((sch bs 64).take j).getD (j - 2) 0#32) 19)) ^^^ ((((sch bs 64).take j).getD (j - 2) 0#32) >>> 10)))), (119, _), (0, _), (4, _), (5, _), (7, _), (8, _), (9, _)] [] a := Z
  replace Y : St No w0 [_, _] w11 := Y
  refine ab <| bd (k := 17) 19 [18] (by kernel_rfl) (by kernel_rfl) (by kernel_rfl) ?_
  refine aR (i := 1) (sT := 134) (inf := Tryd.t133) (z := wv (0#32)) (b := 0) (off := 0) (m := 0) (c := 0) rfl rfl rfl (Y.ownAt (i := 0) rfl) (by simp) Tryd.underlying134 rfl rfl rfl rfl (by decide) (by simp [Value.oneCell', yv, wv, sv]) (by have hby : Tryd.t133.bytes = 4 := rfl; simp only [big, hby, List.length_append, List.length_map, List.length_take, aA, W8.l_len, List.length_cons, List.length_nil]; omega) (by have hby : Tryd.t133.bytes = 4 := rfl; simp only [big, hby, List.length_append, List.length_map, List.length_take, aA, W8.l_len, List.length_cons, List.length_nil]; omega) (by decide) Z Y fun a w12 s6 Z Y _ => wla Z rfl fun a Z => ab <| bl (by kernel_rfl) ?_
  refine hK12 _ _ ?_
  replace Z : Fr 238 [(0, _), (4, _), (7, _), (5, _)] [] a := Z.pick [0, 4, 7, 5]
  replace Y : St No w0 [_] w12 := Y.mask [false, true]
  refine am <| wlm Z rfl fun a Z => wlv Z (aL rfl rfl ⟨by omega, by omega⟩) fun a Z => wla Z rfl fun a Z => ab ?_
  rw [show (((sch bs 64).take j).map fun x => [wv x]) ++ ([[wv ((((((sch bs 64).take j).getD (j - 16) 0#32) + (((ror (((sch bs 64).take j).getD (j - 15) 0#32) 7) ^^^ (ror (((sch bs 64).take j).getD (j - 15) 0#32) 18)) ^^^ ((((sch bs 64).take j).getD (j - 15) 0#32) >>> 3))) + (((sch bs 64).take j).getD (j - 7) 0#32)) + (((ror (((sch bs 64).take j).getD (j - 2) 0#32) 17) ^^^ (ror (((sch bs 64).take j).getD (j - 2) 0#32) 19)) ^^^ ((((sch bs 64).take j).getD (j - 2) 0#32) >>> 10)))]]) = (((sch bs 64).take (j + 1)).map fun x => [wv x]) from by rw [kv bs (by omega) (by omega)]; simp] at Y
  refine ⟨_, ?_, j + 1, s6, rfl, (by omega), (by omega), Z.pick [0, 4, 5, 7], Y.select [0] (by decide)⟩
  omega
 rw [hc4] at Z
 try simp only [qz] at hc4
 obtain rfl : j = 64 := by omega
 rw [List.take_of_length_le (by rw [aA]; omega)] at Y
 refine aF <| hK8 _ _ <| aa fun K15 hK15 => aZ Z Y (by decide) Tryd.call103 rfl (gQ _) ?_
 clear Z Y
 intro a w13 x7 hp Z Y
 revert x7 hp Z Y; rintro kz hp Z Y
 clear hp
 replace Y : St No w0 [own kz 133 1 ((kOf).map fun x => [wv x]), own u 133 1 ((sch bs 64).map fun x => [wv x])] w13 := Y
 refine wla Z rfl fun a Z => ab (hK15 _ _ <| aa fun K16 hK16 => ?_)
 refine wla Z rfl fun a Z => ab (hK16 _ _ <| aa fun K17 hK17 => ?_)
 refine wlm Z rfl fun a Z => wlm Z rfl fun a Z => ?_
 replace Y : St No w0 (own (.slice none 0 0) 133 1 [] :: [_, _]) w13 := Y.nil_own
 refine f2 (i := 0) (sT := 134) (inf := Tryd.t133) (z := wv (0#32)) rfl rfl rfl (Y.arg hhv) Tryd.underlying134 rfl rfl rfl rfl (by decide) (by simp [Value.oneCell', yv, wv, sv]) (by have hby : Tryd.t133.bytes = 4 := rfl; simp only [big, hby, List.length_append, List.length_map, List.length_take, aA, W8.l_len, List.length_cons, List.length_nil]; omega) (by have hby : Tryd.t133.bytes = 4 := rfl; simp only [big, hby, List.length_append, List.length_map, List.length_take, aA, W8.l_len, List.length_cons, List.length_nil]; omega) (by decide) Z Y ?_
 clear Z Y
 intro a w14 s8 Z Y
 refine wla Z rfl fun a Z => ab (hK17 _ _ ?_)
 replace Z : Fr 238 [(0, _), (4, _), (5, _), (10, _), (11, _)] [] a := Z.pick [0, 4, 5, 10, 11]
 refine ac fun K18 hK18 => aa fun K19 hK19 => wla Z rfl fun a Z => ab (hK19 _ _ <| ap ?_)
 rw [show ([]) ++ ((hv.l).map fun x => [wv x]) = ((hv.l).map fun x => [wv x]) from by simp] at Y
 refine aT (fun m a w => ∃ (ix : Nat) (v : W8) (z : Value), m = 64 - ix ∧ (ix ≤ 64) ∧ (rounds (sch bs 64) hv ix = v) ∧ Fr 238 [(0, hvv), (4, .slice none 0 0), (5, u), (10, kz), (11, z), (12, iv (ix : Int))] [] a ∧ St No w0 [own z 133 1 ((v.l).map fun x => [wv x]), own u 133 1 ((sch bs 64).map fun x => [wv x]), own kz 133 1 ((kOf).map fun x => [wv x])] w) _ ⟨0, hv, s8, rfl, Nat.zero_le _, rfl, Z.pick [0, 4, 5, 10, 11, 12], Y.select [0, 2, 1] (by decide)⟩ ?_
 rintro _ a w15 ⟨ix, v, z, rfl, hi, hrv, Z, Y⟩
 refine ac fun K20 hK20 => aa fun K21 hK21 => wlm Z rfl fun a Z => wlv Z (v_lt rfl rfl) fun a Z => ab (hK21 _ _ ?_)
 refine aC Z rfl (fun hc9 => ?_) (fun hc9 => ?_)
 ·rw [hc9] at Z
  try simp only [qz] at hc9
  refine ao <| hK20 _ _ <| ac fun K22 hK22 => ap <| aa fun K23 hK23 => wlm Z rfl fun a Z => wlv Z ((ak (i := 0) (sT := 134) (Y.ownAt (i := 0) rfl) rfl rfl (Tryd.runUnderlying134 _) (Tryd.sizeOf133 _) (by omega) (by rw [List.length_map, W8.l_len]; decide)).as (v' := slAddr z (0 * 1)) rfl) fun a Z => ?_
  refine wlv Z (ax (u := wv v.a) (i := 0) (j := 0) (Y.ownAt (i := 0) rfl) (by rw [List.length_map, W8.l_len]; decide) rfl (Tryd.isAgg133 _) (by rfl)) fun a Z => wla Z rfl fun a Z => ab (hK23 _ _ <| aa fun K24 hK24 => ?_)
  refine wlm Z rfl fun a Z => wlv Z ((ak (i := 4) (sT := 134) (Y.ownAt (i := 0) rfl) rfl rfl (Tryd.runUnderlying134 _) (Tryd.sizeOf133 _) (by omega) (by rw [List.length_map, W8.l_len]; decide)).as (v' := slAddr z (4 * 1)) rfl) fun a Z => wlv Z (ax (u := wv v.e) (i := 4) (j := 0) (Y.ownAt (i := 0) rfl) (by rw [List.length_map, W8.l_len]; decide) rfl (Tryd.isAgg133 _) (by rfl)) fun a Z => wla Z rfl fun a Z => ab (hK24 _ _ ?_)
  replace Z : Fr 238 [(0, _), (4, _), (5, _), (10, _), (11, _), (12, _), (13, _), (14, _)] [] a := Z.pick [0, 4, 5, 10, 11, 12, 13, 14]
  refine ac fun K25 hK25 => aN (by kernel_rfl) (aQ (by kernel_rfl) fun w16 hxz => ?_)
  replace Y := Y.grow hxz
  refine bp (k := 0) 34 [29, 33] Z (by kernel_rfl) (by kernel_rfl) (by kernel_rfl) (by rfl) ?_
  replace Z : Fr 238 [(0, _), (4, _), (5, _), (10, _), (11, _), (12, _), (13, _), (14, _)] [] a := Z.pick [0, 4, 5, 10, 11, 12, 13, 14]
  refine aI [] (fun i => match i with | _ => fun _ _ => False) 34 [[], [0], [1], [], [3], [], [5], [4, 6], [], [8], [7, 9], [2, 10], [], [], [13], [14], [12, 15], [], [17], [], [19], [20], [18, 21], [16, 22], [11, 23], [], [], [25, 26], [27], [24, 28], [], [], [30, 31], [32]] [z, slAddr z (7 * 1), wv v.h, wv v.e, wv (ror v.e 6), wv v.e, wv (ror v.e 11), wv ((ror v.e 6) ^^^ (ror v.e 11)), wv v.e, wv (ror v.e 25), wv (((ror v.e 6) ^^^ (ror v.e 11)) ^^^ (ror v.e 25)), wv (v.h + (((ror v.e 6) ^^^ (ror v.e 11)) ^^^ (ror v.e 25))), wv v.e, z, slAddr z (5 * 1), wv v.f, wv (v.e &&& v.f), wv v.e, wv (~~~v.e), z, slAddr z (6 * 1), wv v.g, wv ((~~~v.e) &&& v.g), wv ((v.e &&& v.f) ^^^ ((~~~v.e) &&& v.g)), wv ((v.h + (((ror v.e 6) ^^^ (ror v.e 11)) ^^^ (ror v.e 25))) + ((v.e &&& v.f) ^^^ ((~~~v.e) &&& v.g))), kz, iv (ix : Int), slAddr kz (ix * 1), wv ((kOf).getD ix 0#32), wv (((v.h + (((ror v.e 6) ^^^ (ror v.e 11)) ^^^ (ror v.e 25))) + ((v.e &&& v.f) ^^^ ((~~~v.e) &&& v.g))) + ((kOf).getD ix 0#32)), u, iv (ix : Int), slAddr u (ix * 1), wv ((sch bs 64).getD ix 0#32)] Z Y (by kernel_rfl) (by kernel_rfl) (by kernel_rfl) ?_ ?_ ?_
  ·intro i hi hiq
   match i, hi, hiq with
   | 0, _, _ =>
    intro w Y
    exact OpV.g (ai rfl)
   | 1, _, _ =>
    intro w Y
    exact OpV.g ((ak (i := 7) (sT := 134) (Y.ownAt (i := 0) rfl) rfl rfl (Tryd.runUnderlying134 _) (Tryd.sizeOf133 _) (by omega) (by rw [List.length_map, W8.l_len]; decide)).as (v' := slAddr z (7 * 1)) rfl)
   | 2, _, _ =>
    intro w Y
    exact OpV.g (ax (u := wv v.h) (i := 7) (j := 0) (Y.ownAt (i := 0) rfl) (by rw [List.length_map, W8.l_len]; decide) rfl (Tryd.isAgg133 _) (by rfl))
   | 3, _, _ =>
    intro w Y
    exact OpV.g (ai rfl)
   | 4, _, _ =>
    intro w Y
    exact br Tryd.call102 rfl (cF v.e 6 _ (by decide) (by decide))
   | 5, _, _ =>
    intro w Y
    exact OpV.g (ai rfl)
   | 6, _, _ =>
    intro w Y
    exact br Tryd.call102 rfl (cF v.e 11 _ (by decide) (by decide))
   | 7, _, _ =>
    intro w Y
    exact OpV.g (bY rfl rfl)
   | 8, _, _ =>
    intro w Y
    exact OpV.g (ai rfl)
   | 9, _, _ =>
    intro w Y
    exact br Tryd.call102 rfl (cF v.e 25 _ (by decide) (by decide))
   | 10, _, _ =>
    intro w Y
    exact OpV.g (bY rfl rfl)
   | 11, _, _ =>
    intro w Y
    exact OpV.g (bF rfl rfl)
   | 12, _, _ =>
    intro w Y
    exact OpV.g (ai rfl)
   | 13, _, _ =>
    intro w Y
    exact OpV.g (ai rfl)
   | 14, _, _ =>
    intro w Y
    exact OpV.g ((ak (i := 5) (sT := 134) (Y.ownAt (i := 0) rfl) rfl rfl (Tryd.runUnderlying134 _) (Tryd.sizeOf133 _) (by omega) (by rw [List.length_map, W8.l_len]; decide)).as (v' := slAddr z (5 * 1)) rfl)
   | 15, _, _ =>
    intro w Y
    exact OpV.g (ax (u := wv v.f) (i := 5) (j := 0) (Y.ownAt (i := 0) rfl) (by rw [List.length_map, W8.l_len]; decide) rfl (Tryd.isAgg133 _) (by rfl))
   | 16, _, _ =>
    intro w Y
    exact OpV.g (de rfl rfl)
   | 17, _, _ =>
    intro w Y
    exact OpV.g (ai rfl)
   | 18, _, _ =>
    intro w Y
    exact OpV.g (lf rfl)
   | 19, _, _ =>
    intro w Y
    exact OpV.g (ai rfl)
   | 20, _, _ =>
    intro w Y
    exact OpV.g ((ak (i := 6) (sT := 134) (Y.ownAt (i := 0) rfl) rfl rfl (Tryd.runUnderlying134 _) (Tryd.sizeOf133 _) (by omega) (by rw [List.length_map, W8.l_len]; decide)).as (v' := slAddr z (6 * 1)) rfl)
   | 21, _, _ =>
    intro w Y
    exact OpV.g (ax (u := wv v.g) (i := 6) (j := 0) (Y.ownAt (i := 0) rfl) (by rw [List.length_map, W8.l_len]; decide) rfl (Tryd.isAgg133 _) (by rfl))
   | 22, _, _ =>
    intro w Y
    exact OpV.g (de rfl rfl)
   | 23, _, _ =>
    intro w Y
    exact OpV.g (bY rfl rfl)
   | 24, _, _ =>
    intro w Y
    exact OpV.g (bF rfl rfl)
   | 25, _, _ =>
    intro w Y
    exact OpV.g (ai rfl)
   | 26, _, _ =>
    intro w Y
    exact OpV.g (ai rfl)
   | 27, _, _ =>
    intro w Y
    exact OpV.g ((ak (i := (ix : Int)) (sT := 134) (Y.ownAt (i := 2) rfl) rfl rfl (Tryd.runUnderlying134 _) (Tryd.sizeOf133 _) (by omega) (by rw [List.length_map]; first | omega | (rw [aA]; omega) | (rw [List.length_take, aA]; omega) | (rw [W8.l_len]; omega) | (rw [aU]; omega))).as (v' := slAddr kz (ix * 1)) rfl)
   | 28, _, _ =>
    intro w Y
    exact OpV.g (ax (u := wv ((kOf).getD ix 0#32)) (i := ix) (j := 0) (Y.ownAt (i := 2) rfl) (by rw [List.length_map]; first | omega | (rw [aA]; omega) | (rw [List.length_take, aA]; omega) | (rw [W8.l_len]; omega) | (rw [aU]; omega)) rfl (Tryd.isAgg133 _) (by rw [bE 0#32]; rfl))
   | 29, _, _ =>
    intro w Y
    exact OpV.g (bF rfl rfl)
   | 30, _, _ =>
    intro w Y
    exact OpV.g (ai rfl)
   | 31, _, _ =>
    intro w Y
    exact OpV.g (ai rfl)
   | 32, _, _ =>
    intro w Y
    exact OpV.g ((ak (i := (ix : Int)) (sT := 134) (Y.ownAt (i := 1) rfl) rfl rfl (Tryd.runUnderlying134 _) (Tryd.sizeOf133 _) (by omega) (by rw [List.length_map]; first | omega | (rw [aA]; omega) | (rw [List.length_take, aA]; omega) | (rw [W8.l_len]; omega) | (rw [aU]; omega))).as (v' := slAddr u (ix * 1)) rfl)
   | 33, _, _ =>
    intro w Y
    exact OpV.g (ax (u := wv ((sch bs 64).getD ix 0#32)) (i := ix) (j := 0) (Y.ownAt (i := 1) rfl) (by rw [List.length_map]; first | omega | (rw [aA]; omega) | (rw [List.length_take, aA]; omega) | (rw [W8.l_len]; omega) | (rw [aU]; omega)) rfl (Tryd.isAgg133 _) (by rw [bE 0#32]; rfl))
   | i + 34, h, _ => exact absurd h (by omega)
  ·intro i hi
   exact absurd hi (by simp)
  clear Z Y
  intro  a w17 Z Y
  replace Z : Fr 238 [(135, z), (136, slAddr z (7 * 1)), (137, wv v.h), (138, wv v.e), (139, wv (ror v.e 6)), (140, wv v.e), (141, wv (ror v.e 11)), (142, wv ((ror v.e 6) ^^^ (ror v.e 11))), (143, wv v.e), (144, wv (ror v.e 25)), (145, wv (((ror v.e 6) ^^^ (ror v.e 11)) ^^^ (ror v.e 25))), (146, wv (v.h + (((ror v.e 6) ^^^ (ror v.e 11)) ^^^ (ror v.e 25)))), (147, wv v.e), (148, z), (149, slAddr z (5 * 1)), (150, wv v.f), (151, wv (v.e &&& v.f)), (152, wv v.e), (153, wv (~~~v.e)), (154, z), (155, slAddr z (6 * 1)), (156, wv v.g), (157, wv ((~~~v.e) &&& v.g)), (158, wv ((v.e &&& v.f) ^^^ ((~~~v.e) &&& v.g))), (159, wv ((v.h + (((ror v.e 6) ^^^ (ror v.e 11)) ^^^ (ror v.e 25))) + ((v.e &&& v.f) ^^^ ((~~~v.e) &&& v.g)))), (160, kz), (161, iv (ix : Int)), (162, slAddr kz (ix * 1)), (163, wv ((kOf).getD ix 0#32)), (164, wv (((v.h + (((ror v.e 6) ^^^ (ror v.e 11)) ^^^ (ror v.e 25))) + ((v.e &&& v.f) ^^^ ((~~~v.e) &&& v.g))) + ((kOf).getD ix 0#32))), (165, u), (166, iv (ix : Int)), (167, slAddr u (ix * 1)), (168, wv ((sch bs 64).getD ix 0#32)), (0, _), (4, _), (5, _), (10, _), (11, _), (12, _), (13, _), (14, _)] [] a := Z
  refine ab <| bd (k := 34) 36 [35] (by kernel_rfl) (by kernel_rfl) (by kernel_rfl) ?_
  refine wlv Z (bF rfl rfl) fun a Z => wla Z rfl fun a Z => ab <| bl (by kernel_rfl) ?_
  refine hK25 _ _ ?_
  replace Z : Fr 238 [(0, _), (4, _), (5, _), (10, _), (11, _), (12, _), (13, _), (14, _), (15, _)] [] a := Z.pick [0, 4, 5, 10, 11, 12, 13, 14, 15]
  refine ac fun K26 hK26 => aN (by kernel_rfl) (aQ (by kernel_rfl) fun w18 hxz => ?_)
  replace Y := Y.grow hxz
  refine bp (k := 0) 27 [7, 26] Z (by kernel_rfl) (by kernel_rfl) (by kernel_rfl) (by rfl) ?_
  replace Z : Fr 238 [(0, _), (4, _), (5, _), (10, _), (11, _), (12, _), (13, _), (14, _), (15, _)] [] a := Z.pick [0, 4, 5, 10, 11, 12, 13, 14, 15]
  refine aI [] (fun i => match i with | _ => fun _ _ => False) 27 [[], [0], [], [2], [1, 3], [], [5], [4, 6], [], [], [9], [10], [8, 11], [], [], [14], [15], [13, 16], [12, 17], [], [19], [20], [], [22], [23], [21, 24], [18, 25]] [wv v.a, wv (ror v.a 2), wv v.a, wv (ror v.a 13), wv ((ror v.a 2) ^^^ (ror v.a 13)), wv v.a, wv (ror v.a 22), wv (((ror v.a 2) ^^^ (ror v.a 13)) ^^^ (ror v.a 22)), wv v.a, z, slAddr z (1 * 1), wv v.b, wv (v.a &&& v.b), wv v.a, z, slAddr z (2 * 1), wv v.c, wv (v.a &&& v.c), wv ((v.a &&& v.b) ^^^ (v.a &&& v.c)), z, slAddr z (1 * 1), wv v.b, z, slAddr z (2 * 1), wv v.c, wv (v.b &&& v.c), wv (((v.a &&& v.b) ^^^ (v.a &&& v.c)) ^^^ (v.b &&& v.c))] Z Y (by kernel_rfl) (by kernel_rfl) (by kernel_rfl) ?_ ?_ ?_
  ·intro i hi hiq
   match i, hi, hiq with
   | 0, _, _ =>
    intro w Y
    exact OpV.g (ai rfl)
   | 1, _, _ =>
    intro w Y
    exact br Tryd.call102 rfl (cF v.a 2 _ (by decide) (by decide))
   | 2, _, _ =>
    intro w Y
    exact OpV.g (ai rfl)
   | 3, _, _ =>
    intro w Y
    exact br Tryd.call102 rfl (cF v.a 13 _ (by decide) (by decide))
   | 4, _, _ =>
    intro w Y
    exact OpV.g (bY rfl rfl)
   | 5, _, _ =>
    intro w Y
    exact OpV.g (ai rfl)
   | 6, _, _ =>
    intro w Y
    exact br Tryd.call102 rfl (cF v.a 22 _ (by decide) (by decide))
   | 7, _, _ =>
    intro w Y
    exact OpV.g (bY rfl rfl)
   | 8, _, _ =>
    intro w Y
    exact OpV.g (ai rfl)
   | 9, _, _ =>
    intro w Y
    exact OpV.g (ai rfl)
   | 10, _, _ =>
    intro w Y
    exact OpV.g ((ak (i := 1) (sT := 134) (Y.ownAt (i := 0) rfl) rfl rfl (Tryd.runUnderlying134 _) (Tryd.sizeOf133 _) (by omega) (by rw [List.length_map, W8.l_len]; decide)).as (v' := slAddr z (1 * 1)) rfl)
   | 11, _, _ =>
    intro w Y
    exact OpV.g (ax (u := wv v.b) (i := 1) (j := 0) (Y.ownAt (i := 0) rfl) (by rw [List.length_map, W8.l_len]; decide) rfl (Tryd.isAgg133 _) (by rfl))
   | 12, _, _ =>
    intro w Y
    exact OpV.g (de rfl rfl)
   | 13, _, _ =>
    intro w Y
    exact OpV.g (ai rfl)
   | 14, _, _ =>
    intro w Y
    exact OpV.g (ai rfl)
   | 15, _, _ =>
    intro w Y
    exact OpV.g ((ak (i := 2) (sT := 134) (Y.ownAt (i := 0) rfl) rfl rfl (Tryd.runUnderlying134 _) (Tryd.sizeOf133 _) (by omega) (by rw [List.length_map, W8.l_len]; decide)).as (v' := slAddr z (2 * 1)) rfl)
   | 16, _, _ =>
    intro w Y
    exact OpV.g (ax (u := wv v.c) (i := 2) (j := 0) (Y.ownAt (i := 0) rfl) (by rw [List.length_map, W8.l_len]; decide) rfl (Tryd.isAgg133 _) (by rfl))
   | 17, _, _ =>
    intro w Y
    exact OpV.g (de rfl rfl)
   | 18, _, _ =>
    intro w Y
    exact OpV.g (bY rfl rfl)
   | 19, _, _ =>
    intro w Y
    exact OpV.g (ai rfl)
   | 20, _, _ =>
    intro w Y
    exact OpV.g ((ak (i := 1) (sT := 134) (Y.ownAt (i := 0) rfl) rfl rfl (Tryd.runUnderlying134 _) (Tryd.sizeOf133 _) (by omega) (by rw [List.length_map, W8.l_len]; decide)).as (v' := slAddr z (1 * 1)) rfl)
   | 21, _, _ =>
    intro w Y
    exact OpV.g (ax (u := wv v.b) (i := 1) (j := 0) (Y.ownAt (i := 0) rfl) (by rw [List.length_map, W8.l_len]; decide) rfl (Tryd.isAgg133 _) (by rfl))
   | 22, _, _ =>
    intro w Y
    exact OpV.g (ai rfl)
   | 23, _, _ =>
    intro w Y
    exact OpV.g ((ak (i := 2) (sT := 134) (Y.ownAt (i := 0) rfl) rfl rfl (Tryd.runUnderlying134 _) (Tryd.sizeOf133 _) (by omega) (by rw [List.length_map, W8.l_len]; decide)).as (v' := slAddr z (2 * 1)) rfl)
   | 24, _, _ =>
    intro w Y
    exact OpV.g (ax (u := wv v.c) (i := 2) (j := 0) (Y.ownAt (i := 0) rfl) (by rw [List.length_map, W8.l_len]; decide) rfl (Tryd.isAgg133 _) (by rfl))
   | 25, _, _ =>
    intro w Y
    exact OpV.g (de rfl rfl)
   | 26, _, _ =>
    intro w Y
    exact OpV.g (bY rfl rfl)
   | i + 27, h, _ => exact absurd h (by omega)
  ·intro i hi
   exact absurd hi (by simp)
  clear Z Y
  intro  a w19 Z Y
  replace Z : Fr 238 [(170, wv v.a), (171, wv (ror v.a 2)), (172, wv v.a), (173, wv (ror v.a 13)), (174, wv ((ror v.a 2) ^^^ (ror v.a 13))), (175, wv v.a), (176, wv (ror v.a 22)), (177, wv (((ror v.a 2) ^^^ (ror v.a 13)) ^^^ (ror v.a 22))), (178, wv v.a), (179, z), (180, slAddr z (1 * 1)), (181, wv v.b), (182, wv (v.a &&& v.b)), (183, wv v.a), (184, z), (185, slAddr z (2 * 1)), (186, wv v.c), (187, wv (v.a &&& v.c)), (188, wv ((v.a &&& v.b) ^^^ (v.a &&& v.c))), (189, z), (190, slAddr z (1 * 1)), (191, wv v.b), (192, z), (193, slAddr z (2 * 1)), (194, wv v.c), (195, wv (v.b &&& v.c)), (196, wv (((v.a &&& v.b) ^^^ (v.a &&& v.c)) ^^^ (v.b &&& v.c))), (0, _), (4, _), (5, _), (10, _), (11, _), (12, _), (13, _), (14, _), (15, _)] [] a := Z
  refine ab <| bd (k := 27) 29 [28] (by kernel_rfl) (by kernel_rfl) (by kernel_rfl) ?_
  refine wlv Z (bF rfl rfl) fun a Z => wla Z rfl fun a Z => ab <| bl (by kernel_rfl) ?_
  refine hK26 _ _ ?_
  replace Z : Fr 238 [(0, _), (4, _), (5, _), (10, _), (11, _), (12, _), (13, _), (14, _), (15, _), (16, _)] [] a := Z.pick [0, 4, 5, 10, 11, 12, 13, 14, 15, 16]
  rw [show (((v.h + (((ror v.e 6) ^^^ (ror v.e 11)) ^^^ (ror v.e 25))) + ((v.e &&& v.f) ^^^ ((~~~v.e) &&& v.g))) + ((kOf).getD ix 0#32)) + ((sch bs 64).getD ix 0#32) = tOf v (kOf.getD ix 0#32) ((sch bs 64).getD ix 0#32) from by rw [tOf, mix3]] at Z
  rw [show (((ror v.a 2) ^^^ (ror v.a 13)) ^^^ (ror v.a 22)) + (((v.a &&& v.b) ^^^ (v.a &&& v.c)) ^^^ (v.b &&& v.c)) = uOf v from by rw [uOf, mix3]] at Z
  refine aN (by kernel_rfl) (aQ (by kernel_rfl) fun w20 hxz => ?_)
  replace Y := Y.grow hxz
  refine bp (k := 0) 22 [2, 3, 6, 9, 14, 15, 18, 21] Z (by kernel_rfl) (by kernel_rfl) (by kernel_rfl) (by rfl) ?_
  replace Z : Fr 238 [(0, _), (4, _), (5, _), (10, _), (11, _), (12, _), (13, _), (14, _), (15, _), (16, _)] [] a := Z.pick [0, 4, 5, 10, 11, 12, 13, 14, 15, 16]
  refine aI [] (fun i => match i with | _ => fun _ _ => False) 22 [[], [], [0, 1], [], [], [4], [5], [], [7], [8], [], [10], [11], [], [12, 13], [], [], [16], [17], [], [19], [20]] [wv (tOf v (kOf.getD ix 0#32) ((sch bs 64).getD ix 0#32)), wv (uOf v), wv ((tOf v (kOf.getD ix 0#32) ((sch bs 64).getD ix 0#32)) + (uOf v)), wv v.a, z, slAddr z (1 * 1), wv v.b, z, slAddr z (2 * 1), wv v.c, z, slAddr z (3 * 1), wv v.d, wv (tOf v (kOf.getD ix 0#32) ((sch bs 64).getD ix 0#32)), wv (v.d + (tOf v (kOf.getD ix 0#32) ((sch bs 64).getD ix 0#32))), wv v.e, z, slAddr z (5 * 1), wv v.f, z, slAddr z (6 * 1), wv v.g] Z Y (by kernel_rfl) (by kernel_rfl) (by kernel_rfl) ?_ ?_ ?_
  ·intro i hi hiq
   match i, hi, hiq with
   | 0, _, _ =>
    intro w Y
    exact OpV.g (ai rfl)
   | 1, _, _ =>
    intro w Y
    exact OpV.g (ai rfl)
   | 2, _, _ =>
    intro w Y
    exact OpV.g (bF rfl rfl)
   | 3, _, _ =>
    intro w Y
    exact OpV.g (ai rfl)
   | 4, _, _ =>
    intro w Y
    exact OpV.g (ai rfl)
   | 5, _, _ =>
    intro w Y
    exact OpV.g ((ak (i := 1) (sT := 134) (Y.ownAt (i := 0) rfl) rfl rfl (Tryd.runUnderlying134 _) (Tryd.sizeOf133 _) (by omega) (by rw [List.length_map, W8.l_len]; decide)).as (v' := slAddr z (1 * 1)) rfl)
   | 6, _, _ =>
    intro w Y
    exact OpV.g (ax (u := wv v.b) (i := 1) (j := 0) (Y.ownAt (i := 0) rfl) (by rw [List.length_map, W8.l_len]; decide) rfl (Tryd.isAgg133 _) (by rfl))
   | 7, _, _ =>
    intro w Y
    exact OpV.g (ai rfl)
   | 8, _, _ =>
    intro w Y
    exact OpV.g ((ak (i := 2) (sT := 134) (Y.ownAt (i := 0) rfl) rfl rfl (Tryd.runUnderlying134 _) (Tryd.sizeOf133 _) (by omega) (by rw [List.length_map, W8.l_len]; decide)).as (v' := slAddr z (2 * 1)) rfl)
   | 9, _, _ =>
    intro w Y
    exact OpV.g (ax (u := wv v.c) (i := 2) (j := 0) (Y.ownAt (i := 0) rfl) (by rw [List.length_map, W8.l_len]; decide) rfl (Tryd.isAgg133 _) (by rfl))
   | 10, _, _ =>
    intro w Y
    exact OpV.g (ai rfl)
   | 11, _, _ =>
    intro w Y
    exact OpV.g ((ak (i := 3) (sT := 134) (Y.ownAt (i := 0) rfl) rfl rfl (Tryd.runUnderlying134 _) (Tryd.sizeOf133 _) (by omega) (by rw [List.length_map, W8.l_len]; decide)).as (v' := slAddr z (3 * 1)) rfl)
   | 12, _, _ =>
    intro w Y
    exact OpV.g (ax (u := wv v.d) (i := 3) (j := 0) (Y.ownAt (i := 0) rfl) (by rw [List.length_map, W8.l_len]; decide) rfl (Tryd.isAgg133 _) (by rfl))
   | 13, _, _ =>
    intro w Y
    exact OpV.g (ai rfl)
   | 14, _, _ =>
    intro w Y
    exact OpV.g (bF rfl rfl)
   | 15, _, _ =>
    intro w Y
    exact OpV.g (ai rfl)
   | 16, _, _ =>
    intro w Y
    exact OpV.g (ai rfl)
   | 17, _, _ =>
    intro w Y
    exact OpV.g ((ak (i := 5) (sT := 134) (Y.ownAt (i := 0) rfl) rfl rfl (Tryd.runUnderlying134 _) (Tryd.sizeOf133 _) (by omega) (by rw [List.length_map, W8.l_len]; decide)).as (v' := slAddr z (5 * 1)) rfl)
   | 18, _, _ =>
    intro w Y
    exact OpV.g (ax (u := wv v.f) (i := 5) (j := 0) (Y.ownAt (i := 0) rfl) (by rw [List.length_map, W8.l_len]; decide) rfl (Tryd.isAgg133 _) (by rfl))
   | 19, _, _ =>
    intro w Y
    exact OpV.g (ai rfl)
   | 20, _, _ =>
    intro w Y
    exact OpV.g ((ak (i := 6) (sT := 134) (Y.ownAt (i := 0) rfl) rfl rfl (Tryd.runUnderlying134 _) (Tryd.sizeOf133 _) (by omega) (by rw [List.length_map, W8.l_len]; decide)).as (v' := slAddr z (6 * 1)) rfl)
   | 21, _, _ =>
    intro w Y
    exact OpV.g (ax (u := wv v.g) (i := 6) (j := 0) (Y.ownAt (i := 0) rfl) (by rw [List.length_map, W8.l_len]; decide) rfl (Tryd.isAgg133 _) (by rfl))
   | i + 22, h, _ => exact absurd h (by omega)
  ·intro i hi
   exact absurd hi (by simp)
  clear Z Y
  intro  a w21 Z Y
  replace Z : Fr 238 [(198, wv (tOf v (kOf.getD ix 0#32) ((sch bs 64).getD ix 0#32))), (199, wv (uOf v)), (200, wv ((tOf v (kOf.getD ix 0#32) ((sch bs 64).getD ix 0#32)) + (uOf v))), (201, wv v.a), (202, z), (203, slAddr z (1 * 1)), (204, wv v.b), (205, z), (206, slAddr z (2 * 1)), (207, wv v.c), (208, z), (209, slAddr z (3 * 1)), (210, wv v.d), (211, wv (tOf v (kOf.getD ix 0#32) ((sch bs 64).getD ix 0#32))), (212, wv (v.d + (tOf v (kOf.getD ix 0#32) ((sch bs 64).getD ix 0#32)))), (213, wv v.e), (214, z), (215, slAddr z (5 * 1)), (216, wv v.f), (217, z), (218, slAddr z (6 * 1)), (219, wv v.g), (0, _), (4, _), (5, _), (10, _), (11, _), (12, _), (13, _), (14, _), (15, _), (16, _)] [] a := Z
  refine ab <| bd (k := 22) 24 [23] (by kernel_rfl) (by kernel_rfl) (by kernel_rfl) ?_
  refine aH (E := 133) (sz := 1) rfl [[wv ((tOf v (kOf.getD ix 0#32) ((sch bs 64).getD ix 0#32)) + (uOf v))], [wv v.a], [wv v.b], [wv v.c], [wv (v.d + (tOf v (kOf.getD ix 0#32) ((sch bs 64).getD ix 0#32)))], [wv v.e], [wv v.f], [wv v.g]] (by kernel_rfl) (by simp) rfl (by decide) (by decide) Z Y ?_
  clear Z Y
  intro a w22 Z Y
  refine wla Z rfl fun a Z => ab <| bl (by kernel_rfl) ?_
  refine hK22 _ _ ?_
  replace Z : Fr 238 [(0, _), (4, _), (5, _), (10, _), (12, _), (11, _)] [] a := Z.pick [0, 4, 5, 10, 12, 11]
  refine am <| wlm Z rfl fun a Z => wlv Z (aL rfl rfl ⟨by omega, by omega⟩) fun a Z => wla Z rfl fun a Z => ab ?_
  replace Y : St No w0 [own (.slice (some ⟨w21.heap.size, 0, none⟩) 8 8) 133 1 (((rnd v (kOf.getD ix 0#32) ((sch bs 64).getD ix 0#32)).l).map fun x => [wv x]), own z 133 1 ((v.l).map fun x => [wv x]), own u 133 1 ((sch bs 64).map fun x => [wv x]), own kz 133 1 ((kOf).map fun x => [wv x])] w22 := Y
  refine ⟨_, ?_, ix + 1, (rnd v (kOf.getD ix 0#32) ((sch bs 64).getD ix 0#32)), (.slice (some ⟨w21.heap.size, 0, none⟩) 8 8), rfl, (by omega), (by rw [rounds, hrv]), Z.pick [0, 4, 5, 10, 11, 12], Y.select [0, 2, 3] (by decide)⟩
  omega
 rw [hc9] at Z
 try simp only [qz] at hc9
 obtain rfl : ix = 64 := by omega
 refine aF <| hK18 _ _ <| aa fun K27 hK27 => wla Z rfl fun a Z => ab (hK27 _ _ <| ac fun K28 hK28 => ?_)
 refine aa fun K29 hK29 => wla Z rfl fun a Z => ab (hK29 _ _ <| ap ?_)
 replace Y : St No w0 [own (.slice none 0 0) 133 1 (((hv.add v).l.take 0).map fun x => [wv x]), own z 133 1 ((v.l).map fun x => [wv x]), own u 133 1 ((sch bs 64).map fun x => [wv x]), own kz 133 1 ((kOf).map fun x => [wv x])] w15 := Y.nil_own
 refine aT (fun m a w => ∃ (q : Nat) (y : Value), m = 8 - q ∧ (q ≤ 8) ∧ Fr 238 [(0, hvv), (4, .slice none 0 0), (11, z), (17, y), (18, iv (q : Int))] [] a ∧ St No w0 [own y 133 1 (((hv.add v).l.take q).map fun x => [wv x]), own z 133 1 ((v.l).map fun x => [wv x])] w) _ ⟨0, .slice none 0 0, rfl, Nat.zero_le _, Z.pick [0, 4, 11, 17, 18], Y.select [0, 1] (by decide)⟩ ?_
 rintro _ a w23 ⟨q, y, rfl, hq, Z, Y⟩
 refine ac fun K30 hK30 => aa fun K31 hK31 => wlm Z rfl fun a Z => wlv Z (v_lt rfl rfl) fun a Z => ab (hK31 _ _ ?_)
 refine aC Z rfl (fun hc10 => ?_) (fun hc10 => ?_)
 ·rw [hc10] at Z
  try simp only [qz] at hc10
  refine ao <| hK30 _ _ <| ac fun K32 hK32 => ap <| aN (by kernel_rfl) (aQ (by kernel_rfl) fun w24 hxz => ?_)
  replace Y := Y.grow hxz
  refine bp (k := 0) 11 [0, 10] Z (by kernel_rfl) (by kernel_rfl) (by kernel_rfl) (by rfl) ?_
  replace Z : Fr 238 [(0, _), (4, _), (11, _), (17, _), (18, _), (221, _), (222, _)] [] a := Z.pick [0, 4, 11, 17, 18, 221, 222]
  refine aI [10] (fun i => match i with | 10 => pm (fun b : Nat => .slice (some ⟨b, 0, none⟩) 1 1) (fun b => [own (.slice (some ⟨b, 0, none⟩) 1 1) 133 1 [[wv ((hv.l.getD q 0#32) + (v.l.getD q 0#32))]]]) (fun _ => True) | _ => fun _ _ => False) 11 [[], [], [], [1, 2], [3], [], [], [5, 6], [7], [4, 8], [9]] [y, hvv, iv (q : Int), slAddr hvv (q * 1), wv (hv.l.getD q 0#32), z, iv (q : Int), slAddr z (q * 1), wv (v.l.getD q 0#32), wv ((hv.l.getD q 0#32) + (v.l.getD q 0#32)), undef] Z Y (by kernel_rfl) (by kernel_rfl) (by kernel_rfl) ?_ ?_ ?_
  ·intro i hi hiq
   match i, hi, hiq with
   | 0, _, _ =>
    intro w Y
    exact OpV.g (ai rfl)
   | 1, _, _ =>
    intro w Y
    exact OpV.g (ai rfl)
   | 2, _, _ =>
    intro w Y
    exact OpV.g (ai rfl)
   | 3, _, _ =>
    intro w Y
    exact OpV.g ((ak (i := (q : Int)) (sT := 134) (Y.arg hhv) rfl rfl (Tryd.runUnderlying134 _) (Tryd.sizeOf133 _) (by omega) (by rw [List.length_map]; first | omega | (rw [aA]; omega) | (rw [List.length_take, aA]; omega) | (rw [W8.l_len]; omega) | (rw [aU]; omega))).as (v' := slAddr hvv (q * 1)) rfl)
   | 4, _, _ =>
    intro w Y
    exact OpV.g (ax (u := wv (hv.l.getD q 0#32)) (i := q) (j := 0) (Y.arg hhv) (by rw [List.length_map]; first | omega | (rw [aA]; omega) | (rw [List.length_take, aA]; omega) | (rw [W8.l_len]; omega) | (rw [aU]; omega)) rfl (Tryd.isAgg133 _) (by rw [bE 0#32]; rfl))
   | 5, _, _ =>
    intro w Y
    exact OpV.g (ai rfl)
   | 6, _, _ =>
    intro w Y
    exact OpV.g (ai rfl)
   | 7, _, _ =>
    intro w Y
    exact OpV.g ((ak (i := (q : Int)) (sT := 134) (Y.ownAt (i := 1) rfl) rfl rfl (Tryd.runUnderlying134 _) (Tryd.sizeOf133 _) (by omega) (by rw [List.length_map]; first | omega | (rw [aA]; omega) | (rw [List.length_take, aA]; omega) | (rw [W8.l_len]; omega) | (rw [aU]; omega))).as (v' := slAddr z (q * 1)) rfl)
   | 8, _, _ =>
    intro w Y
    exact OpV.g (ax (u := wv (v.l.getD q 0#32)) (i := q) (j := 0) (Y.ownAt (i := 1) rfl) (by rw [List.length_map]; first | omega | (rw [aA]; omega) | (rw [List.length_take, aA]; omega) | (rw [W8.l_len]; omega) | (rw [aU]; omega)) rfl (Tryd.isAgg133 _) (by rw [bE 0#32]; rfl))
   | 9, _, _ =>
    intro w Y
    exact OpV.g (bF rfl rfl)
   | 10, _, h => exact absurd (by simp) h
  ·intro i hi
   simp only [List.mem_cons, List.not_mem_nil, or_false] at hi
   subst hi
   ·intro w Y
    exact aK (E := 133) (sz := 1) rfl [[wv ((hv.l.getD q 0#32) + (v.l.getD q 0#32))]] (fun _ => by kernel_rfl) (by simp) rfl (by decide)
  clear Z Y
  rintro _ _ ⟨b11, rfl, -, rfl⟩ a w25 Z Y
  replace Z : Fr 238 [(225, y), (226, hvv), (227, iv (q : Int)), (228, slAddr hvv (q * 1)), (229, wv (hv.l.getD q 0#32)), (230, z), (231, iv (q : Int)), (232, slAddr z (q * 1)), (233, wv (v.l.getD q 0#32)), (234, wv ((hv.l.getD q 0#32) + (v.l.getD q 0#32))), (235, _), (0, _), (4, _), (11, _), (17, _), (18, _), (221, _), (222, _)] [] a := Z
  replace Y : St No w0 [_, _, _] w25 := Y
  refine ab <| bd (k := 11) 13 [12] (by kernel_rfl) (by kernel_rfl) (by kernel_rfl) ?_
  refine aR (i := 1) (sT := 134) (inf := Tryd.t133) (z := wv (0#32)) (b := 0) (off := 0) (m := 0) (c := 0) rfl rfl rfl (Y.ownAt (i := 0) rfl) (by simp) Tryd.underlying134 rfl rfl rfl rfl (by decide) (by simp [Value.oneCell', yv, wv, sv]) (by have hby : Tryd.t133.bytes = 4 := rfl; simp only [big, hby, List.length_append, List.length_map, List.length_take, aA, W8.l_len, List.length_cons, List.length_nil]; omega) (by have hby : Tryd.t133.bytes = 4 := rfl; simp only [big, hby, List.length_append, List.length_map, List.length_take, aA, W8.l_len, List.length_cons, List.length_nil]; omega) (by decide) Z Y fun a w26 s12 Z Y _ => wla Z rfl fun a Z => ab <| bl (by kernel_rfl) ?_
  refine hK32 _ _ ?_
  replace Z : Fr 238 [(0, _), (4, _), (11, _), (18, _), (17, _)] [] a := Z.pick [0, 4, 11, 18, 17]
  replace Y : St No w0 [_, _] w26 := Y.mask [false, true, true]
  refine am <| wlm Z rfl fun a Z => wlv Z (aL rfl rfl ⟨by omega, by omega⟩) fun a Z => wla Z rfl fun a Z => ab ?_
  rw [show (((hv.add v).l.take q).map fun x => [wv x]) ++ ([[wv ((hv.l.getD q 0#32) + (v.l.getD q 0#32))]]) = (((hv.add v).l.take (q + 1)).map fun x => [wv x]) from by rw [l6 hv v (by omega)]; simp] at Y
  refine ⟨_, ?_, q + 1, s12, rfl, (by omega), Z.pick [0, 4, 11, 17, 18], Y.select [0, 1] (by decide)⟩
  omega
 rw [hc10] at Z
 try simp only [qz] at hc10
 refine aF <| hK28 _ _ <| aa fun K33 hK33 => wlm Z rfl fun a Z => wla Z rfl fun a Z => ab (hK33 _ _ ?_)
 replace Z : Fr 238 [(4, _)] [] a := Z.pick [4]
 refine au ?_
 refine aq Z Tryd.results89 (ae rfl ah) ?_
 obtain rfl : q = 8 := by omega
 exact ⟨y, rfl, trivial, Y.ext, St.out (E := [own y 133 1 (((block hv bs).l).map fun x => [wv x])]) (H := []) (by rw [block, hrv]; exact Y.select [0] (by decide))⟩
end Go.Proofs.YtddfkkdanpmnaaaDoor
